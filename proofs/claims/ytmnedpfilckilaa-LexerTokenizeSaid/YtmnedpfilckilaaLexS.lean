/- The lexer's reference, plainly: numbers. -/
import Derived.Test.YtmnedpfilckilaaLexR
set_option linter.unusedSimpArgs false
set_option linter.unusedVariables false
namespace Go.Proofs.Ytmnedpfilckilaa
open Go.RowKit
set_option maxRecDepth 100000

theorem fin_num {N : Nat} {s : List UInt8} {i q L : Nat} {k lim x : Int} (hs : s.length ≤ 100000) (hsN : s.length < N) (hq : i + q ≤ s.length) (hL : L ≤ 1000000000000000) (hlim : lim = (L : Int)) (hx : x = ((i + q : Nat) : Int)) :
    aGd (decide ((0 : Int) ≤ x)) (aGd (decide (x ≤ Int.ofNat s.length)) (aGd (decide ((0 : Int) ≤ (i : Int))) (aGd (decide ((i : Int) ≤ Int.ofNat (Int.toNat x))) (aGd (decide (1 + 1 ≤ 4)) (onSome (F54 N (List.drop (Int.toNat (i : Int)) (List.take (Int.toNat x) s), lim)) fun y => aGd (decide (2 + 1 ≤ 4)) (aIf (decide (lim < y)) (aGd (decide (0 + 4 ≤ 4)) (some ((((0 : Int), [], (0 : Int), (0 : Int)) : TokT), (0 : Int), (3 : Int)))) (aGd (decide (0 + 4 ≤ 4)) (some ((k, List.drop (Int.toNat (i : Int)) (List.take (Int.toNat x) s), y, (i : Int)), x, (0 : Int))))))))))
      = some (if L < dvl 0 ((s.drop i).take q) then (z4, 0, 3) else ((k, (s.drop i).take q, ((dvl 0 ((s.drop i).take q) : Nat) : Int), (i : Int)), x, 0)) := by
  subst hlim
  subst hx
  have hl : ((s.drop i).take q).length ≤ s.length := by simp; omega
  rw [aGd_if, if_pos (by simp; omega), aGd_if, if_pos (by simp; omega), aGd_if, if_pos (by simp), aGd_if, if_pos (by simp; omega), aGd11, Int.toNat_natCast, Int.toNat_natCast, sub_take, F54_v hL (by omega) (by omega), onSome_ok, aGd21, aGd04, aGd04, aIf_if]
  by_cases h : L < dvl 0 ((s.drop i).take q)
  · rw [if_pos h, if_pos h, if_pos (by simp; omega)]; rfl
  · rw [if_neg h, if_neg h, if_neg (by simp; omega)]
theorem fol_num {N : Nat} {s : List UInt8} {i q : Nat} {x : Int} {R K : Option (TokT × Int × Int)} (hx : x = ((i + q : Nat) : Int)) :
    aIf (decide (x < Int.ofNat s.length)) (onGet s x fun z => onSome (F52 N (Int.ofNat z.toNat)) fun y => aIf y R K) K = if folB (s.drop i) q = true then R else K := by
  subst hx
  unfold folB
  by_cases hlt : i + q < s.length
  · rw [aIf_if, if_pos (by simp; omega), onGet_nat hlt, F52_v, onSome_ok, getD_drop hlt]
    have : decide (q < (s.drop i).length) = true := by simp; omega
    rw [this, aIf_if, Bool.true_and]
  · rw [aIf_if, if_neg (by simp; omega)]
    have : decide (q < (s.drop i).length) = false := by simp; omega
    rw [this, Bool.false_and, if_neg (by simp)]
theorem zer_num {s : List UInt8} {i n : Nat} {y0 : Int} {R K : Option (TokT × Int × Int)} (hs : s.length ≤ 100000) (hi : i < s.length) (hn : i + n ≤ s.length) (hy : y0 = ((i + n : Nat) : Int)) :
    (onGet s (i : Int) fun z => aIf (Int.ofNat z.toNat == 48) (aIf (decide ((1 : Int) < IntKind.wrap IntKind.i64 (y0 - (i : Int)))) R K) K) = if 1 < n ∧ (s.drop i).head? = some 48 then R else K := by
  subst hy
  have e0 : IntKind.wrap IntKind.i64 (((i + n : Nat) : Int) - (i : Int)) = (n : Int) := by rw [w64] <;> omega
  rw [onGet_nat hi, e0, List.drop_eq_getElem_cons hi, List.head?_cons, show (48 : Int) = ((48 : Nat) : Int) from rfl, beqN]
  simp only [aIf_if]
  by_cases h1 : 1 < n
  · have h1' : (1 : Int) < (n : Int) := by omega
    by_cases h2 : s[i] = 48
    · simp [h1, h1', h2]
    · have h2' : ¬ s[i].toNat = 48 := fun e => h2 (UInt8.toNat_inj.1 e)
      simp [h1, h1', h2, h2']
  · have h1' : ¬ (1 : Int) < (n : Int) := by omega
    simp [h1, h1']
/-- A number's token of kind k that ends at q, at the reference. -/
theorem num_at {N : Nat} {s : List UInt8} {i n q L : Nat} {k lim x y0 : Int} {r : Int × Int} (hk : k ≠ 5) (hs : s.length ≤ 100000) (hsN : s.length < N) (hi : i < s.length) (hn : i + n ≤ s.length) (hq : i + q ≤ s.length) (hL : L ≤ 1000000000000000)
    (hlim : lim = (L : Int)) (hx : x = ((i + q : Nat) : Int)) (hy : y0 = ((i + n : Nat) : Int))
    (hv : ¬ (1 < n ∧ (s.drop i).head? = some 48) → (r.2 = 0 ∧ r.1 = ((dvl 0 ((s.drop i).take q) : Nat) : Int)) ∨ (r.2 ≠ 0 ∧ L < dvl 0 ((s.drop i).take q))) :
    ∃ y, (onGet s (i : Int) fun z => aIf (Int.ofNat z.toNat == 48) (aIf (decide ((1 : Int) < IntKind.wrap IntKind.i64 (y0 - (i : Int)))) (aGd (decide (0 + 4 ≤ 4)) (some ((((0 : Int), [], (0 : Int), (0 : Int)) : TokT), (0 : Int), (2 : Int)))) (aIf (decide (x < Int.ofNat s.length)) (onGet s x fun z => onSome (F52 N (Int.ofNat z.toNat)) fun y => aIf y (aGd (decide (0 + 4 ≤ 4)) (some ((((0 : Int), [], (0 : Int), (0 : Int)) : TokT), (0 : Int), (2 : Int)))) (aGd (decide ((0 : Int) ≤ x)) (aGd (decide (x ≤ Int.ofNat s.length)) (aGd (decide ((0 : Int) ≤ (i : Int))) (aGd (decide ((i : Int) ≤ Int.ofNat (Int.toNat x))) (aGd (decide (1 + 1 ≤ 4)) (onSome (F54 N (List.drop (Int.toNat (i : Int)) (List.take (Int.toNat x) s), lim)) fun y => aGd (decide (2 + 1 ≤ 4)) (aIf (decide (lim < y)) (aGd (decide (0 + 4 ≤ 4)) (some ((((0 : Int), [], (0 : Int), (0 : Int)) : TokT), (0 : Int), (3 : Int)))) (aGd (decide (0 + 4 ≤ 4)) (some ((k, List.drop (Int.toNat (i : Int)) (List.take (Int.toNat x) s), y, (i : Int)), x, (0 : Int)))))))))))) (aGd (decide ((0 : Int) ≤ x)) (aGd (decide (x ≤ Int.ofNat s.length)) (aGd (decide ((0 : Int) ≤ (i : Int))) (aGd (decide ((i : Int) ≤ Int.ofNat (Int.toNat x))) (aGd (decide (1 + 1 ≤ 4)) (onSome (F54 N (List.drop (Int.toNat (i : Int)) (List.take (Int.toNat x) s), lim)) fun y => aGd (decide (2 + 1 ≤ 4)) (aIf (decide (lim < y)) (aGd (decide (0 + 4 ≤ 4)) (some ((((0 : Int), [], (0 : Int), (0 : Int)) : TokT), (0 : Int), (3 : Int)))) (aGd (decide (0 + 4 ≤ 4)) (some ((k, List.drop (Int.toNat (i : Int)) (List.take (Int.toNat x) s), y, (i : Int)), x, (0 : Int))))))))))))) (aIf (decide (x < Int.ofNat s.length)) (onGet s x fun z => onSome (F52 N (Int.ofNat z.toNat)) fun y => aIf y (aGd (decide (0 + 4 ≤ 4)) (some ((((0 : Int), [], (0 : Int), (0 : Int)) : TokT), (0 : Int), (2 : Int)))) (aGd (decide ((0 : Int) ≤ x)) (aGd (decide (x ≤ Int.ofNat s.length)) (aGd (decide ((0 : Int) ≤ (i : Int))) (aGd (decide ((i : Int) ≤ Int.ofNat (Int.toNat x))) (aGd (decide (1 + 1 ≤ 4)) (onSome (F54 N (List.drop (Int.toNat (i : Int)) (List.take (Int.toNat x) s), lim)) fun y => aGd (decide (2 + 1 ≤ 4)) (aIf (decide (lim < y)) (aGd (decide (0 + 4 ≤ 4)) (some ((((0 : Int), [], (0 : Int), (0 : Int)) : TokT), (0 : Int), (3 : Int)))) (aGd (decide (0 + 4 ≤ 4)) (some ((k, List.drop (Int.toNat (i : Int)) (List.take (Int.toNat x) s), y, (i : Int)), x, (0 : Int)))))))))))) (aGd (decide ((0 : Int) ≤ x)) (aGd (decide (x ≤ Int.ofNat s.length)) (aGd (decide ((0 : Int) ≤ (i : Int))) (aGd (decide ((i : Int) ≤ Int.ofNat (Int.toNat x))) (aGd (decide (1 + 1 ≤ 4)) (onSome (F54 N (List.drop (Int.toNat (i : Int)) (List.take (Int.toNat x) s), lim)) fun y => aGd (decide (2 + 1 ≤ 4)) (aIf (decide (lim < y)) (aGd (decide (0 + 4 ≤ 4)) (some ((((0 : Int), [], (0 : Int), (0 : Int)) : TokT), (0 : Int), (3 : Int)))) (aGd (decide (0 + 4 ≤ 4)) (some ((k, List.drop (Int.toNat (i : Int)) (List.take (Int.toNat x) s), y, (i : Int)), x, (0 : Int)))))))))))))
      = some y ∧ AtI i y (chkN (s.drop i) n q (endN k ((s.drop i).take q) lim r)).1 ((chkN (s.drop i) n q (endN k ((s.drop i).take q) lim r)).1.2.1.length : Int) (chkN (s.drop i) n q (endN k ((s.drop i).take q) lim r)).2 := by
  rw [fin_num hs hsN hq hL hlim hx, fol_num hx, aGd04, zer_num hs hi hn hy]
  unfold chkN
  by_cases h1 : 1 < n ∧ (s.drop i).head? = some 48
  · rw [if_pos h1, if_pos h1]
    exact ⟨_, rfl, rfl, fun e => by cases e⟩
  · rw [if_neg h1, if_neg h1]
    by_cases h2 : folB (s.drop i) q = true
    · rw [if_pos h2, if_pos h2]
      exact ⟨_, rfl, rfl, fun e => by cases e⟩
    · rw [if_neg h2, if_neg h2]
      refine ⟨_, rfl, ?_⟩
      unfold endN
      rcases hv h1 with ⟨a, b⟩ | ⟨a, b⟩
      · rw [if_neg (show ¬ (r.2 ≠ 0) from fun e => e a)]
        by_cases h3 : L < dvl 0 ((s.drop i).take q)
        · rw [if_pos h3, if_pos ⟨hk, by rw [b, hlim]; omega⟩]
          exact ⟨rfl, fun e => by cases e⟩
        · rw [if_neg h3, if_neg (fun e => by have := e.2; rw [b, hlim] at this; omega)]
          refine ⟨rfl, fun _ => ⟨by rw [b], ?_⟩⟩
          rw [hx]
          have hl : ((s.drop i).take q).length = q := by simp; omega
          dsimp only
          rw [hl]; exact Int.natCast_add i q
      · rw [if_pos a, if_pos b]
        exact ⟨rfl, fun e => by cases e⟩

/-! ## The values -/
theorem sgn_dg {b : UInt8} {t : List UInt8} (h : dgt b = true) : sgn (b :: t) = (b :: t, false) := by
  have : ¬ b = 45 := fun e => by subst e; exact absurd h (by decide)
  rw [sgn, if_neg this]
theorem conv_at {v L : Nat} (hL : L ≤ 1000000000000000) : ((conv v false).2 = 0 ∧ (conv v false).1 = (v : Int)) ∨ ((conv v false).2 ≠ 0 ∧ L < v) := by
  unfold conv
  by_cases h : v ≤ 4611686018427387904
  · rw [if_pos h]; exact .inl ⟨rfl, rfl⟩
  · rw [if_neg h]; exact .inr ⟨by decide, by omega⟩
theorem take_nD (u : List UInt8) : u.take (nD u) = u.takeWhile dgt := by
  have h : u.takeWhile dgt ++ u.dropWhile dgt = u := List.takeWhile_append_dropWhile
  unfold nD
  conv => lhs; arg 2; rw [← h]
  rw [List.take_left']; rfl
theorem tw_all (p : UInt8 → Bool) : ∀ (u : List UInt8), (u.takeWhile p).all p = true
  | [] => rfl
  | b :: u => by
    rw [List.takeWhile_cons]
    cases h : p b with
    | true => simp only [if_true, List.all_cons, h, Bool.true_and]; exact tw_all p u
    | false => rfl
theorem isNum_tw {u : List UInt8} (hd : dgt (u.headD 0) = true) (h : ¬ (1 < nD u ∧ u.head? = some 48)) : isNum (u.take (nD u)) = true := by
  cases u with
  | nil => exact absurd hd (by decide)
  | cons b u =>
    have hb : dgt b = true := hd
    unfold isNum
    have ha : ((b :: u).take (nD (b :: u))).all dg = true := by rw [take_nD]; exact tw_all dgt _
    rw [ha, take_nD, List.takeWhile_cons, hb, if_pos rfl, Bool.true_and]
    have hn : nD (b :: u) = (u.takeWhile dgt).length + 1 := by unfold nD; rw [List.takeWhile_cons, hb, if_pos rfl]; rfl
    rw [hn, List.head?_cons] at h
    by_cases h48 : b = 48
    · subst h48
      have : u.takeWhile dgt = [] := List.eq_nil_of_length_eq_zero (by
        have : ¬ 1 < (u.takeWhile dgt).length + 1 := fun e => h ⟨e, rfl⟩
        omega)
      rw [this]; rfl
    · have : (some b != some 48) = true := by simpa using h48
      rw [List.head?_cons, this]
      simp
theorem int_at {u : List UInt8} {L : Nat} (hd : dgt (u.headD 0) = true) (hL : L ≤ 1000000000000000) (h : ¬ (1 < nD u ∧ u.head? = some 48)) :
    ((parseS (u.take (nD u))).2 = 0 ∧ (parseS (u.take (nD u))).1 = ((dvl 0 (u.take (nD u)) : Nat) : Int)) ∨ ((parseS (u.take (nD u))).2 ≠ 0 ∧ L < dvl 0 (u.take (nD u))) := by
  have h1 := isNum_tw hd h
  have h2 := isNum_all h1
  rw [dvl_digits _ _ h2]
  have hs : sgn (u.take (nD u)) = (u.take (nD u), false) := by
    rw [take_nD]
    cases u with
    | nil => exact absurd hd (by decide)
    | cons b u => rw [List.takeWhile_cons, show dgt b = true from hd, if_pos rfl]; exact sgn_dg hd
  unfold parseS
  rw [hs]
  dsimp only
  rw [if_pos h1, if_neg (fun e => by cases e.1)]
  exact conv_at hL
theorem fix_at {u a b rest : List UInt8} {K L : Nat} (hL : L ≤ 1000000000000000) (hd : dgt (u.headD 0) = true) (ha : u.take (nD u) = a) (hu : u = a ++ (46 :: (b ++ rest))) (hb : b.all dgt = true) (hK : b.length = K) (h : ¬ (1 < nD u ∧ u.head? = some 48)) :
    u.take (nD u + (K + 1)) = a ++ [46] ++ b ∧ (((pF K (a ++ [46] ++ b)).2 = 0 ∧ (pF K (a ++ [46] ++ b)).1 = ((dvl 0 (a ++ [46] ++ b) : Nat) : Int)) ∨ ((pF K (a ++ [46] ++ b)).2 ≠ 0 ∧ L < dvl 0 (a ++ [46] ++ b))) := by
  have h1 := isNum_tw hd h
  rw [ha] at h1
  have h2 := isNum_all h1
  have hl : nD u = a.length := by
    have : nD u ≤ u.length := tw_len (p := dgt) u
    rw [← ha, List.length_take]; omega
  have hne : a ≠ [] := fun e => by subst e; exact absurd h1 (by decide)
  have hs : sgn (a ++ [46] ++ b) = (a ++ [46] ++ b, false) := by
    cases a with
    | nil => exact absurd rfl hne
    | cons c a =>
      have : dgt c = true := by
        rw [hu] at hd; exact hd
      exact sgn_dg this
  refine ⟨?_, ?_⟩
  · rw [hl]
    conv => lhs; rw [hu]
    have : a ++ (46 :: (b ++ rest)) = (a ++ [46] ++ b) ++ rest := by simp
    rw [this, List.take_left']
    simp; omega
  · unfold pF
    rw [hs]
    dsimp only
    rw [parseT_dot hne hK h1 hb (fun e => by cases e)]
    have hv : dvl 0 (a ++ [46] ++ b) = vl 0 (a ++ b) := by
      rw [dvl_app, dvl_app, dvl_digits a 0 h2, vl_append, ← dvl_digits b _ hb]; rfl
    rw [hv]
    exact conv_at hL
end Go.Proofs.Ytmnedpfilckilaa
