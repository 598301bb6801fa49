/- The lexer's reference, plainly: the number at a place. -/
import Derived.Test.YtmnedpfilckilaaLexS
set_option linter.unusedSimpArgs false
set_option linter.unusedVariables false
namespace Go.Proofs.Ytmnedpfilckilaa
open Go.RowKit
set_option maxRecDepth 100000

theorem isDt_parD {u : List UInt8} (h : isDt u = true) : (parD (u.take 10)).2 = 0 ∨ (parD (u.take 10)).2 = 3 := by
  unfold isDt at h
  simp only [Bool.and_eq_true, decide_eq_true_eq] at h
  obtain ⟨hl, hf⟩ := h
  match u, hl with
  | b0 :: b1 :: b2 :: b3 :: b4 :: b5 :: b6 :: b7 :: b8 :: b9 :: r, _ =>
    replace hf : (dgt b0 && (dgt b1 && (dgt b2 && (dgt b3 && (decide (b4.toNat = 45) && (dgt b5 && (dgt b6 && (decide (b7.toNat = 45) && (dgt b8 && (dgt b9 && true)))))))))) = true := hf
    simp only [Bool.and_eq_true, Bool.and_true, decide_eq_true_eq] at hf
    obtain ⟨h0, h1, h2, h3, h4, h5, h6, h7, h8, h9⟩ := hf
    have h4' : b4 = 45 := UInt8.toNat_inj.1 h4
    have h7' : b7 = 45 := UInt8.toNat_inj.1 h7
    subst h4'
    subst h7'
    unfold parD
    have c1 : (dgt b0 && (dgt b1 && (dgt b2 && (dgt b3 && true)))) = true := by simp [h0, h1, h2, h3]
    have c2 : (dgt b5 && (dgt b6 && true)) = true := by simp [h5, h6]
    have c3 : (dgt b8 && (dgt b9 && true)) = true := by simp [h8, h9]
    rw [if_pos ⟨rfl, rfl, rfl, c1, c2, c3⟩]
    unfold fromR
    split
    · exact .inl rfl
    · exact .inr rfl
theorem F37_v {N : Nat} (hN : 300 < N) {s : List UInt8} {i : Nat} (hs : s.length ≤ 100000) (hsN : s.length < N) (hi : i < s.length) (hd0 : dgt s[i] = true) :
    ∃ y, F37 N (s, (i : Int)) = some y ∧ AtI i y (numP (s.drop i)).1 ((numP (s.drop i)).1.2.1.length : Int) (numP (s.drop i)).2 := by
  have hd : dgt ((s.drop i).headD 0) = true := by rw [List.drop_eq_getElem_cons hi]; exact hd0
  have hn : nD (s.drop i) ≤ (s.drop i).length := tw_len (p := dgt) _
  rw [F37_eq, aGd04, F50_v (by omega) (by omega) hsN, onSome_ok, F51_v (by omega) (by omega) (by omega), onSome_ok]
  simp only [List.length_drop] at hn
  cases hdt : isDt (s.drop i) with
  | true =>
    have h10 : i + 10 ≤ s.length := by
      unfold isDt at hdt
      simp only [Bool.and_eq_true, decide_eq_true_eq, List.length_drop] at hdt
      omega
    have e10 : IntKind.wrap IntKind.i64 ((i : Int) + 10) = ((i + 10 : Nat) : Int) := by rw [w64] <;> omega
    have hp := isDt_parD hdt
    have hn1 : numP (s.drop i) = if folB (s.drop i) 10 = true then (z4, 2) else endN 5 ((s.drop i).take 10) 0 (parD ((s.drop i).take 10)) := by unfold numP; rw [if_pos hdt]
    rw [hn1, aIf_t, aGd01, e10, fol_num rfl, aGd04]
    by_cases hf : folB (s.drop i) 10 = true
    · rw [if_pos hf, if_pos hf]
      exact ⟨_, rfl, rfl, fun e => by cases e⟩
    · rw [if_neg hf, if_neg hf, aGd_if, if_pos (by simp; omega), aGd_if, if_pos (by simp; omega), aGd_if, if_pos (by simp), aGd_if, if_pos (by simp; omega), aGd11, Int.toNat_natCast, Int.toNat_natCast, sub_take, F53_d hN, onSome_ok, aGd21, aGd04]
      refine ⟨_, rfl, ?_⟩
      have hl : ((s.drop i).take 10).length = 10 := by simp; omega
      generalize parD ((s.drop i).take 10) = r at hp
      unfold endN
      rcases hp with h | h
      · rw [if_neg (show ¬ (r.2 ≠ 0) from fun e => e h), if_neg (fun e => e.1 rfl)]
        refine ⟨h, fun _ => ⟨rfl, ?_⟩⟩
        dsimp only
        rw [hl]; exact Int.natCast_add i 10
      · rw [if_pos (show r.2 ≠ 0 by rw [h]; decide)]
        exact ⟨h, fun e => by cases e⟩
  | false =>
    rw [aIf_f]
    generalize hnn : nD (s.drop i) = n at hn
    have hdd : (s.drop i).drop n = s.drop (i + n) := by rw [List.drop_drop]
    have kInt : frB ((s.drop i).drop n) 2 [] = false → frB ((s.drop i).drop n) 4 [37] = false → numP (s.drop i) = chkN (s.drop i) n n (endN 2 ((s.drop i).take n) 1000000000000 (parseS ((s.drop i).take n))) := fun a b => by
      unfold numP; rw [hdt, hnn, a, b]; rfl
    have hvI := fun L hL h => int_at (u := s.drop i) (L := L) hd hL h
    rw [hnn] at hvI
    have lim12 : (1000000000000 : Int) = ((1000000000000 : Nat) : Int) := rfl
    have lim15 : (1000000000000000 : Int) = ((1000000000000000 : Nat) : Int) := rfl
    have lim9 : (1000000000 : Int) = ((1000000000 : Nat) : Int) := rfl
    by_cases hlt : i + n < s.length
    · have hcons := List.drop_eq_getElem_cons hlt
      have t46 : (Int.ofNat s[i + n].toNat == 46) = decide (s[i + n].toNat = 46) := beqN (m := 46)
      rw [aIf_if, if_pos (by simp; omega), onGet_nat hlt, t46]
      by_cases h46 : s[i + n].toNat = 46
      · have hb46 : s[i + n] = 46 := UInt8.toNat_inj.1 h46
        have e1 : IntKind.wrap IntKind.i64 (((i + n : Nat) : Int) + 1) = ((i + n + 1 : Nat) : Int) := by rw [w64] <;> omega
        rw [decide_eq_true h46, aIf_t, e1, F50_v (by omega) (by omega) hsN, onSome_ok]
        have hm : nD (s.drop (i + n + 1)) ≤ (s.drop (i + n + 1)).length := tw_len (p := dgt) _
        simp only [List.length_drop] at hm
        generalize hmm : nD (s.drop (i + n + 1)) = m at hm
        have e2 : IntKind.wrap IntKind.i64 (((i + n + 1 + m : Nat) : Int) - ((i + n : Nat) : Int)) = ((m + 1 : Nat) : Int) := by rw [w64] <;> omega
        have e3 : IntKind.wrap IntKind.i64 (((m + 1 : Nat) : Int) - 1) = (m : Int) := by rw [w64] <;> omega
        have t2 : ((m : Int) == 2) = decide (m = 2) := beqN (n := m) (m := 2)
        have t4 : ((m : Int) == 4) = decide (m = 4) := beqN (n := m) (m := 4)
        simp only [e2, e3, t2, t4]
        have fr : ∀ (k : Nat) (e : List UInt8), frB ((s.drop i).drop n) k e = (decide (m = k) && decide ((s.drop (i + n + (k + 1))).take e.length = e)) := fun k e => by
          unfold frB
          rw [hdd, List.drop_drop, hcons, hb46, List.tail_cons, List.head?_cons, show ((s.drop (i + n + 1)).takeWhile dgt).length = m from hmm]
          simp
        -- the parts
        have hsplit : s.drop i = (s.drop i).take n ++ (46 :: ((s.drop (i + n + 1)).take m ++ s.drop (i + n + 1 + m))) := by
          have a1 : (s.drop i).take n ++ (s.drop i).drop n = s.drop i := List.take_append_drop n _
          have a2 : (s.drop (i + n + 1)).take m ++ (s.drop (i + n + 1)).drop m = s.drop (i + n + 1) := List.take_append_drop m _
          rw [List.drop_drop] at a2
          rw [a2, ← hb46, ← hcons, ← hdd, a1]
        have hball : ((s.drop (i + n + 1)).take m).all dgt = true := by rw [← hmm, take_nD]; exact tw_all dgt _
        have hbl : ((s.drop (i + n + 1)).take m).length = m := by simp; omega
        have hfix := fun L hL h => fix_at (u := s.drop i) (K := m) (L := L) hL hd (by rw [hnn]) hsplit hball hbl h
        rw [hnn] at hfix
        by_cases h2 : m = 2
        · subst h2
          have hn1 : numP (s.drop i) = chkN (s.drop i) n (n + 3) (endN 3 ((s.drop i).take (n + 3)) 1000000000000000 (pF 2 ((s.drop i).take (n + 3)))) := by
            unfold numP
            rw [hdt, hnn, fr 2 []]
            rfl
          rw [decide_eq_true rfl, aIf_t, aGd01, hn1]
          refine num_at (by decide) hs hsN hi (by omega) (by omega) (Nat.le_refl _) lim15 (by congr 1) rfl (fun h => ?_)
          obtain ⟨f1, f2⟩ := hfix 1000000000000000 (Nat.le_refl _) h
          rw [show n + (2 + 1) = n + 3 from rfl] at f1
          rw [f1]; exact f2
        · have hfr2 : frB ((s.drop i).drop n) 2 [] = false := by rw [fr 2 [], decide_eq_false h2]; rfl
          rw [decide_eq_false h2, aIf_f]
          have dflt : frB ((s.drop i).drop n) 4 [37] = false → numP (s.drop i) = _ := fun b => kInt hfr2 b
          by_cases h4 : m = 4
          · subst h4
            rw [decide_eq_true rfl, aIf_t]
            by_cases hlt5 : i + n + 1 + 4 < s.length
            · have t37 : (Int.ofNat s[i + n + 1 + 4].toNat == 37) = decide (s[i + n + 1 + 4].toNat = 37) := beqN (m := 37)
              rw [aIf_if, if_pos (by simp; omega), onGet_nat hlt5, t37]
              have hc5 := List.drop_eq_getElem_cons hlt5
              by_cases h37 : s[i + n + 1 + 4].toNat = 37
              · have hb37 : s[i + n + 1 + 4] = 37 := UInt8.toNat_inj.1 h37
                have e6 : IntKind.wrap IntKind.i64 (((i + n + 1 + 4 : Nat) : Int) + 1) = ((i + (n + 6) : Nat) : Int) := by rw [w64] <;> omega
                have hfr4 : frB ((s.drop i).drop n) 4 [37] = true := by
                  rw [fr 4 [37], show i + n + (4 + 1) = i + n + 1 + 4 by omega, hc5, hb37]; rfl
                have hn1 : numP (s.drop i) = chkN (s.drop i) n (n + 6) (endN 4 ((s.drop i).take (n + 6)) 1000000000 (pF 4 ((s.drop i).take (n + 5)))) := by
                  unfold numP
                  rw [hdt, hnn, hfr2, hfr4]
                  rfl
                rw [decide_eq_true h37, aIf_t, aGd01, e6, hn1]
                refine num_at (by decide) hs hsN hi (by omega) (by omega) (by decide) lim9 rfl rfl (fun h => ?_)
                obtain ⟨f1, f2⟩ := hfix 1000000000 (by decide) h
                rw [show n + (4 + 1) = n + 5 from rfl] at f1
                have hT : (s.drop i).take (n + 6) = (s.drop i).take (n + 5) ++ [37] := by
                  rw [show n + 6 = n + 5 + 1 from rfl, List.take_add, List.drop_drop, show i + (n + 5) = i + n + 1 + 4 by omega, hc5, hb37]
                  rfl
                have hdv : dvl 0 ((s.drop i).take (n + 6)) = dvl 0 ((s.drop i).take (n + 5)) := by rw [hT, dvl_app]; rfl
                rw [hdv, f1]; exact f2
              · have hb37 : ¬ s[i + n + 1 + 4] = 37 := fun e => h37 (by rw [e]; rfl)
                have hfr4 : frB ((s.drop i).drop n) 4 [37] = false := by
                  rw [fr 4 [37], show i + n + (4 + 1) = i + n + 1 + 4 by omega, hc5]
                  show (_ && decide (([s[i + n + 1 + 4]] : List UInt8) = [37])) = false
                  have : ¬ ([s[i + n + 1 + 4]] : List UInt8) = [37] := fun e => hb37 (List.cons.inj e).1
                  rw [decide_eq_false this, Bool.and_false]
                rw [decide_eq_false h37, aIf_f, dflt hfr4]
                exact num_at (by decide) hs hsN hi (by omega) (by omega) (by decide) lim12 rfl rfl (fun h => hvI _ (by decide) h)
            · have hfr4 : frB ((s.drop i).drop n) 4 [37] = false := by
                rw [fr 4 [37], List.drop_eq_nil_of_le (by omega)]; rfl
              rw [aIf_if, if_neg (by simp; omega), dflt hfr4]
              exact num_at (by decide) hs hsN hi (by omega) (by omega) (by decide) lim12 rfl rfl (fun h => hvI _ (by decide) h)
          · have hfr4 : frB ((s.drop i).drop n) 4 [37] = false := by rw [fr 4 [37], decide_eq_false h4]; rfl
            rw [decide_eq_false h4, aIf_f, dflt hfr4]
            exact num_at (by decide) hs hsN hi (by omega) (by omega) (by decide) lim12 rfl rfl (fun h => hvI _ (by decide) h)
      · have hb46 : ¬ s[i + n] = 46 := fun e => h46 (by rw [e]; rfl)
        have hfr : ∀ k e, frB ((s.drop i).drop n) k e = false := fun k e => by
          unfold frB
          rw [hdd, hcons, List.head?_cons]
          simp [hb46]
        rw [decide_eq_false h46, aIf_f, kInt (hfr _ _) (hfr _ _)]
        exact num_at (by decide) hs hsN hi (by omega) (by omega) (by decide) lim12 rfl rfl (fun h => hvI _ (by decide) h)
    · have hfr : ∀ k e, frB ((s.drop i).drop n) k e = false := fun k e => by
        have e0 : s.drop (i + n) = [] := List.drop_eq_nil_of_le (by omega)
        unfold frB
        rw [hdd, e0]
        rfl
      rw [aIf_if, if_neg (by simp; omega), kInt (hfr _ _) (hfr _ _)]
      exact num_at (by decide) hs hsN hi (by omega) (by omega) (by decide) lim12 rfl rfl (fun h => hvI _ (by decide) h)
end Go.Proofs.Ytmnedpfilckilaa
