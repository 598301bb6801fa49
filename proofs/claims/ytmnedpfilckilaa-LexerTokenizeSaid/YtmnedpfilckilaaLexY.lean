/- The lexer's Tokenize and its reference answer alike, plainly. -/
import Derived.Test.YtmnedpfilckilaaLexX
import Derived.Test.YtmnedpfilckilaaLexV
set_option linter.unusedSimpArgs false
set_option linter.unusedVariables false
namespace Go.Proofs.Ytmnedpfilckilaa
open Go.RowKit
set_option maxRecDepth 100000

theorem F20_v {N : Nat} (hN : 300 < N) {s : List UInt8} {i : Nat} (hs : s.length ≤ 100000) (hsN : s.length < N) (hi : i < s.length) :
    ∃ y, F20 N (s, (i : Int)) = some y ∧ AtI i y (tokP (s.drop i)).1 (tokP (s.drop i)).2.1 (tokP (s.drop i)).2.2 := by
  have t10 : (Int.ofNat s[i].toNat == 10) = decide (s[i].toNat = 10) := beqN (m := 10)
  have t34 : (Int.ofNat s[i].toNat == 34) = decide (s[i].toNat = 34) := beqN (m := 34)
  have e1 : IntKind.wrap IntKind.i64 ((i : Int) + 1) = ((i + 1 : Nat) : Int) := by rw [w64] <;> omega
  have hh : (s.drop i).headD 0 = s[i] := by rw [List.drop_eq_getElem_cons hi]; rfl
  have hc : s.drop i ≠ [] := drop_ne hi
  rw [F20_eq, onGet_nat hi, F24_v, onSome_ok, F36_v, onSome_ok, t10, t34, e1]
  simp only [aGd04, aIf_if]
  unfold tokP
  rw [hh]
  by_cases h1 : s[i].toNat = 10
  · rw [if_pos (by simpa using h1), if_pos h1]
    exact ⟨_, rfl, rfl, fun _ => ⟨rfl, Int.natCast_add i 1⟩⟩
  · rw [if_neg (by simpa using h1), if_neg h1]
    by_cases h2 : lw s[i] = true
    · rw [if_pos h2, if_pos h2]
      obtain ⟨y, hy, ha⟩ := F35_v (N := N) (s := s) (i := i) (by omega) (by omega) hsN
      rw [hy, onSome_ok]
      refine ⟨y, rfl, ?_⟩
      by_cases h3 : 16 < ((s.drop i).takeWhile pt).length
      · simp only [if_pos h3] at ha ⊢; exact ha
      · simp only [if_neg h3] at ha ⊢; exact ha
    · rw [if_neg h2, if_neg h2]
      by_cases h3 : dgt s[i] = true
      · rw [if_pos h3, if_pos h3]
        obtain ⟨y, hy, ha⟩ := F37_v hN hs hsN hi h3
        rw [hy, onSome_ok]
        exact ⟨y, rfl, ha⟩
      · rw [if_neg h3, if_neg h3]
        by_cases h4 : s[i].toNat = 34
        · rw [if_pos (by simpa using h4), if_pos h4]
          obtain ⟨y, hy, ha⟩ := F38_v (N := N) hs hsN hi
          rw [hy, onSome_ok]
          exact ⟨y, rfl, ha⟩
        · rw [if_neg (by simpa using h4), if_neg h4]
          obtain ⟨y, hy, ha⟩ := F39_v (N := N) hs hi
          rw [hy, onSome_ok]
          exact ⟨y, rfl, ha⟩
theorem L10_9_v {N m : Nat} {s : List UInt8} {x2 : List PV} (hs : s.length ≤ 100000) (hu : ∀ x : Int, (keptUnder 1 [(0, AV.p (PV.str s)), (5, AV.own 0), (6, AV.p (PV.int IntKind.i64 x))] && underH 1 (List.take 1 [Blk.row 30 4 x2])) = true) : ∀ (n p : Nat), p ≤ s.length → s.length - p < n →
    L10_9 N n m s (p : Int) x2 = L10_5 N m s ((p + ((s.drop p).takeWhile nnl).length : Nat) : Int) x2
  | 0, p, _, h => by omega
  | n + 1, p, hp, hn => by
    rw [L10_9_eq]
    by_cases hlt : p < s.length
    · have e1 : IntKind.wrap IntKind.i64 ((p : Int) + 1) = ((p + 1 : Nat) : Int) := by rw [w64] <;> omega
      have t10 : (Int.ofNat s[p].toNat != 10) = !decide (s[p].toNat = 10) := by rw [bne, show (10 : Int) = ((10 : Nat) : Int) from rfl, beqN]
      rw [aIf_if, if_pos (by simp; omega), onGet_nat hlt, t10, e1, List.drop_eq_getElem_cons hlt, List.takeWhile_cons]
      unfold nnl
      by_cases h : s[p].toNat = 10
      · simp only [h, decide_true, Bool.not_true, aIf_f, hu, aGd_t, ne_eq, not_true_eq_false, decide_false, Bool.false_eq_true, if_false, List.length_nil, Nat.add_zero]
      · have ih := L10_9_v (N := N) (m := m) hs hu n (p + 1) (by omega) (by omega)
        unfold nnl at ih
        simp only [h, decide_false, Bool.not_false, aIf_t, ne_eq, not_false_eq_true, decide_true, if_true, List.length_cons]
        rw [ih]
        simp only [ne_eq]
        congr 2
        omega
    · have e : s.drop p = [] := List.drop_eq_nil_of_le (by omega)
      rw [aIf_if, if_neg (by simp; omega), hu, aGd_t, e]
      rfl
theorem L10_v {N : Nat} (hN : 300 < N) {s : List UInt8} (hs : s.length ≤ 100000) (hsN : s.length < N) : ∀ (n p : Nat) (out : List TokT), p ≤ s.length → s.length - p < n → out.length ≤ p →
    L10_5 N n s (p : Int) (out.map tkPV) = some (outT (tkz s n p out))
  | 0, p, _, _, h, _ => by omega
  | n + 1, p, out, hp, hn, ho => by
    rw [L10_5_eq, tkz]
    by_cases hlt : p < s.length
    · have t32 : (Int.ofNat s[p].toNat == 32) = decide (s[p].toNat = 32) := beqN (m := 32)
      have t9 : (Int.ofNat s[p].toNat == 9) = decide (s[p].toNat = 9) := beqN (m := 9)
      have t35 : (Int.ofNat s[p].toNat == 35) = decide (s[p].toNat = 35) := beqN (m := 35)
      have e1 : IntKind.wrap IntKind.i64 ((p : Int) + 1) = ((p + 1 : Nat) : Int) := by rw [w64] <;> omega
      have hw := tw_len (p := nnl) (s.drop p)
      simp only [List.length_drop] at hw
      have g : s.getD p 0 = s[p] := by rw [List.getD_eq_getElem?_getD, List.getElem?_eq_getElem hlt]; rfl
      have hu : ∀ (l : List PV) (x : Int), (keptUnder 1 [(0, AV.p (PV.str s)), (5, AV.own 0), (6, AV.p (PV.int IntKind.i64 x))] && underH 1 (List.take 1 [Blk.row 30 4 l])) = true := fun l x => by
        simp [keptUnder, AV.under, AV.underL, underH, Blk.under]
      obtain ⟨y, hy, hy1, hy2⟩ := F20_v hN hs hsN hlt
      rw [aIf_if, if_pos (by simp; omega), onGet_nat hlt, onGet_nat hlt, onGet_nat hlt, if_pos hlt, g, t32, t9, t35, e1, hu, aGd_t, hy, onSome_ok, aGd04, L10_9_v (m := n) hs (hu _) N p (by omega) (by omega)]
      have step := L10_v hN hs hsN n (p + 1) out (by omega) (by omega) (by omega)
      simp only [aIf_if]
      by_cases h32 : s[p].toNat = 32
      · rw [if_pos (by simpa using h32), if_pos (.inl h32)]; exact step
      by_cases h9 : s[p].toNat = 9
      · rw [if_neg (by simpa using h32), if_pos (by simpa using h9), if_pos (.inr h9)]; exact step
      rw [if_neg (by simpa using h32), if_neg (by simpa using h9), if_neg (show ¬ (s[p].toNat = 32 ∨ s[p].toNat = 9) from fun e => e.elim h32 h9)]
      by_cases h35 : s[p].toNat = 35
      · have hp1 : 1 ≤ ((s.drop p).takeWhile nnl).length := by
          rw [List.drop_eq_getElem_cons hlt, List.takeWhile_cons]
          have : nnl s[p] = true := by unfold nnl; rw [h35]; rfl
          rw [this]; simp
        rw [if_pos (by simpa using h35), if_pos h35]
        exact L10_v hN hs hsN n _ out (by omega) (by omega) (by omega)
      rw [if_neg (by simpa using h35), if_neg h35, hy1]
      by_cases hc : (tokP (s.drop p)).2.2 = 0
      · obtain ⟨k1, k2, -⟩ := tokP_ok (drop_ne hlt) hc
        simp only [List.length_drop] at k2
        obtain ⟨m, hm⟩ : ∃ m : Nat, (tokP (s.drop p)).2.1 = m := ⟨_, (Int.toNat_of_nonneg (by omega)).symm⟩
        obtain ⟨a1, a2⟩ := hy2 hc
        have ih := L10_v hN hs hsN n (p + m) (out ++ [((tokP (s.drop p)).1.1, (tokP (s.drop p)).1.2.1, (tokP (s.drop p)).1.2.2.1, (p : Int))]) (by omega) (by omega) (by simp; omega)
        rw [hm, ← Int.natCast_add] at a2
        rw [if_neg (by simp [hc]), if_neg (fun e => e hc), aGd_if, if_pos (by simp; omega), a1, a2]
        rw [List.map_append] at ih
        have hu2 : ∀ (l : List PV) (x : Int) (b : Blk), (keptUnder 1 [(0, AV.p (PV.str s)), (5, AV.own 0), (6, AV.p (PV.int IntKind.i64 x))] && underH 1 (List.take 1 [Blk.row 30 4 l, b])) = true := fun l x b => by
          simp [keptUnder, AV.under, AV.underL, underH, Blk.under]
        rw [hu2, aGd_t, hm, Int.toNat_natCast]
        exact ih
      · have hb : ((tokP (s.drop p)).2.2 != 0) = true := by simpa using hc
        rw [if_pos hb, if_pos hc]
        rfl
    · rw [aIf_if, if_neg (by simp; omega), if_neg hlt]; rfl
theorem F10_v {N : Nat} (hN : 300 < N) {s : List UInt8} (hs : s.length ≤ 60000) (hsN : s.length < N) : F10 N s = some (outT (tkz s N 0 [])) := by
  rw [F10_eq, aIf_if, if_neg (by simp; omega), aGd_if, if_pos (by simp [keptUnder, AV.under, AV.underL, underH, Blk.under])]
  exact L10_v hN (by omega) hsN N 0 [] (by omega) (by omega) (by simp)

/-! ## The law -/
theorem L11_v {N : Nat} {l : List TokT} (hl : l.length ≤ 1000000) : ∀ (n p : Nat), p ≤ l.length → l.length - p < n → L11_4 N n (l.map tkPV) (l.map tkPV) (p : Int) = some true
  | 0, p, _, h => by omega
  | n + 1, p, hp, hn => by
    rw [L11_4_eq]
    by_cases hlt : p < l.length
    · have ih := L11_v (N := N) hl n (p + 1) (by omega) (by omega)
      have e1 : IntKind.wrap IntKind.i64 ((p : Int) + 1) = ((p + 1 : Nat) : Int) := by rw [w64] <;> omega
      rw [aIf_if, if_pos (by simp; omega), aIf_if, if_pos (by simp; omega)]
      simp only [onTk hlt, e1, ih]
      show aIf (!(l[p].1 == l[p].1 && (l[p].2.1 == l[p].2.1 && (l[p].2.2.1 == l[p].2.2.1 && (l[p].2.2.2 == l[p].2.2.2 && true))))) (some false) (some true) = some true
      simp [aIf_if]
    · rw [aIf_if, if_neg (by simp; omega)]
theorem F11_v {N : Nat} {l : List TokT} (hl : l.length ≤ 1000000) (hN : l.length < N) : F11 N (l.map tkPV, l.map tkPV) = some true := by
  rw [F11_eq, aIf_if, if_neg (by simp)]
  exact L11_v hl N 0 (by omega) (by omega)
theorem F3_true (s : List UInt8) : F3 4000 s = some true := by
  rw [F3_eq, aIf_if]
  by_cases h : 3000 < s.length
  · rw [if_pos (by simp; omega), aIf_if]
    by_cases h2 : s.length ≤ 65536
    · rw [if_pos (by simp; omega)]
    · rw [if_neg (by simp; omega), F9_eq, aIf_if, if_pos (by simp; omega), onSome_ok, F10_eq, aIf_if, if_pos (by simp; omega), onSome_ok]
      have := F11_v (N := 4000) (l := []) (by simp) (by simp)
      simp only [List.map_nil] at this
      rw [this]
      rfl
  · have hlen : (tkz s 4000 0 []).1.length ≤ s.length := tkz_len 4000 0 [] (by omega) (by simp)
    rw [if_neg (by simp; omega), F9_v (by decide) (by omega) (by omega), onSome_ok, F10_v (by decide) (by omega) (by omega), onSome_ok]
    unfold outT
    rw [F11_v (by omega) (by omega), onSome_ok]
    simp [aIf_if]
end Go.Proofs.Ytmnedpfilckilaa
