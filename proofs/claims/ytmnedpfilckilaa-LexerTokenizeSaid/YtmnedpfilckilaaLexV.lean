/- The lexer's law on offsets, plainly. -/
import Derived.Test.YtmnedpfilckilaaLexU
set_option linter.unusedSimpArgs false
set_option linter.unusedVariables false
namespace Go.Proofs.Ytmnedpfilckilaa
open Go.RowKit
set_option maxRecDepth 100000

def tkPV (t : TokT) : PV := .agg [.int .i64 t.1, .str t.2.1, .int .i64 t.2.2.1, .int .i64 t.2.2.2]
def tkz (s : List UInt8) : Nat → Nat → List TokT → List TokT × Int × Int
  | 0, _, out => (out, 0, 0)
  | f + 1, p, out =>
    if p < s.length then
      (if (s.getD p 0).toNat = 32 ∨ (s.getD p 0).toNat = 9 then tkz s f (p + 1) out
      else if (s.getD p 0).toNat = 35 then tkz s f (p + ((s.drop p).takeWhile nnl).length) out
      else if (tokP (s.drop p)).2.2 ≠ 0 then ([], (p : Int), (tokP (s.drop p)).2.2)
      else tkz s f (p + (tokP (s.drop p)).2.1.toNat) (out ++ [((tokP (s.drop p)).1.1, (tokP (s.drop p)).1.2.1, (tokP (s.drop p)).1.2.2.1, (p : Int))]))
    else (out, 0, 0)
def outT (r : List TokT × Int × Int) : List PV × Int × Int := (r.1.map tkPV, r.2)
theorem drop_ne {s : List UInt8} {p : Nat} (h : p < s.length) : s.drop p ≠ [] := fun e => by
  have := congrArg List.length e
  simp at this; omega
theorem L9_v {N : Nat} (hN : 300 < N) {s : List UInt8} (hs : s.length ≤ 100000) (hsN : s.length < N) : ∀ (n p : Nat) (out : List TokT), p ≤ s.length → s.length - p < n → out.length ≤ p →
    L9_5 N n s (p : Int) (out.map tkPV) = some (outT (tkz s n p out))
  | 0, p, _, _, h, _ => by omega
  | n + 1, p, out, hp, hn, ho => by
    rw [L9_5_eq, tkz]
    by_cases hlt : p < s.length
    · have t32 : (Int.ofNat s[p].toNat == 32) = decide (s[p].toNat = 32) := beqN (m := 32)
      have t9 : (Int.ofNat s[p].toNat == 9) = decide (s[p].toNat = 9) := beqN (m := 9)
      have t35 : (Int.ofNat s[p].toNat == 35) = decide (s[p].toNat = 35) := beqN (m := 35)
      have hd : (s.drop p).length = s.length - p := by simp
      have e0 : List.drop (Int.toNat (p : Int)) (List.take s.length s) = s.drop p := by rw [List.take_length, Int.toNat_natCast]
      have e1 : IntKind.wrap IntKind.i64 ((p : Int) + 1) = ((p + 1 : Nat) : Int) := by rw [w64] <;> omega
      have hr := F17d_v (N := N) (s := s.drop p) (by omega) (by omega)
      have ht := F19_v (N := N) hN (s := s.drop p) (drop_ne hlt) (by omega) (by omega)
      have hw := tw_len (p := nnl) (s.drop p)
      have g : s.getD p 0 = s[p] := by rw [List.getD_eq_getElem?_getD, List.getElem?_eq_getElem hlt]; rfl
      have e2 : IntKind.wrap IntKind.i64 ((p : Int) + (((s.drop p).takeWhile nnl).length : Int)) = ((p + ((s.drop p).takeWhile nnl).length : Nat) : Int) := by rw [w64] <;> omega
      have g0 : decide ((0 : Int) ≤ (p : Int)) = true := by simp
      have g1 : decide ((p : Int) ≤ Int.ofNat s.length) = true := by simp; omega
      rw [aIf_if, if_pos (by simp; omega), onGet_nat hlt, if_pos hlt, g]
      simp only [t32, t9, t35, e0, e1, hr, ht, onSome_ok, e2, g0, g1, aGd_t, aGd04, aGd31, keptUnder, AV.under, AV.underL, underH, Blk.under, List.take_succ_cons, List.take_zero, Bool.and_self, Bool.and_true, Bool.true_and, decide_true, Nat.zero_lt_one, aIf_if]
      have step := L9_v hN hs hsN n (p + 1) out (by omega) (by omega) (by omega)
      by_cases h32 : s[p].toNat = 32
      · simp only [h32, decide_true, if_true, true_or]; exact step
      by_cases h9 : s[p].toNat = 9
      · simp only [h32, h9, decide_true, decide_false, Bool.false_eq_true, if_true, if_false, or_true]; simpa using step
      simp only [h32, h9, decide_false, Bool.false_eq_true, if_false, or_self]
      by_cases h35 : s[p].toNat = 35
      · have hp1 : 1 ≤ ((s.drop p).takeWhile nnl).length := by
          rw [List.drop_eq_getElem_cons hlt, List.takeWhile_cons]
          have : nnl s[p] = true := by unfold nnl; rw [h35]; rfl
          rw [this]; simp
        simp only [h35, decide_true, if_true]
        exact L9_v hN hs hsN n _ out (by omega) (by omega) (by omega)
      simp only [h35, decide_false, Bool.false_eq_true, if_false]
      by_cases hc : (tokP (s.drop p)).2.2 = 0
      · obtain ⟨k1, k2, -⟩ := tokP_ok (drop_ne hlt) hc
        obtain ⟨m, hm⟩ : ∃ m : Nat, (tokP (s.drop p)).2.1 = m := ⟨_, (Int.toNat_of_nonneg (by omega)).symm⟩
        have e3 : IntKind.wrap IntKind.i64 ((p : Int) + (m : Int)) = ((p + m : Nat) : Int) := by rw [w64] <;> omega
        have ih := L9_v hN hs hsN n (p + m) (out ++ [((tokP (s.drop p)).1.1, (tokP (s.drop p)).1.2.1, (tokP (s.drop p)).1.2.2.1, (p : Int))]) (by omega) (by omega) (by simp; omega)
        simp only [hc, bne_self_eq_false, Bool.false_eq_true, if_false, ne_eq, not_true_eq_false, hm, e3, Int.toNat_natCast]
        rw [List.map_append] at ih
        rw [aGd_if, if_pos (by simp; omega)]
        exact ih
      · have hb : ((tokP (s.drop p)).2.2 != 0) = true := by simpa using hc
        simp only [hb, if_true, ne_eq, hc, not_false_eq_true]
        rfl
    · rw [aIf_if, if_neg (by simp; omega), if_neg hlt]; rfl
theorem F9_v {N : Nat} (hN : 300 < N) {s : List UInt8} (hs : s.length ≤ 60000) (hsN : s.length < N) : F9 N s = some (outT (tkz s N 0 [])) := by
  rw [F9_eq, aIf_if, if_neg (by simp; omega), aGd_if, if_pos (by simp [keptUnder, AV.under, AV.underL, underH, Blk.under])]
  exact L9_v hN (by omega) hsN N 0 [] (by omega) (by omega) (by simp)

/-! ## What the tokens are -/
def GT (s : List UInt8) (t : TokT) : Prop := ∃ q : Nat, t.2.2.2 = q ∧ (if t.1 = 6 then q + 1 else q) + t.2.1.length ≤ s.length ∧ (s.drop (if t.1 = 6 then q + 1 else q)).take t.2.1.length = t.2.1
def Inc (l : List TokT) : Prop := ∀ (i : Nat) a b, l[i]? = some a → l[i + 1]? = some b → a.2.2.2 < b.2.2.2
theorem inc_snoc {l : List TokT} {t : TokT} (h : Inc l) (ht : ∀ a ∈ l, a.2.2.2 < t.2.2.2) : Inc (l ++ [t]) := fun i a b ha hb => by
  have hlt : i + 1 < (l ++ [t]).length := (List.getElem?_eq_some_iff.1 hb).1
  simp only [List.length_append, List.length_singleton] at hlt
  rw [List.getElem?_append_left (by omega)] at ha
  by_cases h1 : i + 1 < l.length
  · rw [List.getElem?_append_left h1] at hb
    exact h i a b ha hb
  · have e : i + 1 = l.length := by omega
    rw [e, List.getElem?_append_right (Nat.le_refl _)] at hb
    simp at hb
    subst hb
    exact ht a (List.mem_of_getElem? ha)
theorem tkz_good {s : List UInt8} : ∀ (f p : Nat) (out : List TokT), p ≤ s.length → (∀ t ∈ out, GT s t) → Inc out → (∀ t ∈ out, t.2.2.2 < (p : Int)) →
    ((tkz s f p out).2.2 ≠ 0 → 0 ≤ (tkz s f p out).2.1 ∧ (tkz s f p out).2.1 ≤ s.length) ∧ ((tkz s f p out).2.2 = 0 → (∀ t ∈ (tkz s f p out).1, GT s t) ∧ Inc (tkz s f p out).1)
  | 0, p, out, hp, h1, h2, h3 => ⟨fun h => absurd rfl h, fun _ => ⟨h1, h2⟩⟩
  | f + 1, p, out, hp, h1, h2, h3 => by
    rw [tkz]
    by_cases hlt : p < s.length
    · rw [if_pos hlt]
      split
      · exact tkz_good f (p + 1) out (by omega) h1 h2 (fun t ht => by have := h3 t ht; omega)
      split
      · have hw := tw_len (p := nnl) (s.drop p)
        simp only [List.length_drop] at hw
        exact tkz_good f _ out (by omega) h1 h2 (fun t ht => by have := h3 t ht; omega)
      split
      · exact ⟨fun _ => ⟨by dsimp only; omega, by dsimp only; omega⟩, fun h => by rename_i hc; exact absurd h hc⟩
      · rename_i hc
        have hc' : (tokP (s.drop p)).2.2 = 0 := Decidable.byContradiction hc
        obtain ⟨k1, k2, k3⟩ := tokP_ok (drop_ne hlt) hc'
        simp only [List.length_drop] at k2
        refine tkz_good f _ _ (by omega) (fun t ht => ?_) (inc_snoc h2 h3) (fun t ht => ?_)
        · rcases List.mem_append.1 ht with ht | ht
          · exact h1 t ht
          · obtain rfl : t = _ := by simpa using ht
            refine ⟨p, rfl, ?_⟩
            rcases k3 with ⟨a, b, c⟩ | ⟨a, b, c⟩
            · dsimp only
              rw [if_neg a]
              exact ⟨by omega, c⟩
            · dsimp only
              rw [if_pos a]
              rw [List.drop_drop] at c
              exact ⟨by omega, c⟩
        · rcases List.mem_append.1 ht with ht | ht
          · have := h3 t ht; omega
          · obtain rfl : t = _ := by simpa using ht
            dsimp only; omega
    · rw [if_neg hlt]
      exact ⟨fun h => absurd rfl h, fun _ => ⟨h1, h2⟩⟩

theorem tkz_len {s : List UInt8} : ∀ (f p : Nat) (out : List TokT), p ≤ s.length → out.length ≤ p → (tkz s f p out).1.length ≤ s.length
  | 0, p, out, hp, h => by rw [tkz]; dsimp only; omega
  | f + 1, p, out, hp, h => by
    rw [tkz]
    by_cases hlt : p < s.length
    · rw [if_pos hlt]
      split
      · exact tkz_len f (p + 1) out (by omega) (by omega)
      split
      · have hw := tw_len (p := nnl) (s.drop p)
        simp only [List.length_drop] at hw
        exact tkz_len f _ out (by omega) (by omega)
      split
      · simp
      · rename_i hc
        have hc' : (tokP (s.drop p)).2.2 = 0 := Decidable.byContradiction hc
        obtain ⟨k1, k2, k3⟩ := tokP_ok (drop_ne hlt) hc'
        simp only [List.length_drop] at k2
        exact tkz_len f _ _ (by omega) (by simp; omega)
    · rw [if_neg hlt]
      dsimp only; omega

/-! ## The law on offsets -/
theorem tkO {ρ : Type} {t : TokT} {k : Int → Option ρ} : (onSome (PV.cells (tkPV t))[3]? fun y => onInt .i64 y k) = k t.2.2.2 := rfl
theorem tkK {ρ : Type} {t : TokT} {k : Int → Option ρ} : (onSome (PV.cells (tkPV t))[0]? fun y => onInt .i64 y k) = k t.1 := rfl
theorem tkS {ρ : Type} {t : TokT} {k : List UInt8 → Option ρ} : (onSome (PV.cells (tkPV t))[1]? fun y => onStr y k) = k t.2.1 := rfl
theorem onTk {ρ : Type} {l : List TokT} {p : Nat} {k : PV → Option ρ} (h : p < l.length) : onGet (l.map tkPV) (p : Int) k = k (tkPV l[p]) := by
  rw [onGet_nat (by simpa using h), List.getElem_map]
theorem L5_v {N : Nat} {s : List UInt8} {l : List TokT} (hs : s.length ≤ 100000) (hl : l.length ≤ 1000000) (hg : ∀ t ∈ l, GT s t) (hi : Inc l) : ∀ (n p : Nat), p ≤ l.length → l.length - p < n → L5_7 N n s (l.map tkPV) (p : Int) = some true
  | 0, p, _, h => by omega
  | n + 1, p, hp, hn => by
    rw [L5_7_eq]
    by_cases hlt : p < l.length
    · have ih := L5_v (N := N) hs hl hg hi n (p + 1) (by omega) (by omega)
      obtain ⟨q, hq, hb, ht⟩ := hg _ (List.getElem_mem hlt)
      have e1 : IntKind.wrap IntKind.i64 ((p : Int) + 1) = ((p + 1 : Nat) : Int) := by rw [w64] <;> omega
      have prev : ∀ (hp0 : 0 < p), ∃ (hlt' : p - 1 < l.length), IntKind.wrap IntKind.i64 ((p : Int) - 1) = ((p - 1 : Nat) : Int) ∧ l[p - 1].2.2.2 < l[p].2.2.2 := fun hp0 => by
        refine ⟨by omega, by rw [w64] <;> omega, ?_⟩
        refine hi (p - 1) _ _ (List.getElem?_eq_getElem (by omega)) ?_
        rw [show p - 1 + 1 = p by omega]
        exact List.getElem?_eq_getElem hlt
      rw [aIf_if, if_pos (by simp; omega)]
      simp only [onTk hlt, tkO, tkK, tkS, hq]
      have tail : ∀ f : Nat, f + l[p].2.1.length ≤ s.length → (s.drop f).take l[p].2.1.length = l[p].2.1 → ∀ x : Int, x = (f : Int) →
          aIf (decide ((q : Int) < 0)) (some false) (aIf (decide (IntKind.wrap IntKind.i64 (Int.ofNat s.length - Int.ofNat l[p].2.1.length) < x)) (some false)
            (aGd (decide (0 ≤ IntKind.wrap IntKind.i64 (x + Int.ofNat l[p].2.1.length))) (aGd (decide (IntKind.wrap IntKind.i64 (x + Int.ofNat l[p].2.1.length) ≤ Int.ofNat s.length)) (aGd (decide (0 ≤ x)) (aGd (decide (x ≤ Int.ofNat (Int.toNat (IntKind.wrap IntKind.i64 (x + Int.ofNat l[p].2.1.length)))))
              (aIf (!List.drop (Int.toNat x) (List.take (Int.toNat (IntKind.wrap IntKind.i64 (x + Int.ofNat l[p].2.1.length))) s) == l[p].2.1) (some false) (L5_7 N n s (l.map tkPV) (IntKind.wrap IntKind.i64 ((p : Int) + 1))))))))) = some true := fun f h1 h2 x hx => by
        subst hx
        have w1 : IntKind.wrap IntKind.i64 (Int.ofNat s.length - Int.ofNat l[p].2.1.length) = ((s.length - l[p].2.1.length : Nat) : Int) := by rw [w64] <;> simp <;> omega
        have w2 : IntKind.wrap IntKind.i64 ((f : Int) + Int.ofNat l[p].2.1.length) = ((f + l[p].2.1.length : Nat) : Int) := by rw [w64] <;> simp <;> omega
        rw [w1, w2, e1, ih]
        simp only [aIf_if, aGd_if, Int.toNat_natCast]
        have hsl : List.drop f (List.take (f + l[p].2.1.length) s) = l[p].2.1 := by
          rw [List.drop_take, show f + l[p].2.1.length - f = l[p].2.1.length by omega]; exact h2
        rw [hsl, if_neg (by simp), if_neg (by simp; omega), if_pos (by first | (simp; omega) | simp), if_pos (by simp; omega), if_pos (by simp), if_pos (by first | (simp; omega) | simp), if_neg (by simp)]
      have first : ∀ (X : Option Bool), aIf (decide (0 < (p : Int))) (onGet (l.map tkPV) (IntKind.wrap IntKind.i64 ((p : Int) - 1)) fun z => onSome (PV.cells z)[3]? fun y => onInt .i64 y fun m => aIf (decide ((q : Int) ≤ m)) (some false) X) X = X := fun X => by
        by_cases hp0 : 0 < p
        · obtain ⟨hlt', w, hlt2⟩ := prev hp0
          rw [aIf_if, if_pos (by simp; omega), w, onTk hlt', tkO, aIf_if, if_neg (by rw [hq] at hlt2; simp; omega)]
        · rw [aIf_if, if_neg (by simp; omega)]
      by_cases h6 : l[p].1 = 6
      · rw [if_pos h6] at hb ht
        have w3 : IntKind.wrap IntKind.i64 ((q : Int) + 1) = ((q + 1 : Nat) : Int) := by rw [w64] <;> omega
        have b6 : (l[p].1 == 6) = true := by simp [h6]
        rw [b6, aIf_t]
        rw [first]
        exact tail (q + 1) hb ht _ w3
      · rw [if_neg h6] at hb ht
        have b6 : (l[p].1 == 6) = false := by simp [h6]
        rw [b6, aIf_f]
        rw [first]
        exact tail q hb ht _ rfl
    · rw [aIf_if, if_neg (by simp; omega)]
theorem F5_true (s : List UInt8) : F5 4000 s = some true := by
  rw [F5_eq, aIf_if]
  by_cases h : 3000 < s.length
  · rw [if_pos (by simp; omega)]
  · rw [if_neg (by simp; omega), F9_v (by decide) (by omega) (by omega), onSome_ok]
    obtain ⟨g1, g2⟩ := tkz_good (s := s) 4000 0 [] (by omega) (by simp) (fun i a b ha hb => by simp at ha) (by simp)
    have hlen : (tkz s 4000 0 []).1.length ≤ s.length := tkz_len 4000 0 [] (by omega) (by simp)
    generalize tkz s 4000 0 [] = r at g1 g2 hlen
    simp only [outT]
    by_cases hc : r.2.2 = 0
    · obtain ⟨a, b⟩ := g2 hc
      rw [aIf_if, if_neg (by simp [hc])]
      exact L5_v (by omega) (by omega) a b 4000 0 (by omega) (by omega)
    · obtain ⟨a, b⟩ := g1 hc
      rw [aIf_if, if_pos (by simpa using hc)]
      simp [aIf_if, a, b]
end Go.Proofs.Ytmnedpfilckilaa
