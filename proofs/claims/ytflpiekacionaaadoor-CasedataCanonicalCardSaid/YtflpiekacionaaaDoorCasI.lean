/- A text that Parse accepts is the text of the case, plainly. -/
import Derived.Test.YtflpiekacionaaaDoorCasK
set_option linter.unusedSimpArgs false
set_option linter.unusedVariables false
namespace Go.Proofs.YtflpiekacionaaaDoor
open Go.RowKit

/-! ## What was not accepted -/
theorem pmL_bad {E : List EnT} {lm d : Int} {J : List FldT} {I : List ValT} : ∀ (ls : List (List UInt8)) (k : Nat) (out : List (List ValT)), (pmL E lm J d I ls k out).2.2 ≠ 0 → (pmL E lm J d I ls k out).1 = cas0 ∧ 0 ≤ (pmL E lm J d I ls k out).2.1
  | [], k, out, h => by simp [pmL] at h
  | x :: xs, k, out, h => by
    unfold pmL at h ⊢
    split
    · exact ⟨rfl, by show (0 : Int) ≤ ((k + 2 : Nat) : Int); omega⟩
    split
    · exact ⟨rfl, by show (0 : Int) ≤ ((k + 2 : Nat) : Int); omega⟩
    rename_i h1 h2
    rw [if_neg h1, if_neg h2] at h
    exact pmL_bad xs (k + 1) _ h
theorem parC_bad {E : List EnT} {S : List ScT} {sc : Int} {ls : List (List UInt8)} {e : Int} (h : (parC E S sc ls e).2.2 ≠ 0) : (parC E S sc ls e).1 = cas0 ∧ 0 ≤ (parC E S sc ls e).2.1 := by
  unfold parC at h ⊢
  split
  · exact ⟨rfl, Int.le_refl 0⟩
  rename_i h1
  rw [if_neg h1] at h
  split
  · exact ⟨rfl, Int.le_refl 0⟩
  rename_i h2
  rw [if_neg h2] at h
  cases hS : S[sc.toNat]? with
  | none => exact ⟨rfl, Int.le_refl 0⟩
  | some s0 =>
    rw [hS] at h
    dsimp only at h ⊢
    cases ls with
    | nil => exact ⟨rfl, Int.le_refl 0⟩
    | cons l0 r =>
      rw [parL] at h ⊢
      split
      · exact ⟨rfl, Int.le_refl 0⟩
      rename_i h3
      rw [if_neg h3] at h
      split
      · exact ⟨rfl, Int.le_refl 0⟩
      rename_i h4
      rw [if_neg h4] at h
      cases r with
      | nil => exact ⟨rfl, by show (0 : Int) ≤ 1; omega⟩
      | cons l1 ms =>
        rw [parR] at h ⊢
        split
        · exact ⟨rfl, by show (0 : Int) ≤ 1; omega⟩
        rename_i h5
        rw [if_neg h5] at h
        exact pmL_bad _ _ _ h

/-! ## What was -/
/-- Words, each behind a blank. -/
def jn : List (List UInt8) → List UInt8
  | [] => []
  | w :: ws => 32 :: w ++ jn ws
theorem spl_join : ∀ (s : List UInt8) {w : List UInt8} {ws : List (List UInt8)}, spl 32 s = w :: ws → s = w ++ jn ws
  | [], w, ws, h => by
    simp only [spl, List.cons.injEq] at h
    obtain ⟨rfl, rfl⟩ := h
    rfl
  | b :: s, w, ws, h => by
    unfold spl at h
    split at h
    · rename_i hb
      simp only [List.cons.injEq] at h
      obtain ⟨rfl, rfl⟩ := h
      cases hs : spl 32 s with
      | nil => exact absurd hs (spl_ne 32 s)
      | cons v vs =>
        have := spl_join s hs
        rw [hb, this]
        simp [jn]
    · cases hs : spl 32 s with
      | nil => exact absurd hs (spl_ne 32 s)
      | cons v vs =>
        rw [hs] at h
        simp only [List.cons.injEq] at h
        obtain ⟨rfl, rfl⟩ := h
        have := spl_join s hs
        rw [this]
        simp
theorem pvs_ok {E : List EnT} : ∀ {ws : List (List UInt8)} {fs : List FldT} (i : Nat), ws.length = fs.length → (pvs E ws fs).2 = 0 → (pvs E ws fs).1.length = fs.length ∧ jn ws = wds E (pvs E ws fs).1 ∧ mtL E (pvs E ws fs).1 fs i = (0, 0)
  | [], [], i, hl, h => ⟨rfl, rfl, rfl⟩
  | [], f :: fs, i, hl, h => by simp at hl
  | w :: ws, [], i, hl, h => by simp at hl
  | w :: ws, f :: fs, i, hl, h => by
    unfold pvs at h ⊢
    by_cases h1 : (parV w f.2.1 f.2.2 E).2 = 0
    · rw [if_neg (by simpa using h1)] at h ⊢
      by_cases h2 : (pvs E ws fs).2 = 0
      · rw [if_neg (by simpa using h2)]
        obtain ⟨g1, g2, g3⟩ := pvs_ok (E := E) (ws := ws) (fs := fs) (i + 1) (by simpa using hl) h2
        obtain ⟨n, e1, e2, e3⟩ := cn h1
        rw [e1]
        dsimp only
        refine ⟨by simp [g1], ?_, ?_⟩
        · simp only [jn, wds]
          rw [e3, g2]
        · rw [mtL, if_pos ⟨rfl, rfl⟩, if_pos e2]
          exact g3
      · rw [if_pos (by simpa using h2)] at h
        exact absurd h h2
    · rw [if_pos (by simpa using h1)] at h
      exact absurd h h1
theorem plR_ok {E : List EnT} {s word : List UInt8} {I : List FldT} (h : (plR E s word I).2 = 0) : s ++ [10] = lineS word E (plR E s word I).1 ∧ mt E (plR E s word I).1 I = (0, 0) := by
  unfold plR at h ⊢
  cases hs : spl 32 s with
  | nil => exact absurd hs (spl_ne 32 s)
  | cons w ws =>
    rw [hs] at h
    dsimp only at h ⊢
    split at h
    · simp at h
    rename_i h1
    split at h
    · simp at h
    rename_i h2
    split at h
    · simp at h
    rename_i h3
    rw [if_neg h1, if_neg h2, if_neg h3]
    have hw : w = word := Decidable.byContradiction fun e => h1 (.inl e)
    subst hw
    obtain ⟨g1, g2, g3⟩ := pvs_ok (E := E) (ws := ws) (fs := I) 0 (by omega) h
    refine ⟨?_, ?_⟩
    · rw [spl_join s hs, g2]
      simp [lineS]
    · unfold mt
      rw [if_neg (by omega), if_neg (by omega), g3]
theorem pmL_ok {E : List EnT} {lm d : Int} {J : List FldT} {I : List ValT} : ∀ (ls : List (List UInt8)) (k : Nat) (out : List (List ValT)), (pmL E lm J d I ls k out).2.2 = 0 →
    ∃ M, (pmL E lm J d I ls k out).1 = (d, I, out ++ M) ∧ M.length = ls.length ∧ flatS ls = mems E M ∧ vmL E J M k = (0, 0, 0) ∧ (ls ≠ [] → ((k + ls.length : Nat) : Int) ≤ lm)
  | [], k, out, h => ⟨[], by simp [pmL], rfl, rfl, rfl, fun h => absurd rfl h⟩
  | x :: xs, k, out, h => by
    unfold pmL at h ⊢
    split at h
    · simp at h
    rename_i h1
    split at h
    · rename_i h2; exact absurd h h2
    rename_i h2
    rw [if_neg h1, if_neg h2]
    have h2' : (plR E x tMem J).2 = 0 := by simpa using h2
    obtain ⟨M, g1, g2, g3, g4, g5⟩ := pmL_ok xs (k + 1) _ h
    obtain ⟨e1, e2⟩ := plR_ok h2'
    refine ⟨(plR E x tMem J).1 :: M, by rw [g1]; simp, by simp [g2], ?_, ?_, fun _ => ?_⟩
    · simp only [flatS, mems]
      rw [e1, g3]
    · rw [vmL, e2]
      simpa using g4
    · cases xs with
      | nil => simp at h1 ⊢; omega
      | cons y ys => have := g5 (by simp); simp at this ⊢; omega
theorem parC_ok {E : List EnT} {S : List ScT} {sc : Int} {ls : List (List UInt8)} {e : Int} (h : (parC E S sc ls e).2.2 = 0) :
    e = 0 ∧ valC E S sc (parC E S sc ls e).1.1 (parC E S sc ls e).1.2.1 (parC E S sc ls e).1.2.2 = (0, 0, 0) ∧ (fmtC E S sc (parC E S sc ls e).1.1 (parC E S sc ls e).1.2.1 (parC E S sc ls e).1.2.2) = (flatS ls, 0) := by
  unfold parC at h ⊢
  split at h
  · simp at h
  rename_i h1
  rw [if_neg h1]
  split at h
  · rename_i h2; exact absurd h h2
  rename_i h2
  rw [if_neg h2]
  cases hS : S[sc.toNat]? with
  | none => rw [hS] at h; simp at h
  | some s0 =>
    rw [hS] at h
    dsimp only at h ⊢
    cases ls with
    | nil => simp [parL] at h
    | cons l0 r =>
      rw [parL] at h ⊢
      split at h
      · simp at h
      rename_i h3
      rw [if_neg h3]
      split at h
      · rename_i h4; exact absurd h h4
      rename_i h4
      rw [if_neg h4]
      cases r with
      | nil => simp [parR] at h
      | cons l1 ms =>
        rw [parR] at h ⊢
        split at h
        · rename_i h5; exact absurd h h5
        rename_i h5
        rw [if_neg h5]
        have h3' : l0.take 5 = tDate := Decidable.byContradiction fun e => h3 e
        have h4' : (parD (l0.drop 5)).2 = 0 := by simpa using h4
        have h5' : (plR E l1 tIn s0.2.2.1).2 = 0 := by simpa using h5
        obtain ⟨M, g1, g2, g3, g4, g5⟩ := pmL_ok ms 0 [] h
        obtain ⟨e1, e2⟩ := plR_ok h5'
        obtain ⟨d1, d2⟩ := parD_ok (s := l0.drop 5) (n := (parD (l0.drop 5)).1) (by rw [← h4'])
        rw [g1]
        dsimp only
        rw [List.nil_append]
        have hd : ¬ ((parD (l0.drop 5)).1 < 0 ∨ 109572 < (parD (l0.drop 5)).1) := by
          simp only [vdB, Bool.and_eq_true, decide_eq_true_eq] at d1
          omega
        have hM : ¬ lim S s0 < (M.length : Int) := by
          have := lim_nn S s0
          cases ms with
          | nil => simp at g2; subst g2; simpa using this
          | cons y ys => have := g5 (by simp); rw [g2]; simp only [Nat.zero_add] at this; omega
        have hv : valC E S sc (parD (l0.drop 5)).1 (plR E l1 tIn s0.2.2.1).1 M = (0, 0, 0) := by
          unfold valC
          rw [if_neg h1, if_neg hd, hS]
          dsimp only
          rw [e2, if_neg (by simp), if_neg hM, g4]
        refine ⟨Decidable.byContradiction fun e => h2 e, hv, ?_⟩
        unfold fmtC
        rw [hv]
        rw [if_neg (by simp), d2]
        congr 1
        simp only [flatS]
        rw [← e1, g3, ← h3']
        have := List.take_append_drop 5 l0
        simp only [List.append_assoc]
        rw [← List.append_assoc (l0.take 5), this]
theorem F10_true (l : LawT) (sc : Int) (s : List UInt8) : F10 4000 ((ensPV l.1, l.2.1.map tabPV, l.2.2.map scPV), sc, s) = some true := by
  rw [F10_eq]
  dsimp only
  obtain ⟨b, hb, hl⟩ := F21_v (N := 4000) (by decide) l
  rw [hb, onSome_ok, aIf_if]
  cases b with
  | false => rfl
  | true =>
    obtain ⟨hE, h5, hS⟩ := hl rfl
    rw [if_neg (by simp), aIf_if]
    by_cases hs : (2000 : Int) < s.length
    · rw [if_pos (by simpa using hs)]
    · have hs' : s.length ≤ 2000 := by omega
      obtain ⟨ls, e, g1, g2, g3, g4⟩ := lines_v (N := 4000) (s := s) (by omega) (by omega)
      obtain ⟨r1, r2, r3⟩ := parC_small (E := l.1) hS (sc := sc) (ls := ls) (e := e)
      have hbad := parC_bad (E := l.1) (S := l.2.2) (sc := sc) (ls := ls) (e := e)
      have hok := parC_ok (E := l.1) (S := l.2.2) (sc := sc) (ls := ls) (e := e)
      rw [if_neg (by simpa using hs), F26_v (by decide) hE.few (by omega) (by omega) g1 g2 g4, onSome_ok, aGd33]
      generalize parC l.1 l.2.2 sc ls e = r at r1 r2 r3 hbad hok
      simp only [outC, casA, aIf_if]
      by_cases h : r.2.2 = 0
      · obtain ⟨h0, hv, hf⟩ := hok h
        have r3' : ∀ m ∈ r.1.2.2, m.length ≤ 1000 := fun m hm => by have := r3 m hm; omega
        rw [if_neg (by simp [h]), F28_v (by decide) (by decide) hE (by omega) (by omega) r3', onSome_ok, F24_v (by decide) (by decide) hE.few (by omega) (by omega) r3', onSome_ok, hv, hf, g2 h0]
        simp
      · obtain ⟨hc, hi⟩ := hbad h
        have hcs := F27_v (N := 4000) (by decide) (c := r.1) (b := cas0) (by omega) (by omega) (fun m hm => by have := r3 m hm; omega)
        rw [if_pos (by simpa using h)]
        show onSome (F27 4000 ((r.1.1, r.1.2.1.map valPV, r.1.2.2.map memPV), cas0.1, cas0.2.1.map valPV, cas0.2.2.map memPV)) _ = _
        rw [hcs, onSome_ok]
        simp [hc, hi]
end Go.Proofs.YtflpiekacionaaaDoor
