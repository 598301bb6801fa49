/- Lines and words of cases, plainly. -/
import Derived.Test.YtflpiekacionaaaDoorCasG
set_option linter.unusedSimpArgs false
set_option linter.unusedVariables false
namespace Go.Proofs.YtflpiekacionaaaDoor
open Go.RowKit

theorem strs_of : ∀ {xs : List PV}, (∀ x ∈ xs, ∃ l, x = .str l) → ∃ ls : List (List UInt8), xs = ls.map .str
  | [], _ => ⟨[], rfl⟩
  | x :: xs, h => by
    obtain ⟨l, rfl⟩ := h x (by simp)
    obtain ⟨ls, rfl⟩ := strs_of (xs := xs) (fun z hz => h z (by simp [hz]))
    exact ⟨l :: ls, rfl⟩
/-- The text of lines. -/
def flatS : List (List UInt8) → List UInt8
  | [] => []
  | l :: ls => l ++ [10] ++ flatS ls
theorem flat_str : ∀ (ls : List (List UInt8)), flat (ls.map .str) = flatS ls
  | [] => rfl
  | l :: ls => by simp [flat, flatS, flat_str ls]
theorem flatS_mem : ∀ {ls : List (List UInt8)} {l : List UInt8}, l ∈ ls → l.length ≤ (flatS ls).length
  | [], l, h => by simp at h
  | x :: ls, l, h => by
    rcases List.mem_cons.1 h with rfl | h
    · simp [flatS]
    · have := flatS_mem h; simp [flatS]; omega
theorem lines_v {N : Nat} {s : List UInt8} (hs : s.length ≤ 65536) (hN : s.length < N) : ∃ (ls : List (List UInt8)) (e : Int), F48 N s = some (ls.map .str, e) ∧ (e = 0 → flatS ls = s) ∧ (e ≠ 0 → ls = []) ∧ ls.length ≤ s.length := by
  obtain ⟨r, h3, h4, h5, h6, h7⟩ := lines_flat (N := N) (a := s) hs s.length N 0 0 [] (by omega) (by omega) (by omega) (by omega) (by simp) (by simp) (by simp [flat])
  obtain ⟨xs, e⟩ := r
  obtain ⟨ls, hls⟩ := strs_of h7
  dsimp only at hls h4 h5 h6
  subst hls
  refine ⟨ls, e, ?_, fun h => by rw [← flat_str]; exact h4 h, fun h => by simpa using h5 h, by simpa using h6⟩
  rw [F48_eq, aIf_if, if_neg (by simp; omega)]
  exact h3
theorem cutPrefix_v {N : Nat} {u p : List UInt8} : F59 N (u, p) = some (if u.take p.length = p then (u.drop p.length, true) else (u, false)) := by
  rw [F59_eq, F87_eq, F109_eq]
  simp only [aIf_if, aGd_if, Int.ofNat_eq_natCast, Int.toNat_natCast, List.take_length, List.drop_zero, decide_eq_true_eq]
  by_cases h : p.length ≤ u.length
  · rw [if_pos (by omega), if_pos (by omega), onSome_ok]
    by_cases h2 : u.take p.length = p
    · simp [h2, h, onSome_ok]
    · simp [h2, onSome_ok]
  · have h2 : ¬ u.take p.length = p := fun e => by have := congrArg List.length e; simp at this; omega
    rw [if_neg (by omega), onSome_ok]
    simp [h2, onSome_ok]
theorem idx_mem (s : List UInt8) (l : List (List UInt8)) : decide (0 ≤ idx s l 0) = decide (s ∈ l) := by
  rcases idx_spec s l 0 with ⟨h1, h2⟩ | ⟨j, h1, h2, _⟩
  · have : ¬ s ∈ l := fun h => by
      obtain ⟨j, hj⟩ := List.getElem?_of_mem h
      exact h2 j hj
    simp only [Int.natCast_zero] at h1
    simp [h1, this]
  · simp only [Int.natCast_zero] at h1
    have hm := List.mem_of_getElem? h2
    simp [h1, hm]
theorem F90_v {N : Nat} {s : List UInt8} {l : List (List UInt8)} (hl : l.length ≤ 1000000) (hN : l.length < N) : F90 N (l.map .str, s) = some (decide (s ∈ l)) := by
  rw [F90_eq, F81_v hl hN, onSome_ok, idx_mem]
theorem spl_len' {c : UInt8} : ∀ (s : List UInt8) (w : List UInt8), w ∈ spl c s → w.length ≤ s.length
  | [], w, h => by simp [spl] at h; simp [h]
  | b :: s, w, h => by
    unfold spl at h
    split at h
    · rcases List.mem_cons.1 h with rfl | h
      · simp
      · have := spl_len' s w h; simp; omega
    · split at h
      · simp at h; subst h; simp
      · rename_i v vs hv
        rcases List.mem_cons.1 h with rfl | h
        · have := spl_len' s v (by rw [hv]; simp); simp; omega
        · have := spl_len' s w (by rw [hv]; simp [h]); simp; omega
/-- The values of words. -/
def pvs (E : List EnT) : List (List UInt8) → List FldT → List ValT × Int
  | w :: ws, f :: fs => if (parV w f.2.1 f.2.2 E).2 ≠ 0 then ([], (parV w f.2.1 f.2.2 E).2) else if (pvs E ws fs).2 ≠ 0 then ([], (pvs E ws fs).2) else ((parV w f.2.1 f.2.2 E).1 :: (pvs E ws fs).1, 0)
  | _, _ => ([], 0)
theorem pvs_bad {E : List EnT} : ∀ {ws : List (List UInt8)} {fs : List FldT}, (pvs E ws fs).2 ≠ 0 → (pvs E ws fs).1 = []
  | [], fs, h => by simp [pvs] at h
  | w :: ws, [], h => by simp [pvs] at h
  | w :: ws, f :: fs, h => by
    unfold pvs at h ⊢
    split
    · rfl
    · split
      · rfl
      · rename_i h1 h2
        rw [if_neg h1, if_neg h2] at h
        exact absurd rfl h
def plR (E : List EnT) (s word : List UInt8) (I : List FldT) : List ValT × Int :=
  match spl 32 s with
  | [] => ([], 2)
  | w :: ws => if w ≠ word ∨ [] ∈ ws then ([], 2) else if ws.length < I.length then ([], 5) else if I.length < ws.length then ([], 4) else pvs E ws I
theorem plR_bad {E : List EnT} {s word : List UInt8} {I : List FldT} (h : (plR E s word I).2 ≠ 0) : (plR E s word I).1 = [] := by
  unfold plR at h ⊢
  split
  · rfl
  · rename_i w ws hw
    rw [hw] at h
    dsimp only at h ⊢
    split
    · rfl
    split
    · rfl
    split
    · rfl
    rename_i h1 h2 h3
    rw [if_neg h1, if_neg h2, if_neg h3] at h
    exact pvs_bad h
def pEnd (out : List ValT) (r : List ValT × Int) : List PV × Int := if r.2 ≠ 0 then ([], r.2) else ((out ++ r.1).map valPV, 0)
theorem pEnd_step {E : List EnT} {w : List UInt8} {ws : List (List UInt8)} {f : FldT} {fs : List FldT} {out : List ValT} : pEnd out (pvs E (w :: ws) (f :: fs)) =
    if (parV w f.2.1 f.2.2 E).2 ≠ 0 then ([], (parV w f.2.1 f.2.2 E).2) else pEnd (out ++ [(parV w f.2.1 f.2.2 E).1]) (pvs E ws fs) := by
  unfold pEnd
  rw [pvs]
  by_cases h : (parV w f.2.1 f.2.2 E).2 = 0
  · by_cases h2 : (pvs E ws fs).2 = 0 <;> simp [h, h2]
  · simp [h]
theorem L61_v {N : Nat} (hN : 300 < N) {E : List EnT} (hE : few E) {I : List FldT} {ws : List (List UInt8)} (hw : ws.length ≤ 100000) (hl : ws.length = I.length) (hs : ∀ w ∈ ws, w.length < N ∧ w.length ≤ 1000000) : ∀ (n p : Nat) (out : List ValT), p ≤ ws.length → ws.length - p < n → out.length ≤ p →
    L61_11 N n (I.map fldPV) (ensPV E) (ws.map .str) (ws.length : Int) (p : Int) (out.map valPV) = some (pEnd out (pvs E (ws.drop p) (I.drop p)))
  | 0, p, _, _, h, _ => by omega
  | n + 1, p, out, hp, hn, ho => by
    rw [L61_11_eq]
    simp only [aIf_if]
    by_cases hlt : p < ws.length
    · have hlt2 : p < I.length := by omega
      have hsw := hs _ (List.getElem_mem hlt)
      have ih := L61_v hN hE hw hl hs n (p + 1) (out ++ [(parV ws[p] I[p].2.1 I[p].2.2 E).1]) (by omega) (by omega) (by simp; omega)
      rw [if_pos (by simp; omega), onGetMap hlt, onStr_ok, onGetMap hlt2, onFld2, F91_v hE hN (fun _ => hsw), onSome_ok, aGd33, List.drop_eq_getElem_cons hlt, List.drop_eq_getElem_cons hlt2, pEnd_step]
      by_cases h : (parV ws[p] I[p].2.1 I[p].2.2 E).2 = 0
      · rw [if_neg (by simp [h]), if_neg (by simp [h]), aGd_if, if_pos (by simp; omega), aGd_if, if_pos (by simp [keptUnder, AV.under, AV.underL, underH, Blk.under]), w64 (by omega) (by omega)]
        simp only [Int.natCast_add, Int.natCast_one, List.map_append, List.map_cons, List.map_nil] at ih
        exact ih
      · rw [if_pos (by simpa using h), if_pos h]
    · rw [if_neg (by simp; omega), List.drop_eq_nil_of_le (by omega)]
      simp [pEnd, pvs]
theorem F61_v {N : Nat} (hN : 300 < N) {E : List EnT} (hE : few E) {I : List FldT} {s word : List UInt8} (hs : s.length ≤ 60000) (hsN : s.length + 2 < N) : F61 N (s, word, I.map fldPV, ensPV E) = some ((plR E s word I).1.map valPV, (plR E s word I).2) := by
  have hlen := spl_length (c := 32) s
  have hc : s.count 32 ≤ s.length := List.count_le_length
  have hmem := spl_len' (c := 32) s
  rw [F61_eq, F49_v (by omega) (by omega), onSome_ok]
  unfold plR
  cases hsp : spl 32 s with
  | nil => exact absurd hsp (spl_ne 32 s)
  | cons w ws =>
    rw [hsp] at hlen hmem
    simp only [List.length_cons] at hlen
    rw [show (0 : Int) = ((0 : Nat) : Int) from rfl, onGetMap (by simp)]
    simp only [List.getElem_cons_zero, onStr_ok, aIf_if, aGd_if, List.length_map, List.length_cons, Int.ofNat_eq_natCast, List.map_cons]
    have e1 : List.drop 1 (List.take (ws.length + 1) (PV.str w :: ws.map .str)) = ws.map .str := by
      rw [List.take_of_length_le (by simp)]; rfl
    by_cases h1 : w = word
    · subst h1
      simp only [e1, beq_self_eq_true, Bool.not_true, Bool.false_eq_true, if_false, List.length_map]
      rw [if_pos (by simp; omega), F90_v (by omega) (by omega), onSome_ok]
      by_cases h2 : [] ∈ ws
      · simp [h2]
      · rw [if_neg (by simpa using h2), if_pos (by simp; omega), if_neg (show ¬ (w ≠ w ∨ [] ∈ ws) by simp [h2])]
        by_cases h3 : ws.length < I.length
        · rw [if_pos (by simp; omega), if_pos h3]; rfl
        · rw [if_neg (by simp; omega), if_neg h3]
          by_cases h4 : I.length < ws.length
          · rw [if_pos (by simp; omega), if_pos h4]; rfl
          · rw [if_neg (by simp; omega), if_neg h4, if_pos (by simp [keptUnder, AV.under, AV.underL, underH, Blk.under])]
            have := L61_v hN hE (I := I) (ws := ws) (by omega) (by omega) (fun x hx => by have := hmem x (by simp [hx]); omega) N 0 [] (by omega) (by omega) (by simp)
            simp only [List.map_nil, Int.natCast_zero, List.drop_zero] at this
            simp only [Int.natCast_zero]
            rw [this]
            unfold pEnd
            by_cases h5 : (pvs E ws I).2 = 0
            · simp [h5]
            · simp [h5, pvs_bad h5]
    · simp [h1]

/-! ## The reference -/
def joinHd (u : List UInt8) : List (List UInt8) → List (List UInt8)
  | [] => [u]
  | w :: ws => (u ++ w) :: ws
theorem joinHd_nil {l : List (List UInt8)} (h : l ≠ []) : joinHd [] l = l := by
  cases l with
  | nil => exact absurd rfl h
  | cons w ws => rfl
end Go.Proofs.YtflpiekacionaaaDoor
