/- Small laws and cases, plainly. -/
import Derived.Test.YtflpiekacionaaaDoorCasA
set_option linter.unusedSimpArgs false
set_option linter.unusedVariables false
namespace Go.Proofs.YtflpiekacionaaaDoor
open Go.RowKit

def smallE (E : List EnT) : Prop := E.length ≤ 9 ∧ ∀ x ∈ E, x.2.length ≤ 20 ∧ ∀ m ∈ x.2, m.length ≤ 80
theorem smallE.few {E : List EnT} (h : smallE E) : few E := ⟨by have := h.1; omega, fun x hx => by have := (h.2 x hx).1; omega⟩
def smallL (l : LawT) : Prop := smallE l.1 ∧ l.2.2.length ≤ 5 ∧ ∀ s ∈ l.2.2, s.2.2.1.length ≤ 14
def smallC (c : CasT) : Prop := c.2.1.length ≤ 14 ∧ c.2.2.length ≤ 10 ∧ ∀ m ∈ c.2.2, m.length ≤ 14

theorem onGetMap {ρ α : Type} {f : α → PV} {l : List α} {p : Nat} {k : PV → Option ρ} (h : p < l.length) : onGet (l.map f) (p : Int) k = k (f l[p]) := by
  rw [onGet_nat (by simpa using h), List.getElem_map]
theorem drop_mem {α : Type} {l : List α} {p : Nat} {x : α} (h : p < l.length) (hx : x ∈ l.drop p) : x = l[p] ∨ x ∈ l.drop (p + 1) := by
  rw [List.drop_eq_getElem_cons h] at hx
  exact List.mem_cons.1 hx

/-! The parts of the data. -/
theorem onSc5 {ρ : Type} {s : ScT} {k : List UInt8 → Int → List PV → List PV → List PV → Option ρ} :
    (onCons (List.take 5 (List.drop 0 (PV.cells (scPV s)))) fun h t => onStr h fun u => onCons t fun h t => onInt .i64 h fun n => onCons t fun h t => onSl 3 h fun l => onCons t fun h t => onSl 3 h fun m => onCons t fun h t => onSl 9 h fun r => onNil t (k u n l m r)) =
      k s.1 s.2.1 (s.2.2.1.map fldPV) (s.2.2.2.1.map fldPV) (s.2.2.2.2.map rulPV) := rfl
theorem onScIn {ρ : Type} {s : ScT} {k : List PV → Option ρ} : (onSome (PV.cells (scPV s))[2]? fun y => onSl 3 y k) = k (s.2.2.1.map fldPV) := rfl
theorem onScMs {ρ : Type} {s : ScT} {k : Int → Option ρ} : (onSome (PV.cells (scPV s))[1]? fun y => onInt .i64 y k) = k s.2.1 := rfl
theorem onScRu {ρ : Type} {s : ScT} {k : List PV → Option ρ} : (onSome (PV.cells (scPV s))[4]? fun y => onSl 9 y k) = k (s.2.2.2.2.map rulPV) := rfl
theorem onVal3 {ρ : Type} {v : ValT} {k : Int → Int → Int → Option ρ} :
    (onCons (List.take 3 (List.drop 0 (PV.cells (valPV v)))) fun h t => onInt .i64 h fun a => onCons t fun h t => onInt .i64 h fun b => onCons t fun h t => onInt .i64 h fun c => onNil t (k a b c)) = k v.1 v.2.1 v.2.2 := rfl
theorem onValN {ρ : Type} {v : ValT} {k : Int → Option ρ} : (onSome (PV.cells (valPV v))[2]? fun y => onInt .i64 y k) = k v.2.2 := rfl
theorem onFld2 {ρ : Type} {f : FldT} {k : Int → Int → Option ρ} :
    (onCons (List.take 2 (List.drop 1 (PV.cells (fldPV f)))) fun h t => onInt .i64 h fun a => onCons t fun h t => onInt .i64 h fun b => onNil t (k a b)) = k f.2.1 f.2.2 := rfl
theorem onMem3 {ρ : Type} {m : List ValT} {k : List PV → Option ρ} : onSl 3 (memPV m) k = k (m.map valPV) := rfl

theorem aGd55 {ρ : Type} {x : Option ρ} : aGd (decide (0 + 5 ≤ 5)) x = x := rfl
theorem aGd33 {ρ : Type} {x : Option ρ} : aGd (decide (0 + 3 ≤ 3)) x = x := rfl
theorem aGd13 {ρ : Type} {x : Option ρ} : aGd (decide (0 + 1 ≤ 3)) x = x := rfl
theorem aGd23 {ρ : Type} {x : Option ρ} : aGd (decide (1 + 1 ≤ 3)) x = x := rfl
theorem aGd32 {ρ : Type} {x : Option ρ} : aGd (decide (2 + 1 ≤ 3)) x = x := rfl

/-! ## Scopes -/
theorem L52_14_v {N : Nat} {x1 : List UInt8} {x2 : Int} {x3 x4 : List PV} {R : List RulT} (hR : R.length ≤ 1000) : ∀ (n p : Nat), p ≤ R.length → R.length - p < n →
    ∃ b, L52_14 N n (p : Int) x1 x2 x3 x4 (R.map rulPV) = some b
  | 0, p, _, h => by omega
  | n + 1, p, hp, hn => by
    rw [L52_14_eq]
    simp only [List.length_map, Int.ofNat_eq_natCast]
    by_cases hlt : p < R.length
    · have ih := L52_14_v (N := N) (x1 := x1) (x2 := x2) (x3 := x3) (x4 := x4) hR n (p + 1) (by omega) (by omega)
      rw [aIf_if, if_pos (by simp; omega), onGetMap hlt, w64 (by omega) (by omega)]
      generalize R[p] = r
      show ∃ b, aIf _ (some false) (aIf _ (some false) (aIf _ (some false) (aIf _ (some false) (L52_14 N n ((p + 1 : Nat) : Int) x1 x2 x3 x4 (R.map rulPV))))) = some b
      simp only [aIf_if]
      repeat (split; · exact ⟨_, rfl⟩)
      exact ih
    · rw [aIf_if, if_neg (by simp; omega)]
      exact ⟨_, rfl⟩
theorem L52_9_v {N : Nat} {x1 : List UInt8} {x2 : Int} {x3 : List PV} {D : List FldT} {R : List RulT} (hN : 1000 < N) (hD : D.length ≤ 1000) (hR : R.length ≤ 1000) : ∀ (n p : Nat), p ≤ D.length → D.length - p < n →
    ∃ b, L52_9 N n (p : Int) x1 x2 x3 (D.map fldPV) (R.map rulPV) = some b
  | 0, p, _, h => by omega
  | n + 1, p, hp, hn => by
    rw [L52_9_eq]
    simp only [List.length_map, Int.ofNat_eq_natCast]
    by_cases hlt : p < D.length
    · have ih := L52_9_v (N := N) (x1 := x1) (x2 := x2) (x3 := x3) hN hD hR n (p + 1) (by omega) (by omega)
      rw [aIf_if, if_pos (by simp; omega), onGetMap hlt, w64 (by omega) (by omega)]
      generalize D[p] = r
      show ∃ b, aIf _ (some false) (L52_9 N n ((p + 1 : Nat) : Int) x1 x2 x3 (D.map fldPV) (R.map rulPV)) = some b
      simp only [aIf_if]
      repeat (split; · exact ⟨_, rfl⟩)
      exact ih
    · rw [aIf_if, if_neg (by simp; omega)]
      exact L52_14_v hR N 0 (by omega) (by omega)
theorem L52_4_v {N : Nat} {x1 : List UInt8} {x2 : Int} {I D : List FldT} {R : List RulT} (hN : 1000 < N) (hI : I.length ≤ 1000) (hD : D.length ≤ 1000) (hR : R.length ≤ 1000) : ∀ (n p : Nat), p ≤ I.length → I.length - p < n →
    ∃ b, L52_4 N n (p : Int) x1 x2 (I.map fldPV) (D.map fldPV) (R.map rulPV) = some b
  | 0, p, _, h => by omega
  | n + 1, p, hp, hn => by
    rw [L52_4_eq]
    simp only [List.length_map, Int.ofNat_eq_natCast]
    by_cases hlt : p < I.length
    · have ih := L52_4_v (N := N) (x1 := x1) (x2 := x2) hN hI hD hR n (p + 1) (by omega) (by omega)
      rw [aIf_if, if_pos (by simp; omega), onGetMap hlt, w64 (by omega) (by omega)]
      generalize I[p] = r
      show ∃ b, aIf _ (some false) (L52_4 N n ((p + 1 : Nat) : Int) x1 x2 (I.map fldPV) (D.map fldPV) (R.map rulPV)) = some b
      simp only [aIf_if]
      repeat (split; · exact ⟨_, rfl⟩)
      exact ih
    · rw [aIf_if, if_neg (by simp; omega)]
      exact L52_9_v hN hD hR N 0 (by omega) (by omega)
theorem F52_v {N : Nat} (hN : 1000 < N) (s : ScT) : ∃ b, F52 N (s.1, s.2.1, s.2.2.1.map fldPV, s.2.2.2.1.map fldPV, s.2.2.2.2.map rulPV) = some b ∧ (b = true → s.2.2.1.length ≤ 14) := by
  rw [F52_eq]
  simp only [aIf_if, List.length_map, Int.ofNat_eq_natCast, decide_eq_true_eq]
  split
  · exact ⟨_, rfl, by simp⟩
  split
  · exact ⟨_, rfl, by simp⟩
  split
  · exact ⟨_, rfl, by simp⟩
  split
  · exact ⟨_, rfl, by simp⟩
  obtain ⟨b, hb⟩ := L52_4_v (N := N) (x1 := s.1) (x2 := s.2.1) (I := s.2.2.1) (D := s.2.2.2.1) (R := s.2.2.2.2) hN (by omega) (by omega) (by omega) N 0 (by omega) (by omega)
  exact ⟨b, hb, fun _ => by omega⟩

/-! ## Laws -/
theorem L21_22_v {N : Nat} (hN : 1000 < N) {x2 x3 : List PV} {S : List ScT} (hS : S.length ≤ 1000) : ∀ (n p : Nat) (x0 : Int), p ≤ S.length → S.length - p < n →
    ∃ b, L21_22 N n x0 (p : Int) x2 x3 (S.map scPV) = some b ∧ (b = true → ∀ s ∈ S.drop p, s.2.2.1.length ≤ 14)
  | 0, p, _, _, h => by omega
  | n + 1, p, x0, hp, hn => by
    rw [L21_22_eq]
    simp only [List.length_map, Int.ofNat_eq_natCast]
    by_cases hlt : p < S.length
    · rw [aIf_if, if_pos (by simp; omega), onGetMap hlt, w64 (x := (p : Int) + 1) (by omega) (by omega)]
      rw [onScRu, onGetMap hlt, onSc5]
      have hd := fun x => drop_mem (x := x) hlt
      generalize S[p] = s at hd ⊢
      simp only [aIf_if]
      split
      · exact ⟨_, rfl, by simp⟩
      obtain ⟨b, hb, hb2⟩ := F52_v hN s
      rw [hb, onSome_ok]
      cases b with
      | false => exact ⟨_, rfl, by simp⟩
      | true =>
        obtain ⟨c, hc, hc2⟩ := L21_22_v hN (x2 := x2) (x3 := x3) hS n (p + 1) (IntKind.wrap IntKind.i64 (x0 + ((s.2.2.2.2.map rulPV).length : Nat))) (by omega) (by omega)
        refine ⟨c, hc, fun h t ht => ?_⟩
        rcases hd t ht with rfl | ht
        · exact hb2 rfl
        · exact hc2 h t ht
    · rw [aIf_if, if_neg (by simp; omega)]
      exact ⟨_, rfl, fun _ s hs => by rw [List.drop_eq_nil_of_le (by omega)] at hs; cases hs⟩
theorem L21_16_v {N : Nat} (hN : 1000 < N) {x3 : List PV} {T : List TabT} {S : List ScT} (hT : T.length ≤ 1000) (hS : S.length ≤ 1000) {x1 : Int} : ∀ (n p : Nat) (x0 : Int), p ≤ T.length → T.length - p < n →
    ∃ b, L21_16 N n x0 x1 (p : Int) x3 (T.map tabPV) (S.map scPV) = some b ∧ (b = true → ∀ s ∈ S, s.2.2.1.length ≤ 14)
  | 0, p, _, _, h => by omega
  | n + 1, p, x0, hp, hn => by
    rw [L21_16_eq]
    simp only [List.length_map, Int.ofNat_eq_natCast]
    by_cases hlt : p < T.length
    · rw [aIf_if, if_pos (by simp; omega), onGetMap hlt, w64 (x := (p : Int) + 1) (by omega) (by omega)]
      show ∃ b, onGet (T.map tabPV) (p : Int) _ = some b ∧ _
      rw [onGetMap hlt]
      generalize T[p] = s
      show ∃ b, aIf _ (some false) (aIf _ (some false) (L21_16 N n _ x1 ((p + 1 : Nat) : Int) x3 (T.map tabPV) (S.map scPV))) = some b ∧ _
      simp only [aIf_if]
      split
      · exact ⟨_, rfl, by simp⟩
      split
      · exact ⟨_, rfl, by simp⟩
      exact L21_16_v hN hT hS n (p + 1) _ (by omega) (by omega)
    · rw [aIf_if, if_neg (by simp; omega)]
      exact L21_22_v hN hS N 0 _ (by omega) (by omega)
theorem onEnName {ρ : Type} {E : List EnT} {p : Nat} {k : List UInt8 → Option ρ} (h : p < E.length) : (onGet (ensPV E) (p : Int) fun z => onSome (PV.cells z)[0]? fun y => onStr y k) = k (E[p]).1 := by
  unfold ensPV
  rw [onGetMap h]; rfl
theorem onEnMem {ρ : Type} {E : List EnT} {p : Nat} {k : List PV → Option ρ} (h : p < E.length) : (onGet (ensPV E) (p : Int) fun z => onSome (PV.cells z)[1]? fun y => onSl 1 y k) = k ((E[p]).2.map .str) := by
  unfold ensPV
  rw [onGetMap h]; rfl
theorem L21_11_v {N : Nat} {E : List EnT} {x5 x6 : List PV} {m0 i : Nat} {x0 x1 : Int} {Q : Prop} (hi : i < E.length) (hE : (E[i]).2.length ≤ 1000) (hE2 : E.length ≤ 1000)
    (hout : ∃ b, L21_6 N m0 x0 x1 ((i + 1 : Nat) : Int) (ensPV E) x5 x6 = some b ∧ (b = true → Q)) : ∀ (n p : Nat), p ≤ (E[i]).2.length → (E[i]).2.length - p < n →
    ∃ b, L21_11 N n m0 x0 x1 (i : Int) (p : Int) (ensPV E) x5 x6 = some b ∧ (b = true → Q ∧ ∀ m ∈ (E[i]).2.drop p, m.length ≤ 80)
  | 0, p, _, h => by omega
  | n + 1, p, hp, hn => by
    rw [L21_11_eq, onEnMem hi]
    simp only [aIf_if, List.length_map, Int.ofNat_eq_natCast]
    by_cases hlt : p < (E[i]).2.length
    · rw [if_pos (by simp; omega), onEnMem hi, onGetMap hlt, onStr_ok, w64 (x := (p : Int) + 1) (by omega) (by omega)]
      have hd := fun x => drop_mem (x := x) hlt
      split
      · exact ⟨_, rfl, by simp⟩
      · rename_i h80
        obtain ⟨b, hb, hb2⟩ := L21_11_v hi hE hE2 hout n (p + 1) (by omega) (by omega)
        refine ⟨b, hb, fun h => ⟨(hb2 h).1, fun m hm => ?_⟩⟩
        rcases hd m hm with rfl | hm
        · simp at h80; omega
        · exact (hb2 h).2 m hm
    · rw [if_neg (by simp; omega), w64 (x := (i : Int) + 1) (by omega) (by omega)]
      obtain ⟨b, hb, hb2⟩ := hout
      exact ⟨b, hb, fun h => ⟨hb2 h, fun m hm => by rw [List.drop_eq_nil_of_le (by omega)] at hm; cases hm⟩⟩
theorem L21_6_v {N : Nat} (hN : 1000 < N) {E : List EnT} {T : List TabT} {S : List ScT} (hE : E.length ≤ 1000) (hT : T.length ≤ 1000) (hS : S.length ≤ 1000) {x0 x1 : Int} : ∀ (n p : Nat), p ≤ E.length → E.length - p < n →
    ∃ b, L21_6 N n x0 x1 (p : Int) (ensPV E) (T.map tabPV) (S.map scPV) = some b ∧ (b = true → (∀ s ∈ S, s.2.2.1.length ≤ 14) ∧ ∀ x ∈ E.drop p, x.2.length ≤ 20 ∧ ∀ m ∈ x.2, m.length ≤ 80)
  | 0, p, _, h => by omega
  | n + 1, p, hp, hn => by
    rw [L21_6_eq]
    simp only [aIf_if, ensPV_len, Int.ofNat_eq_natCast]
    by_cases hlt : p < E.length
    · rw [if_pos (by simp; omega), onEnName hlt]
      have hd := fun x => drop_mem (x := x) hlt
      split
      · exact ⟨_, rfl, by simp⟩
      rw [onEnMem hlt, List.length_map]
      split
      · exact ⟨_, rfl, by simp⟩
      rename_i h20
      simp at h20
      obtain ⟨b, hb, hb2⟩ := L21_11_v (N := N) hlt (by omega) hE (L21_6_v hN hE hT hS n (p + 1) (by omega) (by omega)) N 0 (by omega) (by omega)
      refine ⟨b, hb, fun h => ⟨(hb2 h).1.1, fun x hx => ?_⟩⟩
      rcases hd x hx with rfl | hx
      · exact ⟨by omega, fun m hm => (hb2 h).2 m (by simpa using hm)⟩
      · exact (hb2 h).1.2 x hx
    · rw [if_neg (by simp; omega)]
      obtain ⟨b, hb, hb2⟩ := L21_16_v hN (x3 := ensPV E) hT hS (x1 := x1) N 0 x0 (by omega) (by omega)
      exact ⟨b, hb, fun h => ⟨hb2 h, fun m hm => by rw [List.drop_eq_nil_of_le (by omega)] at hm; cases hm⟩⟩
theorem F21_v {N : Nat} (hN : 1000 < N) (l : LawT) : ∃ b, F21 N (ensPV l.1, l.2.1.map tabPV, l.2.2.map scPV) = some b ∧ (b = true → smallL l) := by
  rw [F21_eq]
  simp only [aIf_if, List.length_map, ensPV_len, Int.ofNat_eq_natCast, decide_eq_true_eq]
  split
  · exact ⟨_, rfl, by simp⟩
  split
  · exact ⟨_, rfl, by simp⟩
  split
  · exact ⟨_, rfl, by simp⟩
  obtain ⟨b, hb, hb2⟩ := L21_6_v hN (E := l.1) (T := l.2.1) (S := l.2.2) (by omega) (by omega) (by omega) (x0 := 0) (x1 := 0) N 0 (by omega) (by omega)
  exact ⟨b, hb, fun h => ⟨⟨by omega, fun x hx => (hb2 h).2 x (by simpa using hx)⟩, by omega, (hb2 h).1⟩⟩

/-! ## Cases -/
theorem L22_4_v {N : Nat} {x1 : Int} {x2 : List PV} {M : List (List ValT)} (hM : M.length ≤ 1000) : ∀ (n p : Nat), p ≤ M.length → M.length - p < n →
    ∃ b, L22_4 N n (p : Int) x1 x2 (M.map memPV) = some b ∧ (b = true → ∀ m ∈ M.drop p, m.length ≤ 14)
  | 0, p, _, h => by omega
  | n + 1, p, hp, hn => by
    rw [L22_4_eq]
    simp only [aIf_if, List.length_map, Int.ofNat_eq_natCast]
    by_cases hlt : p < M.length
    · rw [if_pos (by simp; omega), onGetMap hlt, w64 (x := (p : Int) + 1) (by omega) (by omega)]
      have hd := fun x => drop_mem (x := x) hlt
      generalize M[p] = s at hd
      show ∃ b, (if decide (14 < (((s.map valPV).length : Nat) : Int)) = true then some false else L22_4 N n ((p + 1 : Nat) : Int) x1 x2 (M.map memPV)) = some b ∧ _
      split
      · exact ⟨_, rfl, by simp⟩
      rename_i h14
      simp at h14
      obtain ⟨b, hb, hb2⟩ := L22_4_v (N := N) (x1 := x1) (x2 := x2) hM n (p + 1) (by omega) (by omega)
      refine ⟨b, hb, fun h m hm => ?_⟩
      rcases hd m hm with rfl | hm
      · omega
      · exact hb2 h m hm
    · rw [if_neg (by simp; omega)]
      exact ⟨_, rfl, fun _ m hm => by rw [List.drop_eq_nil_of_le (by omega)] at hm; cases hm⟩
theorem F22_v {N : Nat} (hN : 1000 < N) (c : CasT) : ∃ b, F22 N (c.1, c.2.1.map valPV, c.2.2.map memPV) = some b ∧ (b = true → smallC c) := by
  rw [F22_eq]
  simp only [aIf_if, List.length_map, Int.ofNat_eq_natCast, decide_eq_true_eq]
  split
  · exact ⟨_, rfl, by simp⟩
  split
  · exact ⟨_, rfl, by simp⟩
  obtain ⟨b, hb, hb2⟩ := L22_4_v (N := N) (x1 := c.1) (x2 := c.2.1.map valPV) (M := c.2.2) (by omega) N 0 (by omega) (by omega)
  exact ⟨b, hb, fun h => ⟨by omega, by omega, fun m hm => hb2 h m (by simpa using hm)⟩⟩
end Go.Proofs.YtflpiekacionaaaDoor
