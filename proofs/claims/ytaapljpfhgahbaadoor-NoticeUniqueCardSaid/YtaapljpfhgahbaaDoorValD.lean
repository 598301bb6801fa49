/- The laws of package value that hold of themselves: round trips, canonical texts, distinct texts. -/
import Derived.Test.YtaapljpfhgahbaaDoorValC
set_option linter.unusedSimpArgs false
set_option linter.unusedVariables false
namespace Go.Proofs.YtaapljpfhgahbaaDoor
open Go.RowKit

theorem F5_true (k e n : Int) (E : List EnT) : F5 400 ((k, e, n), ensPV E) = some true := by
  obtain ⟨b, hb, hE⟩ := F14_v (N := 400) (E := E) (by decide)
  rw [F5_eq, hb, onSome_ok, aIf_if, aw]
  cases b with
  | false => rfl
  | true =>
  have hE := hE rfl
  rw [if_neg (by simp), F20_v (N := 400) hE, onSome_ok, aIf_if]
  cases hv : vv n k e E with
  | false => rfl
  | true =>
  obtain ⟨m, h1, h2⟩ := rt_parV hv
  rw [if_neg (by simp), F16_v (N := 400) hE (by decide), onSome_ok, F21_v, onSome_ok]
  dsimp only
  rw [F18_v (N := 400) hE (by decide) (fun h6 => fmtV_len h6), onSome_ok, h1, fmtV_code.2 hv]
  simp only [aIf_if, aGd_if, bne_self_eq_false, Bool.false_eq_true, if_false, beq_iff_eq]
  rw [if_pos (by simp)]
  by_cases hm : m = n
  · rw [if_pos hm]
  · rw [if_neg hm]
    rcases h2 with h2 | ⟨rfl, h3, h4, h5⟩
    · exact absurd h2 hm
    · obtain ⟨b1, b2, b3, b4⟩ := bd_6 hv
      rw [if_pos rfl, if_pos (by simpa using h3), if_pos (by simpa using h4), onEn b1 b2, onMem h3 (by omega), h5, if_pos rfl]
theorem F6_true (s : List UInt8) (k e : Int) (E : List EnT) : F6 400 (s, (k, e), ensPV E) = some true := by
  obtain ⟨b, hb, hE⟩ := F14_v (N := 400) (E := E) (by decide)
  rw [F6_eq, hb, onSome_ok, aIf_if, aw]
  cases b with
  | false => rfl
  | true =>
  have hE := hE rfl
  rw [if_neg (by simp), aIf_if]
  by_cases hs : s.length ≤ 100
  rotate_left
  · rw [if_pos (by simp; omega)]
  rw [if_neg (by simp; omega), F18_v (N := 400) hE (by decide) (fun _ => hs), onSome_ok]
  simp only [aIf_if, aGd_if]
  rw [if_pos (by simp)]
  by_cases hc : (parV s k e E).2 = 0
  · obtain ⟨n, h1, h2, h3⟩ := cn hc
    rw [h1]
    simp [F16_v (N := 400) hE (by decide), onSome_ok, F22_v (N := 400) hE, h2, h3, fmtV_code.2 h2]
  · rw [if_pos (by simpa using hc)]
    have : (parV s k e E).1 = (0, 0, 0) := by
      unfold parV at hc ⊢
      split
      · rfl
      split
      · rfl
      split
      · rfl
      · rename_i a b c
        rw [if_neg a, if_neg b, if_neg c] at hc
        exact absurd rfl hc
    rw [this]
    simp
theorem fmtV_inj {k e n m : Int} {E : List EnT} (h6 : k ≠ 6) (hn : vv n k e E = true) (hm : vv m k e E = true) (h : (fmtV k e n E).1 = (fmtV k e m E).1) : n = m := by
  obtain ⟨a, h1, h2⟩ := rt hn
  obtain ⟨b, h3, h4⟩ := rt hm
  rw [h, h3] at h1
  simp only [Prod.mk.injEq, and_true] at h1
  rcases h2 with h2 | ⟨h2, _⟩
  · rcases h4 with h4 | ⟨h4, _⟩
    · omega
    · exact absurd h4 h6
  · exact absurd h2 h6
theorem F7_true (k e n m : Int) (E : List EnT) : F7 400 ((k, e), (n, m), ensPV E) = some true := by
  obtain ⟨b, hb, hE⟩ := F14_v (N := 400) (E := E) (by decide)
  rw [F7_eq, hb, onSome_ok, aIf_if, aw]
  cases b with
  | false => rfl
  | true =>
  have hE := hE rfl
  rw [if_neg (by simp)]
  simp only [aIf_if, aGd_if]
  rw [if_pos (by simp), if_pos (by simp), F16_v (N := 400) hE (by decide), onSome_ok, F16_v (N := 400) hE (by decide), onSome_ok]
  simp only [F20_v (N := 400) hE, onSome_ok]
  have c1 := fmtV_code (k := k) (e := e) (n := n) (E := E)
  have c2 := fmtV_code (k := k) (e := e) (n := m) (E := E)
  have e1 : ((fmtV k e n E).2 == (0 : Int)) = vv n k e E := by
    cases hv : vv n k e E with
    | true => simpa using c1.2 hv
    | false => simp only [beq_eq_false_iff_ne]; intro h; rw [c1.1 h] at hv; cases hv
  have e2 : ((fmtV k e m E).2 == (0 : Int)) = vv m k e E := by
    cases hv : vv m k e E with
    | true => simpa using c2.2 hv
    | false => simp only [beq_eq_false_iff_ne]; intro h; rw [c2.1 h] at hv; cases hv
  simp only [bne, e1, e2]
  cases hn : vv n k e E with
  | false => cases hm : vv m k e E <;> simp
  | true =>
    cases hm : vv m k e E with
    | false => simp
    | true =>
      by_cases h : n = m
      · subst h; simp
      · by_cases h6 : k = 6
        · simp [h, h6]
        · have : ¬ (fmtV k e n E).1 = (fmtV k e m E).1 := fun he => h (fmtV_inj h6 hn hm he)
          simp [h, h6, this]
end Go.Proofs.YtaapljpfhgahbaaDoor
