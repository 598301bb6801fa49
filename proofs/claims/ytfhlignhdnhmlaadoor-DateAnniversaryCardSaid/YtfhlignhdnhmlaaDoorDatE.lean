/- Anniversaries, plainly; the laws of package date, run. -/
import Derived.Test.YtfhlignhdnhmlaaDoorRdb
import Derived.Test.YtfhlignhdnhmlaaDoorOpc
set_option linter.unusedSimpArgs false
set_option linter.unusedVariables false
namespace Go.Proofs.YtfhlignhdnhmlaaDoor
open Go.RowKit
set_option maxRecDepth 100000
attribute [local irreducible] Calls

theorem ybR_out {a b : Int} (h : a < 0 ∨ 109572 < b ∨ b < a) : ybR a b = 0 := by
  unfold ybR
  cases ha : vdB a
  · rfl
  cases hb : vdB b
  · rfl
  have := vdB_true ha
  have := vdB_true hb
  rw [if_neg (by simp), if_neg (by simp), if_pos (by omega)]
theorem F10_true (a b : Int) : F10 400 (a, b) = some true := by
  rw [F10_eq, F41_d (by decide), onSome_ok]
  simp only [aIf_if, decide_eq_true_eq]
  by_cases h0 : a < 0
  · rw [if_pos h0, ybR_out (.inl h0)]; rfl
  by_cases h1 : 109572 < b
  · rw [if_neg h0, if_pos h1, ybR_out (.inr (.inl h1))]; rfl
  by_cases h2 : b < a
  · rw [if_neg h0, if_neg h1, if_pos h2, ybR_out (.inr (.inr h2))]; rfl
  have ha : vdB a = true := by simp [vdB]; omega
  have hb : vdB b = true := by simp [vdB]; omega
  have hy := ybR_bd (a := a) (b := b)
  obtain ⟨s1, s2, s3⟩ := ybR_spec ha hb (by omega)
  rw [if_neg h0, if_neg h1, if_neg h2, if_neg (by omega), if_neg (by omega), w64 (x := 12 * ybR a b) (by omega) (by omega), w64 (x := 12 * ybR a b + 12) (by omega) (by omega), F37_d (by decide), onSome_ok, F37_d (by decide), onSome_ok, (addMR_ok ha hy.1 s1).1]
  dsimp only
  rw [if_pos (by simp), if_pos (by simpa using s2)]
  rw [show 12 * ybR a b + 12 = 12 * (ybR a b + 1) by omega]
  by_cases hl : 2199 < toY a + (ybR a b + 1)
  · rw [addMR_late ha (by omega) hl, if_pos (by simp)]
  · have e := (addMR_ok ha (n := ybR a b + 1) (by omega) (by omega)).1
    rw [e]
    dsimp only
    rw [if_neg (by simp), if_pos (by omega)]
theorem open_int {x : List PV} (h : okL (tys Tryd.prog 8 3) x) : ∃ k, mkEl Tryd.prog 3 x = .int .i64 k ∧ (Lit.int .i64 k).wf = true := by
  rw [show tys Tryd.prog 8 3 = [.int .i64] by kernel_rfl] at h
  obtain ⟨_, _, rfl, h0, h⟩ := okL_cons h
  obtain rfl := okL_nil h
  obtain ⟨k, rfl, hw⟩ := ok_int h0
  exact ⟨k, by kernel_rfl, hw⟩
theorem run_DateAnniversary (d m : Int) : (C10 400).run [.int .i64 d, .int .i64 m] some = some (.bool true) := by
  have hr : (C10 400).run [.int .i64 d, .int .i64 m] some = onSome (F10 400 (d, m)) (fun y => some (PV.bool y)) := by kernel_rfl
  rw [hr, F10_true, onSome_ok]
theorem c_DateAnniversary {W : World} {x0 x1 : List PV} {v0 v1 : Value} (ht : Gd W) (r0 : VRel (fun b => b < W.heap.size) W (mkEl Tryd.prog 3 x0) v0) (k0 : okL (tys Tryd.prog 8 3) x0) (r1 : VRel (fun b => b < W.heap.size) W (mkEl Tryd.prog 3 x1) v1) (k1 : okL (tys Tryd.prog 8 3) x1) :
    Calls Tryd.prog 10 #[v0, v1] W (Ret (.bool true) W) := by
  obtain ⟨n0, h0, _⟩ := open_int k0
  obtain ⟨n1, h1, _⟩ := open_int k1
  rw [h0] at r0
  rw [h1] at r1
  exact call_open2 (S10 400) (run_DateAnniversary n0 n1) ht r0 r1
end Go.Proofs.YtfhlignhdnhmlaaDoor
