/- The law of the dates' round trip, plainly and run. -/
import Derived.Test.YtfhlignhdnhmlaaDoorRdb
import Derived.Test.YtfhlignhdnhmlaaDoorOpc
set_option linter.unusedSimpArgs false
set_option linter.unusedVariables false
namespace Go.Proofs.YtfhlignhdnhmlaaDoor
open Go.RowKit
set_option maxRecDepth 100000
attribute [local irreducible] Calls

/-- The day after. -/
theorem next_day {n : Int} (hv : vdB n = true) (h : n < 109572) :
    (toD n < dim (toY n) (toM n) ∧ toR (n + 1) = (toY n, toM n, toD n + 1)) ∨
    (toD n = dim (toY n) (toM n) ∧ toM n < 12 ∧ toR (n + 1) = (toY n, toM n + 1, 1)) ∨
    (toD n = dim (toY n) (toM n) ∧ toM n = 12 ∧ toR (n + 1) = (toY n + 1, 1, 1)) := by
  obtain ⟨t1, t2⟩ := to_spec hv
  obtain ⟨g1, g2, g3, g4, g5, g6⟩ := ymd_true t1
  obtain ⟨h0, h1⟩ := vdB_true hv
  have hv2 : vdB (n + 1) = true := vdB_mk (by omega) (by omega)
  have key : ∀ y m d, ymdB y m d = true → num y m d = n + 1 → toR (n + 1) = (y, m, d) := fun y m d hb hn => by
    obtain ⟨e1, e2, e3⟩ := to_of hb hn
    unfold toR
    rw [if_pos hv2, e1, e2, e3]
  by_cases hd : toD n < dim (toY n) (toM n)
  · refine .inl ⟨hd, key _ _ _ ?_ ?_⟩
    · simp only [ymdB, Bool.and_eq_true, decide_eq_true_eq]; omega
    · unfold num at *; omega
  · have hc := cum_succ (y := toY n) g3 g4
    by_cases hm : toM n < 12
    · refine .inr (.inl ⟨by omega, hm, key _ _ _ ?_ ?_⟩)
      · have := dim_bd (y := toY n) (m := toM n + 1) (by omega) (by omega)
        simp only [ymdB, Bool.and_eq_true, decide_eq_true_eq]; omega
      · unfold num at *; omega
    · have hm12 : toM n = 12 := by omega
      have hdd : toD n = dim (toY n) (toM n) := by omega
      have hs := dby_succ (toY n)
      have h13 := cum_13 (toY n)
      rw [hm12] at hc hdd t2
      rw [show (12 : Int) + 1 = 13 from rfl] at hc
      have hn1 : dby (toY n + 1) = n + 1 := by unfold num at t2; omega
      have hy : toY n + 1 ≤ 2199 := by
        by_cases e : toY n = 2199
        · rw [e, show (2199 : Int) + 1 = 2200 from rfl, dby_2200] at hn1; omega
        · omega
      refine .inr (.inr ⟨by rw [hm12]; exact hdd, hm12, key _ _ _ ?_ ?_⟩)
      · have := dim_bd (y := toY n + 1) (m := 1) (by omega) (by omega)
        simp only [ymdB, Bool.and_eq_true, decide_eq_true_eq]; omega
      · unfold num; rw [cum_1]; omega
theorem F12_true (n : Int) : F12 400 n = some true := by
  have hN : 300 < 400 := by decide
  rw [F12_eq]
  simp only [F30_d hN, F45_d hN, F39_d, F28_d hN, F43_d hN, F34_d, onSome_ok, aIf_if, decide_eq_true_eq]
  by_cases h0 : n < 0
  · have hv : vdB n = false := by simp [vdB]; omega
    rw [if_pos h0]; simp [toR, fmtD, wdR, hv]
  by_cases h1 : 109572 < n
  · have hv : vdB n = false := by simp [vdB]; omega
    rw [if_neg h0, if_pos h1]; simp [toR, fmtD, wdR, hv]
  have hv : vdB n = true := vdB_mk (by omega) (by omega)
  obtain ⟨t1, t2⟩ := to_spec hv
  obtain ⟨g1, g2, g3, g4, g5, g6⟩ := ymd_true t1
  have hr : toR n = (toY n, toM n, toD n) := by simp [toR, hv]
  have hf : fromR (toY n) (toM n) (toD n) = (n, 0) := by unfold fromR; rw [if_pos t1, t2]
  rw [if_neg h0, if_neg h1, hr]
  dsimp only
  rw [hf, fmtD_parse hv]
  dsimp only
  rw [if_neg (by simp), if_neg (by simp), if_neg (by simp), if_neg (by simp), if_neg (by omega), if_neg (by omega)]
  by_cases h9 : n = 109572
  · rw [if_pos (by simp [h9])]
  rw [if_neg (by simpa using h9), w64 (x := n + 1) (by omega) (by omega)]
  have hv2 : vdB (n + 1) = true := vdB_mk (by omega) (by omega)
  have hw1 : wdR n = n % 7 := by simp [wdR, hv]
  have hw2 : wdR (n + 1) = (n + 1) % 7 := by simp [wdR, hv2]
  have hw : (n + 1) % 7 = Int.tmod (IntKind.i64.wrap (n % 7 + 1)) 7 := by
    rw [w64 (by omega) (by omega), Int.tmod_eq_emod_of_nonneg (by omega)]; omega
  have wd : IntKind.i64.wrap (toD n + 1) = toD n + 1 := by
    have := dim_bd (y := toY n) g3 g4
    exact w64 (by omega) (by omega)
  have wm : IntKind.i64.wrap (toM n + 1) = toM n + 1 := w64 (by omega) (by omega)
  have wy : IntKind.i64.wrap (toY n + 1) = toY n + 1 := w64 (by omega) (by omega)
  rw [hw1, hw2, ← hw, wd, wm, wy]
  rcases next_day hv (by omega) with ⟨e1, e2⟩ | ⟨e1, e3, e2⟩ | ⟨e1, e3, e2⟩
  · rw [e2]; simp
  · rw [e2]; simp [e1]
  · rw [e2]; simp [e1, e3]
theorem open_int {x : List PV} (h : okL (tys Tryd.prog 8 3) x) : ∃ k, mkEl Tryd.prog 3 x = .int .i64 k ∧ (Lit.int .i64 k).wf = true := by
  rw [show tys Tryd.prog 8 3 = [.int .i64] by kernel_rfl] at h
  obtain ⟨_, _, rfl, h0, h⟩ := okL_cons h
  obtain rfl := okL_nil h
  obtain ⟨k, rfl, hw⟩ := ok_int h0
  exact ⟨k, by kernel_rfl, hw⟩
theorem run_DateRoundTrip (d : Int) : (C12 400).run [.int .i64 d] some = some (.bool true) := by
  have hr : (C12 400).run [.int .i64 d] some = onSome (F12 400 d) (fun y => some (PV.bool y)) := by kernel_rfl
  rw [hr, F12_true, onSome_ok]
theorem c_DateRoundTrip {W : World} {x0 : List PV} {v0 : Value} (ht : Gd W) (r0 : VRel (fun b => b < W.heap.size) W (mkEl Tryd.prog 3 x0) v0) (k0 : okL (tys Tryd.prog 8 3) x0) :
    Calls Tryd.prog 12 #[v0] W (Ret (.bool true) W) := by
  obtain ⟨n0, h0, _⟩ := open_int k0
  rw [h0] at r0
  exact call_open1 (S12 400) (run_DateRoundTrip n0) ht r0
end Go.Proofs.YtfhlignhdnhmlaaDoor
