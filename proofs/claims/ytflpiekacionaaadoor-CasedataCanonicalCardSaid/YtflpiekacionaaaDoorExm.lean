/- The reference's decimal digits (a function that calls itself). -/
import Derived.Test.YtflpiekacionaaaDoorExl
set_option linter.unusedSimpArgs false
set_option linter.unusedVariables false
namespace Go.Proofs.YtflpiekacionaaaDoor
open Go.RowKit
attribute [local irreducible] Calls
theorem conv1 (W : World) (b : Nat) (x : Nat) (h : W.cell? ⟨b, 0, none⟩ = some (.int .u8 (x : Int))) :
    (convert 73 9 (.slice (some ⟨b, 0, none⟩) 1 1)).run Tryd.prog W = .ok (.string ⟨[UInt8.ofNat x].toArray⟩) W := by
  have := run_convert_bytes_arg (P := Tryd.prog) W 73 5 Tryd.underlying73 Tryd.underlying5 b 0 1 1 [(x : Int)] rfl
    (fun i hi => by
      have : i = 0 := by omega
      subst this; simpa using h) 9 Tryd.underlying9
  rw [this]; rfl

set_option maxRecDepth 100000 in
set_option maxHeartbeats 1000000 in
theorem c_ref01_digits : ∀ (n : Nat) (w : World), n < 18446744073709551616 → Calls Tryd.prog 79 #[.int .u64 n] w (Ret (bs (Lib.decDigits n)) w) := by
  intro n
  induction n using Nat.strongRecOn with
  | _ n ih =>
    intro w hn
    by_cases h : n < 10
    · have hr := hid (show Lib.decDigits n = [UInt8.ofNat (48 + n)] by rw [Lib.decDigits, dif_pos h])
      have hcv := fun (W : World) (b : Nat) (hc : W.cell? ⟨b, 0, none⟩ = some (.int .u8 (48 + (n : Int)))) => conv1 W b (48 + n) (by rw [hc]; simp)
      clear ih hn
      go_enter Tryd.func79, Tryd.ntmps79
      go_wp2
      go_ret
      exact ⟨by rw [hr.out] <;> simp, (by repeat (first | with_reducible exact Below.refl _ _ | with_reducible refine B_ext ?_ _ | with_reducible refine B_alloc ?_ _ | with_reducible refine Below.drew ?_ | with_reducible refine B_set ?_ _ _ _))⟩
    · have hr := hid (show Lib.decDigits n = Lib.decDigits (n / 10) ++ [UInt8.ofNat (48 + n % 10)] by rw [Lib.decDigits, dif_neg h])
      have hcv := fun (W : World) (b : Nat) (hc : W.cell? ⟨b, 0, none⟩ = some (.int .u8 (48 + (n : Int) % 10))) => conv1 W b (48 + n % 10) (by rw [hc]; simp)
      have hl := (decDigits_len 18 (n / 10) (by omega)).2
      have hih : ∀ W, Calls Tryd.prog 79 #[.int .u64 ((n : Int) / 10)] W (Ret (bs (Lib.decDigits (n / 10))) W) := fun W => by
        have := ih (n / 10) (by omega) W (by omega)
        rwa [show ((n / 10 : Nat) : Int) = (n : Int) / 10 by omega] at this
      replace hih := hid hih
      have e1 : IntKind.u64.wrap ((n : Int) / 10) = (n : Int) / 10 := by simp [IntKind.wrap, IntKind.bits, IntKind.signed]; omega
      have e2 : IntKind.u64.wrap (48 + (n : Int) % 10) = 48 + (n : Int) % 10 := by simp [IntKind.wrap, IntKind.bits, IntKind.signed]; omega
      have e3 : IntKind.u8.wrap (48 + (n : Int) % 10) = 48 + (n : Int) % 10 := by simp [IntKind.wrap, IntKind.bits, IntKind.signed]; omega
      have e0 : (n : Int).tmod 10 = (n : Int) % 10 := Int.tmod_eq_emod_of_nonneg (by omega)
      have e4 : IntKind.u64.wrap ((n : Int) % 10) = (n : Int) % 10 := by simp [IntKind.wrap, IntKind.bits, IntKind.signed]; omega
      clear ih hn
      go_enter Tryd.func79, Tryd.ntmps79
      go_wp2_with fail
      go_region_with (first | (go_at_call 79; refine (hih.out _).mono ?_; intro e w' hh; obtain ⟨rfl, yw, rfl⟩ := Ret.ext hh))
      all_goals go_wp2
      all_goals go_ret
      all_goals exact ⟨by rw [hr.out]; simp [ba_append] <;> rfl, (by repeat (first | with_reducible exact Below.refl _ _ | with_reducible refine B_ext ?_ _ | with_reducible refine B_alloc ?_ _ | with_reducible refine Below.drew ?_ | with_reducible refine B_set ?_ _ _ _))⟩

def A79 : Cods Int := codsOne (codInt .u64)
def R79 : Cod (List UInt8) := codStr
def F79 (N : Nat) (a : Int) : Option (List UInt8) := aGd (decide (0 ≤ a)) (aGd (decide (a < 18446744073709551616)) (some (decF 20 a.toNat)))
def C79 (N : Nat) : Callee := mkCallee A79 R79 (F79 N)
theorem S79 (N : Nat) : Cok 79 (C79 N) := by
  refine cok_lib Tryd.func79 (by kernel_rfl) (by kernel_rfl) fun a y hy S w vs hS hG hl hv => ?_
  simp only [F79, aGd_some, decide_eq_true_eq, Option.some.injEq] at hy
  obtain ⟨h0, h1, rfl⟩ := hy
  match vs, hl with
  | [v], _ =>
    have h2 := hv 0 _ v rfl rfl
    cases h2
    obtain ⟨n, rfl⟩ := Int.eq_ofNat_of_zero_le h0
    refine (c_ref01_digits n w (by omega)).mono fun e w' hh => ?_
    obtain ⟨rfl, hb⟩ := hh
    have : decF 20 (n : Int).toNat = Lib.decDigits n := decF_eq 20 n (by omega) (by omega)
    rw [this]
    exact ⟨_, S, rfl, hb, fun _ h => h, fun _ h => .inl h, fun g hg => Nat.lt_of_lt_of_le (hS g hg) hb.size, .str _⟩
end Go.Proofs.YtflpiekacionaaaDoor
