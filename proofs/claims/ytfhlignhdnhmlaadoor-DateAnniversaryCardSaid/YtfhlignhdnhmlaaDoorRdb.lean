/- The pure reading of the laws of package date (printed by a program of mine; each line is proved by the kernel's evaluation). -/
import Derived.Test.YtfhlignhdnhmlaaDoorDatC
import Derived.Test.YtfhlignhdnhmlaaDoorProg
set_option linter.unusedSimpArgs false
set_option linter.unusedVariables false
set_option maxRecDepth 100000
namespace Go.Proofs.YtfhlignhdnhmlaaDoor
open Go.RowKit

-- function 36
def A36 : Cods (Unit) := codsNil
def R36 : Cod (Bool) := codBool
noncomputable def E36 (N : Nat) : Env := ⟨Tryd.prog, [(28, C28 N), (37, C37 N), (45, C45 N), (41, C41 N), (39, C39 N), (32, C32 N), (34, C34 N)]⟩
def O36 (N : Nat) : Opts := ⟨N, [], []⟩
noncomputable def F36 (N : Nat) (a : Unit) : Option (Bool) := aTyped (E36 N) (O36 N) Tryd.f36 A36 R36 a
theorem F36_eq (N : Nat)  : F36 N () =
    onSome (F28 N ((2024 : Int), (2 : Int), (29 : Int))) fun y0 =>
  onSome (F37 N (Prod.fst y0, (12 : Int))) fun y1 =>
    onSome (F28 N ((2000 : Int), (2 : Int), (29 : Int))) fun y2 =>
      onSome (F28 N ((2001 : Int), (2 : Int), (28 : Int))) fun y3 =>
        aIf (Prod.snd y0 == (0 : Int))
          (aIf (Prod.snd y1 == (0 : Int))
            (aIf (Prod.snd y2 == (0 : Int))
              (aIf (Prod.snd y3 == (0 : Int))
                (onSome (F45 N (Prod.fst y1)) fun y4 =>
                  aIf (y4 == [(50 : UInt8), (48 : UInt8), (50 : UInt8), (53 : UInt8), (45 : UInt8), (48 : UInt8), (50 : UInt8), (45 : UInt8), (50 : UInt8), (56 : UInt8)])
                    (onSome (F41 N (Prod.fst y2, Prod.fst y3)) fun y5 =>
                      aIf (y5 == (1 : Int))
                        (onSome (F41 N (Prod.fst y2, IntKind.wrap IntKind.i64 (Prod.fst y3 - (1 : Int)))) fun y6 =>
                          aIf (y6 == (0 : Int))
                            (onSome (F39 N (0 : Int)) fun y7 =>
                              aIf (y7 == (0 : Int))
                                (onSome (F32 N (2000 : Int)) fun y8 =>
                                  aIf y8
                                    (onSome (F32 N (1900 : Int)) fun y9 => aIf (!y9) (onSome (F34 N ((1900 : Int), (2 : Int))) fun y10 => some (y10 == (28 : Int))) (some false))
                                    (some false))
                                (some false))
                            (some false))
                        (some false))
                    (some false))
                (some false))
              (some false))
            (some false))
          (some false) := by kernel_rfl
def G36 (a : Unit) : Option (Bool) := some true
theorem F36_true : F36 400 () = some true := by
  rw [F36_eq]
  simp only [F28_d (show 300 < 400 by decide), F37_d (show 300 < 400 by decide), F45_d (show 300 < 400 by decide), F41_d (show 300 < 400 by decide), F39_d, F32_d, F34_d, onSome_ok]
  kernel_rfl
theorem K36 : F36 400 = G36 := funext fun _ => F36_true
noncomputable def C36 (N : Nat) : Callee := mkCallee A36 R36 G36
theorem S36 (N : Nat) : Cok 36 (C36 N) := by
  unfold C36
  rw [← K36]
  exact cok_of (l := (E36 400).calls) (O := O36 400) (cok_cons (S28 400) (cok_cons (S37 400) (cok_cons (S45 400) (cok_cons (S41 400) (cok_cons (S39 400) (cok_cons (S32 400) (cok_cons (S34 400) cok_nil))))))) rfl Tryd.func36 rfl (by kernel_rfl) (by kernel_rfl)

-- function 10
def A10 : Cods ((Int) × Int) := (codsCons (codInt .i64) (codsOne (codInt .i64)))
def R10 : Cod (Bool) := codBool
noncomputable def E10 (N : Nat) : Env := ⟨Tryd.prog, [(41, C41 N), (36, C36 N), (37, C37 N)]⟩
def O10 (N : Nat) : Opts := ⟨N, [], []⟩
noncomputable def F10 (N : Nat) (a : (Int) × Int) : Option (Bool) := aTyped (E10 N) (O10 N) Tryd.f10 A10 R10 a
theorem F10_eq (N : Nat) (a0 : Int) (a1 : Int) : F10 N (a0, a1) =
    onSome (F41 N (a0, a1)) fun y0 =>
  aIf (decide (a0 < (0 : Int))) (aIf (y0 == (0 : Int)) (some true) (some false))
    (aIf (decide ((109572 : Int) < a1)) (aIf (y0 == (0 : Int)) (some true) (some false))
      (aIf (decide (a1 < a0)) (aIf (y0 == (0 : Int)) (some true) (some false))
        (aIf (decide (y0 < (0 : Int))) (some false)
          (aIf (decide ((300 : Int) < y0)) (some false)
            (onSome (F37 N (a0, IntKind.wrap IntKind.i64 ((12 : Int) * y0))) fun y1 =>
              onSome (F37 N (a0, IntKind.wrap IntKind.i64 (IntKind.wrap IntKind.i64 ((12 : Int) * y0) + (12 : Int)))) fun y2 =>
                aIf (Prod.snd y1 == (0 : Int))
                  (aIf (decide (Prod.fst y1 ≤ a1)) (aIf (Prod.snd y2 != (0 : Int)) (some true) (aIf (decide (a1 < Prod.fst y2)) (some true) (some false))) (some false))
                  (some false)))))) := by kernel_rfl
noncomputable def C10 (N : Nat) : Callee := mkCallee A10 R10 (F10 N)
theorem S10 (N : Nat) : Cok 10 (C10 N) := cok_of (l := (E10 N).calls) (O := O10 N) (cok_cons (S41 N) (cok_cons (S36 N) (cok_cons (S37 N) cok_nil))) rfl Tryd.func10 rfl (by kernel_rfl) (by kernel_rfl)

end Go.Proofs.YtfhlignhdnhmlaaDoor
