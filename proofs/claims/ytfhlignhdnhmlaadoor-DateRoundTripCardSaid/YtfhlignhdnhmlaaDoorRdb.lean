/- The pure reading of the laws of package date (printed by a program of mine; each line is proved by the kernel's evaluation). -/
import Derived.Test.YtfhlignhdnhmlaaDoorDatC
import Derived.Test.YtfhlignhdnhmlaaDoorProg
set_option linter.unusedSimpArgs false
set_option linter.unusedVariables false
set_option maxRecDepth 100000
namespace Go.Proofs.YtfhlignhdnhmlaaDoor
open Go.RowKit

-- function 36
def A36 : Cods (Unit) := codsNil
def R36 : Cod (Bool) := codBool
noncomputable def E36 (N : Nat) : Env := ⟨Tryd.prog, [(28, C28 N), (37, C37 N), (45, C45 N), (41, C41 N), (39, C39 N), (32, C32 N), (34, C34 N)]⟩
def O36 (N : Nat) : Opts := ⟨N, [], []⟩
noncomputable def F36 (N : Nat) (a : Unit) : Option (Bool) := aTyped (E36 N) (O36 N) Tryd.f36 A36 R36 a
theorem F36_eq (N : Nat)  : F36 N () =
    onSome (F28 N ((2024 : Int), (2 : Int), (29 : Int))) fun y0 =>
  onSome (F37 N (Prod.fst y0, (12 : Int))) fun y1 =>
    onSome (F28 N ((2000 : Int), (2 : Int), (29 : Int))) fun y2 =>
      onSome (F28 N ((2001 : Int), (2 : Int), (28 : Int))) fun y3 =>
        aIf (Prod.snd y0 == (0 : Int))
          (aIf (Prod.snd y1 == (0 : Int))
            (aIf (Prod.snd y2 == (0 : Int))
              (aIf (Prod.snd y3 == (0 : Int))
                (onSome (F45 N (Prod.fst y1)) fun y4 =>
                  aIf (y4 == [(50 : UInt8), (48 : UInt8), (50 : UInt8), (53 : UInt8), (45 : UInt8), (48 : UInt8), (50 : UInt8), (45 : UInt8), (50 : UInt8), (56 : UInt8)])
                    (onSome (F41 N (Prod.fst y2, Prod.fst y3)) fun y5 =>
                      aIf (y5 == (1 : Int))
                        (onSome (F41 N (Prod.fst y2, IntKind.wrap IntKind.i64 (Prod.fst y3 - (1 : Int)))) fun y6 =>
                          aIf (y6 == (0 : Int))
                            (onSome (F39 N (0 : Int)) fun y7 =>
                              aIf (y7 == (0 : Int))
                                (onSome (F32 N (2000 : Int)) fun y8 =>
                                  aIf y8
                                    (onSome (F32 N (1900 : Int)) fun y9 => aIf (!y9) (onSome (F34 N ((1900 : Int), (2 : Int))) fun y10 => some (y10 == (28 : Int))) (some false))
                                    (some false))
                                (some false))
                            (some false))
                        (some false))
                    (some false))
                (some false))
              (some false))
            (some false))
          (some false) := by kernel_rfl
def G36 (a : Unit) : Option (Bool) := some true
theorem F36_true : F36 400 () = some true := by
  rw [F36_eq]
  simp only [F28_d (show 300 < 400 by decide), F37_d (show 300 < 400 by decide), F45_d (show 300 < 400 by decide), F41_d (show 300 < 400 by decide), F39_d, F32_d, F34_d, onSome_ok]
  kernel_rfl
theorem K36 : F36 400 = G36 := funext fun _ => F36_true
noncomputable def C36 (N : Nat) : Callee := mkCallee A36 R36 G36
theorem S36 (N : Nat) : Cok 36 (C36 N) := by
  unfold C36
  rw [← K36]
  exact cok_of (l := (E36 400).calls) (O := O36 400) (cok_cons (S28 400) (cok_cons (S37 400) (cok_cons (S45 400) (cok_cons (S41 400) (cok_cons (S39 400) (cok_cons (S32 400) (cok_cons (S34 400) cok_nil))))))) rfl Tryd.func36 rfl (by kernel_rfl) (by kernel_rfl)

-- function 10
def A10 : Cods ((Int) × Int) := (codsCons (codInt .i64) (codsOne (codInt .i64)))
def R10 : Cod (Bool) := codBool
noncomputable def E10 (N : Nat) : Env := ⟨Tryd.prog, [(41, C41 N), (36, C36 N), (37, C37 N)]⟩
def O10 (N : Nat) : Opts := ⟨N, [], []⟩
noncomputable def F10 (N : Nat) (a : (Int) × Int) : Option (Bool) := aTyped (E10 N) (O10 N) Tryd.f10 A10 R10 a
theorem F10_eq (N : Nat) (a0 : Int) (a1 : Int) : F10 N (a0, a1) =
    onSome (F41 N (a0, a1)) fun y0 =>
  aIf (decide (a0 < (0 : Int))) (aIf (y0 == (0 : Int)) (some true) (some false))
    (aIf (decide ((109572 : Int) < a1)) (aIf (y0 == (0 : Int)) (some true) (some false))
      (aIf (decide (a1 < a0)) (aIf (y0 == (0 : Int)) (some true) (some false))
        (aIf (decide (y0 < (0 : Int))) (some false)
          (aIf (decide ((300 : Int) < y0)) (some false)
            (onSome (F37 N (a0, IntKind.wrap IntKind.i64 ((12 : Int) * y0))) fun y1 =>
              onSome (F37 N (a0, IntKind.wrap IntKind.i64 (IntKind.wrap IntKind.i64 ((12 : Int) * y0) + (12 : Int)))) fun y2 =>
                aIf (Prod.snd y1 == (0 : Int))
                  (aIf (decide (Prod.fst y1 ≤ a1)) (aIf (Prod.snd y2 != (0 : Int)) (some true) (aIf (decide (a1 < Prod.fst y2)) (some true) (some false))) (some false))
                  (some false)))))) := by kernel_rfl
noncomputable def C10 (N : Nat) : Callee := mkCallee A10 R10 (F10 N)
theorem S10 (N : Nat) : Cok 10 (C10 N) := cok_of (l := (E10 N).calls) (O := O10 N) (cok_cons (S41 N) (cok_cons (S36 N) (cok_cons (S37 N) cok_nil))) rfl Tryd.func10 rfl (by kernel_rfl) (by kernel_rfl)

-- function 12
def A12 : Cods (Int) := (codsOne (codInt .i64))
def R12 : Cod (Bool) := codBool
noncomputable def E12 (N : Nat) : Env := ⟨Tryd.prog, [(30, C30 N), (45, C45 N), (39, C39 N), (36, C36 N), (28, C28 N), (43, C43 N), (34, C34 N)]⟩
def O12 (N : Nat) : Opts := ⟨N, [], []⟩
noncomputable def F12 (N : Nat) (a : Int) : Option (Bool) := aTyped (E12 N) (O12 N) Tryd.f12 A12 R12 a
theorem F12_eq (N : Nat) (a0 : Int) : F12 N a0 =
    onSome (F30 N a0) fun y0 =>
  aIf (decide (a0 < (0 : Int)))
    (aIf (Prod.fst y0 == (0 : Int))
      (aIf (Prod.fst (Prod.snd y0) == (0 : Int))
        (aIf (Prod.snd (Prod.snd y0) == (0 : Int))
          (onSome (F45 N a0) fun y1 => aIf (y1 == []) (onSome (F39 N a0) fun y2 => aIf (y2 == (-1 : Int)) (some true) (some false)) (some false)) (some false))
        (some false))
      (some false))
    (aIf (decide ((109572 : Int) < a0))
      (aIf (Prod.fst y0 == (0 : Int))
        (aIf (Prod.fst (Prod.snd y0) == (0 : Int))
          (aIf (Prod.snd (Prod.snd y0) == (0 : Int))
            (onSome (F45 N a0) fun y3 => aIf (y3 == []) (onSome (F39 N a0) fun y4 => aIf (y4 == (-1 : Int)) (some true) (some false)) (some false)) (some false))
          (some false))
        (some false))
      (onSome (F28 N (Prod.fst y0, Prod.fst (Prod.snd y0), Prod.snd (Prod.snd y0))) fun y5 =>
        onSome (F45 N a0) fun y6 =>
          onSome (F43 N y6) fun y7 =>
            aIf (Prod.fst y5 != a0) (some false)
              (aIf (Prod.fst y7 != a0) (some false)
                (aIf (Prod.snd y5 != (0 : Int)) (some false)
                  (aIf (Prod.snd y7 != (0 : Int)) (some false)
                    (aIf (decide (Prod.snd (Prod.snd y0) < (1 : Int))) (some false)
                      (onSome (F34 N (Prod.fst y0, Prod.fst (Prod.snd y0))) fun y8 =>
                        aIf (decide (y8 < Prod.snd (Prod.snd y0))) (some false)
                          (aIf (a0 == (109572 : Int)) (some true)
                            (onSome (F30 N (IntKind.wrap IntKind.i64 (a0 + (1 : Int)))) fun y9 =>
                              aIf (Prod.fst y9 == Prod.fst y0)
                                (aIf (Prod.fst (Prod.snd y9) == Prod.fst (Prod.snd y0))
                                  (aIf (Prod.snd (Prod.snd y9) == IntKind.wrap IntKind.i64 (Prod.snd (Prod.snd y0) + (1 : Int)))
                                    (onSome (F39 N (IntKind.wrap IntKind.i64 (a0 + (1 : Int)))) fun y10 =>
                                      onSome (F39 N a0) fun y11 => aIf (y10 == Int.tmod (IntKind.wrap IntKind.i64 (y11 + (1 : Int))) (7 : Int)) (some true) (some false))
                                    (onSome (F34 N (Prod.fst y0, Prod.fst (Prod.snd y0))) fun y12 =>
                                      aIf (Prod.snd (Prod.snd y0) == y12)
                                        (aIf (Prod.snd (Prod.snd y9) == (1 : Int))
                                          (aIf (Prod.fst y9 == Prod.fst y0)
                                            (aIf (Prod.fst (Prod.snd y9) == IntKind.wrap IntKind.i64 (Prod.fst (Prod.snd y0) + (1 : Int)))
                                              (onSome (F39 N (IntKind.wrap IntKind.i64 (a0 + (1 : Int)))) fun y13 =>
                                                onSome (F39 N a0) fun y14 => aIf (y13 == Int.tmod (IntKind.wrap IntKind.i64 (y14 + (1 : Int))) (7 : Int)) (some true) (some false))
                                              (aIf (Prod.fst (Prod.snd y0) == (12 : Int))
                                                (aIf (Prod.fst (Prod.snd y9) == (1 : Int))
                                                  (aIf (Prod.fst y9 == IntKind.wrap IntKind.i64 (Prod.fst y0 + (1 : Int)))
                                                    (onSome (F39 N (IntKind.wrap IntKind.i64 (a0 + (1 : Int)))) fun y15 =>
                                                      onSome (F39 N a0) fun y16 =>
                                                        aIf (y15 == Int.tmod (IntKind.wrap IntKind.i64 (y16 + (1 : Int))) (7 : Int)) (some true) (some false))
                                                    (some false))
                                                  (some false))
                                                (some false)))
                                            (aIf (Prod.fst (Prod.snd y0) == (12 : Int))
                                              (aIf (Prod.fst (Prod.snd y9) == (1 : Int))
                                                (aIf (Prod.fst y9 == IntKind.wrap IntKind.i64 (Prod.fst y0 + (1 : Int)))
                                                  (onSome (F39 N (IntKind.wrap IntKind.i64 (a0 + (1 : Int)))) fun y17 =>
                                                    onSome (F39 N a0) fun y18 =>
                                                      aIf (y17 == Int.tmod (IntKind.wrap IntKind.i64 (y18 + (1 : Int))) (7 : Int)) (some true) (some false))
                                                  (some false))
                                                (some false))
                                              (some false)))
                                          (some false))
                                        (some false)))
                                  (onSome (F34 N (Prod.fst y0, Prod.fst (Prod.snd y0))) fun y19 =>
                                    aIf (Prod.snd (Prod.snd y0) == y19)
                                      (aIf (Prod.snd (Prod.snd y9) == (1 : Int))
                                        (aIf (Prod.fst y9 == Prod.fst y0)
                                          (aIf (Prod.fst (Prod.snd y9) == IntKind.wrap IntKind.i64 (Prod.fst (Prod.snd y0) + (1 : Int)))
                                            (onSome (F39 N (IntKind.wrap IntKind.i64 (a0 + (1 : Int)))) fun y20 =>
                                              onSome (F39 N a0) fun y21 => aIf (y20 == Int.tmod (IntKind.wrap IntKind.i64 (y21 + (1 : Int))) (7 : Int)) (some true) (some false))
                                            (aIf (Prod.fst (Prod.snd y0) == (12 : Int))
                                              (aIf (Prod.fst (Prod.snd y9) == (1 : Int))
                                                (aIf (Prod.fst y9 == IntKind.wrap IntKind.i64 (Prod.fst y0 + (1 : Int)))
                                                  (onSome (F39 N (IntKind.wrap IntKind.i64 (a0 + (1 : Int)))) fun y22 =>
                                                    onSome (F39 N a0) fun y23 =>
                                                      aIf (y22 == Int.tmod (IntKind.wrap IntKind.i64 (y23 + (1 : Int))) (7 : Int)) (some true) (some false))
                                                  (some false))
                                                (some false))
                                              (some false)))
                                          (aIf (Prod.fst (Prod.snd y0) == (12 : Int))
                                            (aIf (Prod.fst (Prod.snd y9) == (1 : Int))
                                              (aIf (Prod.fst y9 == IntKind.wrap IntKind.i64 (Prod.fst y0 + (1 : Int)))
                                                (onSome (F39 N (IntKind.wrap IntKind.i64 (a0 + (1 : Int)))) fun y24 =>
                                                  onSome (F39 N a0) fun y25 =>
                                                    aIf (y24 == Int.tmod (IntKind.wrap IntKind.i64 (y25 + (1 : Int))) (7 : Int)) (some true) (some false))
                                                (some false))
                                              (some false))
                                            (some false)))
                                        (some false))
                                      (some false)))
                                (onSome (F34 N (Prod.fst y0, Prod.fst (Prod.snd y0))) fun y26 =>
                                  aIf (Prod.snd (Prod.snd y0) == y26)
                                    (aIf (Prod.snd (Prod.snd y9) == (1 : Int))
                                      (aIf (Prod.fst y9 == Prod.fst y0)
                                        (aIf (Prod.fst (Prod.snd y9) == IntKind.wrap IntKind.i64 (Prod.fst (Prod.snd y0) + (1 : Int)))
                                          (onSome (F39 N (IntKind.wrap IntKind.i64 (a0 + (1 : Int)))) fun y27 =>
                                            onSome (F39 N a0) fun y28 => aIf (y27 == Int.tmod (IntKind.wrap IntKind.i64 (y28 + (1 : Int))) (7 : Int)) (some true) (some false))
                                          (aIf (Prod.fst (Prod.snd y0) == (12 : Int))
                                            (aIf (Prod.fst (Prod.snd y9) == (1 : Int))
                                              (aIf (Prod.fst y9 == IntKind.wrap IntKind.i64 (Prod.fst y0 + (1 : Int)))
                                                (onSome (F39 N (IntKind.wrap IntKind.i64 (a0 + (1 : Int)))) fun y29 =>
                                                  onSome (F39 N a0) fun y30 =>
                                                    aIf (y29 == Int.tmod (IntKind.wrap IntKind.i64 (y30 + (1 : Int))) (7 : Int)) (some true) (some false))
                                                (some false))
                                              (some false))
                                            (some false)))
                                        (aIf (Prod.fst (Prod.snd y0) == (12 : Int))
                                          (aIf (Prod.fst (Prod.snd y9) == (1 : Int))
                                            (aIf (Prod.fst y9 == IntKind.wrap IntKind.i64 (Prod.fst y0 + (1 : Int)))
                                              (onSome (F39 N (IntKind.wrap IntKind.i64 (a0 + (1 : Int)))) fun y31 =>
                                                onSome (F39 N a0) fun y32 => aIf (y31 == Int.tmod (IntKind.wrap IntKind.i64 (y32 + (1 : Int))) (7 : Int)) (some true) (some false))
                                              (some false))
                                            (some false))
                                          (some false)))
                                      (some false))
                                    (some false))))))))))) := by kernel_rfl
noncomputable def C12 (N : Nat) : Callee := mkCallee A12 R12 (F12 N)
theorem S12 (N : Nat) : Cok 12 (C12 N) := cok_of (l := (E12 N).calls) (O := O12 N) (cok_cons (S30 N) (cok_cons (S45 N) (cok_cons (S39 N) (cok_cons (S36 N) (cok_cons (S28 N) (cok_cons (S43 N) (cok_cons (S34 N) cok_nil))))))) rfl Tryd.func12 rfl (by kernel_rfl) (by kernel_rfl)

end Go.Proofs.YtfhlignhdnhmlaaDoor
