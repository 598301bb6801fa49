/- The pure reading of the program's functions (printed by a program of mine; each line is proved by the kernel's evaluation). -/
import Derived.Test.YtfhlignhdnhmlaaDoorExs
import Derived.Test.YtfhlignhdnhmlaaDoorProg
set_option linter.unusedSimpArgs false
set_option linter.unusedVariables false
set_option maxRecDepth 100000
namespace Go.Proofs.YtfhlignhdnhmlaaDoor
open Go.RowKit

-- function 32
def A32 : Cods (Int) := (codsOne (codInt .i64))
def R32 : Cod (Bool) := codBool
noncomputable def E32 (N : Nat) : Env := ⟨Tryd.prog, []⟩
def O32 (N : Nat) : Opts := ⟨N, [], []⟩
noncomputable def F32 (N : Nat) (a : Int) : Option (Bool) := aTyped (E32 N) (O32 N) Tryd.f32 A32 R32 a
theorem F32_eq (N : Nat) (a0 : Int) : F32 N a0 =
    aIf (Int.tmod a0 (4 : Int) == (0 : Int)) (aIf (Int.tmod a0 (100 : Int) != (0 : Int)) (some true) (some (Int.tmod a0 (400 : Int) == (0 : Int)))) (some false) := by kernel_rfl
noncomputable def C32 (N : Nat) : Callee := mkCallee A32 R32 (F32 N)
theorem S32 (N : Nat) : Cok 32 (C32 N) := cok_of (l := (E32 N).calls) (O := O32 N) cok_nil rfl Tryd.func32 rfl (by kernel_rfl) (by kernel_rfl)

-- function 58
def A58 : Cods (Int) := (codsOne (codInt .i64))
def R58 : Cod (Int) := (codInt .i64)
noncomputable def E58 (N : Nat) : Env := ⟨Tryd.prog, [(32, C32 N)]⟩
def O58 (N : Nat) : Opts := ⟨N, [], []⟩
noncomputable def F58 (N : Nat) (a : Int) : Option (Int) := aTyped (E58 N) (O58 N) Tryd.f58 A58 R58 a
theorem F58_eq (N : Nat) (a0 : Int) : F58 N a0 =
    onSome (F32 N a0) fun y0 => aIf y0 (some (366 : Int)) (some (365 : Int)) := by kernel_rfl
noncomputable def C58 (N : Nat) : Callee := mkCallee A58 R58 (F58 N)
theorem S58 (N : Nat) : Cok 58 (C58 N) := cok_of (l := (E58 N).calls) (O := O58 N) (cok_cons (S32 N) cok_nil) rfl Tryd.func58 rfl (by kernel_rfl) (by kernel_rfl)

-- function 34
def A34 : Cods ((Int) × Int) := (codsCons (codInt .i64) (codsOne (codInt .i64)))
def R34 : Cod (Int) := (codInt .i64)
noncomputable def E34 (N : Nat) : Env := ⟨Tryd.prog, [(32, C32 N)]⟩
def O34 (N : Nat) : Opts := ⟨N, [], []⟩
noncomputable def F34 (N : Nat) (a : (Int) × Int) : Option (Int) := aTyped (E34 N) (O34 N) Tryd.f34 A34 R34 a
theorem F34_eq (N : Nat) (a0 : Int) (a1 : Int) : F34 N (a0, a1) =
    aGd (decide ((0 : Nat) + (13 : Nat) ≤ (13 : Nat)))
  (aIf (decide (a1 < (1 : Int))) (some (0 : Int))
    (aIf (decide ((12 : Int) < a1)) (some (0 : Int))
      (aIf (a1 == (2 : Int))
        (onSome (F32 N a0) fun y0 =>
          aIf y0 (some (29 : Int))
            (aGd (decide ((0 : Int) ≤ a1))
              (aGd (decide (a1 < (13 : Int)))
                (onSome
                  [PV.int IntKind.i64 (0 : Int), PV.int IntKind.i64 (31 : Int), PV.int IntKind.i64 (28 : Int), PV.int IntKind.i64 (31 : Int), PV.int IntKind.i64 (30 : Int),
                      PV.int IntKind.i64 (31 : Int), PV.int IntKind.i64 (30 : Int), PV.int IntKind.i64 (31 : Int), PV.int IntKind.i64 (31 : Int), PV.int IntKind.i64 (30 : Int),
                      PV.int IntKind.i64 (31 : Int), PV.int IntKind.i64 (30 : Int), PV.int IntKind.i64 (31 : Int)][(0 : Nat) + Int.toNat a1 * (1 : Nat)]?
                  fun y1 => onInt IntKind.i64 y1 fun n2 => some n2))))
        (aGd (decide ((0 : Int) ≤ a1))
          (aGd (decide (a1 < (13 : Int)))
            (onSome
              [PV.int IntKind.i64 (0 : Int), PV.int IntKind.i64 (31 : Int), PV.int IntKind.i64 (28 : Int), PV.int IntKind.i64 (31 : Int), PV.int IntKind.i64 (30 : Int),
                  PV.int IntKind.i64 (31 : Int), PV.int IntKind.i64 (30 : Int), PV.int IntKind.i64 (31 : Int), PV.int IntKind.i64 (31 : Int), PV.int IntKind.i64 (30 : Int),
                  PV.int IntKind.i64 (31 : Int), PV.int IntKind.i64 (30 : Int), PV.int IntKind.i64 (31 : Int)][(0 : Nat) + Int.toNat a1 * (1 : Nat)]?
              fun y3 => onInt IntKind.i64 y3 fun n4 => some n4)))))) := by kernel_rfl
noncomputable def C34 (N : Nat) : Callee := mkCallee A34 R34 (F34 N)
theorem S34 (N : Nat) : Cok 34 (C34 N) := cok_of (l := (E34 N).calls) (O := O34 N) (cok_cons (S32 N) cok_nil) rfl Tryd.func34 rfl (by kernel_rfl) (by kernel_rfl)

-- function 28
def A28 : Cods ((Int) × (Int) × Int) := (codsCons (codInt .i64) (codsCons (codInt .i64) (codsOne (codInt .i64))))
def R28 : Cod ((Int) × Int) := (codTup (codsCons (codInt .i64) (codsOne (codInt .i64))))
noncomputable def E28 (N : Nat) : Env := ⟨Tryd.prog, [(34, C34 N), (58, C58 N)]⟩
def O28 (N : Nat) : Opts := ⟨N, [(5, ⟨[0, 1, 8, 31, 32], [], [], 0⟩), (10, ⟨[0, 8, 42, 43], [], [], 0⟩)], []⟩
noncomputable def F28 (N : Nat) (a : (Int) × (Int) × Int) : Option ((Int) × Int) := aTyped (E28 N) (O28 N) Tryd.f28 A28 R28 a
noncomputable def L28_5 (N : Nat) (n : Nat) (x0 : Int) (x1 : Int) (x2 : Int) (x3 : Int) (x4 : Int) : Option (Int × Int) :=
  atLoop (E28 N) (O28 N) Tryd.f28 [(1 : Nat), (1 : Nat), (1 : Nat), (0 : Nat), (1 : Nat), (0 : Nat)] [] n
  {
    tmps := Tm.of 54 [(0, AV.p (PV.int IntKind.i64 x0)), (1, AV.p (PV.int IntKind.i64 x1)), (8, AV.p (PV.int IntKind.i64 x2)), (31, AV.p (PV.int IntKind.i64 x3)), (32, AV.p (PV.int IntKind.i64 x4))],
    heap := [] }
  fun x => Cod.dec R28 x some
noncomputable def L28_10 (N : Nat) (n : Nat) (x0 : Int) (x1 : Int) (x2 : Int) (x3 : Int) : Option (Int × Int) :=
  atLoop (E28 N) (O28 N) Tryd.f28 [(1 : Nat), (1 : Nat), (1 : Nat), (1 : Nat), (0 : Nat), (1 : Nat), (0 : Nat)] [] n
  {
    tmps := Tm.of 54 [(0, AV.p (PV.int IntKind.i64 x0)), (8, AV.p (PV.int IntKind.i64 x1)), (42, AV.p (PV.int IntKind.i64 x2)), (43, AV.p (PV.int IntKind.i64 x3))],
    heap := [] }
  fun x => Cod.dec R28 x some
theorem L28_5_eq (N : Nat) (n : Nat) (x0 : Int) (x1 : Int) (x2 : Int) (x3 : Int) (x4 : Int) : L28_5 N (n + 1) x0 x1 x2 x3 x4 =
    aIf (decide (x4 < x3))
  (onSome (F58 N (IntKind.wrap IntKind.i64 ((1900 : Int) + x4))) fun y1 => L28_5 N n x0 x1 (IntKind.wrap IntKind.i64 (x2 + y1)) x3 (IntKind.wrap IntKind.i64 (x4 + (1 : Int))))
  (L28_10 N N x0 x2 (IntKind.wrap IntKind.i64 (x1 - (1 : Int))) (0 : Int)) := by kernel_rfl
theorem L28_5_zero (N : Nat) (x0 : Int) (x1 : Int) (x2 : Int) (x3 : Int) (x4 : Int) : L28_5 N 0 x0 x1 x2 x3 x4 = none := by kernel_rfl
theorem L28_10_eq (N : Nat) (n : Nat) (x0 : Int) (x1 : Int) (x2 : Int) (x3 : Int) : L28_10 N (n + 1) x0 x1 x2 x3 =
    aIf (decide (x3 < x2))
  (onSome (F34 N (x0, IntKind.wrap IntKind.i64 (x3 + (1 : Int)))) fun y2 => L28_10 N n x0 (IntKind.wrap IntKind.i64 (x1 + y2)) x2 (IntKind.wrap IntKind.i64 (x3 + (1 : Int))))
  (some (x1, (0 : Int))) := by kernel_rfl
theorem L28_10_zero (N : Nat) (x0 : Int) (x1 : Int) (x2 : Int) (x3 : Int) : L28_10 N 0 x0 x1 x2 x3 = none := by kernel_rfl
theorem F28_eq (N : Nat) (a0 : Int) (a1 : Int) (a2 : Int) : F28 N (a0, a1, a2) =
    aIf (decide (a0 < (1900 : Int))) (some ((0 : Int), (3 : Int)))
  (aIf (decide ((2199 : Int) < a0)) (some ((0 : Int), (3 : Int)))
    (aIf (decide (a2 < (1 : Int))) (some ((0 : Int), (3 : Int)))
      (onSome (F34 N (a0, a1)) fun y0 =>
        aIf (decide (y0 < a2)) (some ((0 : Int), (3 : Int)))
          (L28_5 N N a0 a1 (IntKind.wrap IntKind.i64 (a2 - (1 : Int))) (IntKind.wrap IntKind.i64 (a0 - (1900 : Int))) (0 : Int))))) := by kernel_rfl
noncomputable def C28 (N : Nat) : Callee := mkCallee A28 R28 (F28 N)
theorem S28 (N : Nat) : Cok 28 (C28 N) := cok_of (l := (E28 N).calls) (O := O28 N) (cok_cons (S34 N) (cok_cons (S58 N) cok_nil)) rfl Tryd.func28 rfl (by kernel_rfl) (by kernel_rfl)

-- function 60
def A60 : Cods (Int) := (codsOne (codInt .i64))
def R60 : Cod (Bool) := codBool
noncomputable def E60 (N : Nat) : Env := ⟨Tryd.prog, []⟩
def O60 (N : Nat) : Opts := ⟨N, [], []⟩
noncomputable def F60 (N : Nat) (a : Int) : Option (Bool) := aTyped (E60 N) (O60 N) Tryd.f60 A60 R60 a
theorem F60_eq (N : Nat) (a0 : Int) : F60 N a0 =
    aIf (decide ((0 : Int) ≤ a0)) (some (decide (a0 ≤ (109572 : Int)))) (some false) := by kernel_rfl
noncomputable def C60 (N : Nat) : Callee := mkCallee A60 R60 (F60 N)
theorem S60 (N : Nat) : Cok 60 (C60 N) := cok_of (l := (E60 N).calls) (O := O60 N) cok_nil rfl Tryd.func60 rfl (by kernel_rfl) (by kernel_rfl)

-- function 30
def A30 : Cods (Int) := (codsOne (codInt .i64))
def R30 : Cod ((Int) × (Int) × Int) := (codTup (codsCons (codInt .i64) (codsCons (codInt .i64) (codsOne (codInt .i64)))))
noncomputable def E30 (N : Nat) : Env := ⟨Tryd.prog, [(60, C60 N), (58, C58 N), (34, C34 N)]⟩
def O30 (N : Nat) : Opts := ⟨N, [(4, ⟨[0, 5, 6], [], [], 0⟩), (7, ⟨[0, 5, 6], [], [], 0⟩)], []⟩
noncomputable def F30 (N : Nat) (a : Int) : Option ((Int) × (Int) × Int) := aTyped (E30 N) (O30 N) Tryd.f30 A30 R30 a
noncomputable def L30_4 (N : Nat) (n : Nat) (x0 : Int) (x1 : Int) (x2 : Int) : Option (Int × Int × Int) :=
  atLoop (E30 N) (O30 N) Tryd.f30 [(1 : Nat), (1 : Nat), (1 : Nat), (0 : Nat), (0 : Nat)] [] n
  {
    tmps := Tm.of 36 [(0, AV.p (PV.int IntKind.i64 x0)), (5, AV.p (PV.int IntKind.i64 x1)), (6, AV.p (PV.int IntKind.i64 x2))],
    heap := [] }
  fun x => Cod.dec R30 x some
noncomputable def L30_7 (N : Nat) (n : Nat) (x0 : Int) (x1 : Int) (x2 : Int) : Option (Int × Int × Int) :=
  atLoop (E30 N) (O30 N) Tryd.f30 [(1 : Nat), (1 : Nat), (1 : Nat), (1 : Nat), (0 : Nat), (0 : Nat)] [] n
  {
    tmps := Tm.of 36 [(0, AV.p (PV.int IntKind.i64 x0)), (5, AV.p (PV.int IntKind.i64 x1)), (6, AV.p (PV.int IntKind.i64 x2))],
    heap := [] }
  fun x => Cod.dec R30 x some
theorem L30_4_eq (N : Nat) (n : Nat) (x0 : Int) (x1 : Int) (x2 : Int) : L30_4 N (n + 1) x0 x1 x2 =
    onSome (F58 N x1) fun y1 =>
  aIf (decide (y1 ≤ x0)) (onSome (F58 N x1) fun y2 => L30_4 N n (IntKind.wrap IntKind.i64 (x0 - y2)) (IntKind.wrap IntKind.i64 (x1 + (1 : Int))) x2) (L30_7 N N x0 x1 x2) := by kernel_rfl
theorem L30_4_zero (N : Nat) (x0 : Int) (x1 : Int) (x2 : Int) : L30_4 N 0 x0 x1 x2 = none := by kernel_rfl
theorem L30_7_eq (N : Nat) (n : Nat) (x0 : Int) (x1 : Int) (x2 : Int) : L30_7 N (n + 1) x0 x1 x2 =
    onSome (F34 N (x1, x2)) fun y3 =>
  aIf (decide (y3 ≤ x0)) (onSome (F34 N (x1, x2)) fun y4 => L30_7 N n (IntKind.wrap IntKind.i64 (x0 - y4)) x1 (IntKind.wrap IntKind.i64 (x2 + (1 : Int))))
    (some (x1, x2, IntKind.wrap IntKind.i64 (x0 + (1 : Int)))) := by kernel_rfl
theorem L30_7_zero (N : Nat) (x0 : Int) (x1 : Int) (x2 : Int) : L30_7 N 0 x0 x1 x2 = none := by kernel_rfl
theorem F30_eq (N : Nat) (a0 : Int) : F30 N a0 =
    onSome (F60 N a0) fun y0 => aIf (!y0) (some ((0 : Int), (0 : Int), (0 : Int))) (L30_4 N N a0 (1900 : Int) (1 : Int)) := by kernel_rfl
noncomputable def C30 (N : Nat) : Callee := mkCallee A30 R30 (F30 N)
theorem S30 (N : Nat) : Cok 30 (C30 N) := cok_of (l := (E30 N).calls) (O := O30 N) (cok_cons (S60 N) (cok_cons (S58 N) (cok_cons (S34 N) cok_nil))) rfl Tryd.func30 rfl (by kernel_rfl) (by kernel_rfl)

-- function 62
def A62 : Cods (List UInt8) := (codsOne codStr)
def R62 : Cod ((Int) × Bool) := (codTup (codsCons (codInt .i64) (codsOne codBool)))
noncomputable def E62 (N : Nat) : Env := ⟨Tryd.prog, []⟩
def O62 (N : Nat) : Opts := ⟨N, [(3, ⟨[0, 4, 7, 8], [], [], 0⟩)], []⟩
noncomputable def F62 (N : Nat) (a : List UInt8) : Option ((Int) × Bool) := aTyped (E62 N) (O62 N) Tryd.f62 A62 R62 a
noncomputable def L62_3 (N : Nat) (n : Nat) (x0 : List UInt8) (x1 : Int) (x2 : Int) (x3 : Int) : Option (Int × Bool) :=
  atLoop (E62 N) (O62 N) Tryd.f62 [(1 : Nat), (1 : Nat), (0 : Nat), (1 : Nat), (0 : Nat)] [] n
  {
    tmps := Tm.of 31 [(0, AV.p (PV.str x0)), (4, AV.p (PV.int IntKind.i64 x1)), (7, AV.p (PV.int IntKind.i64 x2)), (8, AV.p (PV.int IntKind.i64 x3))],
    heap := [] }
  fun x => Cod.dec R62 x some
theorem L62_3_eq (N : Nat) (n : Nat) (x0 : List UInt8) (x1 : Int) (x2 : Int) (x3 : Int) : L62_3 N (n + 1) x0 x1 x2 x3 =
    aIf (decide (x3 < x2))
  (onGet x0 x3 fun z0 =>
    aIf (decide (Int.ofNat (UInt8.toNat z0) < (48 : Int))) (some ((0 : Int), false))
      (onGet x0 x3 fun z1 =>
        aIf (decide ((57 : Int) < Int.ofNat (UInt8.toNat z1))) (some ((0 : Int), false))
          (onGet x0 x3 fun z2 =>
            L62_3 N n x0
              (IntKind.wrap IntKind.i64 (IntKind.wrap IntKind.i64 ((10 : Int) * x1) + IntKind.wrap IntKind.i64 (IntKind.wrap IntKind.u8 (Int.ofNat (UInt8.toNat z2) - (48 : Int)))))
              x2 (IntKind.wrap IntKind.i64 (x3 + (1 : Int))))))
  (some (x1, true)) := by kernel_rfl
theorem L62_3_zero (N : Nat) (x0 : List UInt8) (x1 : Int) (x2 : Int) (x3 : Int) : L62_3 N 0 x0 x1 x2 x3 = none := by kernel_rfl
theorem F62_eq (N : Nat) (a0 : List UInt8) : F62 N a0 =
    L62_3 N N a0 (0 : Int) (Int.ofNat (List.length a0)) (0 : Int) := by kernel_rfl
noncomputable def C62 (N : Nat) : Callee := mkCallee A62 R62 (F62 N)
theorem S62 (N : Nat) : Cok 62 (C62 N) := cok_of (l := (E62 N).calls) (O := O62 N) cok_nil rfl Tryd.func62 rfl (by kernel_rfl) (by kernel_rfl)

-- function 43
def A43 : Cods (List UInt8) := (codsOne codStr)
def R43 : Cod ((Int) × Int) := (codTup (codsCons (codInt .i64) (codsOne (codInt .i64))))
noncomputable def E43 (N : Nat) : Env := ⟨Tryd.prog, [(62, C62 N), (28, C28 N)]⟩
def O43 (N : Nat) : Opts := ⟨N, [], []⟩
noncomputable def F43 (N : Nat) (a : List UInt8) : Option ((Int) × Int) := aTyped (E43 N) (O43 N) Tryd.f43 A43 R43 a
theorem F43_eq (N : Nat) (a0 : List UInt8) : F43 N a0 =
    aIf (Int.ofNat (List.length a0) != (10 : Int)) (some ((0 : Int), (2 : Int)))
  (onGet a0 (4 : Int) fun z0 =>
    aIf (Int.ofNat (UInt8.toNat z0) != (45 : Int)) (some ((0 : Int), (2 : Int)))
      (onGet a0 (7 : Int) fun z1 =>
        aIf (Int.ofNat (UInt8.toNat z1) != (45 : Int)) (some ((0 : Int), (2 : Int)))
          (aGd (decide ((4 : Int) ≤ Int.ofNat (List.length a0)))
            (onSome (F62 N (List.drop (0 : Nat) (List.take (4 : Nat) a0))) fun y2 =>
              aGd (decide ((7 : Int) ≤ Int.ofNat (List.length a0)))
                (onSome (F62 N (List.drop (5 : Nat) (List.take (7 : Nat) a0))) fun y3 =>
                  aGd (decide ((8 : Int) ≤ Int.ofNat (List.length a0)))
                    (onSome (F62 N (List.drop (8 : Nat) (List.take (List.length a0) a0))) fun y4 =>
                      aIf (!Prod.snd y2) (some ((0 : Int), (2 : Int)))
                        (aIf (!Prod.snd y3) (some ((0 : Int), (2 : Int)))
                          (aIf (!Prod.snd y4) (some ((0 : Int), (2 : Int)))
                            (onSome (F28 N (Prod.fst y2, Prod.fst y3, Prod.fst y4)) fun y5 => some (Prod.fst y5, Prod.snd y5)))))))))) := by kernel_rfl
noncomputable def C43 (N : Nat) : Callee := mkCallee A43 R43 (F43 N)
theorem S43 (N : Nat) : Cok 43 (C43 N) := cok_of (l := (E43 N).calls) (O := O43 N) (cok_cons (S62 N) (cok_cons (S28 N) cok_nil)) rfl Tryd.func43 rfl (by kernel_rfl) (by kernel_rfl)

-- function 56
def A56 : Cods (Int) := (codsOne (codInt .i64))
def R56 : Cod (List UInt8) := codStr
noncomputable def E56 (N : Nat) : Env := ⟨Tryd.prog, [(69, C69 N)]⟩
def O56 (N : Nat) : Opts := ⟨N, [], []⟩
noncomputable def F56 (N : Nat) (a : Int) : Option (List UInt8) := aTyped (E56 N) (O56 N) Tryd.f56 A56 R56 a
theorem F56_eq (N : Nat) (a0 : Int) : F56 N a0 =
    onSome (F69 N a0) fun y0 => some y0 := by kernel_rfl
noncomputable def C56 (N : Nat) : Callee := mkCallee A56 R56 (F56 N)
theorem S56 (N : Nat) : Cok 56 (C56 N) := cok_of (l := (E56 N).calls) (O := O56 N) (cok_cons (S69 N) cok_nil) rfl Tryd.func56 rfl (by kernel_rfl) (by kernel_rfl)

-- function 63
def A63 : Cods ((Int) × Int) := (codsCons (codInt .i64) (codsOne (codInt .i64)))
def R63 : Cod (List UInt8) := codStr
noncomputable def E63 (N : Nat) : Env := ⟨Tryd.prog, [(56, C56 N), (71, C71 N)]⟩
def O63 (N : Nat) : Opts := ⟨N, [], []⟩
noncomputable def F63 (N : Nat) (a : (Int) × Int) : Option (List UInt8) := aTyped (E63 N) (O63 N) Tryd.f63 A63 R63 a
theorem F63_eq (N : Nat) (a0 : Int) (a1 : Int) : F63 N (a0, a1) =
    onSome (F56 N a0) fun y0 =>
  onSome (F71 N ([(48 : UInt8)], max (0 : Int) (IntKind.wrap IntKind.i64 (a1 - Int.ofNat (List.length y0))))) fun y1 =>
    aGd (decide (List.length y1 + List.length y0 ≤ (9223372036854775807 : Nat))) (some (y1 ++ y0)) := by kernel_rfl
noncomputable def C63 (N : Nat) : Callee := mkCallee A63 R63 (F63 N)
theorem S63 (N : Nat) : Cok 63 (C63 N) := cok_of (l := (E63 N).calls) (O := O63 N) (cok_cons (S56 N) (cok_cons (S71 N) cok_nil)) rfl Tryd.func63 rfl (by kernel_rfl) (by kernel_rfl)

-- function 45
def A45 : Cods (Int) := (codsOne (codInt .i64))
def R45 : Cod (List UInt8) := codStr
noncomputable def E45 (N : Nat) : Env := ⟨Tryd.prog, [(60, C60 N), (30, C30 N), (63, C63 N)]⟩
def O45 (N : Nat) : Opts := ⟨N, [], []⟩
noncomputable def F45 (N : Nat) (a : Int) : Option (List UInt8) := aTyped (E45 N) (O45 N) Tryd.f45 A45 R45 a
theorem F45_eq (N : Nat) (a0 : Int) : F45 N a0 =
    onSome (F60 N a0) fun y0 =>
  aIf (!y0) (some [])
    (onSome (F30 N a0) fun y1 =>
      onSome (F63 N (Prod.fst y1, (4 : Int))) fun y2 =>
        aGd (decide (List.length y2 + (1 : Nat) ≤ (9223372036854775807 : Nat)))
          (onSome (F63 N (Prod.fst (Prod.snd y1), (2 : Int))) fun y3 =>
            aGd (decide (List.length (y2 ++ [(45 : UInt8)]) + List.length y3 ≤ (9223372036854775807 : Nat)))
              (aGd (decide (List.length (y2 ++ [(45 : UInt8)] ++ y3) + (1 : Nat) ≤ (9223372036854775807 : Nat)))
                (onSome (F63 N (Prod.snd (Prod.snd y1), (2 : Int))) fun y4 =>
                  aGd (decide (List.length (y2 ++ [(45 : UInt8)] ++ y3 ++ [(45 : UInt8)]) + List.length y4 ≤ (9223372036854775807 : Nat)))
                    (some (y2 ++ [(45 : UInt8)] ++ y3 ++ [(45 : UInt8)] ++ y4)))))) := by kernel_rfl
noncomputable def C45 (N : Nat) : Callee := mkCallee A45 R45 (F45 N)
theorem S45 (N : Nat) : Cok 45 (C45 N) := cok_of (l := (E45 N).calls) (O := O45 N) (cok_cons (S60 N) (cok_cons (S30 N) (cok_cons (S63 N) cok_nil))) rfl Tryd.func45 rfl (by kernel_rfl) (by kernel_rfl)

-- function 37
def A37 : Cods ((Int) × Int) := (codsCons (codInt .i64) (codsOne (codInt .i64)))
def R37 : Cod ((Int) × Int) := (codTup (codsCons (codInt .i64) (codsOne (codInt .i64))))
noncomputable def E37 (N : Nat) : Env := ⟨Tryd.prog, [(60, C60 N), (30, C30 N), (34, C34 N), (28, C28 N)]⟩
def O37 (N : Nat) : Opts := ⟨N, [], []⟩
noncomputable def F37 (N : Nat) (a : (Int) × Int) : Option ((Int) × Int) := aTyped (E37 N) (O37 N) Tryd.f37 A37 R37 a
theorem F37_eq (N : Nat) (a0 : Int) (a1 : Int) : F37 N (a0, a1) =
    onSome (F60 N a0) fun y0 =>
  aIf (!y0) (some ((0 : Int), (3 : Int)))
    (aIf (decide (a1 < (-3600 : Int))) (some ((0 : Int), (3 : Int)))
      (aIf (decide ((3600 : Int) < a1)) (some ((0 : Int), (3 : Int)))
        (onSome (F30 N a0) fun y1 =>
          onSome
            (F34 N
              (IntKind.wrap IntKind.i64
                  (Int.tdiv
                    (IntKind.wrap IntKind.i64
                      (IntKind.wrap IntKind.i64 (IntKind.wrap IntKind.i64 (IntKind.wrap IntKind.i64 ((12 : Int) * Prod.fst y1) + Prod.fst (Prod.snd y1)) - (1 : Int)) + a1))
                    (12 : Int)),
                IntKind.wrap IntKind.i64
                  (Int.tmod
                      (IntKind.wrap IntKind.i64
                        (IntKind.wrap IntKind.i64 (IntKind.wrap IntKind.i64 (IntKind.wrap IntKind.i64 ((12 : Int) * Prod.fst y1) + Prod.fst (Prod.snd y1)) - (1 : Int)) + a1))
                      (12 : Int) +
                    (1 : Int))))
            fun y2 =>
            onSome
              (F28 N
                (IntKind.wrap IntKind.i64
                    (Int.tdiv
                      (IntKind.wrap IntKind.i64
                        (IntKind.wrap IntKind.i64 (IntKind.wrap IntKind.i64 (IntKind.wrap IntKind.i64 ((12 : Int) * Prod.fst y1) + Prod.fst (Prod.snd y1)) - (1 : Int)) + a1))
                      (12 : Int)),
                  IntKind.wrap IntKind.i64
                    (Int.tmod
                        (IntKind.wrap IntKind.i64
                          (IntKind.wrap IntKind.i64 (IntKind.wrap IntKind.i64 (IntKind.wrap IntKind.i64 ((12 : Int) * Prod.fst y1) + Prod.fst (Prod.snd y1)) - (1 : Int)) + a1))
                        (12 : Int) +
                      (1 : Int)),
                  min (Prod.snd (Prod.snd y1)) y2))
              fun y3 => some (Prod.fst y3, Prod.snd y3)))) := by kernel_rfl
noncomputable def C37 (N : Nat) : Callee := mkCallee A37 R37 (F37 N)
theorem S37 (N : Nat) : Cok 37 (C37 N) := cok_of (l := (E37 N).calls) (O := O37 N) (cok_cons (S60 N) (cok_cons (S30 N) (cok_cons (S34 N) (cok_cons (S28 N) cok_nil)))) rfl Tryd.func37 rfl (by kernel_rfl) (by kernel_rfl)

-- function 41
def A41 : Cods ((Int) × Int) := (codsCons (codInt .i64) (codsOne (codInt .i64)))
def R41 : Cod (Int) := (codInt .i64)
noncomputable def E41 (N : Nat) : Env := ⟨Tryd.prog, [(60, C60 N), (30, C30 N), (37, C37 N)]⟩
def O41 (N : Nat) : Opts := ⟨N, [], []⟩
noncomputable def F41 (N : Nat) (a : (Int) × Int) : Option (Int) := aTyped (E41 N) (O41 N) Tryd.f41 A41 R41 a
theorem F41_eq (N : Nat) (a0 : Int) (a1 : Int) : F41 N (a0, a1) =
    onSome (F60 N a0) fun y0 =>
  aIf (!y0) (some (0 : Int))
    (onSome (F60 N a1) fun y1 =>
      aIf (!y1) (some (0 : Int))
        (aIf (decide (a1 < a0)) (some (0 : Int))
          (onSome (F30 N a0) fun y2 =>
            onSome (F30 N a1) fun y3 =>
              onSome (F37 N (a0, IntKind.wrap IntKind.i64 ((12 : Int) * IntKind.wrap IntKind.i64 (Prod.fst y3 - Prod.fst y2)))) fun y4 =>
                aIf (Prod.snd y4 != (0 : Int)) (some (IntKind.wrap IntKind.i64 (IntKind.wrap IntKind.i64 (Prod.fst y3 - Prod.fst y2) - (1 : Int))))
                  (aIf (decide (a1 < Prod.fst y4)) (some (IntKind.wrap IntKind.i64 (IntKind.wrap IntKind.i64 (Prod.fst y3 - Prod.fst y2) - (1 : Int))))
                    (some (IntKind.wrap IntKind.i64 (Prod.fst y3 - Prod.fst y2))))))) := by kernel_rfl
noncomputable def C41 (N : Nat) : Callee := mkCallee A41 R41 (F41 N)
theorem S41 (N : Nat) : Cok 41 (C41 N) := cok_of (l := (E41 N).calls) (O := O41 N) (cok_cons (S60 N) (cok_cons (S30 N) (cok_cons (S37 N) cok_nil))) rfl Tryd.func41 rfl (by kernel_rfl) (by kernel_rfl)

-- function 39
def A39 : Cods (Int) := (codsOne (codInt .i64))
def R39 : Cod (Int) := (codInt .i64)
noncomputable def E39 (N : Nat) : Env := ⟨Tryd.prog, [(60, C60 N)]⟩
def O39 (N : Nat) : Opts := ⟨N, [], []⟩
noncomputable def F39 (N : Nat) (a : Int) : Option (Int) := aTyped (E39 N) (O39 N) Tryd.f39 A39 R39 a
theorem F39_eq (N : Nat) (a0 : Int) : F39 N a0 =
    onSome (F60 N a0) fun y0 => aIf (!y0) (some (-1 : Int)) (some (Int.tmod a0 (7 : Int))) := by kernel_rfl
noncomputable def C39 (N : Nat) : Callee := mkCallee A39 R39 (F39 N)
theorem S39 (N : Nat) : Cok 39 (C39 N) := cok_of (l := (E39 N).calls) (O := O39 N) (cok_cons (S60 N) cok_nil) rfl Tryd.func39 rfl (by kernel_rfl) (by kernel_rfl)

-- function 47
def A47 : Cods (Int) := (codsOne (codInt .i64))
def R47 : Cod (Bool) := codBool
noncomputable def E47 (N : Nat) : Env := ⟨Tryd.prog, []⟩
def O47 (N : Nat) : Opts := ⟨N, [], []⟩
noncomputable def F47 (N : Nat) (a : Int) : Option (Bool) := aTyped (E47 N) (O47 N) Tryd.f47 A47 R47 a
theorem F47_eq (N : Nat) (a0 : Int) : F47 N a0 =
    aIf (decide ((0 : Int) ≤ a0)) (some (decide (a0 ≤ (3599 : Int)))) (some false) := by kernel_rfl
noncomputable def C47 (N : Nat) : Callee := mkCallee A47 R47 (F47 N)
theorem S47 (N : Nat) : Cok 47 (C47 N) := cok_of (l := (E47 N).calls) (O := O47 N) cok_nil rfl Tryd.func47 rfl (by kernel_rfl) (by kernel_rfl)

-- function 15
def A15 : Cods (Int) := (codsOne (codInt .i64))
def R15 : Cod (Int) := (codInt .i64)
noncomputable def E15 (N : Nat) : Env := ⟨Tryd.prog, [(30, C30 N)]⟩
def O15 (N : Nat) : Opts := ⟨N, [], []⟩
noncomputable def F15 (N : Nat) (a : Int) : Option (Int) := aTyped (E15 N) (O15 N) Tryd.f15 A15 R15 a
theorem F15_eq (N : Nat) (a0 : Int) : F15 N a0 =
    aIf (decide (a0 < (0 : Int))) (some (-1 : Int))
  (aIf (decide ((109572 : Int) < a0)) (some (-1 : Int))
    (onSome (F30 N a0) fun y0 =>
      some
        (IntKind.wrap IntKind.i64
          (IntKind.wrap IntKind.i64 (IntKind.wrap IntKind.i64 ((12 : Int) * IntKind.wrap IntKind.i64 (Prod.fst y0 - (1900 : Int))) + Prod.fst (Prod.snd y0)) - (1 : Int))))) := by kernel_rfl
noncomputable def C15 (N : Nat) : Callee := mkCallee A15 R15 (F15 N)
theorem S15 (N : Nat) : Cok 15 (C15 N) := cok_of (l := (E15 N).calls) (O := O15 N) (cok_cons (S30 N) cok_nil) rfl Tryd.func15 rfl (by kernel_rfl) (by kernel_rfl)

-- function 17
def A17 : Cods (Int) := (codsOne (codInt .i64))
def R17 : Cod (Int) := (codInt .i64)
noncomputable def E17 (N : Nat) : Env := ⟨Tryd.prog, [(47, C47 N), (34, C34 N)]⟩
def O17 (N : Nat) : Opts := ⟨N, [], []⟩
noncomputable def F17 (N : Nat) (a : Int) : Option (Int) := aTyped (E17 N) (O17 N) Tryd.f17 A17 R17 a
theorem F17_eq (N : Nat) (a0 : Int) : F17 N a0 =
    onSome (F47 N a0) fun y0 =>
  aIf (!y0) (some (0 : Int))
    (onSome (F34 N (IntKind.wrap IntKind.i64 ((1900 : Int) + IntKind.wrap IntKind.i64 (Int.tdiv a0 (12 : Int))), IntKind.wrap IntKind.i64 (Int.tmod a0 (12 : Int) + (1 : Int))))
      fun y1 => some y1) := by kernel_rfl
noncomputable def C17 (N : Nat) : Callee := mkCallee A17 R17 (F17 N)
theorem S17 (N : Nat) : Cok 17 (C17 N) := cok_of (l := (E17 N).calls) (O := O17 N) (cok_cons (S47 N) (cok_cons (S34 N) cok_nil)) rfl Tryd.func17 rfl (by kernel_rfl) (by kernel_rfl)

-- function 13
def A13 : Cods (Int) := (codsOne (codInt .i64))
def R13 : Cod (((Int) × Int) × Int) := (codTup (codsCons (codAgg (codsCons (codInt .i64) (codsOne (codInt .i64)))) (codsOne (codInt .i64))))
noncomputable def E13 (N : Nat) : Env := ⟨Tryd.prog, [(47, C47 N), (28, C28 N), (17, C17 N)]⟩
def O13 (N : Nat) : Opts := ⟨N, [], []⟩
noncomputable def F13 (N : Nat) (a : Int) : Option (((Int) × Int) × Int) := aTyped (E13 N) (O13 N) Tryd.f13 A13 R13 a
theorem F13_eq (N : Nat) (a0 : Int) : F13 N a0 =
    onSome (F47 N a0) fun y0 =>
  aIf (!y0) (aGd (decide ((0 : Nat) + (2 : Nat) ≤ (2 : Nat))) (some (((0 : Int), (0 : Int)), (3 : Int))))
    (onSome
      (F28 N
        (IntKind.wrap IntKind.i64 ((1900 : Int) + IntKind.wrap IntKind.i64 (Int.tdiv a0 (12 : Int))), IntKind.wrap IntKind.i64 (Int.tmod a0 (12 : Int) + (1 : Int)), (1 : Int)))
      fun y1 => onSome (F17 N a0) fun y2 => aGd (decide ((0 : Nat) + (2 : Nat) ≤ (2 : Nat))) (some ((Prod.fst y1, IntKind.wrap IntKind.i64 (Prod.fst y1 + y2)), (0 : Int)))) := by kernel_rfl
noncomputable def C13 (N : Nat) : Callee := mkCallee A13 R13 (F13 N)
theorem S13 (N : Nat) : Cok 13 (C13 N) := cok_of (l := (E13 N).calls) (O := O13 N) (cok_cons (S47 N) (cok_cons (S28 N) (cok_cons (S17 N) cok_nil))) rfl Tryd.func13 rfl (by kernel_rfl) (by kernel_rfl)

-- function 72
def A72 : Cods ((Int) × Int) := (codsOne (codAgg (codsCons (codInt .i64) (codsOne (codInt .i64)))))
def R72 : Cod (Bool) := codBool
noncomputable def E72 (N : Nat) : Env := ⟨Tryd.prog, []⟩
def O72 (N : Nat) : Opts := ⟨N, [], []⟩
noncomputable def F72 (N : Nat) (a : (Int) × Int) : Option (Bool) := aTyped (E72 N) (O72 N) Tryd.f72 A72 R72 a
theorem F72_eq (N : Nat) (a0 : Int) (a1 : Int) : F72 N (a0, a1) =
    aIf (decide ((0 : Int) ≤ a0)) (aIf (decide (a0 ≤ a1)) (some (decide (a1 ≤ (109573 : Int)))) (some false)) (some false) := by kernel_rfl
noncomputable def C72 (N : Nat) : Callee := mkCallee A72 R72 (F72 N)
theorem S72 (N : Nat) : Cok 72 (C72 N) := cok_of (l := (E72 N).calls) (O := O72 N) cok_nil rfl Tryd.func72 rfl (by kernel_rfl) (by kernel_rfl)

-- function 65
def A65 : Cods ((Int) × Int) := (codsOne (codAgg (codsCons (codInt .i64) (codsOne (codInt .i64)))))
def R65 : Cod (Bool) := codBool
noncomputable def E65 (N : Nat) : Env := ⟨Tryd.prog, [(72, C72 N)]⟩
def O65 (N : Nat) : Opts := ⟨N, [], []⟩
noncomputable def F65 (N : Nat) (a : (Int) × Int) : Option (Bool) := aTyped (E65 N) (O65 N) Tryd.f65 A65 R65 a
theorem F65_eq (N : Nat) (a0 : Int) (a1 : Int) : F65 N (a0, a1) =
    onSome (F72 N (a0, a1)) fun y0 => aIf y0 (some (decide (a0 < a1))) (some false) := by kernel_rfl
noncomputable def C65 (N : Nat) : Callee := mkCallee A65 R65 (F65 N)
theorem S65 (N : Nat) : Cok 65 (C65 N) := cok_of (l := (E65 N).calls) (O := O65 N) (cok_cons (S72 N) cok_nil) rfl Tryd.func65 rfl (by kernel_rfl) (by kernel_rfl)

-- function 49
def A49 : Cods (((Int) × Int) × (Int) × Int) := (codsCons (codAgg (codsCons (codInt .i64) (codsOne (codInt .i64)))) (codsOne (codAgg (codsCons (codInt .i64) (codsOne (codInt .i64))))))
def R49 : Cod (((Int) × Int) × Bool) := (codTup (codsCons (codAgg (codsCons (codInt .i64) (codsOne (codInt .i64)))) (codsOne codBool)))
noncomputable def E49 (N : Nat) : Env := ⟨Tryd.prog, [(65, C65 N)]⟩
def O49 (N : Nat) : Opts := ⟨N, [], []⟩
noncomputable def F49 (N : Nat) (a : ((Int) × Int) × (Int) × Int) : Option (((Int) × Int) × Bool) := aTyped (E49 N) (O49 N) Tryd.f49 A49 R49 a
theorem F49_eq (N : Nat) (a0 : Int × Int) (a1 : Int) (a2 : Int) : F49 N (a0, a1, a2) =
    aGd (decide ((0 : Nat) + (2 : Nat) ≤ (2 : Nat)))
  (onSome (F65 N (Prod.fst a0, Prod.snd a0)) fun y0 =>
    aIf (!y0) (aGd (decide ((0 : Nat) + (2 : Nat) ≤ (2 : Nat))) (some (((0 : Int), (0 : Int)), false)))
      (onSome (F65 N (a1, a2)) fun y1 =>
        aIf (!y1) (aGd (decide ((0 : Nat) + (2 : Nat) ≤ (2 : Nat))) (some (((0 : Int), (0 : Int)), false)))
          (aIf (decide (min (Prod.snd a0) a2 ≤ max (Prod.fst a0) a1)) (aGd (decide ((0 : Nat) + (2 : Nat) ≤ (2 : Nat))) (some (((0 : Int), (0 : Int)), false)))
            (aGd (decide ((0 : Nat) + (2 : Nat) ≤ (2 : Nat))) (some ((max (Prod.fst a0) a1, min (Prod.snd a0) a2), true)))))) := by kernel_rfl
noncomputable def C49 (N : Nat) : Callee := mkCallee A49 R49 (F49 N)
theorem S49 (N : Nat) : Cok 49 (C49 N) := cok_of (l := (E49 N).calls) (O := O49 N) (cok_cons (S65 N) cok_nil) rfl Tryd.func49 rfl (by kernel_rfl) (by kernel_rfl)

-- function 19
def A19 : Cods ((Int) × (Int) × Int) := (codsCons (codInt .i64) (codsOne (codAgg (codsCons (codInt .i64) (codsOne (codInt .i64))))))
def R19 : Cod (Int) := (codInt .i64)
noncomputable def E19 (N : Nat) : Env := ⟨Tryd.prog, [(13, C13 N), (49, C49 N)]⟩
def O19 (N : Nat) : Opts := ⟨N, [], []⟩
noncomputable def F19 (N : Nat) (a : (Int) × (Int) × Int) : Option (Int) := aTyped (E19 N) (O19 N) Tryd.f19 A19 R19 a
theorem F19_eq (N : Nat) (a0 : Int) (a1 : Int) (a2 : Int) : F19 N (a0, a1, a2) =
    onSome (F13 N a0) fun y0 =>
  aGd (decide ((0 : Nat) + (2 : Nat) ≤ (2 : Nat)))
    (aIf (Prod.snd y0 != (0 : Int)) (some (0 : Int))
      (onSome (F49 N ((Prod.fst (Prod.fst y0), Prod.snd (Prod.fst y0)), a1, a2)) fun y1 =>
        aGd (decide ((0 : Nat) + (2 : Nat) ≤ (2 : Nat))) (aIf (!Prod.snd y1) (some (0 : Int)) (some (IntKind.wrap IntKind.i64 (Prod.snd (Prod.fst y1) - Prod.fst (Prod.fst y1))))))) := by kernel_rfl
noncomputable def C19 (N : Nat) : Callee := mkCallee A19 R19 (F19 N)
theorem S19 (N : Nat) : Cok 19 (C19 N) := cok_of (l := (E19 N).calls) (O := O19 N) (cok_cons (S13 N) (cok_cons (S49 N) cok_nil)) rfl Tryd.func19 rfl (by kernel_rfl) (by kernel_rfl)

-- function 66
def A66 : Cods (Int) := (codsOne (codInt .i64))
def R66 : Cod (Bool) := codBool
noncomputable def E66 (N : Nat) : Env := ⟨Tryd.prog, []⟩
def O66 (N : Nat) : Opts := ⟨N, [], []⟩
noncomputable def F66 (N : Nat) (a : Int) : Option (Bool) := aTyped (E66 N) (O66 N) Tryd.f66 A66 R66 a
theorem F66_eq (N : Nat) (a0 : Int) : F66 N a0 =
    aIf (decide ((0 : Int) ≤ a0)) (some (decide (a0 ≤ (109572 : Int)))) (some false) := by kernel_rfl
noncomputable def C66 (N : Nat) : Callee := mkCallee A66 R66 (F66 N)
theorem S66 (N : Nat) : Cok 66 (C66 N) := cok_of (l := (E66 N).calls) (O := O66 N) cok_nil rfl Tryd.func66 rfl (by kernel_rfl) (by kernel_rfl)

-- function 51
def A51 : Cods ((Int) × List PV) := (codsOne (codAgg (codsCons (codInt .i64) (codsOne (codSl 1)))))
def R51 : Cod (Bool) := codBool
noncomputable def E51 (N : Nat) : Env := ⟨Tryd.prog, [(66, C66 N)]⟩
def O51 (N : Nat) : Opts := ⟨N, [(5, ⟨[3, 21, 22, 23], [], [], 1⟩)], []⟩
noncomputable def F51 (N : Nat) (a : (Int) × List PV) : Option (Bool) := aTyped (E51 N) (O51 N) Tryd.f51 A51 R51 a
noncomputable def L51_5 (N : Nat) (n : Nat) (x0 : Int) (x1 : List PV) (x2 : Int) (x3 : Int) (x4 : Int) (x5 : List PV) : Option Bool :=
  atLoop (E51 N) (O51 N) Tryd.f51 [(1 : Nat), (1 : Nat), (1 : Nat), (0 : Nat), (1 : Nat), (0 : Nat)] [] n
  {
    tmps := Tm.of 37 [(3, AV.p (PV.int IntKind.i64 x0)), (21, AV.p (PV.sl (1 : Nat) x1)), (22, AV.p (PV.int IntKind.i64 x2)), (23, AV.p (PV.int IntKind.i64 x3))],
    heap := [Blk.box [AV.p (PV.int IntKind.i64 x4), AV.p (PV.sl (1 : Nat) x5)]] }
  fun x => Cod.dec R51 x some
theorem L51_5_eq (N : Nat) (n : Nat) (x0 : Int) (x1 : List PV) (x2 : Int) (x3 : Int) (x4 : Int) (x5 : List PV) : L51_5 N (n + 1) x0 x1 x2 x3 x4 x5 =
    aIf (decide (x3 < x2))
  (onGet x1 x3 fun z0 =>
    onInt IntKind.i64 z0 fun n1 =>
      onSome (F66 N n1) fun y2 => aIf (!y2) (some false) (aIf (decide (n1 ≤ x0)) (some false) (L51_5 N n n1 x1 x2 (IntKind.wrap IntKind.i64 (x3 + (1 : Int))) x4 x5)))
  (some true) := by kernel_rfl
theorem L51_5_zero (N : Nat) (x0 : Int) (x1 : List PV) (x2 : Int) (x3 : Int) (x4 : Int) (x5 : List PV) : L51_5 N 0 x0 x1 x2 x3 x4 x5 = none := by kernel_rfl
theorem F51_eq (N : Nat) (a0 : Int) (a1 : List PV) : F51 N (a0, a1) =
    aIf (decide (a0 < (0 : Int))) (some false)
  (aIf (decide ((126 : Int) < a0)) (some false)
    (aIf (decide ((64 : Int) < Int.ofNat (List.length a1))) (some false) (L51_5 N N (-1 : Int) a1 (Int.ofNat (List.length a1)) (0 : Int) a0 a1))) := by kernel_rfl
noncomputable def C51 (N : Nat) : Callee := mkCallee A51 R51 (F51 N)
theorem S51 (N : Nat) : Cok 51 (C51 N) := cok_of (l := (E51 N).calls) (O := O51 N) (cok_cons (S66 N) cok_nil) rfl Tryd.func51 rfl (by kernel_rfl) (by kernel_rfl)

-- function 89
def A89 : Cods (Int) := (codsOne (codInt .i64))
def R89 : Cod (Bool) := codBool
noncomputable def E89 (N : Nat) : Env := ⟨Tryd.prog, []⟩
def O89 (N : Nat) : Opts := ⟨N, [], []⟩
noncomputable def F89 (N : Nat) (a : Int) : Option (Bool) := aTyped (E89 N) (O89 N) Tryd.f89 A89 R89 a
theorem F89_eq (N : Nat) (a0 : Int) : F89 N a0 =
    some (a0 != a0) := by kernel_rfl
noncomputable def C89 (N : Nat) : Callee := mkCallee A89 R89 (F89 N)
theorem S89 (N : Nat) : Cok 89 (C89 N) := cok_of (l := (E89 N).calls) (O := O89 N) cok_nil rfl Tryd.func89 rfl (by kernel_rfl) (by kernel_rfl)

-- function 82
def A82 : Cods (Int) := (codsOne (codInt .i64))
def R82 : Cod (Bool) := codBool
noncomputable def E82 (N : Nat) : Env := ⟨Tryd.prog, []⟩
def O82 (N : Nat) : Opts := ⟨N, [], []⟩
noncomputable def F82 (N : Nat) (a : Int) : Option (Bool) := aTyped (E82 N) (O82 N) Tryd.f82 A82 R82 a
theorem F82_eq (N : Nat) (a0 : Int) : F82 N a0 =
    some (a0 != a0) := by kernel_rfl
noncomputable def C82 (N : Nat) : Callee := mkCallee A82 R82 (F82 N)
theorem S82 (N : Nat) : Cok 82 (C82 N) := cok_of (l := (E82 N).calls) (O := O82 N) cok_nil rfl Tryd.func82 rfl (by kernel_rfl) (by kernel_rfl)

-- function 81
def A81 : Cods ((Int) × Int) := (codsCons (codInt .i64) (codsOne (codInt .i64)))
def R81 : Cod (Bool) := codBool
noncomputable def E81 (N : Nat) : Env := ⟨Tryd.prog, [(89, C89 N)]⟩
def O81 (N : Nat) : Opts := ⟨N, [], []⟩
noncomputable def F81 (N : Nat) (a : (Int) × Int) : Option (Bool) := aTyped (E81 N) (O81 N) Tryd.f81 A81 R81 a
theorem F81_eq (N : Nat) (a0 : Int) (a1 : Int) : F81 N (a0, a1) =
    onSome (F89 N a0) fun y0 => aIf y0 (onSome (F89 N a1) fun y1 => aIf (!y1) (some true) (some (decide (a0 < a1)))) (some (decide (a0 < a1))) := by kernel_rfl
noncomputable def C81 (N : Nat) : Callee := mkCallee A81 R81 (F81 N)
theorem S81 (N : Nat) : Cok 81 (C81 N) := cok_of (l := (E81 N).calls) (O := O81 N) (cok_cons (S89 N) cok_nil) rfl Tryd.func81 rfl (by kernel_rfl) (by kernel_rfl)

-- function 73
def A73 : Cods ((List PV) × Int) := (codsCons (codSl 1) (codsOne (codInt .i64)))
def R73 : Cod ((Int) × Bool) := (codTup (codsCons (codInt .i64) (codsOne codBool)))
noncomputable def E73 (N : Nat) : Env := ⟨Tryd.prog, [(81, C81 N), (82, C82 N)]⟩
def O73 (N : Nat) : Opts := ⟨N, [(3, ⟨[0, 1, 6, 7, 8], [], [], 0⟩)], []⟩
noncomputable def F73 (N : Nat) (a : (List PV) × Int) : Option ((Int) × Bool) := aTyped (E73 N) (O73 N) Tryd.f73 A73 R73 a
noncomputable def L73_3 (N : Nat) (n : Nat) (x0 : List PV) (x1 : Int) (x2 : Int) (x3 : Int) (x4 : Int) : Option (Int × Bool) :=
  atLoop (E73 N) (O73 N) Tryd.f73 [(1 : Nat), (1 : Nat), (1 : Nat), (0 : Nat), (0 : Nat)] [] n
  {
    tmps := Tm.of 54 [(0, AV.p (PV.sl (1 : Nat) x0)), (1, AV.p (PV.int IntKind.i64 x1)), (6, AV.p (PV.int IntKind.i64 x2)), (7, AV.p (PV.int IntKind.i64 x3)), (8, AV.p (PV.int IntKind.i64 x4))],
    heap := [] }
  fun x => Cod.dec R73 x some
theorem L73_3_eq (N : Nat) (n : Nat) (x0 : List PV) (x1 : Int) (x2 : Int) (x3 : Int) (x4 : Int) : L73_3 N (n + 1) x0 x1 x2 x3 x4 =
    aIf (decide (x3 < x4))
  (onGet x0 (IntKind.wrap IntKind.i64 (Int.fdiv (IntKind.wrap IntKind.u64 (IntKind.wrap IntKind.i64 (x3 + x4))) (2 : Int))) fun z0 =>
    onInt IntKind.i64 z0 fun n1 =>
      onSome (F81 N (n1, x1)) fun y2 =>
        aIf y2
          (L73_3 N n x0 x1 x2 (IntKind.wrap IntKind.i64 (IntKind.wrap IntKind.i64 (Int.fdiv (IntKind.wrap IntKind.u64 (IntKind.wrap IntKind.i64 (x3 + x4))) (2 : Int)) + (1 : Int)))
            x4)
          (L73_3 N n x0 x1 x2 x3 (IntKind.wrap IntKind.i64 (Int.fdiv (IntKind.wrap IntKind.u64 (IntKind.wrap IntKind.i64 (x3 + x4))) (2 : Int)))))
  (aIf (decide (x3 < x2))
    (onGet x0 x3 fun z3 =>
      onInt IntKind.i64 z3 fun n4 =>
        aIf (n4 == x1) (some (x3, true))
          (onGet x0 x3 fun z5 => onInt IntKind.i64 z5 fun n6 => onSome (F82 N n6) fun y7 => aIf y7 (onSome (F82 N x1) fun y8 => some (x3, y8)) (some (x3, false))))
    (some (x3, false))) := by kernel_rfl
theorem L73_3_zero (N : Nat) (x0 : List PV) (x1 : Int) (x2 : Int) (x3 : Int) (x4 : Int) : L73_3 N 0 x0 x1 x2 x3 x4 = none := by kernel_rfl
theorem F73_eq (N : Nat) (a0 : List PV) (a1 : Int) : F73 N (a0, a1) =
    L73_3 N N a0 a1 (Int.ofNat (List.length a0)) (0 : Int) (Int.ofNat (List.length a0)) := by kernel_rfl
noncomputable def C73 (N : Nat) : Callee := mkCallee A73 R73 (F73 N)
theorem S73 (N : Nat) : Cok 73 (C73 N) := cok_of (l := (E73 N).calls) (O := O73 N) (cok_cons (S81 N) (cok_cons (S82 N) cok_nil)) rfl Tryd.func73 rfl (by kernel_rfl) (by kernel_rfl)

-- function 67
def A67 : Cods (((Int) × List PV) × Int) := (codsCons (codAgg (codsCons (codInt .i64) (codsOne (codSl 1)))) (codsOne (codInt .i64)))
def R67 : Cod (Bool) := codBool
noncomputable def E67 (N : Nat) : Env := ⟨Tryd.prog, [(39, C39 N), (73, C73 N)]⟩
def O67 (N : Nat) : Opts := ⟨N, [], []⟩
noncomputable def F67 (N : Nat) (a : ((Int) × List PV) × Int) : Option (Bool) := aTyped (E67 N) (O67 N) Tryd.f67 A67 R67 a
theorem F67_eq (N : Nat) (a0 : Int × List PV) (a1 : Int) : F67 N (a0, a1) =
    onSome (F39 N a1) fun y0 =>
  aGd (decide ((0 : Int) ≤ y0))
    (aIf
      (IntKind.wrap IntKind.i64
          (Int.ofNat (BitVec.toNat (BitVec.ofInt (64 : Nat) (Int.fdiv (Prod.fst a0) ((2 : Int) ^ min (Int.toNat y0) (64 : Nat))) &&& BitVec.ofInt (64 : Nat) (1 : Int)))) ==
        (1 : Int))
      (some false) (onSome (F73 N (Prod.snd a0, a1)) fun y1 => some !Prod.snd y1)) := by kernel_rfl
noncomputable def C67 (N : Nat) : Callee := mkCallee A67 R67 (F67 N)
theorem S67 (N : Nat) : Cok 67 (C67 N) := cok_of (l := (E67 N).calls) (O := O67 N) (cok_cons (S39 N) (cok_cons (S73 N) cok_nil)) rfl Tryd.func67 rfl (by kernel_rfl) (by kernel_rfl)

-- function 52
def A52 : Cods (((Int) × List PV) × Int) := (codsCons (codAgg (codsCons (codInt .i64) (codsOne (codSl 1)))) (codsOne (codInt .i64)))
def R52 : Cod (Bool) := codBool
noncomputable def E52 (N : Nat) : Env := ⟨Tryd.prog, [(51, C51 N), (66, C66 N), (67, C67 N)]⟩
def O52 (N : Nat) : Opts := ⟨N, [], []⟩
noncomputable def F52 (N : Nat) (a : ((Int) × List PV) × Int) : Option (Bool) := aTyped (E52 N) (O52 N) Tryd.f52 A52 R52 a
theorem F52_eq (N : Nat) (a0 : Int × List PV) (a1 : Int) : F52 N (a0, a1) =
    onSome (F51 N (Prod.fst a0, Prod.snd a0)) fun y0 =>
  aIf y0 (onSome (F66 N a1) fun y1 => aIf y1 (onSome (F67 N ((Prod.fst a0, Prod.snd a0), a1)) fun y2 => some y2) (some false)) (some false) := by kernel_rfl
noncomputable def C52 (N : Nat) : Callee := mkCallee A52 R52 (F52 N)
theorem S52 (N : Nat) : Cok 52 (C52 N) := cok_of (l := (E52 N).calls) (O := O52 N) (cok_cons (S51 N) (cok_cons (S66 N) (cok_cons (S67 N) cok_nil))) rfl Tryd.func52 rfl (by kernel_rfl) (by kernel_rfl)

-- function 22
def A22 : Cods ((Int) × ((Int) × List PV) × Int) := (codsCons (codInt .i64) (codsCons (codAgg (codsCons (codInt .i64) (codsOne (codSl 1)))) (codsOne (codInt .i64))))
def R22 : Cod ((Int) × Int) := (codTup (codsCons (codInt .i64) (codsOne (codInt .i64))))
noncomputable def E22 (N : Nat) : Env := ⟨Tryd.prog, [(51, C51 N), (13, C13 N), (17, C17 N), (52, C52 N)]⟩
def O22 (N : Nat) : Opts := ⟨N, [(7, ⟨[4, 10], [], [], 2⟩)], []⟩
noncomputable def F22 (N : Nat) (a : (Int) × ((Int) × List PV) × Int) : Option ((Int) × Int) := aTyped (E22 N) (O22 N) Tryd.f22 A22 R22 a
noncomputable def L22_7 (N : Nat) (n : Nat) (x0 : Int) (x1 : Int) (x2 : List PV) (x3 : Int) (x4 : Int) : Option (Int × Int) :=
  atLoop (E22 N) (O22 N) Tryd.f22 [(1 : Nat), (1 : Nat), (1 : Nat), (1 : Nat), (0 : Nat), (1 : Nat), (0 : Nat)] [] n
  {
    tmps := Tm.of 46 [(4, AV.box (0 : Nat) (0 : Nat)), (10, AV.p (PV.int IntKind.i64 x0))],
    heap := [Blk.box [AV.p (PV.int IntKind.i64 x1), AV.p (PV.sl (1 : Nat) x2)], Blk.box [AV.p (PV.int IntKind.i64 x3), AV.p (PV.int IntKind.i64 x4)]] }
  fun x => Cod.dec R22 x some
theorem L22_7_eq (N : Nat) (n : Nat) (x0 : Int) (x1 : Int) (x2 : List PV) (x3 : Int) (x4 : Int) : L22_7 N (n + 1) x0 x1 x2 x3 x4 =
    aIf (decide ((0 : Int) ≤ x0)) (onSome (F52 N ((x1, x2), x0)) fun y3 => aIf y3 (some (x0, (0 : Int))) (L22_7 N n (IntKind.wrap IntKind.i64 (x0 - (1 : Int))) x1 x2 x3 x4))
  (some ((0 : Int), (6 : Int))) := by kernel_rfl
theorem L22_7_zero (N : Nat) (x0 : Int) (x1 : Int) (x2 : List PV) (x3 : Int) (x4 : Int) : L22_7 N 0 x0 x1 x2 x3 x4 = none := by kernel_rfl
theorem F22_eq (N : Nat) (a0 : Int) (a1 : Int × List PV) (a2 : Int) : F22 N (a0, a1, a2) =
    onSome (F51 N (Prod.fst a1, Prod.snd a1)) fun y0 =>
  aIf (!y0) (some ((0 : Int), (1 : Int)))
    (aIf (decide (a2 < (1 : Int))) (some ((0 : Int), (1 : Int)))
      (aIf (decide ((31 : Int) < a2)) (some ((0 : Int), (1 : Int)))
        (onSome (F13 N a0) fun y1 =>
          aGd (decide ((0 : Nat) + (2 : Nat) ≤ (2 : Nat)))
            (aIf (Prod.snd y1 != (0 : Int)) (some ((0 : Int), Prod.snd y1))
              (onSome (F17 N a0) fun y2 =>
                L22_7 N N (IntKind.wrap IntKind.i64 (IntKind.wrap IntKind.i64 (Prod.fst (Prod.fst y1) + min a2 y2) - (1 : Int))) (Prod.fst a1) (Prod.snd a1)
                  (Prod.fst (Prod.fst y1)) (Prod.snd (Prod.fst y1))))))) := by kernel_rfl
noncomputable def C22 (N : Nat) : Callee := mkCallee A22 R22 (F22 N)
theorem S22 (N : Nat) : Cok 22 (C22 N) := cok_of (l := (E22 N).calls) (O := O22 N) (cok_cons (S51 N) (cok_cons (S13 N) (cok_cons (S17 N) (cok_cons (S52 N) cok_nil)))) rfl Tryd.func22 rfl (by kernel_rfl) (by kernel_rfl)

-- function 26
def A26 : Cods (Int) := (codsOne (codInt .i64))
def R26 : Cod (List UInt8) := codStr
noncomputable def E26 (N : Nat) : Env := ⟨Tryd.prog, [(47, C47 N), (56, C56 N)]⟩
def O26 (N : Nat) : Opts := ⟨N, [], []⟩
noncomputable def F26 (N : Nat) (a : Int) : Option (List UInt8) := aTyped (E26 N) (O26 N) Tryd.f26 A26 R26 a
theorem F26_eq (N : Nat) (a0 : Int) : F26 N a0 =
    onSome (F47 N a0) fun y0 =>
  aIf (!y0) (some [])
    (onSome (F56 N (IntKind.wrap IntKind.i64 (Int.tmod a0 (12 : Int) + (1 : Int)))) fun y1 =>
      aIf (decide (Int.ofNat (List.length y1) < (2 : Int)))
        (aGd (decide ((1 : Nat) + List.length y1 ≤ (9223372036854775807 : Nat)))
          (onSome (F56 N (IntKind.wrap IntKind.i64 ((1900 : Int) + IntKind.wrap IntKind.i64 (Int.tdiv a0 (12 : Int))))) fun y2 =>
            aGd (decide (List.length y2 + (1 : Nat) ≤ (9223372036854775807 : Nat)))
              (aGd (decide (List.length (y2 ++ [(45 : UInt8)]) + List.length ((48 : UInt8) :: List.append [] y1) ≤ (9223372036854775807 : Nat)))
                (some (y2 ++ [(45 : UInt8)] ++ (48 : UInt8) :: List.append [] y1)))))
        (onSome (F56 N (IntKind.wrap IntKind.i64 ((1900 : Int) + IntKind.wrap IntKind.i64 (Int.tdiv a0 (12 : Int))))) fun y3 =>
          aGd (decide (List.length y3 + (1 : Nat) ≤ (9223372036854775807 : Nat)))
            (aGd (decide (List.length (y3 ++ [(45 : UInt8)]) + List.length y1 ≤ (9223372036854775807 : Nat))) (some (y3 ++ [(45 : UInt8)] ++ y1))))) := by kernel_rfl
noncomputable def C26 (N : Nat) : Callee := mkCallee A26 R26 (F26 N)
theorem S26 (N : Nat) : Cok 26 (C26 N) := cok_of (l := (E26 N).calls) (O := O26 N) (cok_cons (S47 N) (cok_cons (S56 N) cok_nil)) rfl Tryd.func26 rfl (by kernel_rfl) (by kernel_rfl)

-- function 24
def A24 : Cods (List UInt8) := (codsOne codStr)
def R24 : Cod ((Int) × Int) := (codTup (codsCons (codInt .i64) (codsOne (codInt .i64))))
noncomputable def E24 (N : Nat) : Env := ⟨Tryd.prog, []⟩
def O24 (N : Nat) : Opts := ⟨N, [(5, ⟨[0, 4, 17, 18], [], [], 0⟩)], []⟩
noncomputable def F24 (N : Nat) (a : List UInt8) : Option ((Int) × Int) := aTyped (E24 N) (O24 N) Tryd.f24 A24 R24 a
noncomputable def L24_5 (N : Nat) (n : Nat) (x0 : List UInt8) (x1 : Int) (x2 : Int) (x3 : Int) : Option (Int × Int) :=
  atLoop (E24 N) (O24 N) Tryd.f24 [(1 : Nat), (1 : Nat), (1 : Nat), (0 : Nat), (1 : Nat), (0 : Nat)] [] n
  {
    tmps := Tm.of 66 [(0, AV.p (PV.str x0)), (4, AV.p (PV.int IntKind.i64 x1)), (17, AV.p (PV.int IntKind.i64 x2)), (18, AV.p (PV.int IntKind.i64 x3))],
    heap := [] }
  fun x => Cod.dec R24 x some
theorem L24_5_eq (N : Nat) (n : Nat) (x0 : List UInt8) (x1 : Int) (x2 : Int) (x3 : Int) : L24_5 N (n + 1) x0 x1 x2 x3 =
    aIf (decide (x3 < x2))
  (aIf (x3 == (4 : Int)) (L24_5 N n x0 x1 x2 (IntKind.wrap IntKind.i64 (x3 + (1 : Int))))
    (onGet x0 x3 fun z1 =>
      aIf (decide (Int.ofNat (UInt8.toNat z1) < (48 : Int))) (some ((0 : Int), (2 : Int)))
        (onGet x0 x3 fun z2 =>
          aIf (decide ((57 : Int) < Int.ofNat (UInt8.toNat z2))) (some ((0 : Int), (2 : Int)))
            (onGet x0 x3 fun z3 =>
              L24_5 N n x0
                (IntKind.wrap IntKind.i64
                  (IntKind.wrap IntKind.i64 ((10 : Int) * x1) + IntKind.wrap IntKind.i64 (IntKind.wrap IntKind.u8 (Int.ofNat (UInt8.toNat z3) - (48 : Int)))))
                x2 (IntKind.wrap IntKind.i64 (x3 + (1 : Int)))))))
  (aIf (decide (IntKind.wrap IntKind.i64 (Int.tdiv x1 (100 : Int)) < (1900 : Int))) (some ((0 : Int), (3 : Int)))
    (aIf (decide ((2199 : Int) < IntKind.wrap IntKind.i64 (Int.tdiv x1 (100 : Int)))) (some ((0 : Int), (3 : Int)))
      (aIf (decide (Int.tmod x1 (100 : Int) < (1 : Int))) (some ((0 : Int), (3 : Int)))
        (aIf (decide ((12 : Int) < Int.tmod x1 (100 : Int))) (some ((0 : Int), (3 : Int)))
          (some
            (IntKind.wrap IntKind.i64
                (IntKind.wrap IntKind.i64
                    (IntKind.wrap IntKind.i64 ((12 : Int) * IntKind.wrap IntKind.i64 (IntKind.wrap IntKind.i64 (Int.tdiv x1 (100 : Int)) - (1900 : Int))) +
                      Int.tmod x1 (100 : Int)) -
                  (1 : Int)),
              (0 : Int))))))) := by kernel_rfl
theorem L24_5_zero (N : Nat) (x0 : List UInt8) (x1 : Int) (x2 : Int) (x3 : Int) : L24_5 N 0 x0 x1 x2 x3 = none := by kernel_rfl
theorem F24_eq (N : Nat) (a0 : List UInt8) : F24 N a0 =
    aIf (Int.ofNat (List.length a0) != (7 : Int)) (some ((0 : Int), (2 : Int)))
  (onGet a0 (4 : Int) fun z0 => aIf (Int.ofNat (UInt8.toNat z0) != (45 : Int)) (some ((0 : Int), (2 : Int))) (L24_5 N N a0 (0 : Int) (Int.ofNat (List.length a0)) (0 : Int))) := by kernel_rfl
noncomputable def C24 (N : Nat) : Callee := mkCallee A24 R24 (F24 N)
theorem S24 (N : Nat) : Cok 24 (C24 N) := cok_of (l := (E24 N).calls) (O := O24 N) cok_nil rfl Tryd.func24 rfl (by kernel_rfl) (by kernel_rfl)

-- function 21
def A21 : Cods (Unit) := codsNil
def R21 : Cod (Bool) := codBool
noncomputable def E21 (N : Nat) : Env := ⟨Tryd.prog, [(24, C24 N), (22, C22 N), (13, C13 N), (26, C26 N), (17, C17 N), (15, C15 N), (19, C19 N)]⟩
def O21 (N : Nat) : Opts := ⟨N, [], []⟩
noncomputable def F21 (N : Nat) (a : Unit) : Option (Bool) := aTyped (E21 N) (O21 N) Tryd.f21 A21 R21 a
theorem F21_eq (N : Nat)  : F21 N () =
    onSome (F24 N [(50 : UInt8), (48 : UInt8), (50 : UInt8), (52 : UInt8), (45 : UInt8), (48 : UInt8), (50 : UInt8)]) fun y0 =>
  onSome (F22 N (IntKind.wrap IntKind.i64 (Prod.fst y0 + (1 : Int)), ((96 : Int), []), (31 : Int))) fun y1 =>
    onSome (F13 N (IntKind.wrap IntKind.i64 (Prod.fst y0 + (1 : Int)))) fun y2 =>
      aGd (decide ((0 : Nat) + (2 : Nat) ≤ (2 : Nat)))
        (aIf (Prod.fst y0 == (1489 : Int))
          (aIf (Prod.snd y0 == (0 : Int))
            (aIf (Prod.snd y1 == (0 : Int))
              (aIf (Prod.snd y2 == (0 : Int))
                (onSome (F26 N (Prod.fst y0)) fun y3 =>
                  aIf (y3 == [(50 : UInt8), (48 : UInt8), (50 : UInt8), (52 : UInt8), (45 : UInt8), (48 : UInt8), (50 : UInt8)])
                    (onSome (F17 N (Prod.fst y0)) fun y4 =>
                      aIf (y4 == (29 : Int))
                        (aIf (Prod.fst y1 == IntKind.wrap IntKind.i64 (Prod.fst (Prod.fst y2) + (28 : Int)))
                          (onSome (F15 N (IntKind.wrap IntKind.i64 (Prod.fst (Prod.fst y2) - (1 : Int)))) fun y5 =>
                            aIf (y5 == Prod.fst y0)
                              (onSome (F15 N (-1 : Int)) fun y6 =>
                                aIf (y6 == (-1 : Int))
                                  (onSome
                                    (F19 N
                                      (Prod.fst y0, IntKind.wrap IntKind.i64 (Prod.fst (Prod.fst y2) - (3 : Int)), IntKind.wrap IntKind.i64 (Prod.fst (Prod.fst y2) + (5 : Int))))
                                    fun y7 => some (y7 == (3 : Int)))
                                  (some false))
                              (some false))
                          (some false))
                        (some false))
                    (some false))
                (some false))
              (some false))
            (some false))
          (some false)) := by kernel_rfl
def G21 (a : Unit) : Option (Bool) := some true
theorem K21 : F21 200 = G21 := funext fun _ => by kernel_rfl
noncomputable def C21 (N : Nat) : Callee := mkCallee A21 R21 G21
theorem S21 (N : Nat) : Cok 21 (C21 N) := by
  unfold C21
  rw [← K21]
  exact cok_of (l := (E21 200).calls) (O := O21 200) (cok_cons (S24 200) (cok_cons (S22 200) (cok_cons (S13 200) (cok_cons (S26 200) (cok_cons (S17 200) (cok_cons (S15 200) (cok_cons (S19 200) cok_nil))))))) rfl Tryd.func21 rfl (by kernel_rfl) (by kernel_rfl)

-- function 6
def A6 : Cods ((Int) × Int) := (codsCons (codInt .i64) (codsOne (codInt .i64)))
def R6 : Cod (Bool) := codBool
noncomputable def E6 (N : Nat) : Env := ⟨Tryd.prog, [(15, C15 N), (13, C13 N), (17, C17 N), (19, C19 N), (26, C26 N), (21, C21 N), (24, C24 N)]⟩
def O6 (N : Nat) : Opts := ⟨N, [], []⟩
noncomputable def F6 (N : Nat) (a : (Int) × Int) : Option (Bool) := aTyped (E6 N) (O6 N) Tryd.f6 A6 R6 a
theorem F6_eq (N : Nat) (a0 : Int) (a1 : Int) : F6 N (a0, a1) =
    onSome (F15 N a0) fun y0 =>
  aIf (decide (a0 < (0 : Int)))
    (aIf (y0 != (-1 : Int)) (some false)
      (onSome (F13 N a1) fun y1 =>
        aGd (decide ((0 : Nat) + (2 : Nat) ≤ (2 : Nat)))
          (aIf (decide (a1 < (0 : Int)))
            (aIf (Prod.snd y1 == (3 : Int)) (onSome (F26 N a1) fun y2 => aIf (y2 == []) (onSome (F17 N a1) fun y3 => aIf (y3 == (0 : Int)) (some true) (some false)) (some false))
              (some false))
            (aIf (decide ((3599 : Int) < a1))
              (aIf (Prod.snd y1 == (3 : Int)) (onSome (F26 N a1) fun y4 => aIf (y4 == []) (onSome (F17 N a1) fun y5 => aIf (y5 == (0 : Int)) (some true) (some false)) (some false))
                (some false))
              (onSome (F26 N a1) fun y6 =>
                onSome (F24 N y6) fun y7 =>
                  aIf (Prod.snd y1 != (0 : Int)) (some false)
                    (aIf (Prod.fst y7 != a1) (some false)
                      (aIf (Prod.snd y7 != (0 : Int)) (some false)
                        (onSome (F15 N (Prod.fst (Prod.fst y1))) fun y8 =>
                          aIf (y8 != a1) (some false)
                            (onSome (F15 N (IntKind.wrap IntKind.i64 (Prod.snd (Prod.fst y1) - (1 : Int)))) fun y9 =>
                              aIf (y9 != a1) (some false)
                                (onSome (F13 N (IntKind.wrap IntKind.i64 (a1 + (1 : Int)))) fun y10 =>
                                  aGd (decide ((0 : Nat) + (2 : Nat) ≤ (2 : Nat)))
                                    (aIf (a1 == (3599 : Int))
                                      (aIf (Prod.snd (Prod.fst y1) == (109573 : Int)) (aIf (Prod.snd y10 == (3 : Int)) (some true) (some false)) (some false))
                                      (aIf (Prod.snd y10 == (0 : Int))
                                        (aIf (Prod.fst (Prod.fst y10) == Prod.snd (Prod.fst y1))
                                          (aIf (decide ((0 : Int) < a1)) (some true) (aIf (Prod.fst (Prod.fst y1) == (0 : Int)) (some true) (some false))) (some false))
                                        (some false)))))))))))))
    (aIf (decide ((109572 : Int) < a0))
      (aIf (y0 != (-1 : Int)) (some false)
        (onSome (F13 N a1) fun y11 =>
          aGd (decide ((0 : Nat) + (2 : Nat) ≤ (2 : Nat)))
            (aIf (decide (a1 < (0 : Int)))
              (aIf (Prod.snd y11 == (3 : Int))
                (onSome (F26 N a1) fun y12 => aIf (y12 == []) (onSome (F17 N a1) fun y13 => aIf (y13 == (0 : Int)) (some true) (some false)) (some false)) (some false))
              (aIf (decide ((3599 : Int) < a1))
                (aIf (Prod.snd y11 == (3 : Int))
                  (onSome (F26 N a1) fun y14 => aIf (y14 == []) (onSome (F17 N a1) fun y15 => aIf (y15 == (0 : Int)) (some true) (some false)) (some false)) (some false))
                (onSome (F26 N a1) fun y16 =>
                  onSome (F24 N y16) fun y17 =>
                    aIf (Prod.snd y11 != (0 : Int)) (some false)
                      (aIf (Prod.fst y17 != a1) (some false)
                        (aIf (Prod.snd y17 != (0 : Int)) (some false)
                          (onSome (F15 N (Prod.fst (Prod.fst y11))) fun y18 =>
                            aIf (y18 != a1) (some false)
                              (onSome (F15 N (IntKind.wrap IntKind.i64 (Prod.snd (Prod.fst y11) - (1 : Int)))) fun y19 =>
                                aIf (y19 != a1) (some false)
                                  (onSome (F13 N (IntKind.wrap IntKind.i64 (a1 + (1 : Int)))) fun y20 =>
                                    aGd (decide ((0 : Nat) + (2 : Nat) ≤ (2 : Nat)))
                                      (aIf (a1 == (3599 : Int))
                                        (aIf (Prod.snd (Prod.fst y11) == (109573 : Int)) (aIf (Prod.snd y20 == (3 : Int)) (some true) (some false)) (some false))
                                        (aIf (Prod.snd y20 == (0 : Int))
                                          (aIf (Prod.fst (Prod.fst y20) == Prod.snd (Prod.fst y11))
                                            (aIf (decide ((0 : Int) < a1)) (some true) (aIf (Prod.fst (Prod.fst y11) == (0 : Int)) (some true) (some false))) (some false))
                                          (some false)))))))))))))
      (onSome (F13 N y0) fun y21 =>
        aGd (decide ((0 : Nat) + (2 : Nat) ≤ (2 : Nat)))
          (aIf (Prod.snd y21 != (0 : Int)) (some false)
            (aIf (decide (a0 < Prod.fst (Prod.fst y21))) (some false)
              (aIf (decide (Prod.snd (Prod.fst y21) ≤ a0)) (some false)
                (onSome (F17 N y0) fun y22 =>
                  aIf (IntKind.wrap IntKind.i64 (Prod.snd (Prod.fst y21) - Prod.fst (Prod.fst y21)) != y22) (some false)
                    (onSome (F19 N (y0, a0, IntKind.wrap IntKind.i64 (a0 + (1 : Int)))) fun y23 =>
                      aIf (y23 != (1 : Int)) (some false)
                        (onSome (F13 N a1) fun y24 =>
                          aGd (decide ((0 : Nat) + (2 : Nat) ≤ (2 : Nat)))
                            (aIf (decide (a1 < (0 : Int)))
                              (aIf (Prod.snd y24 == (3 : Int))
                                (onSome (F26 N a1) fun y25 => aIf (y25 == []) (onSome (F17 N a1) fun y26 => aIf (y26 == (0 : Int)) (some true) (some false)) (some false))
                                (some false))
                              (aIf (decide ((3599 : Int) < a1))
                                (aIf (Prod.snd y24 == (3 : Int))
                                  (onSome (F26 N a1) fun y27 => aIf (y27 == []) (onSome (F17 N a1) fun y28 => aIf (y28 == (0 : Int)) (some true) (some false)) (some false))
                                  (some false))
                                (onSome (F26 N a1) fun y29 =>
                                  onSome (F24 N y29) fun y30 =>
                                    aIf (Prod.snd y24 != (0 : Int)) (some false)
                                      (aIf (Prod.fst y30 != a1) (some false)
                                        (aIf (Prod.snd y30 != (0 : Int)) (some false)
                                          (onSome (F15 N (Prod.fst (Prod.fst y24))) fun y31 =>
                                            aIf (y31 != a1) (some false)
                                              (onSome (F15 N (IntKind.wrap IntKind.i64 (Prod.snd (Prod.fst y24) - (1 : Int)))) fun y32 =>
                                                aIf (y32 != a1) (some false)
                                                  (onSome (F13 N (IntKind.wrap IntKind.i64 (a1 + (1 : Int)))) fun y33 =>
                                                    aGd (decide ((0 : Nat) + (2 : Nat) ≤ (2 : Nat)))
                                                      (aIf (a1 == (3599 : Int))
                                                        (aIf (Prod.snd (Prod.fst y24) == (109573 : Int)) (aIf (Prod.snd y33 == (3 : Int)) (some true) (some false)) (some false))
                                                        (aIf (Prod.snd y33 == (0 : Int))
                                                          (aIf (Prod.fst (Prod.fst y33) == Prod.snd (Prod.fst y24))
                                                            (aIf (decide ((0 : Int) < a1)) (some true) (aIf (Prod.fst (Prod.fst y24) == (0 : Int)) (some true) (some false)))
                                                            (some false))
                                                          (some false))))))))))))))))))) := by kernel_rfl
noncomputable def C6 (N : Nat) : Callee := mkCallee A6 R6 (F6 N)
theorem S6 (N : Nat) : Cok 6 (C6 N) := cok_of (l := (E6 N).calls) (O := O6 N) (cok_cons (S15 N) (cok_cons (S13 N) (cok_cons (S17 N) (cok_cons (S19 N) (cok_cons (S26 N) (cok_cons (S21 N) (cok_cons (S24 N) cok_nil))))))) rfl Tryd.func6 rfl (by kernel_rfl) (by kernel_rfl)

end Go.Proofs.YtfhlignhdnhmlaaDoor
