/- The pure reading of the program's functions (printed by a program of mine; each line is proved by the kernel's evaluation). -/
import Derived.Test.YtmnedpfilckilaaRda
import Derived.Test.YtmnedpfilckilaaProg
set_option linter.unusedSimpArgs false
set_option linter.unusedVariables false
set_option maxRecDepth 100000
namespace Go.Proofs.Ytmnedpfilckilaa
open Go.RowKit

-- function 24
def A24 : Cods (Int) := (codsOne (codInt .u8))
def R24 : Cod (Bool) := codBool
noncomputable def E24 (N : Nat) : Env := ⟨Try.prog, []⟩
def O24 (N : Nat) : Opts := ⟨N, [], []⟩
noncomputable def F24 (N : Nat) (a : Int) : Option (Bool) := aTyped (E24 N) (O24 N) Try.f24 A24 R24 a
theorem F24_eq (N : Nat) (a0 : Int) : F24 N a0 =
    aIf (decide ((97 : Int) ≤ a0)) (some (decide (a0 ≤ (122 : Int)))) (some false) := by kernel_rfl
noncomputable def C24 (N : Nat) : Callee := mkCallee A24 R24 (F24 N)
theorem S24 (N : Nat) : Cok 24 (C24 N) := cok_of (l := (E24 N).calls) (O := O24 N) cok_nil rfl Try.func24 rfl (by kernel_rfl) (by kernel_rfl)

-- function 36
def A36 : Cods (Int) := (codsOne (codInt .u8))
def R36 : Cod (Bool) := codBool
noncomputable def E36 (N : Nat) : Env := ⟨Try.prog, []⟩
def O36 (N : Nat) : Opts := ⟨N, [], []⟩
noncomputable def F36 (N : Nat) (a : Int) : Option (Bool) := aTyped (E36 N) (O36 N) Try.f36 A36 R36 a
theorem F36_eq (N : Nat) (a0 : Int) : F36 N a0 =
    aIf (decide ((48 : Int) ≤ a0)) (some (decide (a0 ≤ (57 : Int)))) (some false) := by kernel_rfl
noncomputable def C36 (N : Nat) : Callee := mkCallee A36 R36 (F36 N)
theorem S36 (N : Nat) : Cok 36 (C36 N) := cok_of (l := (E36 N).calls) (O := O36 N) cok_nil rfl Try.func36 rfl (by kernel_rfl) (by kernel_rfl)

-- function 25
def A25 : Cods (Int) := (codsOne (codInt .u8))
def R25 : Cod (Bool) := codBool
noncomputable def E25 (N : Nat) : Env := ⟨Try.prog, [(24, C24 N), (36, C36 N)]⟩
def O25 (N : Nat) : Opts := ⟨N, [], []⟩
noncomputable def F25 (N : Nat) (a : Int) : Option (Bool) := aTyped (E25 N) (O25 N) Try.f25 A25 R25 a
theorem F25_eq (N : Nat) (a0 : Int) : F25 N a0 =
    onSome (F24 N a0) fun y0 => aIf y0 (some true) (onSome (F36 N a0) fun y1 => aIf y1 (some true) (some (a0 == (95 : Int)))) := by kernel_rfl
noncomputable def C25 (N : Nat) : Callee := mkCallee A25 R25 (F25 N)
theorem S25 (N : Nat) : Cok 25 (C25 N) := cok_of (l := (E25 N).calls) (O := O25 N) (cok_cons (S24 N) (cok_cons (S36 N) cok_nil)) rfl Try.func25 rfl (by kernel_rfl) (by kernel_rfl)

-- function 35
def A35 : Cods ((List UInt8) × Int) := (codsCons codStr (codsOne (codInt .i64)))
def R35 : Cod (((Int) × (List UInt8) × (Int) × Int) × (Int) × Int) := (codTup (codsCons (codAgg (codsCons (codInt .i64) (codsCons codStr (codsCons (codInt .i64) (codsOne (codInt .i64)))))) (codsCons (codInt .i64) (codsOne (codInt .i64)))))
noncomputable def E35 (N : Nat) : Env := ⟨Try.prog, [(25, C25 N)]⟩
def O35 (N : Nat) : Opts := ⟨N, [(2, ⟨[0, 1, 4, 7], [], [], 1⟩)], []⟩
noncomputable def F35 (N : Nat) (a : (List UInt8) × Int) : Option (((Int) × (List UInt8) × (Int) × Int) × (Int) × Int) := aTyped (E35 N) (O35 N) Try.f35 A35 R35 a
noncomputable def L35_2 (N : Nat) (n : Nat) (x0 : List UInt8) (x1 : Int) (x2 : Int) (x3 : Int) (x4 : List UInt8) (x5 : Int) (x6 : Int) : Option ((Int × List UInt8 × Int × Int) × Int × Int) :=
  atLoop (E35 N) (O35 N) Try.f35 [(1 : Nat), (1 : Nat), (0 : Nat), (0 : Nat)] [] n
  {
    tmps :=
      Tm.of (nat_lit 33)
        [((0 : Nat), AV.p (PV.str x0)), ((1 : Nat), AV.p (PV.int IntKind.i64 x1)), ((4 : Nat), AV.box (0 : Nat) (0 : Nat)), ((7 : Nat), AV.p (PV.int IntKind.i64 x2))],
    heap := [Blk.box [AV.p (PV.int IntKind.i64 x3), AV.p (PV.str x4), AV.p (PV.int IntKind.i64 x5), AV.p (PV.int IntKind.i64 x6)]] }
  fun x => Cod.dec R35 x some
theorem L35_2_eq (N : Nat) (n : Nat) (x0 : List UInt8) (x1 : Int) (x2 : Int) (x3 : Int) (x4 : List UInt8) (x5 : Int) (x6 : Int) : L35_2 N (n + 1) x0 x1 x2 x3 x4 x5 x6 =
    aIf (decide (x2 < Int.ofNat (List.length x0)))
  (onGet x0 x2 fun z0 =>
    onSome (F25 N (Int.ofNat (UInt8.toNat z0))) fun y1 =>
      aIf y1 (L35_2 N n x0 x1 (IntKind.wrap IntKind.i64 (x2 + (1 : Int))) x3 x4 x5 x6)
        (aIf (decide ((16 : Int) < IntKind.wrap IntKind.i64 (x2 - x1)))
          (aGd (decide ((0 : Nat) + (4 : Nat) ≤ (4 : Nat))) (some (((0 : Int), [], (0 : Int), (0 : Int)), (0 : Int), (4 : Int))))
          (aGd (decide ((0 : Int) ≤ x2))
            (aGd (decide (x2 ≤ Int.ofNat (List.length x0)))
              (aGd (decide ((0 : Int) ≤ x1))
                (aGd (decide (x1 ≤ Int.ofNat (Int.toNat x2)))
                  (aGd (decide ((0 : Nat) + (4 : Nat) ≤ (4 : Nat)))
                    (some (((1 : Int), List.drop (Int.toNat x1) (List.take (Int.toNat x2) x0), (0 : Int), x1), x2, (0 : Int))))))))))
  (aIf (decide ((16 : Int) < IntKind.wrap IntKind.i64 (x2 - x1)))
    (aGd (decide ((0 : Nat) + (4 : Nat) ≤ (4 : Nat))) (some (((0 : Int), [], (0 : Int), (0 : Int)), (0 : Int), (4 : Int))))
    (aGd (decide ((0 : Int) ≤ x2))
      (aGd (decide (x2 ≤ Int.ofNat (List.length x0)))
        (aGd (decide ((0 : Int) ≤ x1))
          (aGd (decide (x1 ≤ Int.ofNat (Int.toNat x2)))
            (aGd (decide ((0 : Nat) + (4 : Nat) ≤ (4 : Nat))) (some (((1 : Int), List.drop (Int.toNat x1) (List.take (Int.toNat x2) x0), (0 : Int), x1), x2, (0 : Int))))))))) := by kernel_rfl
theorem L35_2_zero (N : Nat) (x0 : List UInt8) (x1 : Int) (x2 : Int) (x3 : Int) (x4 : List UInt8) (x5 : Int) (x6 : Int) : L35_2 N 0 x0 x1 x2 x3 x4 x5 x6 = none := by kernel_rfl
theorem F35_eq (N : Nat) (a0 : List UInt8) (a1 : Int) : F35 N (a0, a1) =
    L35_2 N N a0 a1 a1 (0 : Int) [] (0 : Int) (0 : Int) := by kernel_rfl
noncomputable def C35 (N : Nat) : Callee := mkCallee A35 R35 (F35 N)
theorem S35 (N : Nat) : Cok 35 (C35 N) := cok_of (l := (E35 N).calls) (O := O35 N) (cok_cons (S25 N) cok_nil) rfl Try.func35 rfl (by kernel_rfl) (by kernel_rfl)

-- function 50
def A50 : Cods ((List UInt8) × Int) := (codsCons codStr (codsOne (codInt .i64)))
def R50 : Cod (Int) := (codInt .i64)
noncomputable def E50 (N : Nat) : Env := ⟨Try.prog, [(36, C36 N)]⟩
def O50 (N : Nat) : Opts := ⟨N, [(1, ⟨[0, 1], [], [], 0⟩)], []⟩
noncomputable def F50 (N : Nat) (a : (List UInt8) × Int) : Option (Int) := aTyped (E50 N) (O50 N) Try.f50 A50 R50 a
noncomputable def L50_1 (N : Nat) (n : Nat) (x0 : List UInt8) (x1 : Int) : Option Int :=
  atLoop (E50 N) (O50 N) Try.f50 [(1 : Nat), (0 : Nat), (0 : Nat)] [] n
  { tmps := Tm.of (nat_lit 18) [((0 : Nat), AV.p (PV.str x0)), ((1 : Nat), AV.p (PV.int IntKind.i64 x1))], heap := [] } fun x => Cod.dec R50 x some
theorem L50_1_eq (N : Nat) (n : Nat) (x0 : List UInt8) (x1 : Int) : L50_1 N (n + 1) x0 x1 =
    aIf (decide (x1 < Int.ofNat (List.length x0)))
  (onGet x0 x1 fun z0 => onSome (F36 N (Int.ofNat (UInt8.toNat z0))) fun y1 => aIf y1 (L50_1 N n x0 (IntKind.wrap IntKind.i64 (x1 + (1 : Int)))) (some x1)) (some x1) := by kernel_rfl
theorem L50_1_zero (N : Nat) (x0 : List UInt8) (x1 : Int) : L50_1 N 0 x0 x1 = none := by kernel_rfl
theorem F50_eq (N : Nat) (a0 : List UInt8) (a1 : Int) : F50 N (a0, a1) =
    L50_1 N N a0 a1 := by kernel_rfl
noncomputable def C50 (N : Nat) : Callee := mkCallee A50 R50 (F50 N)
theorem S50 (N : Nat) : Cok 50 (C50 N) := cok_of (l := (E50 N).calls) (O := O50 N) (cok_cons (S36 N) cok_nil) rfl Try.func50 rfl (by kernel_rfl) (by kernel_rfl)

-- function 51
def A51 : Cods ((List UInt8) × Int) := (codsCons codStr (codsOne (codInt .i64)))
def R51 : Cod (Bool) := codBool
noncomputable def E51 (N : Nat) : Env := ⟨Try.prog, [(36, C36 N)]⟩
def O51 (N : Nat) : Opts := ⟨N, [(4, ⟨[0, 1, 5], [], [], 0⟩)], []⟩
noncomputable def F51 (N : Nat) (a : (List UInt8) × Int) : Option (Bool) := aTyped (E51 N) (O51 N) Try.f51 A51 R51 a
noncomputable def L51_4 (N : Nat) (n : Nat) (x0 : List UInt8) (x1 : Int) (x2 : Int) : Option Bool :=
  atLoop (E51 N) (O51 N) Try.f51 [(1 : Nat), (1 : Nat), (0 : Nat), (1 : Nat), (0 : Nat)] [] n
  { tmps := Tm.of (nat_lit 34) [((0 : Nat), AV.p (PV.str x0)), ((1 : Nat), AV.p (PV.int IntKind.i64 x1)), ((5 : Nat), AV.p (PV.int IntKind.i64 x2))], heap := [] } fun x =>
  Cod.dec R51 x some
theorem L51_4_eq (N : Nat) (n : Nat) (x0 : List UInt8) (x1 : Int) (x2 : Int) : L51_4 N (n + 1) x0 x1 x2 =
    aIf (decide (x2 < (10 : Int)))
  (aIf (x2 == (4 : Int))
    (onGet x0 (IntKind.wrap IntKind.i64 (x1 + x2)) fun z0 =>
      aIf (Int.ofNat (UInt8.toNat z0) != (45 : Int)) (some false) (L51_4 N n x0 x1 (IntKind.wrap IntKind.i64 (x2 + (1 : Int)))))
    (aIf (x2 == (7 : Int))
      (onGet x0 (IntKind.wrap IntKind.i64 (x1 + x2)) fun z1 =>
        aIf (Int.ofNat (UInt8.toNat z1) != (45 : Int)) (some false) (L51_4 N n x0 x1 (IntKind.wrap IntKind.i64 (x2 + (1 : Int)))))
      (onGet x0 (IntKind.wrap IntKind.i64 (x1 + x2)) fun z2 =>
        onSome (F36 N (Int.ofNat (UInt8.toNat z2))) fun y3 => aIf (!y3) (some false) (L51_4 N n x0 x1 (IntKind.wrap IntKind.i64 (x2 + (1 : Int)))))))
  (some true) := by kernel_rfl
theorem L51_4_zero (N : Nat) (x0 : List UInt8) (x1 : Int) (x2 : Int) : L51_4 N 0 x0 x1 x2 = none := by kernel_rfl
theorem F51_eq (N : Nat) (a0 : List UInt8) (a1 : Int) : F51 N (a0, a1) =
    aIf (decide (IntKind.wrap IntKind.i64 (Int.ofNat (List.length a0) - a1) < (10 : Int))) (some false) (L51_4 N N a0 a1 (0 : Int)) := by kernel_rfl
noncomputable def C51 (N : Nat) : Callee := mkCallee A51 R51 (F51 N)
theorem S51 (N : Nat) : Cok 51 (C51 N) := cok_of (l := (E51 N).calls) (O := O51 N) (cok_cons (S36 N) cok_nil) rfl Try.func51 rfl (by kernel_rfl) (by kernel_rfl)

-- function 52
def A52 : Cods (Int) := (codsOne (codInt .u8))
def R52 : Cod (Bool) := codBool
noncomputable def E52 (N : Nat) : Env := ⟨Try.prog, [(25, C25 N)]⟩
def O52 (N : Nat) : Opts := ⟨N, [], []⟩
noncomputable def F52 (N : Nat) (a : Int) : Option (Bool) := aTyped (E52 N) (O52 N) Try.f52 A52 R52 a
theorem F52_eq (N : Nat) (a0 : Int) : F52 N a0 =
    onSome (F25 N a0) fun y0 => aIf y0 (some true) (aIf (decide ((65 : Int) ≤ a0)) (aIf (decide (a0 ≤ (90 : Int))) (some true) (some (a0 == (46 : Int)))) (some (a0 == (46 : Int)))) := by kernel_rfl
noncomputable def C52 (N : Nat) : Callee := mkCallee A52 R52 (F52 N)
theorem S52 (N : Nat) : Cok 52 (C52 N) := cok_of (l := (E52 N).calls) (O := O52 N) (cok_cons (S25 N) cok_nil) rfl Try.func52 rfl (by kernel_rfl) (by kernel_rfl)

-- function 69
def A69 : Cods (List UInt8) := (codsOne codStr)
def R69 : Cod (Int) := (codInt .i64)
noncomputable def E69 (N : Nat) : Env := ⟨Try.prog, []⟩
def O69 (N : Nat) : Opts := ⟨N, [(3, ⟨[0, 3, 4], [], [], 0⟩)], []⟩
noncomputable def F69 (N : Nat) (a : List UInt8) : Option (Int) := aTyped (E69 N) (O69 N) Try.f69 A69 R69 a
noncomputable def L69_3 (N : Nat) (n : Nat) (x0 : List UInt8) (x1 : Int) (x2 : Int) : Option Int :=
  atLoop (E69 N) (O69 N) Try.f69 [(1 : Nat), (1 : Nat), (0 : Nat), (1 : Nat), (0 : Nat)] [] n
  { tmps := Tm.of (nat_lit 30) [((0 : Nat), AV.p (PV.str x0)), ((3 : Nat), AV.p (PV.int IntKind.i64 x1)), ((4 : Nat), AV.p (PV.int IntKind.i64 x2))], heap := [] } fun x =>
  Cod.dec R69 x some
theorem L69_3_eq (N : Nat) (n : Nat) (x0 : List UInt8) (x1 : Int) (x2 : Int) : L69_3 N (n + 1) x0 x1 x2 =
    aIf (decide (x2 < Int.ofNat (List.length x0)))
  (onGet x0 x2 fun z0 =>
    aIf (decide (Int.ofNat (UInt8.toNat z0) < (48 : Int))) (some (-1 : Int))
      (onGet x0 x2 fun z1 =>
        aIf (decide ((57 : Int) < Int.ofNat (UInt8.toNat z1))) (some (-1 : Int))
          (onGet x0 x2 fun z2 =>
            L69_3 N n x0
              (IntKind.wrap IntKind.i64 (IntKind.wrap IntKind.i64 ((10 : Int) * x1) + IntKind.wrap IntKind.i64 (IntKind.wrap IntKind.u8 (Int.ofNat (UInt8.toNat z2) - (48 : Int)))))
              (IntKind.wrap IntKind.i64 (x2 + (1 : Int))))))
  (some x1) := by kernel_rfl
theorem L69_3_zero (N : Nat) (x0 : List UInt8) (x1 : Int) (x2 : Int) : L69_3 N 0 x0 x1 x2 = none := by kernel_rfl
theorem F69_eq (N : Nat) (a0 : List UInt8) : F69 N a0 =
    L69_3 N N a0 (0 : Int) (0 : Int) := by kernel_rfl
noncomputable def C69 (N : Nat) : Callee := mkCallee A69 R69 (F69 N)
theorem S69 (N : Nat) : Cok 69 (C69 N) := cok_of (l := (E69 N).calls) (O := O69 N) cok_nil rfl Try.func69 rfl (by kernel_rfl) (by kernel_rfl)

-- function 86
def A86 : Cods (Int) := (codsOne (codInt .i64))
def R86 : Cod (Bool) := codBool
noncomputable def E86 (N : Nat) : Env := ⟨Try.prog, []⟩
def O86 (N : Nat) : Opts := ⟨N, [], []⟩
noncomputable def F86 (N : Nat) (a : Int) : Option (Bool) := aTyped (E86 N) (O86 N) Try.f86 A86 R86 a
theorem F86_eq (N : Nat) (a0 : Int) : F86 N a0 =
    aIf (Int.tmod a0 (4 : Int) == (0 : Int)) (aIf (Int.tmod a0 (100 : Int) != (0 : Int)) (some true) (some (Int.tmod a0 (400 : Int) == (0 : Int)))) (some false) := by kernel_rfl
noncomputable def C86 (N : Nat) : Callee := mkCallee A86 R86 (F86 N)
theorem S86 (N : Nat) : Cok 86 (C86 N) := cok_of (l := (E86 N).calls) (O := O86 N) cok_nil rfl Try.func86 rfl (by kernel_rfl) (by kernel_rfl)

-- function 81
def A81 : Cods ((Int) × Int) := (codsCons (codInt .i64) (codsOne (codInt .i64)))
def R81 : Cod (Int) := (codInt .i64)
noncomputable def E81 (N : Nat) : Env := ⟨Try.prog, [(86, C86 N)]⟩
def O81 (N : Nat) : Opts := ⟨N, [], []⟩
noncomputable def F81 (N : Nat) (a : (Int) × Int) : Option (Int) := aTyped (E81 N) (O81 N) Try.f81 A81 R81 a
theorem F81_eq (N : Nat) (a0 : Int) (a1 : Int) : F81 N (a0, a1) =
    aIf (a1 == (2 : Int)) (onSome (F86 N a0) fun y0 => aIf y0 (some (29 : Int)) (some (28 : Int)))
  (aIf (a1 == (4 : Int))
    (aIf (a1 == (4 : Int)) (some (30 : Int))
      (aIf (a1 == (1 : Int)) (aIf (a1 == (1 : Int)) (some (31 : Int)) (some (0 : Int)))
        (aIf (a1 == (3 : Int)) (aIf (a1 == (3 : Int)) (some (31 : Int)) (some (0 : Int)))
          (aIf (a1 == (5 : Int)) (aIf (a1 == (5 : Int)) (some (31 : Int)) (some (0 : Int)))
            (aIf (a1 == (7 : Int)) (aIf (a1 == (7 : Int)) (some (31 : Int)) (some (0 : Int)))
              (aIf (a1 == (8 : Int)) (aIf (a1 == (8 : Int)) (some (31 : Int)) (some (0 : Int)))
                (aIf (a1 == (10 : Int)) (aIf (a1 == (10 : Int)) (some (31 : Int)) (some (0 : Int))) (aIf (a1 == (12 : Int)) (some (31 : Int)) (some (0 : Int))))))))))
    (aIf (a1 == (6 : Int))
      (aIf (a1 == (6 : Int)) (some (30 : Int))
        (aIf (a1 == (1 : Int)) (aIf (a1 == (1 : Int)) (some (31 : Int)) (some (0 : Int)))
          (aIf (a1 == (3 : Int)) (aIf (a1 == (3 : Int)) (some (31 : Int)) (some (0 : Int)))
            (aIf (a1 == (5 : Int)) (aIf (a1 == (5 : Int)) (some (31 : Int)) (some (0 : Int)))
              (aIf (a1 == (7 : Int)) (aIf (a1 == (7 : Int)) (some (31 : Int)) (some (0 : Int)))
                (aIf (a1 == (8 : Int)) (aIf (a1 == (8 : Int)) (some (31 : Int)) (some (0 : Int)))
                  (aIf (a1 == (10 : Int)) (aIf (a1 == (10 : Int)) (some (31 : Int)) (some (0 : Int))) (aIf (a1 == (12 : Int)) (some (31 : Int)) (some (0 : Int))))))))))
      (aIf (a1 == (9 : Int))
        (aIf (a1 == (9 : Int)) (some (30 : Int))
          (aIf (a1 == (1 : Int)) (aIf (a1 == (1 : Int)) (some (31 : Int)) (some (0 : Int)))
            (aIf (a1 == (3 : Int)) (aIf (a1 == (3 : Int)) (some (31 : Int)) (some (0 : Int)))
              (aIf (a1 == (5 : Int)) (aIf (a1 == (5 : Int)) (some (31 : Int)) (some (0 : Int)))
                (aIf (a1 == (7 : Int)) (aIf (a1 == (7 : Int)) (some (31 : Int)) (some (0 : Int)))
                  (aIf (a1 == (8 : Int)) (aIf (a1 == (8 : Int)) (some (31 : Int)) (some (0 : Int)))
                    (aIf (a1 == (10 : Int)) (aIf (a1 == (10 : Int)) (some (31 : Int)) (some (0 : Int))) (aIf (a1 == (12 : Int)) (some (31 : Int)) (some (0 : Int))))))))))
        (aIf (a1 == (11 : Int)) (some (30 : Int))
          (aIf (a1 == (1 : Int)) (aIf (a1 == (1 : Int)) (some (31 : Int)) (some (0 : Int)))
            (aIf (a1 == (3 : Int)) (aIf (a1 == (3 : Int)) (some (31 : Int)) (some (0 : Int)))
              (aIf (a1 == (5 : Int)) (aIf (a1 == (5 : Int)) (some (31 : Int)) (some (0 : Int)))
                (aIf (a1 == (7 : Int)) (aIf (a1 == (7 : Int)) (some (31 : Int)) (some (0 : Int)))
                  (aIf (a1 == (8 : Int)) (aIf (a1 == (8 : Int)) (some (31 : Int)) (some (0 : Int)))
                    (aIf (a1 == (10 : Int)) (aIf (a1 == (10 : Int)) (some (31 : Int)) (some (0 : Int))) (aIf (a1 == (12 : Int)) (some (31 : Int)) (some (0 : Int))))))))))))) := by kernel_rfl
noncomputable def C81 (N : Nat) : Callee := mkCallee A81 R81 (F81 N)
theorem S81 (N : Nat) : Cok 81 (C81 N) := cok_of (l := (E81 N).calls) (O := O81 N) (cok_cons (S86 N) cok_nil) rfl Try.func81 rfl (by kernel_rfl) (by kernel_rfl)

-- function 82
def A82 : Cods (Int) := (codsOne (codInt .i64))
def R82 : Cod (Int) := (codInt .i64)
noncomputable def E82 (N : Nat) : Env := ⟨Try.prog, [(86, C86 N)]⟩
def O82 (N : Nat) : Opts := ⟨N, [], []⟩
noncomputable def F82 (N : Nat) (a : Int) : Option (Int) := aTyped (E82 N) (O82 N) Try.f82 A82 R82 a
theorem F82_eq (N : Nat) (a0 : Int) : F82 N a0 =
    onSome (F86 N a0) fun y0 => aIf y0 (some (366 : Int)) (some (365 : Int)) := by kernel_rfl
noncomputable def C82 (N : Nat) : Callee := mkCallee A82 R82 (F82 N)
theorem S82 (N : Nat) : Cok 82 (C82 N) := cok_of (l := (E82 N).calls) (O := O82 N) (cok_cons (S86 N) cok_nil) rfl Try.func82 rfl (by kernel_rfl) (by kernel_rfl)

-- function 70
def A70 : Cods ((Int) × (Int) × Int) := (codsCons (codInt .i64) (codsCons (codInt .i64) (codsOne (codInt .i64))))
def R70 : Cod ((Int) × Int) := (codTup (codsCons (codInt .i64) (codsOne (codInt .i64))))
noncomputable def E70 (N : Nat) : Env := ⟨Try.prog, [(81, C81 N), (82, C82 N)]⟩
def O70 (N : Nat) : Opts := ⟨N, [(5, ⟨[0, 1, 8, 9], [], [], 0⟩), (9, ⟨[0, 1, 8, 10], [], [], 0⟩)], []⟩
noncomputable def F70 (N : Nat) (a : (Int) × (Int) × Int) : Option ((Int) × Int) := aTyped (E70 N) (O70 N) Try.f70 A70 R70 a
noncomputable def L70_5 (N : Nat) (n : Nat) (x0 : Int) (x1 : Int) (x2 : Int) (x3 : Int) : Option (Int × Int) :=
  atLoop (E70 N) (O70 N) Try.f70 [(1 : Nat), (1 : Nat), (1 : Nat), (0 : Nat), (1 : Nat), (0 : Nat)] [] n
  {
    tmps :=
      Tm.of (nat_lit 50)
        [((0 : Nat), AV.p (PV.int IntKind.i64 x0)), ((1 : Nat), AV.p (PV.int IntKind.i64 x1)), ((8 : Nat), AV.p (PV.int IntKind.i64 x2)),
          ((9 : Nat), AV.p (PV.int IntKind.i64 x3))],
    heap := [] }
  fun x => Cod.dec R70 x some
noncomputable def L70_9 (N : Nat) (n : Nat) (x0 : Int) (x1 : Int) (x2 : Int) (x3 : Int) : Option (Int × Int) :=
  atLoop (E70 N) (O70 N) Try.f70 [(1 : Nat), (1 : Nat), (1 : Nat), (1 : Nat), (0 : Nat), (1 : Nat), (0 : Nat)] [] n
  {
    tmps :=
      Tm.of (nat_lit 50)
        [((0 : Nat), AV.p (PV.int IntKind.i64 x0)), ((1 : Nat), AV.p (PV.int IntKind.i64 x1)), ((8 : Nat), AV.p (PV.int IntKind.i64 x2)),
          ((10 : Nat), AV.p (PV.int IntKind.i64 x3))],
    heap := [] }
  fun x => Cod.dec R70 x some
theorem L70_5_eq (N : Nat) (n : Nat) (x0 : Int) (x1 : Int) (x2 : Int) (x3 : Int) : L70_5 N (n + 1) x0 x1 x2 x3 =
    aIf (decide (x3 < x0)) (onSome (F82 N x3) fun y1 => L70_5 N n x0 x1 (IntKind.wrap IntKind.i64 (x2 + y1)) (IntKind.wrap IntKind.i64 (x3 + (1 : Int)))) (L70_9 N N x0 x1 x2 (1 : Int)) := by kernel_rfl
theorem L70_5_zero (N : Nat) (x0 : Int) (x1 : Int) (x2 : Int) (x3 : Int) : L70_5 N 0 x0 x1 x2 x3 = none := by kernel_rfl
theorem L70_9_eq (N : Nat) (n : Nat) (x0 : Int) (x1 : Int) (x2 : Int) (x3 : Int) : L70_9 N (n + 1) x0 x1 x2 x3 =
    aIf (decide (x3 < x1)) (onSome (F81 N (x0, x3)) fun y2 => L70_9 N n x0 x1 (IntKind.wrap IntKind.i64 (x2 + y2)) (IntKind.wrap IntKind.i64 (x3 + (1 : Int)))) (some (x2, (0 : Int))) := by kernel_rfl
theorem L70_9_zero (N : Nat) (x0 : Int) (x1 : Int) (x2 : Int) (x3 : Int) : L70_9 N 0 x0 x1 x2 x3 = none := by kernel_rfl
theorem F70_eq (N : Nat) (a0 : Int) (a1 : Int) (a2 : Int) : F70 N (a0, a1, a2) =
    aIf (decide (a0 < (1900 : Int))) (some ((0 : Int), (3 : Int)))
  (aIf (decide ((2199 : Int) < a0)) (some ((0 : Int), (3 : Int)))
    (aIf (decide (a2 < (1 : Int))) (some ((0 : Int), (3 : Int)))
      (onSome (F81 N (a0, a1)) fun y0 => aIf (decide (y0 < a2)) (some ((0 : Int), (3 : Int))) (L70_5 N N a0 a1 (IntKind.wrap IntKind.i64 (a2 - (1 : Int))) (1900 : Int))))) := by kernel_rfl
noncomputable def C70 (N : Nat) : Callee := mkCallee A70 R70 (F70 N)
theorem S70 (N : Nat) : Cok 70 (C70 N) := cok_of (l := (E70 N).calls) (O := O70 N) (cok_cons (S81 N) (cok_cons (S82 N) cok_nil)) rfl Try.func70 rfl (by kernel_rfl) (by kernel_rfl)

-- function 53
def A53 : Cods (List UInt8) := (codsOne codStr)
def R53 : Cod ((Int) × Int) := (codTup (codsCons (codInt .i64) (codsOne (codInt .i64))))
noncomputable def E53 (N : Nat) : Env := ⟨Try.prog, [(69, C69 N), (70, C70 N)]⟩
def O53 (N : Nat) : Opts := ⟨N, [], []⟩
noncomputable def F53 (N : Nat) (a : List UInt8) : Option ((Int) × Int) := aTyped (E53 N) (O53 N) Try.f53 A53 R53 a
theorem F53_eq (N : Nat) (a0 : List UInt8) : F53 N a0 =
    aIf (Int.ofNat (List.length a0) != (10 : Int)) (some ((0 : Int), (2 : Int)))
  (onGet a0 (4 : Int) fun z0 =>
    aIf (Int.ofNat (UInt8.toNat z0) != (45 : Int)) (some ((0 : Int), (2 : Int)))
      (onGet a0 (7 : Int) fun z1 =>
        aIf (Int.ofNat (UInt8.toNat z1) != (45 : Int)) (some ((0 : Int), (2 : Int)))
          (aGd (decide ((4 : Int) ≤ Int.ofNat (List.length a0)))
            (onSome (F69 N (List.drop (0 : Nat) (List.take (4 : Nat) a0))) fun y2 =>
              aIf (decide (y2 < (0 : Int))) (some ((0 : Int), (2 : Int)))
                (aGd (decide ((7 : Int) ≤ Int.ofNat (List.length a0)))
                  (onSome (F69 N (List.drop (5 : Nat) (List.take (7 : Nat) a0))) fun y3 =>
                    aIf (decide (y3 < (0 : Int))) (some ((0 : Int), (2 : Int)))
                      (aGd (decide ((8 : Int) ≤ Int.ofNat (List.length a0)))
                        (onSome (F69 N (List.drop (8 : Nat) (List.take (List.length a0) a0))) fun y4 =>
                          aIf (decide (y4 < (0 : Int))) (some ((0 : Int), (2 : Int)))
                            (aGd (decide ((4 : Int) ≤ Int.ofNat (List.length a0)))
                              (onSome (F69 N (List.drop (0 : Nat) (List.take (4 : Nat) a0))) fun y5 =>
                                aGd (decide ((7 : Int) ≤ Int.ofNat (List.length a0)))
                                  (onSome (F69 N (List.drop (5 : Nat) (List.take (7 : Nat) a0))) fun y6 =>
                                    aGd (decide ((8 : Int) ≤ Int.ofNat (List.length a0)))
                                      (onSome (F69 N (List.drop (8 : Nat) (List.take (List.length a0) a0))) fun y7 =>
                                        onSome (F70 N (y5, y6, y7)) fun y8 => some (Prod.fst y8, Prod.snd y8))))))))))))) := by kernel_rfl
noncomputable def C53 (N : Nat) : Callee := mkCallee A53 R53 (F53 N)
theorem S53 (N : Nat) : Cok 53 (C53 N) := cok_of (l := (E53 N).calls) (O := O53 N) (cok_cons (S69 N) (cok_cons (S70 N) cok_nil)) rfl Try.func53 rfl (by kernel_rfl) (by kernel_rfl)

-- function 54
def A54 : Cods ((List UInt8) × Int) := (codsCons codStr (codsOne (codInt .i64)))
def R54 : Cod (Int) := (codInt .i64)
noncomputable def E54 (N : Nat) : Env := ⟨Try.prog, [(36, C36 N)]⟩
def O54 (N : Nat) : Opts := ⟨N, [(3, ⟨[0, 1, 5, 6], [], [], 0⟩)], []⟩
noncomputable def F54 (N : Nat) (a : (List UInt8) × Int) : Option (Int) := aTyped (E54 N) (O54 N) Try.f54 A54 R54 a
noncomputable def L54_3 (N : Nat) (n : Nat) (x0 : List UInt8) (x1 : Int) (x2 : Int) (x3 : Int) : Option Int :=
  atLoop (E54 N) (O54 N) Try.f54 [(1 : Nat), (1 : Nat), (0 : Nat), (1 : Nat), (0 : Nat)] [] n
  {
    tmps :=
      Tm.of (nat_lit 31)
        [((0 : Nat), AV.p (PV.str x0)), ((1 : Nat), AV.p (PV.int IntKind.i64 x1)), ((5 : Nat), AV.p (PV.int IntKind.i64 x2)), ((6 : Nat), AV.p (PV.int IntKind.i64 x3))],
    heap := [] }
  fun x => Cod.dec R54 x some
theorem L54_3_eq (N : Nat) (n : Nat) (x0 : List UInt8) (x1 : Int) (x2 : Int) (x3 : Int) : L54_3 N (n + 1) x0 x1 x2 x3 =
    aIf (decide (x3 < Int.ofNat (List.length x0)))
  (onGet x0 x3 fun z0 =>
    onSome (F36 N (Int.ofNat (UInt8.toNat z0))) fun y1 =>
      aIf y1
        (onGet x0 x3 fun z2 =>
          aIf
            (decide
              (x1 <
                IntKind.wrap IntKind.i64
                  (IntKind.wrap IntKind.i64 (x2 * (10 : Int)) + IntKind.wrap IntKind.i64 (IntKind.wrap IntKind.u8 (Int.ofNat (UInt8.toNat z2) - (48 : Int))))))
            (some (IntKind.wrap IntKind.i64 (x1 + (1 : Int))))
            (L54_3 N n x0 x1
              (IntKind.wrap IntKind.i64 (IntKind.wrap IntKind.i64 (x2 * (10 : Int)) + IntKind.wrap IntKind.i64 (IntKind.wrap IntKind.u8 (Int.ofNat (UInt8.toNat z2) - (48 : Int)))))
              (IntKind.wrap IntKind.i64 (x3 + (1 : Int)))))
        (aIf (decide (x1 < x2)) (some (IntKind.wrap IntKind.i64 (x1 + (1 : Int)))) (L54_3 N n x0 x1 x2 (IntKind.wrap IntKind.i64 (x3 + (1 : Int))))))
  (some x2) := by kernel_rfl
theorem L54_3_zero (N : Nat) (x0 : List UInt8) (x1 : Int) (x2 : Int) (x3 : Int) : L54_3 N 0 x0 x1 x2 x3 = none := by kernel_rfl
theorem F54_eq (N : Nat) (a0 : List UInt8) (a1 : Int) : F54 N (a0, a1) =
    L54_3 N N a0 a1 (0 : Int) (0 : Int) := by kernel_rfl
noncomputable def C54 (N : Nat) : Callee := mkCallee A54 R54 (F54 N)
theorem S54 (N : Nat) : Cok 54 (C54 N) := cok_of (l := (E54 N).calls) (O := O54 N) (cok_cons (S36 N) cok_nil) rfl Try.func54 rfl (by kernel_rfl) (by kernel_rfl)

-- function 37
def A37 : Cods ((List UInt8) × Int) := (codsCons codStr (codsOne (codInt .i64)))
def R37 : Cod (((Int) × (List UInt8) × (Int) × Int) × (Int) × Int) := (codTup (codsCons (codAgg (codsCons (codInt .i64) (codsCons codStr (codsCons (codInt .i64) (codsOne (codInt .i64)))))) (codsCons (codInt .i64) (codsOne (codInt .i64)))))
noncomputable def E37 (N : Nat) : Env := ⟨Try.prog, [(50, C50 N), (51, C51 N), (52, C52 N), (53, C53 N), (54, C54 N)]⟩
def O37 (N : Nat) : Opts := ⟨N, [], []⟩
noncomputable def F37 (N : Nat) (a : (List UInt8) × Int) : Option (((Int) × (List UInt8) × (Int) × Int) × (Int) × Int) := aTyped (E37 N) (O37 N) Try.f37 A37 R37 a
theorem F37_eq (N : Nat) (a0 : List UInt8) (a1 : Int) : F37 N (a0, a1) =
    aGd (decide ((0 : Nat) + (4 : Nat) ≤ (4 : Nat)))
  (onSome (F50 N (a0, a1)) fun y0 =>
    onSome (F51 N (a0, a1)) fun y1 =>
      aIf y1
        (aGd (decide ((0 : Nat) + (1 : Nat) ≤ (4 : Nat)))
          (aIf (decide (IntKind.wrap IntKind.i64 (a1 + (10 : Int)) < Int.ofNat (List.length a0)))
            (onGet a0 (IntKind.wrap IntKind.i64 (a1 + (10 : Int))) fun z2 =>
              onSome (F52 N (Int.ofNat (UInt8.toNat z2))) fun y3 =>
                aIf y3 (aGd (decide ((0 : Nat) + (4 : Nat) ≤ (4 : Nat))) (some (((0 : Int), [], (0 : Int), (0 : Int)), (0 : Int), (2 : Int))))
                  (aGd (decide ((0 : Int) ≤ IntKind.wrap IntKind.i64 (a1 + (10 : Int))))
                    (aGd (decide (IntKind.wrap IntKind.i64 (a1 + (10 : Int)) ≤ Int.ofNat (List.length a0)))
                      (aGd (decide ((0 : Int) ≤ a1))
                        (aGd (decide (a1 ≤ Int.ofNat (Int.toNat (IntKind.wrap IntKind.i64 (a1 + (10 : Int))))))
                          (aGd (decide ((1 : Nat) + (1 : Nat) ≤ (4 : Nat)))
                            (onSome (F53 N (List.drop (Int.toNat a1) (List.take (Int.toNat (IntKind.wrap IntKind.i64 (a1 + (10 : Int)))) a0))) fun y4 =>
                              aGd (decide ((2 : Nat) + (1 : Nat) ≤ (4 : Nat)))
                                (aGd (decide ((0 : Nat) + (4 : Nat) ≤ (4 : Nat)))
                                  (some
                                    (((5 : Int), List.drop (Int.toNat a1) (List.take (Int.toNat (IntKind.wrap IntKind.i64 (a1 + (10 : Int)))) a0), Prod.fst y4, a1),
                                      IntKind.wrap IntKind.i64 (a1 + (10 : Int)), Prod.snd y4))))))))))
            (aGd (decide ((0 : Int) ≤ IntKind.wrap IntKind.i64 (a1 + (10 : Int))))
              (aGd (decide (IntKind.wrap IntKind.i64 (a1 + (10 : Int)) ≤ Int.ofNat (List.length a0)))
                (aGd (decide ((0 : Int) ≤ a1))
                  (aGd (decide (a1 ≤ Int.ofNat (Int.toNat (IntKind.wrap IntKind.i64 (a1 + (10 : Int))))))
                    (aGd (decide ((1 : Nat) + (1 : Nat) ≤ (4 : Nat)))
                      (onSome (F53 N (List.drop (Int.toNat a1) (List.take (Int.toNat (IntKind.wrap IntKind.i64 (a1 + (10 : Int)))) a0))) fun y5 =>
                        aGd (decide ((2 : Nat) + (1 : Nat) ≤ (4 : Nat)))
                          (aGd (decide ((0 : Nat) + (4 : Nat) ≤ (4 : Nat)))
                            (some
                              (((5 : Int), List.drop (Int.toNat a1) (List.take (Int.toNat (IntKind.wrap IntKind.i64 (a1 + (10 : Int)))) a0), Prod.fst y5, a1),
                                IntKind.wrap IntKind.i64 (a1 + (10 : Int)), Prod.snd y5)))))))))))
        (aIf (decide (y0 < Int.ofNat (List.length a0)))
          (onGet a0 y0 fun z6 =>
            aIf (Int.ofNat (UInt8.toNat z6) == (46 : Int))
              (onSome (F50 N (a0, IntKind.wrap IntKind.i64 (y0 + (1 : Int)))) fun y7 =>
                aIf (IntKind.wrap IntKind.i64 (IntKind.wrap IntKind.i64 (y7 - y0) - (1 : Int)) == (2 : Int))
                  (aGd (decide ((0 : Nat) + (1 : Nat) ≤ (4 : Nat)))
                    (onGet a0 a1 fun z8 =>
                      aIf (Int.ofNat (UInt8.toNat z8) == (48 : Int))
                        (aIf (decide ((1 : Int) < IntKind.wrap IntKind.i64 (y0 - a1)))
                          (aGd (decide ((0 : Nat) + (4 : Nat) ≤ (4 : Nat))) (some (((0 : Int), [], (0 : Int), (0 : Int)), (0 : Int), (2 : Int))))
                          (aIf (decide (y7 < Int.ofNat (List.length a0)))
                            (onGet a0 y7 fun z9 =>
                              onSome (F52 N (Int.ofNat (UInt8.toNat z9))) fun y10 =>
                                aIf y10 (aGd (decide ((0 : Nat) + (4 : Nat) ≤ (4 : Nat))) (some (((0 : Int), [], (0 : Int), (0 : Int)), (0 : Int), (2 : Int))))
                                  (aGd (decide ((0 : Int) ≤ y7))
                                    (aGd (decide (y7 ≤ Int.ofNat (List.length a0)))
                                      (aGd (decide ((0 : Int) ≤ a1))
                                        (aGd (decide (a1 ≤ Int.ofNat (Int.toNat y7)))
                                          (aGd (decide ((1 : Nat) + (1 : Nat) ≤ (4 : Nat)))
                                            (onSome (F54 N (List.drop (Int.toNat a1) (List.take (Int.toNat y7) a0), (1000000000000000 : Int))) fun y11 =>
                                              aGd (decide ((2 : Nat) + (1 : Nat) ≤ (4 : Nat)))
                                                (aIf (decide ((1000000000000000 : Int) < y11))
                                                  (aGd (decide ((0 : Nat) + (4 : Nat) ≤ (4 : Nat))) (some (((0 : Int), [], (0 : Int), (0 : Int)), (0 : Int), (3 : Int))))
                                                  (aGd (decide ((0 : Nat) + (4 : Nat) ≤ (4 : Nat)))
                                                    (some (((3 : Int), List.drop (Int.toNat a1) (List.take (Int.toNat y7) a0), y11, a1), y7, (0 : Int))))))))))))
                            (aGd (decide ((0 : Int) ≤ y7))
                              (aGd (decide (y7 ≤ Int.ofNat (List.length a0)))
                                (aGd (decide ((0 : Int) ≤ a1))
                                  (aGd (decide (a1 ≤ Int.ofNat (Int.toNat y7)))
                                    (aGd (decide ((1 : Nat) + (1 : Nat) ≤ (4 : Nat)))
                                      (onSome (F54 N (List.drop (Int.toNat a1) (List.take (Int.toNat y7) a0), (1000000000000000 : Int))) fun y12 =>
                                        aGd (decide ((2 : Nat) + (1 : Nat) ≤ (4 : Nat)))
                                          (aIf (decide ((1000000000000000 : Int) < y12))
                                            (aGd (decide ((0 : Nat) + (4 : Nat) ≤ (4 : Nat))) (some (((0 : Int), [], (0 : Int), (0 : Int)), (0 : Int), (3 : Int))))
                                            (aGd (decide ((0 : Nat) + (4 : Nat) ≤ (4 : Nat)))
                                              (some (((3 : Int), List.drop (Int.toNat a1) (List.take (Int.toNat y7) a0), y12, a1), y7, (0 : Int)))))))))))))
                        (aIf (decide (y7 < Int.ofNat (List.length a0)))
                          (onGet a0 y7 fun z13 =>
                            onSome (F52 N (Int.ofNat (UInt8.toNat z13))) fun y14 =>
                              aIf y14 (aGd (decide ((0 : Nat) + (4 : Nat) ≤ (4 : Nat))) (some (((0 : Int), [], (0 : Int), (0 : Int)), (0 : Int), (2 : Int))))
                                (aGd (decide ((0 : Int) ≤ y7))
                                  (aGd (decide (y7 ≤ Int.ofNat (List.length a0)))
                                    (aGd (decide ((0 : Int) ≤ a1))
                                      (aGd (decide (a1 ≤ Int.ofNat (Int.toNat y7)))
                                        (aGd (decide ((1 : Nat) + (1 : Nat) ≤ (4 : Nat)))
                                          (onSome (F54 N (List.drop (Int.toNat a1) (List.take (Int.toNat y7) a0), (1000000000000000 : Int))) fun y15 =>
                                            aGd (decide ((2 : Nat) + (1 : Nat) ≤ (4 : Nat)))
                                              (aIf (decide ((1000000000000000 : Int) < y15))
                                                (aGd (decide ((0 : Nat) + (4 : Nat) ≤ (4 : Nat))) (some (((0 : Int), [], (0 : Int), (0 : Int)), (0 : Int), (3 : Int))))
                                                (aGd (decide ((0 : Nat) + (4 : Nat) ≤ (4 : Nat)))
                                                  (some (((3 : Int), List.drop (Int.toNat a1) (List.take (Int.toNat y7) a0), y15, a1), y7, (0 : Int))))))))))))
                          (aGd (decide ((0 : Int) ≤ y7))
                            (aGd (decide (y7 ≤ Int.ofNat (List.length a0)))
                              (aGd (decide ((0 : Int) ≤ a1))
                                (aGd (decide (a1 ≤ Int.ofNat (Int.toNat y7)))
                                  (aGd (decide ((1 : Nat) + (1 : Nat) ≤ (4 : Nat)))
                                    (onSome (F54 N (List.drop (Int.toNat a1) (List.take (Int.toNat y7) a0), (1000000000000000 : Int))) fun y16 =>
                                      aGd (decide ((2 : Nat) + (1 : Nat) ≤ (4 : Nat)))
                                        (aIf (decide ((1000000000000000 : Int) < y16))
                                          (aGd (decide ((0 : Nat) + (4 : Nat) ≤ (4 : Nat))) (some (((0 : Int), [], (0 : Int), (0 : Int)), (0 : Int), (3 : Int))))
                                          (aGd (decide ((0 : Nat) + (4 : Nat) ≤ (4 : Nat)))
                                            (some (((3 : Int), List.drop (Int.toNat a1) (List.take (Int.toNat y7) a0), y16, a1), y7, (0 : Int))))))))))))))
                  (aIf (IntKind.wrap IntKind.i64 (IntKind.wrap IntKind.i64 (y7 - y0) - (1 : Int)) == (4 : Int))
                    (aIf (decide (y7 < Int.ofNat (List.length a0)))
                      (onGet a0 y7 fun z17 =>
                        aIf (Int.ofNat (UInt8.toNat z17) == (37 : Int))
                          (aGd (decide ((0 : Nat) + (1 : Nat) ≤ (4 : Nat)))
                            (onGet a0 a1 fun z18 =>
                              aIf (Int.ofNat (UInt8.toNat z18) == (48 : Int))
                                (aIf (decide ((1 : Int) < IntKind.wrap IntKind.i64 (y0 - a1)))
                                  (aGd (decide ((0 : Nat) + (4 : Nat) ≤ (4 : Nat))) (some (((0 : Int), [], (0 : Int), (0 : Int)), (0 : Int), (2 : Int))))
                                  (aIf (decide (IntKind.wrap IntKind.i64 (y7 + (1 : Int)) < Int.ofNat (List.length a0)))
                                    (onGet a0 (IntKind.wrap IntKind.i64 (y7 + (1 : Int))) fun z19 =>
                                      onSome (F52 N (Int.ofNat (UInt8.toNat z19))) fun y20 =>
                                        aIf y20 (aGd (decide ((0 : Nat) + (4 : Nat) ≤ (4 : Nat))) (some (((0 : Int), [], (0 : Int), (0 : Int)), (0 : Int), (2 : Int))))
                                          (aGd (decide ((0 : Int) ≤ IntKind.wrap IntKind.i64 (y7 + (1 : Int))))
                                            (aGd (decide (IntKind.wrap IntKind.i64 (y7 + (1 : Int)) ≤ Int.ofNat (List.length a0)))
                                              (aGd (decide ((0 : Int) ≤ a1))
                                                (aGd (decide (a1 ≤ Int.ofNat (Int.toNat (IntKind.wrap IntKind.i64 (y7 + (1 : Int))))))
                                                  (aGd (decide ((1 : Nat) + (1 : Nat) ≤ (4 : Nat)))
                                                    (onSome
                                                      (F54 N (List.drop (Int.toNat a1) (List.take (Int.toNat (IntKind.wrap IntKind.i64 (y7 + (1 : Int)))) a0), (1000000000 : Int)))
                                                      fun y21 =>
                                                      aGd (decide ((2 : Nat) + (1 : Nat) ≤ (4 : Nat)))
                                                        (aIf (decide ((1000000000 : Int) < y21))
                                                          (aGd (decide ((0 : Nat) + (4 : Nat) ≤ (4 : Nat))) (some (((0 : Int), [], (0 : Int), (0 : Int)), (0 : Int), (3 : Int))))
                                                          (aGd (decide ((0 : Nat) + (4 : Nat) ≤ (4 : Nat)))
                                                            (some
                                                              (((4 : Int), List.drop (Int.toNat a1) (List.take (Int.toNat (IntKind.wrap IntKind.i64 (y7 + (1 : Int)))) a0), y21,
                                                                  a1),
                                                                IntKind.wrap IntKind.i64 (y7 + (1 : Int)), (0 : Int))))))))))))
                                    (aGd (decide ((0 : Int) ≤ IntKind.wrap IntKind.i64 (y7 + (1 : Int))))
                                      (aGd (decide (IntKind.wrap IntKind.i64 (y7 + (1 : Int)) ≤ Int.ofNat (List.length a0)))
                                        (aGd (decide ((0 : Int) ≤ a1))
                                          (aGd (decide (a1 ≤ Int.ofNat (Int.toNat (IntKind.wrap IntKind.i64 (y7 + (1 : Int))))))
                                            (aGd (decide ((1 : Nat) + (1 : Nat) ≤ (4 : Nat)))
                                              (onSome (F54 N (List.drop (Int.toNat a1) (List.take (Int.toNat (IntKind.wrap IntKind.i64 (y7 + (1 : Int)))) a0), (1000000000 : Int)))
                                                fun y22 =>
                                                aGd (decide ((2 : Nat) + (1 : Nat) ≤ (4 : Nat)))
                                                  (aIf (decide ((1000000000 : Int) < y22))
                                                    (aGd (decide ((0 : Nat) + (4 : Nat) ≤ (4 : Nat))) (some (((0 : Int), [], (0 : Int), (0 : Int)), (0 : Int), (3 : Int))))
                                                    (aGd (decide ((0 : Nat) + (4 : Nat) ≤ (4 : Nat)))
                                                      (some
                                                        (((4 : Int), List.drop (Int.toNat a1) (List.take (Int.toNat (IntKind.wrap IntKind.i64 (y7 + (1 : Int)))) a0), y22, a1),
                                                          IntKind.wrap IntKind.i64 (y7 + (1 : Int)), (0 : Int)))))))))))))
                                (aIf (decide (IntKind.wrap IntKind.i64 (y7 + (1 : Int)) < Int.ofNat (List.length a0)))
                                  (onGet a0 (IntKind.wrap IntKind.i64 (y7 + (1 : Int))) fun z23 =>
                                    onSome (F52 N (Int.ofNat (UInt8.toNat z23))) fun y24 =>
                                      aIf y24 (aGd (decide ((0 : Nat) + (4 : Nat) ≤ (4 : Nat))) (some (((0 : Int), [], (0 : Int), (0 : Int)), (0 : Int), (2 : Int))))
                                        (aGd (decide ((0 : Int) ≤ IntKind.wrap IntKind.i64 (y7 + (1 : Int))))
                                          (aGd (decide (IntKind.wrap IntKind.i64 (y7 + (1 : Int)) ≤ Int.ofNat (List.length a0)))
                                            (aGd (decide ((0 : Int) ≤ a1))
                                              (aGd (decide (a1 ≤ Int.ofNat (Int.toNat (IntKind.wrap IntKind.i64 (y7 + (1 : Int))))))
                                                (aGd (decide ((1 : Nat) + (1 : Nat) ≤ (4 : Nat)))
                                                  (onSome
                                                    (F54 N (List.drop (Int.toNat a1) (List.take (Int.toNat (IntKind.wrap IntKind.i64 (y7 + (1 : Int)))) a0), (1000000000 : Int)))
                                                    fun y25 =>
                                                    aGd (decide ((2 : Nat) + (1 : Nat) ≤ (4 : Nat)))
                                                      (aIf (decide ((1000000000 : Int) < y25))
                                                        (aGd (decide ((0 : Nat) + (4 : Nat) ≤ (4 : Nat))) (some (((0 : Int), [], (0 : Int), (0 : Int)), (0 : Int), (3 : Int))))
                                                        (aGd (decide ((0 : Nat) + (4 : Nat) ≤ (4 : Nat)))
                                                          (some
                                                            (((4 : Int), List.drop (Int.toNat a1) (List.take (Int.toNat (IntKind.wrap IntKind.i64 (y7 + (1 : Int)))) a0), y25, a1),
                                                              IntKind.wrap IntKind.i64 (y7 + (1 : Int)), (0 : Int))))))))))))
                                  (aGd (decide ((0 : Int) ≤ IntKind.wrap IntKind.i64 (y7 + (1 : Int))))
                                    (aGd (decide (IntKind.wrap IntKind.i64 (y7 + (1 : Int)) ≤ Int.ofNat (List.length a0)))
                                      (aGd (decide ((0 : Int) ≤ a1))
                                        (aGd (decide (a1 ≤ Int.ofNat (Int.toNat (IntKind.wrap IntKind.i64 (y7 + (1 : Int))))))
                                          (aGd (decide ((1 : Nat) + (1 : Nat) ≤ (4 : Nat)))
                                            (onSome (F54 N (List.drop (Int.toNat a1) (List.take (Int.toNat (IntKind.wrap IntKind.i64 (y7 + (1 : Int)))) a0), (1000000000 : Int)))
                                              fun y26 =>
                                              aGd (decide ((2 : Nat) + (1 : Nat) ≤ (4 : Nat)))
                                                (aIf (decide ((1000000000 : Int) < y26))
                                                  (aGd (decide ((0 : Nat) + (4 : Nat) ≤ (4 : Nat))) (some (((0 : Int), [], (0 : Int), (0 : Int)), (0 : Int), (3 : Int))))
                                                  (aGd (decide ((0 : Nat) + (4 : Nat) ≤ (4 : Nat)))
                                                    (some
                                                      (((4 : Int), List.drop (Int.toNat a1) (List.take (Int.toNat (IntKind.wrap IntKind.i64 (y7 + (1 : Int)))) a0), y26, a1),
                                                        IntKind.wrap IntKind.i64 (y7 + (1 : Int)), (0 : Int))))))))))))))
                          (onGet a0 a1 fun z27 =>
                            aIf (Int.ofNat (UInt8.toNat z27) == (48 : Int))
                              (aIf (decide ((1 : Int) < IntKind.wrap IntKind.i64 (y0 - a1)))
                                (aGd (decide ((0 : Nat) + (4 : Nat) ≤ (4 : Nat))) (some (((0 : Int), [], (0 : Int), (0 : Int)), (0 : Int), (2 : Int))))
                                (aIf (decide (y0 < Int.ofNat (List.length a0)))
                                  (onGet a0 y0 fun z28 =>
                                    onSome (F52 N (Int.ofNat (UInt8.toNat z28))) fun y29 =>
                                      aIf y29 (aGd (decide ((0 : Nat) + (4 : Nat) ≤ (4 : Nat))) (some (((0 : Int), [], (0 : Int), (0 : Int)), (0 : Int), (2 : Int))))
                                        (aGd (decide ((0 : Int) ≤ y0))
                                          (aGd (decide (y0 ≤ Int.ofNat (List.length a0)))
                                            (aGd (decide ((0 : Int) ≤ a1))
                                              (aGd (decide (a1 ≤ Int.ofNat (Int.toNat y0)))
                                                (aGd (decide ((1 : Nat) + (1 : Nat) ≤ (4 : Nat)))
                                                  (onSome (F54 N (List.drop (Int.toNat a1) (List.take (Int.toNat y0) a0), (1000000000000 : Int))) fun y30 =>
                                                    aGd (decide ((2 : Nat) + (1 : Nat) ≤ (4 : Nat)))
                                                      (aIf (decide ((1000000000000 : Int) < y30))
                                                        (aGd (decide ((0 : Nat) + (4 : Nat) ≤ (4 : Nat))) (some (((0 : Int), [], (0 : Int), (0 : Int)), (0 : Int), (3 : Int))))
                                                        (aGd (decide ((0 : Nat) + (4 : Nat) ≤ (4 : Nat)))
                                                          (some (((2 : Int), List.drop (Int.toNat a1) (List.take (Int.toNat y0) a0), y30, a1), y0, (0 : Int))))))))))))
                                  (aGd (decide ((0 : Int) ≤ y0))
                                    (aGd (decide (y0 ≤ Int.ofNat (List.length a0)))
                                      (aGd (decide ((0 : Int) ≤ a1))
                                        (aGd (decide (a1 ≤ Int.ofNat (Int.toNat y0)))
                                          (aGd (decide ((1 : Nat) + (1 : Nat) ≤ (4 : Nat)))
                                            (onSome (F54 N (List.drop (Int.toNat a1) (List.take (Int.toNat y0) a0), (1000000000000 : Int))) fun y31 =>
                                              aGd (decide ((2 : Nat) + (1 : Nat) ≤ (4 : Nat)))
                                                (aIf (decide ((1000000000000 : Int) < y31))
                                                  (aGd (decide ((0 : Nat) + (4 : Nat) ≤ (4 : Nat))) (some (((0 : Int), [], (0 : Int), (0 : Int)), (0 : Int), (3 : Int))))
                                                  (aGd (decide ((0 : Nat) + (4 : Nat) ≤ (4 : Nat)))
                                                    (some (((2 : Int), List.drop (Int.toNat a1) (List.take (Int.toNat y0) a0), y31, a1), y0, (0 : Int)))))))))))))
                              (aIf (decide (y0 < Int.ofNat (List.length a0)))
                                (onGet a0 y0 fun z32 =>
                                  onSome (F52 N (Int.ofNat (UInt8.toNat z32))) fun y33 =>
                                    aIf y33 (aGd (decide ((0 : Nat) + (4 : Nat) ≤ (4 : Nat))) (some (((0 : Int), [], (0 : Int), (0 : Int)), (0 : Int), (2 : Int))))
                                      (aGd (decide ((0 : Int) ≤ y0))
                                        (aGd (decide (y0 ≤ Int.ofNat (List.length a0)))
                                          (aGd (decide ((0 : Int) ≤ a1))
                                            (aGd (decide (a1 ≤ Int.ofNat (Int.toNat y0)))
                                              (aGd (decide ((1 : Nat) + (1 : Nat) ≤ (4 : Nat)))
                                                (onSome (F54 N (List.drop (Int.toNat a1) (List.take (Int.toNat y0) a0), (1000000000000 : Int))) fun y34 =>
                                                  aGd (decide ((2 : Nat) + (1 : Nat) ≤ (4 : Nat)))
                                                    (aIf (decide ((1000000000000 : Int) < y34))
                                                      (aGd (decide ((0 : Nat) + (4 : Nat) ≤ (4 : Nat))) (some (((0 : Int), [], (0 : Int), (0 : Int)), (0 : Int), (3 : Int))))
                                                      (aGd (decide ((0 : Nat) + (4 : Nat) ≤ (4 : Nat)))
                                                        (some (((2 : Int), List.drop (Int.toNat a1) (List.take (Int.toNat y0) a0), y34, a1), y0, (0 : Int))))))))))))
                                (aGd (decide ((0 : Int) ≤ y0))
                                  (aGd (decide (y0 ≤ Int.ofNat (List.length a0)))
                                    (aGd (decide ((0 : Int) ≤ a1))
                                      (aGd (decide (a1 ≤ Int.ofNat (Int.toNat y0)))
                                        (aGd (decide ((1 : Nat) + (1 : Nat) ≤ (4 : Nat)))
                                          (onSome (F54 N (List.drop (Int.toNat a1) (List.take (Int.toNat y0) a0), (1000000000000 : Int))) fun y35 =>
                                            aGd (decide ((2 : Nat) + (1 : Nat) ≤ (4 : Nat)))
                                              (aIf (decide ((1000000000000 : Int) < y35))
                                                (aGd (decide ((0 : Nat) + (4 : Nat) ≤ (4 : Nat))) (some (((0 : Int), [], (0 : Int), (0 : Int)), (0 : Int), (3 : Int))))
                                                (aGd (decide ((0 : Nat) + (4 : Nat) ≤ (4 : Nat)))
                                                  (some (((2 : Int), List.drop (Int.toNat a1) (List.take (Int.toNat y0) a0), y35, a1), y0, (0 : Int))))))))))))))
                      (onGet a0 a1 fun z36 =>
                        aIf (Int.ofNat (UInt8.toNat z36) == (48 : Int))
                          (aIf (decide ((1 : Int) < IntKind.wrap IntKind.i64 (y0 - a1)))
                            (aGd (decide ((0 : Nat) + (4 : Nat) ≤ (4 : Nat))) (some (((0 : Int), [], (0 : Int), (0 : Int)), (0 : Int), (2 : Int))))
                            (aIf (decide (y0 < Int.ofNat (List.length a0)))
                              (onGet a0 y0 fun z37 =>
                                onSome (F52 N (Int.ofNat (UInt8.toNat z37))) fun y38 =>
                                  aIf y38 (aGd (decide ((0 : Nat) + (4 : Nat) ≤ (4 : Nat))) (some (((0 : Int), [], (0 : Int), (0 : Int)), (0 : Int), (2 : Int))))
                                    (aGd (decide ((0 : Int) ≤ y0))
                                      (aGd (decide (y0 ≤ Int.ofNat (List.length a0)))
                                        (aGd (decide ((0 : Int) ≤ a1))
                                          (aGd (decide (a1 ≤ Int.ofNat (Int.toNat y0)))
                                            (aGd (decide ((1 : Nat) + (1 : Nat) ≤ (4 : Nat)))
                                              (onSome (F54 N (List.drop (Int.toNat a1) (List.take (Int.toNat y0) a0), (1000000000000 : Int))) fun y39 =>
                                                aGd (decide ((2 : Nat) + (1 : Nat) ≤ (4 : Nat)))
                                                  (aIf (decide ((1000000000000 : Int) < y39))
                                                    (aGd (decide ((0 : Nat) + (4 : Nat) ≤ (4 : Nat))) (some (((0 : Int), [], (0 : Int), (0 : Int)), (0 : Int), (3 : Int))))
                                                    (aGd (decide ((0 : Nat) + (4 : Nat) ≤ (4 : Nat)))
                                                      (some (((2 : Int), List.drop (Int.toNat a1) (List.take (Int.toNat y0) a0), y39, a1), y0, (0 : Int))))))))))))
                              (aGd (decide ((0 : Int) ≤ y0))
                                (aGd (decide (y0 ≤ Int.ofNat (List.length a0)))
                                  (aGd (decide ((0 : Int) ≤ a1))
                                    (aGd (decide (a1 ≤ Int.ofNat (Int.toNat y0)))
                                      (aGd (decide ((1 : Nat) + (1 : Nat) ≤ (4 : Nat)))
                                        (onSome (F54 N (List.drop (Int.toNat a1) (List.take (Int.toNat y0) a0), (1000000000000 : Int))) fun y40 =>
                                          aGd (decide ((2 : Nat) + (1 : Nat) ≤ (4 : Nat)))
                                            (aIf (decide ((1000000000000 : Int) < y40))
                                              (aGd (decide ((0 : Nat) + (4 : Nat) ≤ (4 : Nat))) (some (((0 : Int), [], (0 : Int), (0 : Int)), (0 : Int), (3 : Int))))
                                              (aGd (decide ((0 : Nat) + (4 : Nat) ≤ (4 : Nat)))
                                                (some (((2 : Int), List.drop (Int.toNat a1) (List.take (Int.toNat y0) a0), y40, a1), y0, (0 : Int)))))))))))))
                          (aIf (decide (y0 < Int.ofNat (List.length a0)))
                            (onGet a0 y0 fun z41 =>
                              onSome (F52 N (Int.ofNat (UInt8.toNat z41))) fun y42 =>
                                aIf y42 (aGd (decide ((0 : Nat) + (4 : Nat) ≤ (4 : Nat))) (some (((0 : Int), [], (0 : Int), (0 : Int)), (0 : Int), (2 : Int))))
                                  (aGd (decide ((0 : Int) ≤ y0))
                                    (aGd (decide (y0 ≤ Int.ofNat (List.length a0)))
                                      (aGd (decide ((0 : Int) ≤ a1))
                                        (aGd (decide (a1 ≤ Int.ofNat (Int.toNat y0)))
                                          (aGd (decide ((1 : Nat) + (1 : Nat) ≤ (4 : Nat)))
                                            (onSome (F54 N (List.drop (Int.toNat a1) (List.take (Int.toNat y0) a0), (1000000000000 : Int))) fun y43 =>
                                              aGd (decide ((2 : Nat) + (1 : Nat) ≤ (4 : Nat)))
                                                (aIf (decide ((1000000000000 : Int) < y43))
                                                  (aGd (decide ((0 : Nat) + (4 : Nat) ≤ (4 : Nat))) (some (((0 : Int), [], (0 : Int), (0 : Int)), (0 : Int), (3 : Int))))
                                                  (aGd (decide ((0 : Nat) + (4 : Nat) ≤ (4 : Nat)))
                                                    (some (((2 : Int), List.drop (Int.toNat a1) (List.take (Int.toNat y0) a0), y43, a1), y0, (0 : Int))))))))))))
                            (aGd (decide ((0 : Int) ≤ y0))
                              (aGd (decide (y0 ≤ Int.ofNat (List.length a0)))
                                (aGd (decide ((0 : Int) ≤ a1))
                                  (aGd (decide (a1 ≤ Int.ofNat (Int.toNat y0)))
                                    (aGd (decide ((1 : Nat) + (1 : Nat) ≤ (4 : Nat)))
                                      (onSome (F54 N (List.drop (Int.toNat a1) (List.take (Int.toNat y0) a0), (1000000000000 : Int))) fun y44 =>
                                        aGd (decide ((2 : Nat) + (1 : Nat) ≤ (4 : Nat)))
                                          (aIf (decide ((1000000000000 : Int) < y44))
                                            (aGd (decide ((0 : Nat) + (4 : Nat) ≤ (4 : Nat))) (some (((0 : Int), [], (0 : Int), (0 : Int)), (0 : Int), (3 : Int))))
                                            (aGd (decide ((0 : Nat) + (4 : Nat) ≤ (4 : Nat)))
                                              (some (((2 : Int), List.drop (Int.toNat a1) (List.take (Int.toNat y0) a0), y44, a1), y0, (0 : Int))))))))))))))
                    (onGet a0 a1 fun z45 =>
                      aIf (Int.ofNat (UInt8.toNat z45) == (48 : Int))
                        (aIf (decide ((1 : Int) < IntKind.wrap IntKind.i64 (y0 - a1)))
                          (aGd (decide ((0 : Nat) + (4 : Nat) ≤ (4 : Nat))) (some (((0 : Int), [], (0 : Int), (0 : Int)), (0 : Int), (2 : Int))))
                          (aIf (decide (y0 < Int.ofNat (List.length a0)))
                            (onGet a0 y0 fun z46 =>
                              onSome (F52 N (Int.ofNat (UInt8.toNat z46))) fun y47 =>
                                aIf y47 (aGd (decide ((0 : Nat) + (4 : Nat) ≤ (4 : Nat))) (some (((0 : Int), [], (0 : Int), (0 : Int)), (0 : Int), (2 : Int))))
                                  (aGd (decide ((0 : Int) ≤ y0))
                                    (aGd (decide (y0 ≤ Int.ofNat (List.length a0)))
                                      (aGd (decide ((0 : Int) ≤ a1))
                                        (aGd (decide (a1 ≤ Int.ofNat (Int.toNat y0)))
                                          (aGd (decide ((1 : Nat) + (1 : Nat) ≤ (4 : Nat)))
                                            (onSome (F54 N (List.drop (Int.toNat a1) (List.take (Int.toNat y0) a0), (1000000000000 : Int))) fun y48 =>
                                              aGd (decide ((2 : Nat) + (1 : Nat) ≤ (4 : Nat)))
                                                (aIf (decide ((1000000000000 : Int) < y48))
                                                  (aGd (decide ((0 : Nat) + (4 : Nat) ≤ (4 : Nat))) (some (((0 : Int), [], (0 : Int), (0 : Int)), (0 : Int), (3 : Int))))
                                                  (aGd (decide ((0 : Nat) + (4 : Nat) ≤ (4 : Nat)))
                                                    (some (((2 : Int), List.drop (Int.toNat a1) (List.take (Int.toNat y0) a0), y48, a1), y0, (0 : Int))))))))))))
                            (aGd (decide ((0 : Int) ≤ y0))
                              (aGd (decide (y0 ≤ Int.ofNat (List.length a0)))
                                (aGd (decide ((0 : Int) ≤ a1))
                                  (aGd (decide (a1 ≤ Int.ofNat (Int.toNat y0)))
                                    (aGd (decide ((1 : Nat) + (1 : Nat) ≤ (4 : Nat)))
                                      (onSome (F54 N (List.drop (Int.toNat a1) (List.take (Int.toNat y0) a0), (1000000000000 : Int))) fun y49 =>
                                        aGd (decide ((2 : Nat) + (1 : Nat) ≤ (4 : Nat)))
                                          (aIf (decide ((1000000000000 : Int) < y49))
                                            (aGd (decide ((0 : Nat) + (4 : Nat) ≤ (4 : Nat))) (some (((0 : Int), [], (0 : Int), (0 : Int)), (0 : Int), (3 : Int))))
                                            (aGd (decide ((0 : Nat) + (4 : Nat) ≤ (4 : Nat)))
                                              (some (((2 : Int), List.drop (Int.toNat a1) (List.take (Int.toNat y0) a0), y49, a1), y0, (0 : Int)))))))))))))
                        (aIf (decide (y0 < Int.ofNat (List.length a0)))
                          (onGet a0 y0 fun z50 =>
                            onSome (F52 N (Int.ofNat (UInt8.toNat z50))) fun y51 =>
                              aIf y51 (aGd (decide ((0 : Nat) + (4 : Nat) ≤ (4 : Nat))) (some (((0 : Int), [], (0 : Int), (0 : Int)), (0 : Int), (2 : Int))))
                                (aGd (decide ((0 : Int) ≤ y0))
                                  (aGd (decide (y0 ≤ Int.ofNat (List.length a0)))
                                    (aGd (decide ((0 : Int) ≤ a1))
                                      (aGd (decide (a1 ≤ Int.ofNat (Int.toNat y0)))
                                        (aGd (decide ((1 : Nat) + (1 : Nat) ≤ (4 : Nat)))
                                          (onSome (F54 N (List.drop (Int.toNat a1) (List.take (Int.toNat y0) a0), (1000000000000 : Int))) fun y52 =>
                                            aGd (decide ((2 : Nat) + (1 : Nat) ≤ (4 : Nat)))
                                              (aIf (decide ((1000000000000 : Int) < y52))
                                                (aGd (decide ((0 : Nat) + (4 : Nat) ≤ (4 : Nat))) (some (((0 : Int), [], (0 : Int), (0 : Int)), (0 : Int), (3 : Int))))
                                                (aGd (decide ((0 : Nat) + (4 : Nat) ≤ (4 : Nat)))
                                                  (some (((2 : Int), List.drop (Int.toNat a1) (List.take (Int.toNat y0) a0), y52, a1), y0, (0 : Int))))))))))))
                          (aGd (decide ((0 : Int) ≤ y0))
                            (aGd (decide (y0 ≤ Int.ofNat (List.length a0)))
                              (aGd (decide ((0 : Int) ≤ a1))
                                (aGd (decide (a1 ≤ Int.ofNat (Int.toNat y0)))
                                  (aGd (decide ((1 : Nat) + (1 : Nat) ≤ (4 : Nat)))
                                    (onSome (F54 N (List.drop (Int.toNat a1) (List.take (Int.toNat y0) a0), (1000000000000 : Int))) fun y53 =>
                                      aGd (decide ((2 : Nat) + (1 : Nat) ≤ (4 : Nat)))
                                        (aIf (decide ((1000000000000 : Int) < y53))
                                          (aGd (decide ((0 : Nat) + (4 : Nat) ≤ (4 : Nat))) (some (((0 : Int), [], (0 : Int), (0 : Int)), (0 : Int), (3 : Int))))
                                          (aGd (decide ((0 : Nat) + (4 : Nat) ≤ (4 : Nat)))
                                            (some (((2 : Int), List.drop (Int.toNat a1) (List.take (Int.toNat y0) a0), y53, a1), y0, (0 : Int)))))))))))))))
              (onGet a0 a1 fun z54 =>
                aIf (Int.ofNat (UInt8.toNat z54) == (48 : Int))
                  (aIf (decide ((1 : Int) < IntKind.wrap IntKind.i64 (y0 - a1)))
                    (aGd (decide ((0 : Nat) + (4 : Nat) ≤ (4 : Nat))) (some (((0 : Int), [], (0 : Int), (0 : Int)), (0 : Int), (2 : Int))))
                    (aIf (decide (y0 < Int.ofNat (List.length a0)))
                      (onGet a0 y0 fun z55 =>
                        onSome (F52 N (Int.ofNat (UInt8.toNat z55))) fun y56 =>
                          aIf y56 (aGd (decide ((0 : Nat) + (4 : Nat) ≤ (4 : Nat))) (some (((0 : Int), [], (0 : Int), (0 : Int)), (0 : Int), (2 : Int))))
                            (aGd (decide ((0 : Int) ≤ y0))
                              (aGd (decide (y0 ≤ Int.ofNat (List.length a0)))
                                (aGd (decide ((0 : Int) ≤ a1))
                                  (aGd (decide (a1 ≤ Int.ofNat (Int.toNat y0)))
                                    (aGd (decide ((1 : Nat) + (1 : Nat) ≤ (4 : Nat)))
                                      (onSome (F54 N (List.drop (Int.toNat a1) (List.take (Int.toNat y0) a0), (1000000000000 : Int))) fun y57 =>
                                        aGd (decide ((2 : Nat) + (1 : Nat) ≤ (4 : Nat)))
                                          (aIf (decide ((1000000000000 : Int) < y57))
                                            (aGd (decide ((0 : Nat) + (4 : Nat) ≤ (4 : Nat))) (some (((0 : Int), [], (0 : Int), (0 : Int)), (0 : Int), (3 : Int))))
                                            (aGd (decide ((0 : Nat) + (4 : Nat) ≤ (4 : Nat)))
                                              (some (((2 : Int), List.drop (Int.toNat a1) (List.take (Int.toNat y0) a0), y57, a1), y0, (0 : Int))))))))))))
                      (aGd (decide ((0 : Int) ≤ y0))
                        (aGd (decide (y0 ≤ Int.ofNat (List.length a0)))
                          (aGd (decide ((0 : Int) ≤ a1))
                            (aGd (decide (a1 ≤ Int.ofNat (Int.toNat y0)))
                              (aGd (decide ((1 : Nat) + (1 : Nat) ≤ (4 : Nat)))
                                (onSome (F54 N (List.drop (Int.toNat a1) (List.take (Int.toNat y0) a0), (1000000000000 : Int))) fun y58 =>
                                  aGd (decide ((2 : Nat) + (1 : Nat) ≤ (4 : Nat)))
                                    (aIf (decide ((1000000000000 : Int) < y58))
                                      (aGd (decide ((0 : Nat) + (4 : Nat) ≤ (4 : Nat))) (some (((0 : Int), [], (0 : Int), (0 : Int)), (0 : Int), (3 : Int))))
                                      (aGd (decide ((0 : Nat) + (4 : Nat) ≤ (4 : Nat)))
                                        (some (((2 : Int), List.drop (Int.toNat a1) (List.take (Int.toNat y0) a0), y58, a1), y0, (0 : Int)))))))))))))
                  (aIf (decide (y0 < Int.ofNat (List.length a0)))
                    (onGet a0 y0 fun z59 =>
                      onSome (F52 N (Int.ofNat (UInt8.toNat z59))) fun y60 =>
                        aIf y60 (aGd (decide ((0 : Nat) + (4 : Nat) ≤ (4 : Nat))) (some (((0 : Int), [], (0 : Int), (0 : Int)), (0 : Int), (2 : Int))))
                          (aGd (decide ((0 : Int) ≤ y0))
                            (aGd (decide (y0 ≤ Int.ofNat (List.length a0)))
                              (aGd (decide ((0 : Int) ≤ a1))
                                (aGd (decide (a1 ≤ Int.ofNat (Int.toNat y0)))
                                  (aGd (decide ((1 : Nat) + (1 : Nat) ≤ (4 : Nat)))
                                    (onSome (F54 N (List.drop (Int.toNat a1) (List.take (Int.toNat y0) a0), (1000000000000 : Int))) fun y61 =>
                                      aGd (decide ((2 : Nat) + (1 : Nat) ≤ (4 : Nat)))
                                        (aIf (decide ((1000000000000 : Int) < y61))
                                          (aGd (decide ((0 : Nat) + (4 : Nat) ≤ (4 : Nat))) (some (((0 : Int), [], (0 : Int), (0 : Int)), (0 : Int), (3 : Int))))
                                          (aGd (decide ((0 : Nat) + (4 : Nat) ≤ (4 : Nat)))
                                            (some (((2 : Int), List.drop (Int.toNat a1) (List.take (Int.toNat y0) a0), y61, a1), y0, (0 : Int))))))))))))
                    (aGd (decide ((0 : Int) ≤ y0))
                      (aGd (decide (y0 ≤ Int.ofNat (List.length a0)))
                        (aGd (decide ((0 : Int) ≤ a1))
                          (aGd (decide (a1 ≤ Int.ofNat (Int.toNat y0)))
                            (aGd (decide ((1 : Nat) + (1 : Nat) ≤ (4 : Nat)))
                              (onSome (F54 N (List.drop (Int.toNat a1) (List.take (Int.toNat y0) a0), (1000000000000 : Int))) fun y62 =>
                                aGd (decide ((2 : Nat) + (1 : Nat) ≤ (4 : Nat)))
                                  (aIf (decide ((1000000000000 : Int) < y62))
                                    (aGd (decide ((0 : Nat) + (4 : Nat) ≤ (4 : Nat))) (some (((0 : Int), [], (0 : Int), (0 : Int)), (0 : Int), (3 : Int))))
                                    (aGd (decide ((0 : Nat) + (4 : Nat) ≤ (4 : Nat)))
                                      (some (((2 : Int), List.drop (Int.toNat a1) (List.take (Int.toNat y0) a0), y62, a1), y0, (0 : Int))))))))))))))
          (onGet a0 a1 fun z63 =>
            aIf (Int.ofNat (UInt8.toNat z63) == (48 : Int))
              (aIf (decide ((1 : Int) < IntKind.wrap IntKind.i64 (y0 - a1)))
                (aGd (decide ((0 : Nat) + (4 : Nat) ≤ (4 : Nat))) (some (((0 : Int), [], (0 : Int), (0 : Int)), (0 : Int), (2 : Int))))
                (aIf (decide (y0 < Int.ofNat (List.length a0)))
                  (onGet a0 y0 fun z64 =>
                    onSome (F52 N (Int.ofNat (UInt8.toNat z64))) fun y65 =>
                      aIf y65 (aGd (decide ((0 : Nat) + (4 : Nat) ≤ (4 : Nat))) (some (((0 : Int), [], (0 : Int), (0 : Int)), (0 : Int), (2 : Int))))
                        (aGd (decide ((0 : Int) ≤ y0))
                          (aGd (decide (y0 ≤ Int.ofNat (List.length a0)))
                            (aGd (decide ((0 : Int) ≤ a1))
                              (aGd (decide (a1 ≤ Int.ofNat (Int.toNat y0)))
                                (aGd (decide ((1 : Nat) + (1 : Nat) ≤ (4 : Nat)))
                                  (onSome (F54 N (List.drop (Int.toNat a1) (List.take (Int.toNat y0) a0), (1000000000000 : Int))) fun y66 =>
                                    aGd (decide ((2 : Nat) + (1 : Nat) ≤ (4 : Nat)))
                                      (aIf (decide ((1000000000000 : Int) < y66))
                                        (aGd (decide ((0 : Nat) + (4 : Nat) ≤ (4 : Nat))) (some (((0 : Int), [], (0 : Int), (0 : Int)), (0 : Int), (3 : Int))))
                                        (aGd (decide ((0 : Nat) + (4 : Nat) ≤ (4 : Nat)))
                                          (some (((2 : Int), List.drop (Int.toNat a1) (List.take (Int.toNat y0) a0), y66, a1), y0, (0 : Int))))))))))))
                  (aGd (decide ((0 : Int) ≤ y0))
                    (aGd (decide (y0 ≤ Int.ofNat (List.length a0)))
                      (aGd (decide ((0 : Int) ≤ a1))
                        (aGd (decide (a1 ≤ Int.ofNat (Int.toNat y0)))
                          (aGd (decide ((1 : Nat) + (1 : Nat) ≤ (4 : Nat)))
                            (onSome (F54 N (List.drop (Int.toNat a1) (List.take (Int.toNat y0) a0), (1000000000000 : Int))) fun y67 =>
                              aGd (decide ((2 : Nat) + (1 : Nat) ≤ (4 : Nat)))
                                (aIf (decide ((1000000000000 : Int) < y67))
                                  (aGd (decide ((0 : Nat) + (4 : Nat) ≤ (4 : Nat))) (some (((0 : Int), [], (0 : Int), (0 : Int)), (0 : Int), (3 : Int))))
                                  (aGd (decide ((0 : Nat) + (4 : Nat) ≤ (4 : Nat)))
                                    (some (((2 : Int), List.drop (Int.toNat a1) (List.take (Int.toNat y0) a0), y67, a1), y0, (0 : Int)))))))))))))
              (aIf (decide (y0 < Int.ofNat (List.length a0)))
                (onGet a0 y0 fun z68 =>
                  onSome (F52 N (Int.ofNat (UInt8.toNat z68))) fun y69 =>
                    aIf y69 (aGd (decide ((0 : Nat) + (4 : Nat) ≤ (4 : Nat))) (some (((0 : Int), [], (0 : Int), (0 : Int)), (0 : Int), (2 : Int))))
                      (aGd (decide ((0 : Int) ≤ y0))
                        (aGd (decide (y0 ≤ Int.ofNat (List.length a0)))
                          (aGd (decide ((0 : Int) ≤ a1))
                            (aGd (decide (a1 ≤ Int.ofNat (Int.toNat y0)))
                              (aGd (decide ((1 : Nat) + (1 : Nat) ≤ (4 : Nat)))
                                (onSome (F54 N (List.drop (Int.toNat a1) (List.take (Int.toNat y0) a0), (1000000000000 : Int))) fun y70 =>
                                  aGd (decide ((2 : Nat) + (1 : Nat) ≤ (4 : Nat)))
                                    (aIf (decide ((1000000000000 : Int) < y70))
                                      (aGd (decide ((0 : Nat) + (4 : Nat) ≤ (4 : Nat))) (some (((0 : Int), [], (0 : Int), (0 : Int)), (0 : Int), (3 : Int))))
                                      (aGd (decide ((0 : Nat) + (4 : Nat) ≤ (4 : Nat)))
                                        (some (((2 : Int), List.drop (Int.toNat a1) (List.take (Int.toNat y0) a0), y70, a1), y0, (0 : Int))))))))))))
                (aGd (decide ((0 : Int) ≤ y0))
                  (aGd (decide (y0 ≤ Int.ofNat (List.length a0)))
                    (aGd (decide ((0 : Int) ≤ a1))
                      (aGd (decide (a1 ≤ Int.ofNat (Int.toNat y0)))
                        (aGd (decide ((1 : Nat) + (1 : Nat) ≤ (4 : Nat)))
                          (onSome (F54 N (List.drop (Int.toNat a1) (List.take (Int.toNat y0) a0), (1000000000000 : Int))) fun y71 =>
                            aGd (decide ((2 : Nat) + (1 : Nat) ≤ (4 : Nat)))
                              (aIf (decide ((1000000000000 : Int) < y71))
                                (aGd (decide ((0 : Nat) + (4 : Nat) ≤ (4 : Nat))) (some (((0 : Int), [], (0 : Int), (0 : Int)), (0 : Int), (3 : Int))))
                                (aGd (decide ((0 : Nat) + (4 : Nat) ≤ (4 : Nat)))
                                  (some (((2 : Int), List.drop (Int.toNat a1) (List.take (Int.toNat y0) a0), y71, a1), y0, (0 : Int))))))))))))))) := by kernel_rfl
noncomputable def C37 (N : Nat) : Callee := mkCallee A37 R37 (F37 N)
theorem S37 (N : Nat) : Cok 37 (C37 N) := cok_of (l := (E37 N).calls) (O := O37 N) (cok_cons (S50 N) (cok_cons (S51 N) (cok_cons (S52 N) (cok_cons (S53 N) (cok_cons (S54 N) cok_nil))))) rfl Try.func37 rfl (by kernel_rfl) (by kernel_rfl)

-- function 38
def A38 : Cods ((List UInt8) × Int) := (codsCons codStr (codsOne (codInt .i64)))
def R38 : Cod (((Int) × (List UInt8) × (Int) × Int) × (Int) × Int) := (codTup (codsCons (codAgg (codsCons (codInt .i64) (codsCons codStr (codsCons (codInt .i64) (codsOne (codInt .i64)))))) (codsCons (codInt .i64) (codsOne (codInt .i64)))))
noncomputable def E38 (N : Nat) : Env := ⟨Try.prog, []⟩
def O38 (N : Nat) : Opts := ⟨N, [(2, ⟨[0, 1, 4, 7], [], [], 1⟩), (7, ⟨[0, 1, 4, 7, 8], [], [], 1⟩)], []⟩
noncomputable def F38 (N : Nat) (a : (List UInt8) × Int) : Option (((Int) × (List UInt8) × (Int) × Int) × (Int) × Int) := aTyped (E38 N) (O38 N) Try.f38 A38 R38 a
noncomputable def L38_2 (N : Nat) (n : Nat) (x0 : List UInt8) (x1 : Int) (x2 : Int) (x3 : Int) (x4 : List UInt8) (x5 : Int) (x6 : Int) : Option ((Int × List UInt8 × Int × Int) × Int × Int) :=
  atLoop (E38 N) (O38 N) Try.f38 [(1 : Nat), (1 : Nat), (0 : Nat), (0 : Nat)] [] n
  {
    tmps :=
      Tm.of (nat_lit 73)
        [((0 : Nat), AV.p (PV.str x0)), ((1 : Nat), AV.p (PV.int IntKind.i64 x1)), ((4 : Nat), AV.box (0 : Nat) (0 : Nat)), ((7 : Nat), AV.p (PV.int IntKind.i64 x2))],
    heap := [Blk.box [AV.p (PV.int IntKind.i64 x3), AV.p (PV.str x4), AV.p (PV.int IntKind.i64 x5), AV.p (PV.int IntKind.i64 x6)]] }
  fun x => Cod.dec R38 x some
noncomputable def L38_7 (N : Nat) (n : Nat) (x0 : List UInt8) (x1 : Int) (x2 : Int) (x3 : Int) (x4 : Int) (x5 : List UInt8) (x6 : Int) (x7 : Int) : Option ((Int × List UInt8 × Int × Int) × Int × Int) :=
  atLoop (E38 N) (O38 N) Try.f38 [(1 : Nat), (1 : Nat), (1 : Nat), (1 : Nat), (0 : Nat), (1 : Nat), (0 : Nat)] [] n
  {
    tmps :=
      Tm.of (nat_lit 73)
        [((0 : Nat), AV.p (PV.str x0)), ((1 : Nat), AV.p (PV.int IntKind.i64 x1)), ((4 : Nat), AV.box (0 : Nat) (0 : Nat)), ((7 : Nat), AV.p (PV.int IntKind.i64 x2)),
          ((8 : Nat), AV.p (PV.int IntKind.i64 x3))],
    heap := [Blk.box [AV.p (PV.int IntKind.i64 x4), AV.p (PV.str x5), AV.p (PV.int IntKind.i64 x6), AV.p (PV.int IntKind.i64 x7)]] }
  fun x => Cod.dec R38 x some
theorem L38_2_eq (N : Nat) (n : Nat) (x0 : List UInt8) (x1 : Int) (x2 : Int) (x3 : Int) (x4 : List UInt8) (x5 : Int) (x6 : Int) : L38_2 N (n + 1) x0 x1 x2 x3 x4 x5 x6 =
    aIf (decide (x2 < Int.ofNat (List.length x0)))
  (onGet x0 x2 fun z0 =>
    aIf (Int.ofNat (UInt8.toNat z0) != (34 : Int))
      (onGet x0 x2 fun z1 =>
        aIf (Int.ofNat (UInt8.toNat z1) != (10 : Int)) (L38_2 N n x0 x1 (IntKind.wrap IntKind.i64 (x2 + (1 : Int))) x3 x4 x5 x6)
          (aIf (x2 == Int.ofNat (List.length x0)) (aGd (decide ((0 : Nat) + (4 : Nat) ≤ (4 : Nat))) (some (((0 : Int), [], (0 : Int), (0 : Int)), (0 : Int), (5 : Int))))
            (onGet x0 x2 fun z2 =>
              aIf (Int.ofNat (UInt8.toNat z2) == (10 : Int)) (aGd (decide ((0 : Nat) + (4 : Nat) ≤ (4 : Nat))) (some (((0 : Int), [], (0 : Int), (0 : Int)), (0 : Int), (5 : Int))))
                (L38_7 N N x0 x1 x2 (IntKind.wrap IntKind.i64 (x1 + (1 : Int))) x3 x4 x5 x6))))
      (aIf (x2 == Int.ofNat (List.length x0)) (aGd (decide ((0 : Nat) + (4 : Nat) ≤ (4 : Nat))) (some (((0 : Int), [], (0 : Int), (0 : Int)), (0 : Int), (5 : Int))))
        (onGet x0 x2 fun z3 =>
          aIf (Int.ofNat (UInt8.toNat z3) == (10 : Int)) (aGd (decide ((0 : Nat) + (4 : Nat) ≤ (4 : Nat))) (some (((0 : Int), [], (0 : Int), (0 : Int)), (0 : Int), (5 : Int))))
            (L38_7 N N x0 x1 x2 (IntKind.wrap IntKind.i64 (x1 + (1 : Int))) x3 x4 x5 x6))))
  (aIf (x2 == Int.ofNat (List.length x0)) (aGd (decide ((0 : Nat) + (4 : Nat) ≤ (4 : Nat))) (some (((0 : Int), [], (0 : Int), (0 : Int)), (0 : Int), (5 : Int))))
    (onGet x0 x2 fun z4 =>
      aIf (Int.ofNat (UInt8.toNat z4) == (10 : Int)) (aGd (decide ((0 : Nat) + (4 : Nat) ≤ (4 : Nat))) (some (((0 : Int), [], (0 : Int), (0 : Int)), (0 : Int), (5 : Int))))
        (L38_7 N N x0 x1 x2 (IntKind.wrap IntKind.i64 (x1 + (1 : Int))) x3 x4 x5 x6))) := by kernel_rfl
theorem L38_2_zero (N : Nat) (x0 : List UInt8) (x1 : Int) (x2 : Int) (x3 : Int) (x4 : List UInt8) (x5 : Int) (x6 : Int) : L38_2 N 0 x0 x1 x2 x3 x4 x5 x6 = none := by kernel_rfl
theorem L38_7_eq (N : Nat) (n : Nat) (x0 : List UInt8) (x1 : Int) (x2 : Int) (x3 : Int) (x4 : Int) (x5 : List UInt8) (x6 : Int) (x7 : Int) : L38_7 N (n + 1) x0 x1 x2 x3 x4 x5 x6 x7 =
    aIf (decide (x3 < x2))
  (onGet x0 x3 fun z5 =>
    aIf (decide (Int.ofNat (UInt8.toNat z5) < (32 : Int))) (aGd (decide ((0 : Nat) + (4 : Nat) ≤ (4 : Nat))) (some (((0 : Int), [], (0 : Int), (0 : Int)), (0 : Int), (2 : Int))))
      (onGet x0 x3 fun z6 =>
        aIf (decide ((126 : Int) < Int.ofNat (UInt8.toNat z6)))
          (aGd (decide ((0 : Nat) + (4 : Nat) ≤ (4 : Nat))) (some (((0 : Int), [], (0 : Int), (0 : Int)), (0 : Int), (2 : Int))))
          (L38_7 N n x0 x1 x2 (IntKind.wrap IntKind.i64 (x3 + (1 : Int))) x4 x5 x6 x7)))
  (aIf (decide ((64 : Int) < IntKind.wrap IntKind.i64 (IntKind.wrap IntKind.i64 (x2 - x1) - (1 : Int))))
    (aGd (decide ((0 : Nat) + (4 : Nat) ≤ (4 : Nat))) (some (((0 : Int), [], (0 : Int), (0 : Int)), (0 : Int), (4 : Int))))
    (aGd (decide ((0 : Int) ≤ x2))
      (aGd (decide (x2 ≤ Int.ofNat (List.length x0)))
        (aGd (decide ((0 : Int) ≤ IntKind.wrap IntKind.i64 (x1 + (1 : Int))))
          (aGd (decide (IntKind.wrap IntKind.i64 (x1 + (1 : Int)) ≤ Int.ofNat (Int.toNat x2)))
            (aGd (decide ((0 : Nat) + (4 : Nat) ≤ (4 : Nat)))
              (some
                (((6 : Int), List.drop (Int.toNat (IntKind.wrap IntKind.i64 (x1 + (1 : Int)))) (List.take (Int.toNat x2) x0), (0 : Int), x1),
                  IntKind.wrap IntKind.i64 (x2 + (1 : Int)), (0 : Int))))))))) := by kernel_rfl
theorem L38_7_zero (N : Nat) (x0 : List UInt8) (x1 : Int) (x2 : Int) (x3 : Int) (x4 : Int) (x5 : List UInt8) (x6 : Int) (x7 : Int) : L38_7 N 0 x0 x1 x2 x3 x4 x5 x6 x7 = none := by kernel_rfl
theorem F38_eq (N : Nat) (a0 : List UInt8) (a1 : Int) : F38 N (a0, a1) =
    L38_2 N N a0 a1 (IntKind.wrap IntKind.i64 (a1 + (1 : Int))) (0 : Int) [] (0 : Int) (0 : Int) := by kernel_rfl
noncomputable def C38 (N : Nat) : Callee := mkCallee A38 R38 (F38 N)
theorem S38 (N : Nat) : Cok 38 (C38 N) := cok_of (l := (E38 N).calls) (O := O38 N) cok_nil rfl Try.func38 rfl (by kernel_rfl) (by kernel_rfl)

-- function 39
def A39 : Cods ((List UInt8) × Int) := (codsCons codStr (codsOne (codInt .i64)))
def R39 : Cod (((Int) × (List UInt8) × (Int) × Int) × (Int) × Int) := (codTup (codsCons (codAgg (codsCons (codInt .i64) (codsCons codStr (codsCons (codInt .i64) (codsOne (codInt .i64)))))) (codsCons (codInt .i64) (codsOne (codInt .i64)))))
noncomputable def E39 (N : Nat) : Env := ⟨Try.prog, []⟩
def O39 (N : Nat) : Opts := ⟨N, [], []⟩
noncomputable def F39 (N : Nat) (a : (List UInt8) × Int) : Option (((Int) × (List UInt8) × (Int) × Int) × (Int) × Int) := aTyped (E39 N) (O39 N) Try.f39 A39 R39 a
theorem F39_eq (N : Nat) (a0 : List UInt8) (a1 : Int) : F39 N (a0, a1) =
    onGet a0 a1 fun z0 =>
  aIf (Int.ofNat (UInt8.toNat z0) == (60 : Int))
    (aIf (decide (IntKind.wrap IntKind.i64 (a1 + (1 : Int)) < Int.ofNat (List.length a0)))
      (onGet a0 (IntKind.wrap IntKind.i64 (a1 + (1 : Int))) fun z1 =>
        aIf (Int.ofNat (UInt8.toNat z1) == (61 : Int))
          (aIf (Int.ofNat (UInt8.toNat z0) == (60 : Int))
            (aGd (decide ((0 : Int) ≤ IntKind.wrap IntKind.i64 (a1 + (2 : Int))))
              (aGd (decide (IntKind.wrap IntKind.i64 (a1 + (2 : Int)) ≤ Int.ofNat (List.length a0)))
                (aGd (decide ((0 : Int) ≤ a1))
                  (aGd (decide (a1 ≤ Int.ofNat (Int.toNat (IntKind.wrap IntKind.i64 (a1 + (2 : Int))))))
                    (aGd (decide ((0 : Nat) + (4 : Nat) ≤ (4 : Nat)))
                      (some
                        (((7 : Int), List.drop (Int.toNat a1) (List.take (Int.toNat (IntKind.wrap IntKind.i64 (a1 + (2 : Int)))) a0), (0 : Int), a1),
                          IntKind.wrap IntKind.i64 (a1 + (2 : Int)), (0 : Int))))))))
            (aIf (Int.ofNat (UInt8.toNat z0) == (61 : Int))
              (aGd (decide ((0 : Int) ≤ IntKind.wrap IntKind.i64 (a1 + (2 : Int))))
                (aGd (decide (IntKind.wrap IntKind.i64 (a1 + (2 : Int)) ≤ Int.ofNat (List.length a0)))
                  (aGd (decide ((0 : Int) ≤ a1))
                    (aGd (decide (a1 ≤ Int.ofNat (Int.toNat (IntKind.wrap IntKind.i64 (a1 + (2 : Int))))))
                      (aGd (decide ((0 : Nat) + (4 : Nat) ≤ (4 : Nat)))
                        (some
                          (((7 : Int), List.drop (Int.toNat a1) (List.take (Int.toNat (IntKind.wrap IntKind.i64 (a1 + (2 : Int)))) a0), (0 : Int), a1),
                            IntKind.wrap IntKind.i64 (a1 + (2 : Int)), (0 : Int))))))))
              (aIf (Int.ofNat (UInt8.toNat z0) == (33 : Int))
                (aGd (decide ((0 : Int) ≤ IntKind.wrap IntKind.i64 (a1 + (2 : Int))))
                  (aGd (decide (IntKind.wrap IntKind.i64 (a1 + (2 : Int)) ≤ Int.ofNat (List.length a0)))
                    (aGd (decide ((0 : Int) ≤ a1))
                      (aGd (decide (a1 ≤ Int.ofNat (Int.toNat (IntKind.wrap IntKind.i64 (a1 + (2 : Int))))))
                        (aGd (decide ((0 : Nat) + (4 : Nat) ≤ (4 : Nat)))
                          (some
                            (((7 : Int), List.drop (Int.toNat a1) (List.take (Int.toNat (IntKind.wrap IntKind.i64 (a1 + (2 : Int)))) a0), (0 : Int), a1),
                              IntKind.wrap IntKind.i64 (a1 + (2 : Int)), (0 : Int))))))))
                (aGd (decide ((0 : Int) ≤ IntKind.wrap IntKind.i64 (a1 + (1 : Int))))
                  (aGd (decide (IntKind.wrap IntKind.i64 (a1 + (1 : Int)) ≤ Int.ofNat (List.length a0)))
                    (aGd (decide ((0 : Int) ≤ a1))
                      (aGd (decide (a1 ≤ Int.ofNat (Int.toNat (IntKind.wrap IntKind.i64 (a1 + (1 : Int))))))
                        (aGd (decide ((0 : Nat) + (4 : Nat) ≤ (4 : Nat)))
                          (some
                            (((7 : Int), List.drop (Int.toNat a1) (List.take (Int.toNat (IntKind.wrap IntKind.i64 (a1 + (1 : Int)))) a0), (0 : Int), a1),
                              IntKind.wrap IntKind.i64 (a1 + (1 : Int)), (0 : Int)))))))))))
          (aGd (decide ((0 : Int) ≤ IntKind.wrap IntKind.i64 (a1 + (1 : Int))))
            (aGd (decide (IntKind.wrap IntKind.i64 (a1 + (1 : Int)) ≤ Int.ofNat (List.length a0)))
              (aGd (decide ((0 : Int) ≤ a1))
                (aGd (decide (a1 ≤ Int.ofNat (Int.toNat (IntKind.wrap IntKind.i64 (a1 + (1 : Int))))))
                  (aGd (decide ((0 : Nat) + (4 : Nat) ≤ (4 : Nat)))
                    (some
                      (((7 : Int), List.drop (Int.toNat a1) (List.take (Int.toNat (IntKind.wrap IntKind.i64 (a1 + (1 : Int)))) a0), (0 : Int), a1),
                        IntKind.wrap IntKind.i64 (a1 + (1 : Int)), (0 : Int)))))))))
      (aGd (decide ((0 : Int) ≤ IntKind.wrap IntKind.i64 (a1 + (1 : Int))))
        (aGd (decide (IntKind.wrap IntKind.i64 (a1 + (1 : Int)) ≤ Int.ofNat (List.length a0)))
          (aGd (decide ((0 : Int) ≤ a1))
            (aGd (decide (a1 ≤ Int.ofNat (Int.toNat (IntKind.wrap IntKind.i64 (a1 + (1 : Int))))))
              (aGd (decide ((0 : Nat) + (4 : Nat) ≤ (4 : Nat)))
                (some
                  (((7 : Int), List.drop (Int.toNat a1) (List.take (Int.toNat (IntKind.wrap IntKind.i64 (a1 + (1 : Int)))) a0), (0 : Int), a1),
                    IntKind.wrap IntKind.i64 (a1 + (1 : Int)), (0 : Int)))))))))
    (aIf (Int.ofNat (UInt8.toNat z0) == (61 : Int))
      (aIf (decide (IntKind.wrap IntKind.i64 (a1 + (1 : Int)) < Int.ofNat (List.length a0)))
        (onGet a0 (IntKind.wrap IntKind.i64 (a1 + (1 : Int))) fun z2 =>
          aIf (Int.ofNat (UInt8.toNat z2) == (61 : Int))
            (aIf (Int.ofNat (UInt8.toNat z0) == (60 : Int))
              (aGd (decide ((0 : Int) ≤ IntKind.wrap IntKind.i64 (a1 + (2 : Int))))
                (aGd (decide (IntKind.wrap IntKind.i64 (a1 + (2 : Int)) ≤ Int.ofNat (List.length a0)))
                  (aGd (decide ((0 : Int) ≤ a1))
                    (aGd (decide (a1 ≤ Int.ofNat (Int.toNat (IntKind.wrap IntKind.i64 (a1 + (2 : Int))))))
                      (aGd (decide ((0 : Nat) + (4 : Nat) ≤ (4 : Nat)))
                        (some
                          (((7 : Int), List.drop (Int.toNat a1) (List.take (Int.toNat (IntKind.wrap IntKind.i64 (a1 + (2 : Int)))) a0), (0 : Int), a1),
                            IntKind.wrap IntKind.i64 (a1 + (2 : Int)), (0 : Int))))))))
              (aIf (Int.ofNat (UInt8.toNat z0) == (61 : Int))
                (aGd (decide ((0 : Int) ≤ IntKind.wrap IntKind.i64 (a1 + (2 : Int))))
                  (aGd (decide (IntKind.wrap IntKind.i64 (a1 + (2 : Int)) ≤ Int.ofNat (List.length a0)))
                    (aGd (decide ((0 : Int) ≤ a1))
                      (aGd (decide (a1 ≤ Int.ofNat (Int.toNat (IntKind.wrap IntKind.i64 (a1 + (2 : Int))))))
                        (aGd (decide ((0 : Nat) + (4 : Nat) ≤ (4 : Nat)))
                          (some
                            (((7 : Int), List.drop (Int.toNat a1) (List.take (Int.toNat (IntKind.wrap IntKind.i64 (a1 + (2 : Int)))) a0), (0 : Int), a1),
                              IntKind.wrap IntKind.i64 (a1 + (2 : Int)), (0 : Int))))))))
                (aIf (Int.ofNat (UInt8.toNat z0) == (33 : Int))
                  (aGd (decide ((0 : Int) ≤ IntKind.wrap IntKind.i64 (a1 + (2 : Int))))
                    (aGd (decide (IntKind.wrap IntKind.i64 (a1 + (2 : Int)) ≤ Int.ofNat (List.length a0)))
                      (aGd (decide ((0 : Int) ≤ a1))
                        (aGd (decide (a1 ≤ Int.ofNat (Int.toNat (IntKind.wrap IntKind.i64 (a1 + (2 : Int))))))
                          (aGd (decide ((0 : Nat) + (4 : Nat) ≤ (4 : Nat)))
                            (some
                              (((7 : Int), List.drop (Int.toNat a1) (List.take (Int.toNat (IntKind.wrap IntKind.i64 (a1 + (2 : Int)))) a0), (0 : Int), a1),
                                IntKind.wrap IntKind.i64 (a1 + (2 : Int)), (0 : Int))))))))
                  (aGd (decide ((0 : Int) ≤ IntKind.wrap IntKind.i64 (a1 + (1 : Int))))
                    (aGd (decide (IntKind.wrap IntKind.i64 (a1 + (1 : Int)) ≤ Int.ofNat (List.length a0)))
                      (aGd (decide ((0 : Int) ≤ a1))
                        (aGd (decide (a1 ≤ Int.ofNat (Int.toNat (IntKind.wrap IntKind.i64 (a1 + (1 : Int))))))
                          (aGd (decide ((0 : Nat) + (4 : Nat) ≤ (4 : Nat)))
                            (some
                              (((7 : Int), List.drop (Int.toNat a1) (List.take (Int.toNat (IntKind.wrap IntKind.i64 (a1 + (1 : Int)))) a0), (0 : Int), a1),
                                IntKind.wrap IntKind.i64 (a1 + (1 : Int)), (0 : Int)))))))))))
            (aGd (decide ((0 : Int) ≤ IntKind.wrap IntKind.i64 (a1 + (1 : Int))))
              (aGd (decide (IntKind.wrap IntKind.i64 (a1 + (1 : Int)) ≤ Int.ofNat (List.length a0)))
                (aGd (decide ((0 : Int) ≤ a1))
                  (aGd (decide (a1 ≤ Int.ofNat (Int.toNat (IntKind.wrap IntKind.i64 (a1 + (1 : Int))))))
                    (aGd (decide ((0 : Nat) + (4 : Nat) ≤ (4 : Nat)))
                      (some
                        (((7 : Int), List.drop (Int.toNat a1) (List.take (Int.toNat (IntKind.wrap IntKind.i64 (a1 + (1 : Int)))) a0), (0 : Int), a1),
                          IntKind.wrap IntKind.i64 (a1 + (1 : Int)), (0 : Int)))))))))
        (aGd (decide ((0 : Int) ≤ IntKind.wrap IntKind.i64 (a1 + (1 : Int))))
          (aGd (decide (IntKind.wrap IntKind.i64 (a1 + (1 : Int)) ≤ Int.ofNat (List.length a0)))
            (aGd (decide ((0 : Int) ≤ a1))
              (aGd (decide (a1 ≤ Int.ofNat (Int.toNat (IntKind.wrap IntKind.i64 (a1 + (1 : Int))))))
                (aGd (decide ((0 : Nat) + (4 : Nat) ≤ (4 : Nat)))
                  (some
                    (((7 : Int), List.drop (Int.toNat a1) (List.take (Int.toNat (IntKind.wrap IntKind.i64 (a1 + (1 : Int)))) a0), (0 : Int), a1),
                      IntKind.wrap IntKind.i64 (a1 + (1 : Int)), (0 : Int)))))))))
      (aIf (Int.ofNat (UInt8.toNat z0) == (40 : Int))
        (aIf (decide (IntKind.wrap IntKind.i64 (a1 + (1 : Int)) < Int.ofNat (List.length a0)))
          (onGet a0 (IntKind.wrap IntKind.i64 (a1 + (1 : Int))) fun z3 =>
            aIf (Int.ofNat (UInt8.toNat z3) == (61 : Int))
              (aIf (Int.ofNat (UInt8.toNat z0) == (60 : Int))
                (aGd (decide ((0 : Int) ≤ IntKind.wrap IntKind.i64 (a1 + (2 : Int))))
                  (aGd (decide (IntKind.wrap IntKind.i64 (a1 + (2 : Int)) ≤ Int.ofNat (List.length a0)))
                    (aGd (decide ((0 : Int) ≤ a1))
                      (aGd (decide (a1 ≤ Int.ofNat (Int.toNat (IntKind.wrap IntKind.i64 (a1 + (2 : Int))))))
                        (aGd (decide ((0 : Nat) + (4 : Nat) ≤ (4 : Nat)))
                          (some
                            (((7 : Int), List.drop (Int.toNat a1) (List.take (Int.toNat (IntKind.wrap IntKind.i64 (a1 + (2 : Int)))) a0), (0 : Int), a1),
                              IntKind.wrap IntKind.i64 (a1 + (2 : Int)), (0 : Int))))))))
                (aIf (Int.ofNat (UInt8.toNat z0) == (61 : Int))
                  (aGd (decide ((0 : Int) ≤ IntKind.wrap IntKind.i64 (a1 + (2 : Int))))
                    (aGd (decide (IntKind.wrap IntKind.i64 (a1 + (2 : Int)) ≤ Int.ofNat (List.length a0)))
                      (aGd (decide ((0 : Int) ≤ a1))
                        (aGd (decide (a1 ≤ Int.ofNat (Int.toNat (IntKind.wrap IntKind.i64 (a1 + (2 : Int))))))
                          (aGd (decide ((0 : Nat) + (4 : Nat) ≤ (4 : Nat)))
                            (some
                              (((7 : Int), List.drop (Int.toNat a1) (List.take (Int.toNat (IntKind.wrap IntKind.i64 (a1 + (2 : Int)))) a0), (0 : Int), a1),
                                IntKind.wrap IntKind.i64 (a1 + (2 : Int)), (0 : Int))))))))
                  (aIf (Int.ofNat (UInt8.toNat z0) == (33 : Int))
                    (aGd (decide ((0 : Int) ≤ IntKind.wrap IntKind.i64 (a1 + (2 : Int))))
                      (aGd (decide (IntKind.wrap IntKind.i64 (a1 + (2 : Int)) ≤ Int.ofNat (List.length a0)))
                        (aGd (decide ((0 : Int) ≤ a1))
                          (aGd (decide (a1 ≤ Int.ofNat (Int.toNat (IntKind.wrap IntKind.i64 (a1 + (2 : Int))))))
                            (aGd (decide ((0 : Nat) + (4 : Nat) ≤ (4 : Nat)))
                              (some
                                (((7 : Int), List.drop (Int.toNat a1) (List.take (Int.toNat (IntKind.wrap IntKind.i64 (a1 + (2 : Int)))) a0), (0 : Int), a1),
                                  IntKind.wrap IntKind.i64 (a1 + (2 : Int)), (0 : Int))))))))
                    (aGd (decide ((0 : Int) ≤ IntKind.wrap IntKind.i64 (a1 + (1 : Int))))
                      (aGd (decide (IntKind.wrap IntKind.i64 (a1 + (1 : Int)) ≤ Int.ofNat (List.length a0)))
                        (aGd (decide ((0 : Int) ≤ a1))
                          (aGd (decide (a1 ≤ Int.ofNat (Int.toNat (IntKind.wrap IntKind.i64 (a1 + (1 : Int))))))
                            (aGd (decide ((0 : Nat) + (4 : Nat) ≤ (4 : Nat)))
                              (some
                                (((7 : Int), List.drop (Int.toNat a1) (List.take (Int.toNat (IntKind.wrap IntKind.i64 (a1 + (1 : Int)))) a0), (0 : Int), a1),
                                  IntKind.wrap IntKind.i64 (a1 + (1 : Int)), (0 : Int)))))))))))
              (aGd (decide ((0 : Int) ≤ IntKind.wrap IntKind.i64 (a1 + (1 : Int))))
                (aGd (decide (IntKind.wrap IntKind.i64 (a1 + (1 : Int)) ≤ Int.ofNat (List.length a0)))
                  (aGd (decide ((0 : Int) ≤ a1))
                    (aGd (decide (a1 ≤ Int.ofNat (Int.toNat (IntKind.wrap IntKind.i64 (a1 + (1 : Int))))))
                      (aGd (decide ((0 : Nat) + (4 : Nat) ≤ (4 : Nat)))
                        (some
                          (((7 : Int), List.drop (Int.toNat a1) (List.take (Int.toNat (IntKind.wrap IntKind.i64 (a1 + (1 : Int)))) a0), (0 : Int), a1),
                            IntKind.wrap IntKind.i64 (a1 + (1 : Int)), (0 : Int)))))))))
          (aGd (decide ((0 : Int) ≤ IntKind.wrap IntKind.i64 (a1 + (1 : Int))))
            (aGd (decide (IntKind.wrap IntKind.i64 (a1 + (1 : Int)) ≤ Int.ofNat (List.length a0)))
              (aGd (decide ((0 : Int) ≤ a1))
                (aGd (decide (a1 ≤ Int.ofNat (Int.toNat (IntKind.wrap IntKind.i64 (a1 + (1 : Int))))))
                  (aGd (decide ((0 : Nat) + (4 : Nat) ≤ (4 : Nat)))
                    (some
                      (((7 : Int), List.drop (Int.toNat a1) (List.take (Int.toNat (IntKind.wrap IntKind.i64 (a1 + (1 : Int)))) a0), (0 : Int), a1),
                        IntKind.wrap IntKind.i64 (a1 + (1 : Int)), (0 : Int)))))))))
        (aIf (Int.ofNat (UInt8.toNat z0) == (41 : Int))
          (aIf (decide (IntKind.wrap IntKind.i64 (a1 + (1 : Int)) < Int.ofNat (List.length a0)))
            (onGet a0 (IntKind.wrap IntKind.i64 (a1 + (1 : Int))) fun z4 =>
              aIf (Int.ofNat (UInt8.toNat z4) == (61 : Int))
                (aIf (Int.ofNat (UInt8.toNat z0) == (60 : Int))
                  (aGd (decide ((0 : Int) ≤ IntKind.wrap IntKind.i64 (a1 + (2 : Int))))
                    (aGd (decide (IntKind.wrap IntKind.i64 (a1 + (2 : Int)) ≤ Int.ofNat (List.length a0)))
                      (aGd (decide ((0 : Int) ≤ a1))
                        (aGd (decide (a1 ≤ Int.ofNat (Int.toNat (IntKind.wrap IntKind.i64 (a1 + (2 : Int))))))
                          (aGd (decide ((0 : Nat) + (4 : Nat) ≤ (4 : Nat)))
                            (some
                              (((7 : Int), List.drop (Int.toNat a1) (List.take (Int.toNat (IntKind.wrap IntKind.i64 (a1 + (2 : Int)))) a0), (0 : Int), a1),
                                IntKind.wrap IntKind.i64 (a1 + (2 : Int)), (0 : Int))))))))
                  (aIf (Int.ofNat (UInt8.toNat z0) == (61 : Int))
                    (aGd (decide ((0 : Int) ≤ IntKind.wrap IntKind.i64 (a1 + (2 : Int))))
                      (aGd (decide (IntKind.wrap IntKind.i64 (a1 + (2 : Int)) ≤ Int.ofNat (List.length a0)))
                        (aGd (decide ((0 : Int) ≤ a1))
                          (aGd (decide (a1 ≤ Int.ofNat (Int.toNat (IntKind.wrap IntKind.i64 (a1 + (2 : Int))))))
                            (aGd (decide ((0 : Nat) + (4 : Nat) ≤ (4 : Nat)))
                              (some
                                (((7 : Int), List.drop (Int.toNat a1) (List.take (Int.toNat (IntKind.wrap IntKind.i64 (a1 + (2 : Int)))) a0), (0 : Int), a1),
                                  IntKind.wrap IntKind.i64 (a1 + (2 : Int)), (0 : Int))))))))
                    (aIf (Int.ofNat (UInt8.toNat z0) == (33 : Int))
                      (aGd (decide ((0 : Int) ≤ IntKind.wrap IntKind.i64 (a1 + (2 : Int))))
                        (aGd (decide (IntKind.wrap IntKind.i64 (a1 + (2 : Int)) ≤ Int.ofNat (List.length a0)))
                          (aGd (decide ((0 : Int) ≤ a1))
                            (aGd (decide (a1 ≤ Int.ofNat (Int.toNat (IntKind.wrap IntKind.i64 (a1 + (2 : Int))))))
                              (aGd (decide ((0 : Nat) + (4 : Nat) ≤ (4 : Nat)))
                                (some
                                  (((7 : Int), List.drop (Int.toNat a1) (List.take (Int.toNat (IntKind.wrap IntKind.i64 (a1 + (2 : Int)))) a0), (0 : Int), a1),
                                    IntKind.wrap IntKind.i64 (a1 + (2 : Int)), (0 : Int))))))))
                      (aGd (decide ((0 : Int) ≤ IntKind.wrap IntKind.i64 (a1 + (1 : Int))))
                        (aGd (decide (IntKind.wrap IntKind.i64 (a1 + (1 : Int)) ≤ Int.ofNat (List.length a0)))
                          (aGd (decide ((0 : Int) ≤ a1))
                            (aGd (decide (a1 ≤ Int.ofNat (Int.toNat (IntKind.wrap IntKind.i64 (a1 + (1 : Int))))))
                              (aGd (decide ((0 : Nat) + (4 : Nat) ≤ (4 : Nat)))
                                (some
                                  (((7 : Int), List.drop (Int.toNat a1) (List.take (Int.toNat (IntKind.wrap IntKind.i64 (a1 + (1 : Int)))) a0), (0 : Int), a1),
                                    IntKind.wrap IntKind.i64 (a1 + (1 : Int)), (0 : Int)))))))))))
                (aGd (decide ((0 : Int) ≤ IntKind.wrap IntKind.i64 (a1 + (1 : Int))))
                  (aGd (decide (IntKind.wrap IntKind.i64 (a1 + (1 : Int)) ≤ Int.ofNat (List.length a0)))
                    (aGd (decide ((0 : Int) ≤ a1))
                      (aGd (decide (a1 ≤ Int.ofNat (Int.toNat (IntKind.wrap IntKind.i64 (a1 + (1 : Int))))))
                        (aGd (decide ((0 : Nat) + (4 : Nat) ≤ (4 : Nat)))
                          (some
                            (((7 : Int), List.drop (Int.toNat a1) (List.take (Int.toNat (IntKind.wrap IntKind.i64 (a1 + (1 : Int)))) a0), (0 : Int), a1),
                              IntKind.wrap IntKind.i64 (a1 + (1 : Int)), (0 : Int)))))))))
            (aGd (decide ((0 : Int) ≤ IntKind.wrap IntKind.i64 (a1 + (1 : Int))))
              (aGd (decide (IntKind.wrap IntKind.i64 (a1 + (1 : Int)) ≤ Int.ofNat (List.length a0)))
                (aGd (decide ((0 : Int) ≤ a1))
                  (aGd (decide (a1 ≤ Int.ofNat (Int.toNat (IntKind.wrap IntKind.i64 (a1 + (1 : Int))))))
                    (aGd (decide ((0 : Nat) + (4 : Nat) ≤ (4 : Nat)))
                      (some
                        (((7 : Int), List.drop (Int.toNat a1) (List.take (Int.toNat (IntKind.wrap IntKind.i64 (a1 + (1 : Int)))) a0), (0 : Int), a1),
                          IntKind.wrap IntKind.i64 (a1 + (1 : Int)), (0 : Int)))))))))
          (aIf (Int.ofNat (UInt8.toNat z0) == (44 : Int))
            (aIf (decide (IntKind.wrap IntKind.i64 (a1 + (1 : Int)) < Int.ofNat (List.length a0)))
              (onGet a0 (IntKind.wrap IntKind.i64 (a1 + (1 : Int))) fun z5 =>
                aIf (Int.ofNat (UInt8.toNat z5) == (61 : Int))
                  (aIf (Int.ofNat (UInt8.toNat z0) == (60 : Int))
                    (aGd (decide ((0 : Int) ≤ IntKind.wrap IntKind.i64 (a1 + (2 : Int))))
                      (aGd (decide (IntKind.wrap IntKind.i64 (a1 + (2 : Int)) ≤ Int.ofNat (List.length a0)))
                        (aGd (decide ((0 : Int) ≤ a1))
                          (aGd (decide (a1 ≤ Int.ofNat (Int.toNat (IntKind.wrap IntKind.i64 (a1 + (2 : Int))))))
                            (aGd (decide ((0 : Nat) + (4 : Nat) ≤ (4 : Nat)))
                              (some
                                (((7 : Int), List.drop (Int.toNat a1) (List.take (Int.toNat (IntKind.wrap IntKind.i64 (a1 + (2 : Int)))) a0), (0 : Int), a1),
                                  IntKind.wrap IntKind.i64 (a1 + (2 : Int)), (0 : Int))))))))
                    (aIf (Int.ofNat (UInt8.toNat z0) == (61 : Int))
                      (aGd (decide ((0 : Int) ≤ IntKind.wrap IntKind.i64 (a1 + (2 : Int))))
                        (aGd (decide (IntKind.wrap IntKind.i64 (a1 + (2 : Int)) ≤ Int.ofNat (List.length a0)))
                          (aGd (decide ((0 : Int) ≤ a1))
                            (aGd (decide (a1 ≤ Int.ofNat (Int.toNat (IntKind.wrap IntKind.i64 (a1 + (2 : Int))))))
                              (aGd (decide ((0 : Nat) + (4 : Nat) ≤ (4 : Nat)))
                                (some
                                  (((7 : Int), List.drop (Int.toNat a1) (List.take (Int.toNat (IntKind.wrap IntKind.i64 (a1 + (2 : Int)))) a0), (0 : Int), a1),
                                    IntKind.wrap IntKind.i64 (a1 + (2 : Int)), (0 : Int))))))))
                      (aIf (Int.ofNat (UInt8.toNat z0) == (33 : Int))
                        (aGd (decide ((0 : Int) ≤ IntKind.wrap IntKind.i64 (a1 + (2 : Int))))
                          (aGd (decide (IntKind.wrap IntKind.i64 (a1 + (2 : Int)) ≤ Int.ofNat (List.length a0)))
                            (aGd (decide ((0 : Int) ≤ a1))
                              (aGd (decide (a1 ≤ Int.ofNat (Int.toNat (IntKind.wrap IntKind.i64 (a1 + (2 : Int))))))
                                (aGd (decide ((0 : Nat) + (4 : Nat) ≤ (4 : Nat)))
                                  (some
                                    (((7 : Int), List.drop (Int.toNat a1) (List.take (Int.toNat (IntKind.wrap IntKind.i64 (a1 + (2 : Int)))) a0), (0 : Int), a1),
                                      IntKind.wrap IntKind.i64 (a1 + (2 : Int)), (0 : Int))))))))
                        (aGd (decide ((0 : Int) ≤ IntKind.wrap IntKind.i64 (a1 + (1 : Int))))
                          (aGd (decide (IntKind.wrap IntKind.i64 (a1 + (1 : Int)) ≤ Int.ofNat (List.length a0)))
                            (aGd (decide ((0 : Int) ≤ a1))
                              (aGd (decide (a1 ≤ Int.ofNat (Int.toNat (IntKind.wrap IntKind.i64 (a1 + (1 : Int))))))
                                (aGd (decide ((0 : Nat) + (4 : Nat) ≤ (4 : Nat)))
                                  (some
                                    (((7 : Int), List.drop (Int.toNat a1) (List.take (Int.toNat (IntKind.wrap IntKind.i64 (a1 + (1 : Int)))) a0), (0 : Int), a1),
                                      IntKind.wrap IntKind.i64 (a1 + (1 : Int)), (0 : Int)))))))))))
                  (aGd (decide ((0 : Int) ≤ IntKind.wrap IntKind.i64 (a1 + (1 : Int))))
                    (aGd (decide (IntKind.wrap IntKind.i64 (a1 + (1 : Int)) ≤ Int.ofNat (List.length a0)))
                      (aGd (decide ((0 : Int) ≤ a1))
                        (aGd (decide (a1 ≤ Int.ofNat (Int.toNat (IntKind.wrap IntKind.i64 (a1 + (1 : Int))))))
                          (aGd (decide ((0 : Nat) + (4 : Nat) ≤ (4 : Nat)))
                            (some
                              (((7 : Int), List.drop (Int.toNat a1) (List.take (Int.toNat (IntKind.wrap IntKind.i64 (a1 + (1 : Int)))) a0), (0 : Int), a1),
                                IntKind.wrap IntKind.i64 (a1 + (1 : Int)), (0 : Int)))))))))
              (aGd (decide ((0 : Int) ≤ IntKind.wrap IntKind.i64 (a1 + (1 : Int))))
                (aGd (decide (IntKind.wrap IntKind.i64 (a1 + (1 : Int)) ≤ Int.ofNat (List.length a0)))
                  (aGd (decide ((0 : Int) ≤ a1))
                    (aGd (decide (a1 ≤ Int.ofNat (Int.toNat (IntKind.wrap IntKind.i64 (a1 + (1 : Int))))))
                      (aGd (decide ((0 : Nat) + (4 : Nat) ≤ (4 : Nat)))
                        (some
                          (((7 : Int), List.drop (Int.toNat a1) (List.take (Int.toNat (IntKind.wrap IntKind.i64 (a1 + (1 : Int)))) a0), (0 : Int), a1),
                            IntKind.wrap IntKind.i64 (a1 + (1 : Int)), (0 : Int)))))))))
            (aIf (Int.ofNat (UInt8.toNat z0) == (58 : Int))
              (aIf (decide (IntKind.wrap IntKind.i64 (a1 + (1 : Int)) < Int.ofNat (List.length a0)))
                (onGet a0 (IntKind.wrap IntKind.i64 (a1 + (1 : Int))) fun z6 =>
                  aIf (Int.ofNat (UInt8.toNat z6) == (61 : Int))
                    (aIf (Int.ofNat (UInt8.toNat z0) == (60 : Int))
                      (aGd (decide ((0 : Int) ≤ IntKind.wrap IntKind.i64 (a1 + (2 : Int))))
                        (aGd (decide (IntKind.wrap IntKind.i64 (a1 + (2 : Int)) ≤ Int.ofNat (List.length a0)))
                          (aGd (decide ((0 : Int) ≤ a1))
                            (aGd (decide (a1 ≤ Int.ofNat (Int.toNat (IntKind.wrap IntKind.i64 (a1 + (2 : Int))))))
                              (aGd (decide ((0 : Nat) + (4 : Nat) ≤ (4 : Nat)))
                                (some
                                  (((7 : Int), List.drop (Int.toNat a1) (List.take (Int.toNat (IntKind.wrap IntKind.i64 (a1 + (2 : Int)))) a0), (0 : Int), a1),
                                    IntKind.wrap IntKind.i64 (a1 + (2 : Int)), (0 : Int))))))))
                      (aIf (Int.ofNat (UInt8.toNat z0) == (61 : Int))
                        (aGd (decide ((0 : Int) ≤ IntKind.wrap IntKind.i64 (a1 + (2 : Int))))
                          (aGd (decide (IntKind.wrap IntKind.i64 (a1 + (2 : Int)) ≤ Int.ofNat (List.length a0)))
                            (aGd (decide ((0 : Int) ≤ a1))
                              (aGd (decide (a1 ≤ Int.ofNat (Int.toNat (IntKind.wrap IntKind.i64 (a1 + (2 : Int))))))
                                (aGd (decide ((0 : Nat) + (4 : Nat) ≤ (4 : Nat)))
                                  (some
                                    (((7 : Int), List.drop (Int.toNat a1) (List.take (Int.toNat (IntKind.wrap IntKind.i64 (a1 + (2 : Int)))) a0), (0 : Int), a1),
                                      IntKind.wrap IntKind.i64 (a1 + (2 : Int)), (0 : Int))))))))
                        (aIf (Int.ofNat (UInt8.toNat z0) == (33 : Int))
                          (aGd (decide ((0 : Int) ≤ IntKind.wrap IntKind.i64 (a1 + (2 : Int))))
                            (aGd (decide (IntKind.wrap IntKind.i64 (a1 + (2 : Int)) ≤ Int.ofNat (List.length a0)))
                              (aGd (decide ((0 : Int) ≤ a1))
                                (aGd (decide (a1 ≤ Int.ofNat (Int.toNat (IntKind.wrap IntKind.i64 (a1 + (2 : Int))))))
                                  (aGd (decide ((0 : Nat) + (4 : Nat) ≤ (4 : Nat)))
                                    (some
                                      (((7 : Int), List.drop (Int.toNat a1) (List.take (Int.toNat (IntKind.wrap IntKind.i64 (a1 + (2 : Int)))) a0), (0 : Int), a1),
                                        IntKind.wrap IntKind.i64 (a1 + (2 : Int)), (0 : Int))))))))
                          (aGd (decide ((0 : Int) ≤ IntKind.wrap IntKind.i64 (a1 + (1 : Int))))
                            (aGd (decide (IntKind.wrap IntKind.i64 (a1 + (1 : Int)) ≤ Int.ofNat (List.length a0)))
                              (aGd (decide ((0 : Int) ≤ a1))
                                (aGd (decide (a1 ≤ Int.ofNat (Int.toNat (IntKind.wrap IntKind.i64 (a1 + (1 : Int))))))
                                  (aGd (decide ((0 : Nat) + (4 : Nat) ≤ (4 : Nat)))
                                    (some
                                      (((7 : Int), List.drop (Int.toNat a1) (List.take (Int.toNat (IntKind.wrap IntKind.i64 (a1 + (1 : Int)))) a0), (0 : Int), a1),
                                        IntKind.wrap IntKind.i64 (a1 + (1 : Int)), (0 : Int)))))))))))
                    (aGd (decide ((0 : Int) ≤ IntKind.wrap IntKind.i64 (a1 + (1 : Int))))
                      (aGd (decide (IntKind.wrap IntKind.i64 (a1 + (1 : Int)) ≤ Int.ofNat (List.length a0)))
                        (aGd (decide ((0 : Int) ≤ a1))
                          (aGd (decide (a1 ≤ Int.ofNat (Int.toNat (IntKind.wrap IntKind.i64 (a1 + (1 : Int))))))
                            (aGd (decide ((0 : Nat) + (4 : Nat) ≤ (4 : Nat)))
                              (some
                                (((7 : Int), List.drop (Int.toNat a1) (List.take (Int.toNat (IntKind.wrap IntKind.i64 (a1 + (1 : Int)))) a0), (0 : Int), a1),
                                  IntKind.wrap IntKind.i64 (a1 + (1 : Int)), (0 : Int)))))))))
                (aGd (decide ((0 : Int) ≤ IntKind.wrap IntKind.i64 (a1 + (1 : Int))))
                  (aGd (decide (IntKind.wrap IntKind.i64 (a1 + (1 : Int)) ≤ Int.ofNat (List.length a0)))
                    (aGd (decide ((0 : Int) ≤ a1))
                      (aGd (decide (a1 ≤ Int.ofNat (Int.toNat (IntKind.wrap IntKind.i64 (a1 + (1 : Int))))))
                        (aGd (decide ((0 : Nat) + (4 : Nat) ≤ (4 : Nat)))
                          (some
                            (((7 : Int), List.drop (Int.toNat a1) (List.take (Int.toNat (IntKind.wrap IntKind.i64 (a1 + (1 : Int)))) a0), (0 : Int), a1),
                              IntKind.wrap IntKind.i64 (a1 + (1 : Int)), (0 : Int)))))))))
              (aIf (Int.ofNat (UInt8.toNat z0) == (43 : Int))
                (aIf (decide (IntKind.wrap IntKind.i64 (a1 + (1 : Int)) < Int.ofNat (List.length a0)))
                  (onGet a0 (IntKind.wrap IntKind.i64 (a1 + (1 : Int))) fun z7 =>
                    aIf (Int.ofNat (UInt8.toNat z7) == (61 : Int))
                      (aIf (Int.ofNat (UInt8.toNat z0) == (60 : Int))
                        (aGd (decide ((0 : Int) ≤ IntKind.wrap IntKind.i64 (a1 + (2 : Int))))
                          (aGd (decide (IntKind.wrap IntKind.i64 (a1 + (2 : Int)) ≤ Int.ofNat (List.length a0)))
                            (aGd (decide ((0 : Int) ≤ a1))
                              (aGd (decide (a1 ≤ Int.ofNat (Int.toNat (IntKind.wrap IntKind.i64 (a1 + (2 : Int))))))
                                (aGd (decide ((0 : Nat) + (4 : Nat) ≤ (4 : Nat)))
                                  (some
                                    (((7 : Int), List.drop (Int.toNat a1) (List.take (Int.toNat (IntKind.wrap IntKind.i64 (a1 + (2 : Int)))) a0), (0 : Int), a1),
                                      IntKind.wrap IntKind.i64 (a1 + (2 : Int)), (0 : Int))))))))
                        (aIf (Int.ofNat (UInt8.toNat z0) == (61 : Int))
                          (aGd (decide ((0 : Int) ≤ IntKind.wrap IntKind.i64 (a1 + (2 : Int))))
                            (aGd (decide (IntKind.wrap IntKind.i64 (a1 + (2 : Int)) ≤ Int.ofNat (List.length a0)))
                              (aGd (decide ((0 : Int) ≤ a1))
                                (aGd (decide (a1 ≤ Int.ofNat (Int.toNat (IntKind.wrap IntKind.i64 (a1 + (2 : Int))))))
                                  (aGd (decide ((0 : Nat) + (4 : Nat) ≤ (4 : Nat)))
                                    (some
                                      (((7 : Int), List.drop (Int.toNat a1) (List.take (Int.toNat (IntKind.wrap IntKind.i64 (a1 + (2 : Int)))) a0), (0 : Int), a1),
                                        IntKind.wrap IntKind.i64 (a1 + (2 : Int)), (0 : Int))))))))
                          (aIf (Int.ofNat (UInt8.toNat z0) == (33 : Int))
                            (aGd (decide ((0 : Int) ≤ IntKind.wrap IntKind.i64 (a1 + (2 : Int))))
                              (aGd (decide (IntKind.wrap IntKind.i64 (a1 + (2 : Int)) ≤ Int.ofNat (List.length a0)))
                                (aGd (decide ((0 : Int) ≤ a1))
                                  (aGd (decide (a1 ≤ Int.ofNat (Int.toNat (IntKind.wrap IntKind.i64 (a1 + (2 : Int))))))
                                    (aGd (decide ((0 : Nat) + (4 : Nat) ≤ (4 : Nat)))
                                      (some
                                        (((7 : Int), List.drop (Int.toNat a1) (List.take (Int.toNat (IntKind.wrap IntKind.i64 (a1 + (2 : Int)))) a0), (0 : Int), a1),
                                          IntKind.wrap IntKind.i64 (a1 + (2 : Int)), (0 : Int))))))))
                            (aGd (decide ((0 : Int) ≤ IntKind.wrap IntKind.i64 (a1 + (1 : Int))))
                              (aGd (decide (IntKind.wrap IntKind.i64 (a1 + (1 : Int)) ≤ Int.ofNat (List.length a0)))
                                (aGd (decide ((0 : Int) ≤ a1))
                                  (aGd (decide (a1 ≤ Int.ofNat (Int.toNat (IntKind.wrap IntKind.i64 (a1 + (1 : Int))))))
                                    (aGd (decide ((0 : Nat) + (4 : Nat) ≤ (4 : Nat)))
                                      (some
                                        (((7 : Int), List.drop (Int.toNat a1) (List.take (Int.toNat (IntKind.wrap IntKind.i64 (a1 + (1 : Int)))) a0), (0 : Int), a1),
                                          IntKind.wrap IntKind.i64 (a1 + (1 : Int)), (0 : Int)))))))))))
                      (aGd (decide ((0 : Int) ≤ IntKind.wrap IntKind.i64 (a1 + (1 : Int))))
                        (aGd (decide (IntKind.wrap IntKind.i64 (a1 + (1 : Int)) ≤ Int.ofNat (List.length a0)))
                          (aGd (decide ((0 : Int) ≤ a1))
                            (aGd (decide (a1 ≤ Int.ofNat (Int.toNat (IntKind.wrap IntKind.i64 (a1 + (1 : Int))))))
                              (aGd (decide ((0 : Nat) + (4 : Nat) ≤ (4 : Nat)))
                                (some
                                  (((7 : Int), List.drop (Int.toNat a1) (List.take (Int.toNat (IntKind.wrap IntKind.i64 (a1 + (1 : Int)))) a0), (0 : Int), a1),
                                    IntKind.wrap IntKind.i64 (a1 + (1 : Int)), (0 : Int)))))))))
                  (aGd (decide ((0 : Int) ≤ IntKind.wrap IntKind.i64 (a1 + (1 : Int))))
                    (aGd (decide (IntKind.wrap IntKind.i64 (a1 + (1 : Int)) ≤ Int.ofNat (List.length a0)))
                      (aGd (decide ((0 : Int) ≤ a1))
                        (aGd (decide (a1 ≤ Int.ofNat (Int.toNat (IntKind.wrap IntKind.i64 (a1 + (1 : Int))))))
                          (aGd (decide ((0 : Nat) + (4 : Nat) ≤ (4 : Nat)))
                            (some
                              (((7 : Int), List.drop (Int.toNat a1) (List.take (Int.toNat (IntKind.wrap IntKind.i64 (a1 + (1 : Int)))) a0), (0 : Int), a1),
                                IntKind.wrap IntKind.i64 (a1 + (1 : Int)), (0 : Int)))))))))
                (aIf (Int.ofNat (UInt8.toNat z0) == (45 : Int))
                  (aIf (decide (IntKind.wrap IntKind.i64 (a1 + (1 : Int)) < Int.ofNat (List.length a0)))
                    (onGet a0 (IntKind.wrap IntKind.i64 (a1 + (1 : Int))) fun z8 =>
                      aIf (Int.ofNat (UInt8.toNat z8) == (61 : Int))
                        (aIf (Int.ofNat (UInt8.toNat z0) == (60 : Int))
                          (aGd (decide ((0 : Int) ≤ IntKind.wrap IntKind.i64 (a1 + (2 : Int))))
                            (aGd (decide (IntKind.wrap IntKind.i64 (a1 + (2 : Int)) ≤ Int.ofNat (List.length a0)))
                              (aGd (decide ((0 : Int) ≤ a1))
                                (aGd (decide (a1 ≤ Int.ofNat (Int.toNat (IntKind.wrap IntKind.i64 (a1 + (2 : Int))))))
                                  (aGd (decide ((0 : Nat) + (4 : Nat) ≤ (4 : Nat)))
                                    (some
                                      (((7 : Int), List.drop (Int.toNat a1) (List.take (Int.toNat (IntKind.wrap IntKind.i64 (a1 + (2 : Int)))) a0), (0 : Int), a1),
                                        IntKind.wrap IntKind.i64 (a1 + (2 : Int)), (0 : Int))))))))
                          (aIf (Int.ofNat (UInt8.toNat z0) == (61 : Int))
                            (aGd (decide ((0 : Int) ≤ IntKind.wrap IntKind.i64 (a1 + (2 : Int))))
                              (aGd (decide (IntKind.wrap IntKind.i64 (a1 + (2 : Int)) ≤ Int.ofNat (List.length a0)))
                                (aGd (decide ((0 : Int) ≤ a1))
                                  (aGd (decide (a1 ≤ Int.ofNat (Int.toNat (IntKind.wrap IntKind.i64 (a1 + (2 : Int))))))
                                    (aGd (decide ((0 : Nat) + (4 : Nat) ≤ (4 : Nat)))
                                      (some
                                        (((7 : Int), List.drop (Int.toNat a1) (List.take (Int.toNat (IntKind.wrap IntKind.i64 (a1 + (2 : Int)))) a0), (0 : Int), a1),
                                          IntKind.wrap IntKind.i64 (a1 + (2 : Int)), (0 : Int))))))))
                            (aIf (Int.ofNat (UInt8.toNat z0) == (33 : Int))
                              (aGd (decide ((0 : Int) ≤ IntKind.wrap IntKind.i64 (a1 + (2 : Int))))
                                (aGd (decide (IntKind.wrap IntKind.i64 (a1 + (2 : Int)) ≤ Int.ofNat (List.length a0)))
                                  (aGd (decide ((0 : Int) ≤ a1))
                                    (aGd (decide (a1 ≤ Int.ofNat (Int.toNat (IntKind.wrap IntKind.i64 (a1 + (2 : Int))))))
                                      (aGd (decide ((0 : Nat) + (4 : Nat) ≤ (4 : Nat)))
                                        (some
                                          (((7 : Int), List.drop (Int.toNat a1) (List.take (Int.toNat (IntKind.wrap IntKind.i64 (a1 + (2 : Int)))) a0), (0 : Int), a1),
                                            IntKind.wrap IntKind.i64 (a1 + (2 : Int)), (0 : Int))))))))
                              (aGd (decide ((0 : Int) ≤ IntKind.wrap IntKind.i64 (a1 + (1 : Int))))
                                (aGd (decide (IntKind.wrap IntKind.i64 (a1 + (1 : Int)) ≤ Int.ofNat (List.length a0)))
                                  (aGd (decide ((0 : Int) ≤ a1))
                                    (aGd (decide (a1 ≤ Int.ofNat (Int.toNat (IntKind.wrap IntKind.i64 (a1 + (1 : Int))))))
                                      (aGd (decide ((0 : Nat) + (4 : Nat) ≤ (4 : Nat)))
                                        (some
                                          (((7 : Int), List.drop (Int.toNat a1) (List.take (Int.toNat (IntKind.wrap IntKind.i64 (a1 + (1 : Int)))) a0), (0 : Int), a1),
                                            IntKind.wrap IntKind.i64 (a1 + (1 : Int)), (0 : Int)))))))))))
                        (aGd (decide ((0 : Int) ≤ IntKind.wrap IntKind.i64 (a1 + (1 : Int))))
                          (aGd (decide (IntKind.wrap IntKind.i64 (a1 + (1 : Int)) ≤ Int.ofNat (List.length a0)))
                            (aGd (decide ((0 : Int) ≤ a1))
                              (aGd (decide (a1 ≤ Int.ofNat (Int.toNat (IntKind.wrap IntKind.i64 (a1 + (1 : Int))))))
                                (aGd (decide ((0 : Nat) + (4 : Nat) ≤ (4 : Nat)))
                                  (some
                                    (((7 : Int), List.drop (Int.toNat a1) (List.take (Int.toNat (IntKind.wrap IntKind.i64 (a1 + (1 : Int)))) a0), (0 : Int), a1),
                                      IntKind.wrap IntKind.i64 (a1 + (1 : Int)), (0 : Int)))))))))
                    (aGd (decide ((0 : Int) ≤ IntKind.wrap IntKind.i64 (a1 + (1 : Int))))
                      (aGd (decide (IntKind.wrap IntKind.i64 (a1 + (1 : Int)) ≤ Int.ofNat (List.length a0)))
                        (aGd (decide ((0 : Int) ≤ a1))
                          (aGd (decide (a1 ≤ Int.ofNat (Int.toNat (IntKind.wrap IntKind.i64 (a1 + (1 : Int))))))
                            (aGd (decide ((0 : Nat) + (4 : Nat) ≤ (4 : Nat)))
                              (some
                                (((7 : Int), List.drop (Int.toNat a1) (List.take (Int.toNat (IntKind.wrap IntKind.i64 (a1 + (1 : Int)))) a0), (0 : Int), a1),
                                  IntKind.wrap IntKind.i64 (a1 + (1 : Int)), (0 : Int)))))))))
                  (aIf (Int.ofNat (UInt8.toNat z0) == (42 : Int))
                    (aIf (decide (IntKind.wrap IntKind.i64 (a1 + (1 : Int)) < Int.ofNat (List.length a0)))
                      (onGet a0 (IntKind.wrap IntKind.i64 (a1 + (1 : Int))) fun z9 =>
                        aIf (Int.ofNat (UInt8.toNat z9) == (61 : Int))
                          (aIf (Int.ofNat (UInt8.toNat z0) == (60 : Int))
                            (aGd (decide ((0 : Int) ≤ IntKind.wrap IntKind.i64 (a1 + (2 : Int))))
                              (aGd (decide (IntKind.wrap IntKind.i64 (a1 + (2 : Int)) ≤ Int.ofNat (List.length a0)))
                                (aGd (decide ((0 : Int) ≤ a1))
                                  (aGd (decide (a1 ≤ Int.ofNat (Int.toNat (IntKind.wrap IntKind.i64 (a1 + (2 : Int))))))
                                    (aGd (decide ((0 : Nat) + (4 : Nat) ≤ (4 : Nat)))
                                      (some
                                        (((7 : Int), List.drop (Int.toNat a1) (List.take (Int.toNat (IntKind.wrap IntKind.i64 (a1 + (2 : Int)))) a0), (0 : Int), a1),
                                          IntKind.wrap IntKind.i64 (a1 + (2 : Int)), (0 : Int))))))))
                            (aIf (Int.ofNat (UInt8.toNat z0) == (61 : Int))
                              (aGd (decide ((0 : Int) ≤ IntKind.wrap IntKind.i64 (a1 + (2 : Int))))
                                (aGd (decide (IntKind.wrap IntKind.i64 (a1 + (2 : Int)) ≤ Int.ofNat (List.length a0)))
                                  (aGd (decide ((0 : Int) ≤ a1))
                                    (aGd (decide (a1 ≤ Int.ofNat (Int.toNat (IntKind.wrap IntKind.i64 (a1 + (2 : Int))))))
                                      (aGd (decide ((0 : Nat) + (4 : Nat) ≤ (4 : Nat)))
                                        (some
                                          (((7 : Int), List.drop (Int.toNat a1) (List.take (Int.toNat (IntKind.wrap IntKind.i64 (a1 + (2 : Int)))) a0), (0 : Int), a1),
                                            IntKind.wrap IntKind.i64 (a1 + (2 : Int)), (0 : Int))))))))
                              (aIf (Int.ofNat (UInt8.toNat z0) == (33 : Int))
                                (aGd (decide ((0 : Int) ≤ IntKind.wrap IntKind.i64 (a1 + (2 : Int))))
                                  (aGd (decide (IntKind.wrap IntKind.i64 (a1 + (2 : Int)) ≤ Int.ofNat (List.length a0)))
                                    (aGd (decide ((0 : Int) ≤ a1))
                                      (aGd (decide (a1 ≤ Int.ofNat (Int.toNat (IntKind.wrap IntKind.i64 (a1 + (2 : Int))))))
                                        (aGd (decide ((0 : Nat) + (4 : Nat) ≤ (4 : Nat)))
                                          (some
                                            (((7 : Int), List.drop (Int.toNat a1) (List.take (Int.toNat (IntKind.wrap IntKind.i64 (a1 + (2 : Int)))) a0), (0 : Int), a1),
                                              IntKind.wrap IntKind.i64 (a1 + (2 : Int)), (0 : Int))))))))
                                (aGd (decide ((0 : Int) ≤ IntKind.wrap IntKind.i64 (a1 + (1 : Int))))
                                  (aGd (decide (IntKind.wrap IntKind.i64 (a1 + (1 : Int)) ≤ Int.ofNat (List.length a0)))
                                    (aGd (decide ((0 : Int) ≤ a1))
                                      (aGd (decide (a1 ≤ Int.ofNat (Int.toNat (IntKind.wrap IntKind.i64 (a1 + (1 : Int))))))
                                        (aGd (decide ((0 : Nat) + (4 : Nat) ≤ (4 : Nat)))
                                          (some
                                            (((7 : Int), List.drop (Int.toNat a1) (List.take (Int.toNat (IntKind.wrap IntKind.i64 (a1 + (1 : Int)))) a0), (0 : Int), a1),
                                              IntKind.wrap IntKind.i64 (a1 + (1 : Int)), (0 : Int)))))))))))
                          (aGd (decide ((0 : Int) ≤ IntKind.wrap IntKind.i64 (a1 + (1 : Int))))
                            (aGd (decide (IntKind.wrap IntKind.i64 (a1 + (1 : Int)) ≤ Int.ofNat (List.length a0)))
                              (aGd (decide ((0 : Int) ≤ a1))
                                (aGd (decide (a1 ≤ Int.ofNat (Int.toNat (IntKind.wrap IntKind.i64 (a1 + (1 : Int))))))
                                  (aGd (decide ((0 : Nat) + (4 : Nat) ≤ (4 : Nat)))
                                    (some
                                      (((7 : Int), List.drop (Int.toNat a1) (List.take (Int.toNat (IntKind.wrap IntKind.i64 (a1 + (1 : Int)))) a0), (0 : Int), a1),
                                        IntKind.wrap IntKind.i64 (a1 + (1 : Int)), (0 : Int)))))))))
                      (aGd (decide ((0 : Int) ≤ IntKind.wrap IntKind.i64 (a1 + (1 : Int))))
                        (aGd (decide (IntKind.wrap IntKind.i64 (a1 + (1 : Int)) ≤ Int.ofNat (List.length a0)))
                          (aGd (decide ((0 : Int) ≤ a1))
                            (aGd (decide (a1 ≤ Int.ofNat (Int.toNat (IntKind.wrap IntKind.i64 (a1 + (1 : Int))))))
                              (aGd (decide ((0 : Nat) + (4 : Nat) ≤ (4 : Nat)))
                                (some
                                  (((7 : Int), List.drop (Int.toNat a1) (List.take (Int.toNat (IntKind.wrap IntKind.i64 (a1 + (1 : Int)))) a0), (0 : Int), a1),
                                    IntKind.wrap IntKind.i64 (a1 + (1 : Int)), (0 : Int)))))))))
                    (aIf (decide (IntKind.wrap IntKind.i64 (a1 + (1 : Int)) < Int.ofNat (List.length a0)))
                      (onGet a0 (IntKind.wrap IntKind.i64 (a1 + (1 : Int))) fun z10 =>
                        aIf (Int.ofNat (UInt8.toNat z10) == (61 : Int))
                          (aIf (Int.ofNat (UInt8.toNat z0) == (60 : Int))
                            (aGd (decide ((0 : Int) ≤ IntKind.wrap IntKind.i64 (a1 + (2 : Int))))
                              (aGd (decide (IntKind.wrap IntKind.i64 (a1 + (2 : Int)) ≤ Int.ofNat (List.length a0)))
                                (aGd (decide ((0 : Int) ≤ a1))
                                  (aGd (decide (a1 ≤ Int.ofNat (Int.toNat (IntKind.wrap IntKind.i64 (a1 + (2 : Int))))))
                                    (aGd (decide ((0 : Nat) + (4 : Nat) ≤ (4 : Nat)))
                                      (some
                                        (((7 : Int), List.drop (Int.toNat a1) (List.take (Int.toNat (IntKind.wrap IntKind.i64 (a1 + (2 : Int)))) a0), (0 : Int), a1),
                                          IntKind.wrap IntKind.i64 (a1 + (2 : Int)), (0 : Int))))))))
                            (aIf (Int.ofNat (UInt8.toNat z0) == (61 : Int))
                              (aGd (decide ((0 : Int) ≤ IntKind.wrap IntKind.i64 (a1 + (2 : Int))))
                                (aGd (decide (IntKind.wrap IntKind.i64 (a1 + (2 : Int)) ≤ Int.ofNat (List.length a0)))
                                  (aGd (decide ((0 : Int) ≤ a1))
                                    (aGd (decide (a1 ≤ Int.ofNat (Int.toNat (IntKind.wrap IntKind.i64 (a1 + (2 : Int))))))
                                      (aGd (decide ((0 : Nat) + (4 : Nat) ≤ (4 : Nat)))
                                        (some
                                          (((7 : Int), List.drop (Int.toNat a1) (List.take (Int.toNat (IntKind.wrap IntKind.i64 (a1 + (2 : Int)))) a0), (0 : Int), a1),
                                            IntKind.wrap IntKind.i64 (a1 + (2 : Int)), (0 : Int))))))))
                              (aIf (Int.ofNat (UInt8.toNat z0) == (33 : Int))
                                (aGd (decide ((0 : Int) ≤ IntKind.wrap IntKind.i64 (a1 + (2 : Int))))
                                  (aGd (decide (IntKind.wrap IntKind.i64 (a1 + (2 : Int)) ≤ Int.ofNat (List.length a0)))
                                    (aGd (decide ((0 : Int) ≤ a1))
                                      (aGd (decide (a1 ≤ Int.ofNat (Int.toNat (IntKind.wrap IntKind.i64 (a1 + (2 : Int))))))
                                        (aGd (decide ((0 : Nat) + (4 : Nat) ≤ (4 : Nat)))
                                          (some
                                            (((7 : Int), List.drop (Int.toNat a1) (List.take (Int.toNat (IntKind.wrap IntKind.i64 (a1 + (2 : Int)))) a0), (0 : Int), a1),
                                              IntKind.wrap IntKind.i64 (a1 + (2 : Int)), (0 : Int))))))))
                                (aGd (decide ((0 : Nat) + (4 : Nat) ≤ (4 : Nat))) (some (((0 : Int), [], (0 : Int), (0 : Int)), (0 : Int), (2 : Int)))))))
                          (aGd (decide ((0 : Nat) + (4 : Nat) ≤ (4 : Nat))) (some (((0 : Int), [], (0 : Int), (0 : Int)), (0 : Int), (2 : Int)))))
                      (aGd (decide ((0 : Nat) + (4 : Nat) ≤ (4 : Nat))) (some (((0 : Int), [], (0 : Int), (0 : Int)), (0 : Int), (2 : Int))))))))))))) := by kernel_rfl
noncomputable def C39 (N : Nat) : Callee := mkCallee A39 R39 (F39 N)
theorem S39 (N : Nat) : Cok 39 (C39 N) := cok_of (l := (E39 N).calls) (O := O39 N) cok_nil rfl Try.func39 rfl (by kernel_rfl) (by kernel_rfl)

-- function 20
def A20 : Cods ((List UInt8) × Int) := (codsCons codStr (codsOne (codInt .i64)))
def R20 : Cod (((Int) × (List UInt8) × (Int) × Int) × (Int) × Int) := (codTup (codsCons (codAgg (codsCons (codInt .i64) (codsCons codStr (codsCons (codInt .i64) (codsOne (codInt .i64)))))) (codsCons (codInt .i64) (codsOne (codInt .i64)))))
noncomputable def E20 (N : Nat) : Env := ⟨Try.prog, [(24, C24 N), (35, C35 N), (36, C36 N), (37, C37 N), (38, C38 N), (39, C39 N)]⟩
def O20 (N : Nat) : Opts := ⟨N, [], []⟩
noncomputable def F20 (N : Nat) (a : (List UInt8) × Int) : Option (((Int) × (List UInt8) × (Int) × Int) × (Int) × Int) := aTyped (E20 N) (O20 N) Try.f20 A20 R20 a
theorem F20_eq (N : Nat) (a0 : List UInt8) (a1 : Int) : F20 N (a0, a1) =
    onGet a0 a1 fun z0 =>
  aIf (Int.ofNat (UInt8.toNat z0) == (10 : Int))
    (aGd (decide ((0 : Nat) + (4 : Nat) ≤ (4 : Nat))) (some (((8 : Int), [(10 : UInt8)], (0 : Int), a1), IntKind.wrap IntKind.i64 (a1 + (1 : Int)), (0 : Int))))
    (onSome (F24 N (Int.ofNat (UInt8.toNat z0))) fun y1 =>
      aIf y1
        (onSome (F35 N (a0, a1)) fun y2 =>
          aGd (decide ((0 : Nat) + (4 : Nat) ≤ (4 : Nat)))
            (some
              ((Prod.fst (Prod.fst y2), Prod.fst (Prod.snd (Prod.fst y2)), Prod.fst (Prod.snd (Prod.snd (Prod.fst y2))), Prod.snd (Prod.snd (Prod.snd (Prod.fst y2)))),
                Prod.fst (Prod.snd y2), Prod.snd (Prod.snd y2))))
        (onSome (F36 N (Int.ofNat (UInt8.toNat z0))) fun y3 =>
          aIf y3
            (onSome (F37 N (a0, a1)) fun y4 =>
              aGd (decide ((0 : Nat) + (4 : Nat) ≤ (4 : Nat)))
                (some
                  ((Prod.fst (Prod.fst y4), Prod.fst (Prod.snd (Prod.fst y4)), Prod.fst (Prod.snd (Prod.snd (Prod.fst y4))), Prod.snd (Prod.snd (Prod.snd (Prod.fst y4)))),
                    Prod.fst (Prod.snd y4), Prod.snd (Prod.snd y4))))
            (aIf (Int.ofNat (UInt8.toNat z0) == (34 : Int))
              (onSome (F38 N (a0, a1)) fun y5 =>
                aGd (decide ((0 : Nat) + (4 : Nat) ≤ (4 : Nat)))
                  (some
                    ((Prod.fst (Prod.fst y5), Prod.fst (Prod.snd (Prod.fst y5)), Prod.fst (Prod.snd (Prod.snd (Prod.fst y5))), Prod.snd (Prod.snd (Prod.snd (Prod.fst y5)))),
                      Prod.fst (Prod.snd y5), Prod.snd (Prod.snd y5))))
              (onSome (F39 N (a0, a1)) fun y6 =>
                aGd (decide ((0 : Nat) + (4 : Nat) ≤ (4 : Nat)))
                  (some
                    ((Prod.fst (Prod.fst y6), Prod.fst (Prod.snd (Prod.fst y6)), Prod.fst (Prod.snd (Prod.snd (Prod.fst y6))), Prod.snd (Prod.snd (Prod.snd (Prod.fst y6)))),
                      Prod.fst (Prod.snd y6), Prod.snd (Prod.snd y6))))))) := by kernel_rfl
noncomputable def C20 (N : Nat) : Callee := mkCallee A20 R20 (F20 N)
theorem S20 (N : Nat) : Cok 20 (C20 N) := cok_of (l := (E20 N).calls) (O := O20 N) (cok_cons (S24 N) (cok_cons (S35 N) (cok_cons (S36 N) (cok_cons (S37 N) (cok_cons (S38 N) (cok_cons (S39 N) cok_nil)))))) rfl Try.func20 rfl (by kernel_rfl) (by kernel_rfl)

-- function 10
def A10 : Cods (List UInt8) := (codsOne codStr)
def R10 : Cod ((List PV) × (Int) × Int) := (codTup (codsCons (codSl 4) (codsCons (codInt .i64) (codsOne (codInt .i64)))))
noncomputable def E10 (N : Nat) : Env := ⟨Try.prog, [(20, C20 N)]⟩
def O10 (N : Nat) : Opts := ⟨N, [(5, ⟨[0, 5, 6], [(5, 30, 4)], [], 1⟩), (9, ⟨[0, 5, 6], [], [], 1⟩)], []⟩
noncomputable def F10 (N : Nat) (a : List UInt8) : Option ((List PV) × (Int) × Int) := aTyped (E10 N) (O10 N) Try.f10 A10 R10 a
noncomputable def L10_5 (N : Nat) (n : Nat) (x0 : List UInt8) (x1 : Int) (x2 : List PV) : Option (List PV × Int × Int) :=
  atLoop (E10 N) (O10 N) Try.f10 [(1 : Nat), (1 : Nat), (1 : Nat), (1 : Nat), (0 : Nat), (0 : Nat)] [] n
  { tmps := Tm.of (nat_lit 62) [((0 : Nat), AV.p (PV.str x0)), ((5 : Nat), AV.own (0 : Nat)), ((6 : Nat), AV.p (PV.int IntKind.i64 x1))],
    heap := [Blk.row (30 : Nat) (4 : Nat) x2] }
  fun x => Cod.dec R10 x some
noncomputable def L10_9 (N : Nat) (n : Nat) (m0 : Nat) (x0 : List UInt8) (x1 : Int) (x2 : List PV) : Option (List PV × Int × Int) :=
  atLoop (E10 N) (O10 N) Try.f10
  [(1 : Nat), (1 : Nat), (1 : Nat), (1 : Nat), (0 : Nat), (0 : Nat), (0 : Nat), (1 : Nat), (0 : Nat), (1 : Nat), (0 : Nat), (1 : Nat), (0 : Nat), (0 : Nat), (0 : Nat)] [m0] n
  { tmps := Tm.of (nat_lit 62) [((0 : Nat), AV.p (PV.str x0)), ((5 : Nat), AV.own (0 : Nat)), ((6 : Nat), AV.p (PV.int IntKind.i64 x1))],
    heap := [Blk.row (30 : Nat) (4 : Nat) x2] }
  fun x => Cod.dec R10 x some
theorem L10_5_eq (N : Nat) (n : Nat) (x0 : List UInt8) (x1 : Int) (x2 : List PV) : L10_5 N (n + 1) x0 x1 x2 =
    aIf (decide (x1 < Int.ofNat (List.length x0)))
  (onGet x0 x1 fun z0 =>
    aIf (Int.ofNat (UInt8.toNat z0) == (32 : Int))
      (aGd
        (keptUnder (1 : Nat) [((0 : Nat), AV.p (PV.str x0)), ((5 : Nat), AV.own (0 : Nat)), ((6 : Nat), AV.p (PV.int IntKind.i64 (IntKind.wrap IntKind.i64 (x1 + (1 : Int)))))] &&
          underH (1 : Nat) (List.take (1 : Nat) [Blk.row (30 : Nat) (4 : Nat) x2]))
        (L10_5 N n x0 (IntKind.wrap IntKind.i64 (x1 + (1 : Int))) x2))
      (onGet x0 x1 fun z1 =>
        aIf (Int.ofNat (UInt8.toNat z1) == (9 : Int))
          (aGd
            (keptUnder (1 : Nat)
                [((0 : Nat), AV.p (PV.str x0)), ((5 : Nat), AV.own (0 : Nat)), ((6 : Nat), AV.p (PV.int IntKind.i64 (IntKind.wrap IntKind.i64 (x1 + (1 : Int)))))] &&
              underH (1 : Nat) (List.take (1 : Nat) [Blk.row (30 : Nat) (4 : Nat) x2]))
            (L10_5 N n x0 (IntKind.wrap IntKind.i64 (x1 + (1 : Int))) x2))
          (onGet x0 x1 fun z2 =>
            aIf (Int.ofNat (UInt8.toNat z2) == (35 : Int)) (L10_9 N N n x0 x1 x2)
              (onSome (F20 N (x0, x1)) fun y3 =>
                aGd (decide ((0 : Nat) + (4 : Nat) ≤ (4 : Nat)))
                  (aIf (Prod.snd (Prod.snd y3) != (0 : Int)) (some ([], x1, Prod.snd (Prod.snd y3)))
                    (aGd (decide ((List.length x2 + (1 : Nat)) * (41 : Nat) ≤ (140737488355328 : Nat)))
                      (aGd
                        (keptUnder (1 : Nat) [((0 : Nat), AV.p (PV.str x0)), ((5 : Nat), AV.own (0 : Nat)), ((6 : Nat), AV.p (PV.int IntKind.i64 (Prod.fst (Prod.snd y3))))] &&
                          underH (1 : Nat)
                            (List.take (1 : Nat)
                              [Blk.row (30 : Nat) (4 : Nat)
                                  (x2 ++
                                    [PV.agg
                                        [PV.int IntKind.i64 (Prod.fst (Prod.fst y3)), PV.str (Prod.fst (Prod.snd (Prod.fst y3))),
                                          PV.int IntKind.i64 (Prod.fst (Prod.snd (Prod.snd (Prod.fst y3)))), PV.int IntKind.i64 (Prod.snd (Prod.snd (Prod.snd (Prod.fst y3))))]]),
                                Blk.box
                                  [AV.p (PV.int IntKind.i64 (Prod.fst (Prod.fst y3))), AV.p (PV.str (Prod.fst (Prod.snd (Prod.fst y3)))),
                                    AV.p (PV.int IntKind.i64 (Prod.fst (Prod.snd (Prod.snd (Prod.fst y3))))),
                                    AV.p (PV.int IntKind.i64 (Prod.snd (Prod.snd (Prod.snd (Prod.fst y3)))))]]))
                        (L10_5 N n x0 (Prod.fst (Prod.snd y3))
                          (x2 ++
                            [PV.agg
                                [PV.int IntKind.i64 (Prod.fst (Prod.fst y3)), PV.str (Prod.fst (Prod.snd (Prod.fst y3))),
                                  PV.int IntKind.i64 (Prod.fst (Prod.snd (Prod.snd (Prod.fst y3)))), PV.int IntKind.i64 (Prod.snd (Prod.snd (Prod.snd (Prod.fst y3))))]])))))))))
  (some (x2, (0 : Int), (0 : Int))) := by kernel_rfl
theorem L10_5_zero (N : Nat) (x0 : List UInt8) (x1 : Int) (x2 : List PV) : L10_5 N 0 x0 x1 x2 = none := by kernel_rfl
theorem L10_9_eq (N : Nat) (n : Nat) (m0 : Nat) (x0 : List UInt8) (x1 : Int) (x2 : List PV) : L10_9 N (n + 1) m0 x0 x1 x2 =
    aIf (decide (x1 < Int.ofNat (List.length x0)))
  (onGet x0 x1 fun z4 =>
    aIf (Int.ofNat (UInt8.toNat z4) != (10 : Int)) (L10_9 N n m0 x0 (IntKind.wrap IntKind.i64 (x1 + (1 : Int))) x2)
      (aGd
        (keptUnder (1 : Nat) [((0 : Nat), AV.p (PV.str x0)), ((5 : Nat), AV.own (0 : Nat)), ((6 : Nat), AV.p (PV.int IntKind.i64 x1))] &&
          underH (1 : Nat) (List.take (1 : Nat) [Blk.row (30 : Nat) (4 : Nat) x2]))
        (L10_5 N m0 x0 x1 x2)))
  (aGd
    (keptUnder (1 : Nat) [((0 : Nat), AV.p (PV.str x0)), ((5 : Nat), AV.own (0 : Nat)), ((6 : Nat), AV.p (PV.int IntKind.i64 x1))] &&
      underH (1 : Nat) (List.take (1 : Nat) [Blk.row (30 : Nat) (4 : Nat) x2]))
    (L10_5 N m0 x0 x1 x2)) := by kernel_rfl
theorem L10_9_zero (N : Nat) (m0 : Nat) (x0 : List UInt8) (x1 : Int) (x2 : List PV) : L10_9 N 0 m0 x0 x1 x2 = none := by kernel_rfl
theorem F10_eq (N : Nat) (a0 : List UInt8) : F10 N a0 =
    aIf (decide ((65536 : Int) < Int.ofNat (List.length a0))) (some ([], (0 : Int), (4 : Int)))
  (aGd
    (keptUnder (1 : Nat) [((0 : Nat), AV.p (PV.str a0)), ((5 : Nat), AV.own (0 : Nat)), ((6 : Nat), AV.p (PV.int IntKind.i64 (0 : Int)))] &&
      underH (1 : Nat) (List.take (1 : Nat) [Blk.row (30 : Nat) (4 : Nat) []]))
    (L10_5 N N a0 (0 : Int) [])) := by kernel_rfl
noncomputable def C10 (N : Nat) : Callee := mkCallee A10 R10 (F10 N)
theorem S10 (N : Nat) : Cok 10 (C10 N) := cok_of (l := (E10 N).calls) (O := O10 N) (cok_cons (S20 N) cok_nil) rfl Try.func10 rfl (by kernel_rfl) (by kernel_rfl)

-- function 11
def A11 : Cods ((List PV) × List PV) := (codsCons (codSl 4) (codsOne (codSl 4)))
def R11 : Cod (Bool) := codBool
noncomputable def E11 (N : Nat) : Env := ⟨Try.prog, []⟩
def O11 (N : Nat) : Opts := ⟨N, [(4, ⟨[0, 1, 5], [], [], 0⟩)], []⟩
noncomputable def F11 (N : Nat) (a : (List PV) × List PV) : Option (Bool) := aTyped (E11 N) (O11 N) Try.f11 A11 R11 a
noncomputable def L11_4 (N : Nat) (n : Nat) (x0 : List PV) (x1 : List PV) (x2 : Int) : Option Bool :=
  atLoop (E11 N) (O11 N) Try.f11 [(1 : Nat), (1 : Nat), (0 : Nat), (1 : Nat), (0 : Nat)] [] n
  { tmps := Tm.of (nat_lit 32) [((0 : Nat), AV.p (PV.sl (4 : Nat) x0)), ((1 : Nat), AV.p (PV.sl (4 : Nat) x1)), ((5 : Nat), AV.p (PV.int IntKind.i64 x2))], heap := [] } fun x =>
  Cod.dec R11 x some
theorem L11_4_eq (N : Nat) (n : Nat) (x0 : List PV) (x1 : List PV) (x2 : Int) : L11_4 N (n + 1) x0 x1 x2 =
    aIf (decide (x2 < Int.ofNat (List.length x0)))
  (aIf (decide (x2 < Int.ofNat (List.length x1)))
    (onGet x0 x2 fun z0 =>
      onCons (List.take (4 : Nat) (List.drop (0 : Nat) (PV.cells z0))) fun h1 t2 =>
        onInt IntKind.i64 h1 fun n3 =>
          onCons t2 fun h4 t5 =>
            onStr h4 fun u6 =>
              onCons t5 fun h7 t8 =>
                onInt IntKind.i64 h7 fun n9 =>
                  onCons t8 fun h10 t11 =>
                    onInt IntKind.i64 h10 fun n12 =>
                      onNil t11
                        (onGet x1 x2 fun z13 =>
                          onCons (List.take (4 : Nat) (List.drop (0 : Nat) (PV.cells z13))) fun h14 t15 =>
                            onInt IntKind.i64 h14 fun n16 =>
                              onCons t15 fun h17 t18 =>
                                onStr h17 fun u19 =>
                                  onCons t18 fun h20 t21 =>
                                    onInt IntKind.i64 h20 fun n22 =>
                                      onCons t21 fun h23 t24 =>
                                        onInt IntKind.i64 h23 fun n25 =>
                                          onNil t24
                                            (aIf (!(n3 == n16 && (u6 == u19 && (n9 == n22 && (n12 == n25 && true))))) (some false)
                                              (L11_4 N n x0 x1 (IntKind.wrap IntKind.i64 (x2 + (1 : Int)))))))
    (some true))
  (some true) := by kernel_rfl
theorem L11_4_zero (N : Nat) (x0 : List PV) (x1 : List PV) (x2 : Int) : L11_4 N 0 x0 x1 x2 = none := by kernel_rfl
theorem F11_eq (N : Nat) (a0 : List PV) (a1 : List PV) : F11 N (a0, a1) =
    aIf (Int.ofNat (List.length a0) != Int.ofNat (List.length a1)) (some false) (L11_4 N N a0 a1 (0 : Int)) := by kernel_rfl
noncomputable def C11 (N : Nat) : Callee := mkCallee A11 R11 (F11 N)
theorem S11 (N : Nat) : Cok 11 (C11 N) := cok_of (l := (E11 N).calls) (O := O11 N) cok_nil rfl Try.func11 rfl (by kernel_rfl) (by kernel_rfl)

-- function 3
def A3 : Cods (List UInt8) := (codsOne codStr)
def R3 : Cod (Bool) := codBool
noncomputable def E3 (N : Nat) : Env := ⟨Try.prog, [(8, C8 N), (9, C9 N), (10, C10 N), (11, C11 N)]⟩
def O3 (N : Nat) : Opts := ⟨N, [], []⟩
noncomputable def F3 (N : Nat) (a : List UInt8) : Option (Bool) := aTyped (E3 N) (O3 N) Try.f3 A3 R3 a
theorem F3_eq (N : Nat) (a0 : List UInt8) : F3 N a0 =
    aIf (decide ((3000 : Int) < Int.ofNat (List.length a0)))
  (aIf (decide (Int.ofNat (List.length a0) ≤ (65536 : Int))) (some true)
    (onSome (F9 N a0) fun y0 =>
      onSome (F10 N a0) fun y1 =>
        onSome (F11 N (Prod.fst y0, Prod.fst y1)) fun y2 =>
          aIf y2 (aIf (Prod.fst (Prod.snd y0) == Prod.fst (Prod.snd y1)) (aIf (Prod.snd (Prod.snd y0) == Prod.snd (Prod.snd y1)) (some true) (some false)) (some false))
            (some false)))
  (onSome (F9 N a0) fun y3 =>
    onSome (F10 N a0) fun y4 =>
      onSome (F11 N (Prod.fst y3, Prod.fst y4)) fun y5 =>
        aIf y5 (aIf (Prod.fst (Prod.snd y3) == Prod.fst (Prod.snd y4)) (aIf (Prod.snd (Prod.snd y3) == Prod.snd (Prod.snd y4)) (some true) (some false)) (some false)) (some false)) := by kernel_rfl
noncomputable def C3 (N : Nat) : Callee := mkCallee A3 R3 (F3 N)
theorem S3 (N : Nat) : Cok 3 (C3 N) := cok_of (l := (E3 N).calls) (O := O3 N) (cok_cons (S8 N) (cok_cons (S9 N) (cok_cons (S10 N) (cok_cons (S11 N) cok_nil)))) rfl Try.func3 rfl (by kernel_rfl) (by kernel_rfl)

-- function 26
def A26 : Cods (Unit) := codsNil
def R26 : Cod (List PV) := (codSl 1)
noncomputable def E26 (N : Nat) : Env := ⟨Try.prog, []⟩
def O26 (N : Nat) : Opts := ⟨N, [], []⟩
noncomputable def F26 (N : Nat) (a : Unit) : Option (List PV) := aTyped (E26 N) (O26 N) Try.f26 A26 R26 a
theorem F26_eq (N : Nat)  : F26 N () =
    some
  [PV.str [(105 : UInt8), (102 : UInt8)], PV.str [(116 : UInt8), (104 : UInt8), (101 : UInt8), (110 : UInt8)], PV.str [(101 : UInt8), (108 : UInt8), (115 : UInt8), (101 : UInt8)],
    PV.str [(111 : UInt8), (114 : UInt8)], PV.str [(97 : UInt8), (110 : UInt8), (100 : UInt8)], PV.str [(110 : UInt8), (111 : UInt8), (116 : UInt8)],
    PV.str [(116 : UInt8), (114 : UInt8), (117 : UInt8), (101 : UInt8)], PV.str [(102 : UInt8), (97 : UInt8), (108 : UInt8), (115 : UInt8), (101 : UInt8)],
    PV.str [(116 : UInt8), (111 : UInt8), (100 : UInt8), (97 : UInt8), (121 : UInt8)], PV.str [(115 : UInt8), (104 : UInt8), (97 : UInt8), (114 : UInt8), (101 : UInt8)],
    PV.str [(100 : UInt8), (105 : UInt8), (118 : UInt8)], PV.str [(114 : UInt8), (111 : UInt8), (117 : UInt8), (110 : UInt8), (100 : UInt8)],
    PV.str [(109 : UInt8), (105 : UInt8), (110 : UInt8)], PV.str [(109 : UInt8), (97 : UInt8), (120 : UInt8)], PV.str [(112 : UInt8), (108 : UInt8), (117 : UInt8), (115 : UInt8)],
    PV.str [(109 : UInt8), (111 : UInt8), (110 : UInt8), (116 : UInt8), (104 : UInt8), (115 : UInt8)], PV.str [(100 : UInt8), (97 : UInt8), (121 : UInt8), (115 : UInt8)],
    PV.str [(121 : UInt8), (101 : UInt8), (97 : UInt8), (114 : UInt8), (115 : UInt8)], PV.str [(121 : UInt8), (101 : UInt8), (97 : UInt8), (114 : UInt8)],
    PV.str [(109 : UInt8), (111 : UInt8), (110 : UInt8), (116 : UInt8), (104 : UInt8)], PV.str [(116 : UInt8), (97 : UInt8), (98 : UInt8)],
    PV.str [(98 : UInt8), (97 : UInt8), (110 : UInt8), (100 : UInt8)], PV.str [(99 : UInt8), (111 : UInt8), (117 : UInt8), (110 : UInt8), (116 : UInt8)],
    PV.str [(115 : UInt8), (117 : UInt8), (109 : UInt8)], PV.str [(97 : UInt8), (108 : UInt8), (108 : UInt8)], PV.str [(97 : UInt8), (110 : UInt8), (121 : UInt8)],
    PV.str [(109 : UInt8), (111 : UInt8), (115 : UInt8), (116 : UInt8)], PV.str [(101 : UInt8), (110 : UInt8), (117 : UInt8), (109 : UInt8)],
    PV.str [(116 : UInt8), (97 : UInt8), (98 : UInt8), (108 : UInt8), (101 : UInt8)], PV.str [(114 : UInt8), (111 : UInt8), (119 : UInt8)],
    PV.str [(115 : UInt8), (99 : UInt8), (111 : UInt8), (112 : UInt8), (101 : UInt8)],
    PV.str [(109 : UInt8), (101 : UInt8), (109 : UInt8), (98 : UInt8), (101 : UInt8), (114 : UInt8), (115 : UInt8)],
    PV.str [(105 : UInt8), (110 : UInt8), (112 : UInt8), (117 : UInt8), (116 : UInt8)], PV.str [(100 : UInt8), (101 : UInt8), (102 : UInt8)],
    PV.str [(114 : UInt8), (117 : UInt8), (108 : UInt8), (101 : UInt8)], PV.str [(111 : UInt8), (102 : UInt8)], PV.str [(111 : UInt8), (118 : UInt8), (101 : UInt8), (114 : UInt8)],
    PV.str [(112 : UInt8), (114 : UInt8), (105 : UInt8), (111 : UInt8)], PV.str [(102 : UInt8), (114 : UInt8), (111 : UInt8), (109 : UInt8)], PV.str [(116 : UInt8), (111 : UInt8)],
    PV.str [(101 : UInt8), (110 : UInt8), (100 : UInt8)], PV.str [(119 : UInt8), (104 : UInt8), (101 : UInt8), (110 : UInt8)], PV.str [(105 : UInt8), (115 : UInt8)],
    PV.str [(115 : UInt8), (114 : UInt8), (99 : UInt8)], PV.str [(98 : UInt8), (111 : UInt8), (111 : UInt8), (108 : UInt8)], PV.str [(105 : UInt8), (110 : UInt8), (116 : UInt8)],
    PV.str [(109 : UInt8), (111 : UInt8), (110 : UInt8), (101 : UInt8), (121 : UInt8)], PV.str [(114 : UInt8), (97 : UInt8), (116 : UInt8), (101 : UInt8)],
    PV.str [(100 : UInt8), (97 : UInt8), (116 : UInt8), (101 : UInt8)], PV.str [(100 : UInt8), (111 : UInt8), (119 : UInt8), (110 : UInt8)], PV.str [(117 : UInt8), (112 : UInt8)],
    PV.str [(122 : UInt8), (101 : UInt8), (114 : UInt8), (111 : UInt8)], PV.str [(97 : UInt8), (119 : UInt8), (97 : UInt8), (121 : UInt8)],
    PV.str [(104 : UInt8), (97 : UInt8), (108 : UInt8), (102 : UInt8)], PV.str [(101 : UInt8), (118 : UInt8), (101 : UInt8), (110 : UInt8)]] := by kernel_rfl
noncomputable def C26 (N : Nat) : Callee := mkCallee A26 R26 (F26 N)
theorem S26 (N : Nat) : Cok 26 (C26 N) := cok_of (l := (E26 N).calls) (O := O26 N) cok_nil rfl Try.func26 rfl (by kernel_rfl) (by kernel_rfl)

-- function 13
def A13 : Cods (List UInt8) := (codsOne codStr)
def R13 : Cod (Bool) := codBool
noncomputable def E13 (N : Nat) : Env := ⟨Try.prog, [(24, C24 N), (25, C25 N), (26, C26 N)]⟩
def O13 (N : Nat) : Opts := ⟨N, [(4, ⟨[0, 3], [], [], 0⟩), (10, ⟨[0, 4, 5], [], [], 0⟩)], []⟩
noncomputable def F13 (N : Nat) (a : List UInt8) : Option (Bool) := aTyped (E13 N) (O13 N) Try.f13 A13 R13 a
noncomputable def L13_4 (N : Nat) (n : Nat) (x0 : List UInt8) (x1 : Int) : Option Bool :=
  atLoop (E13 N) (O13 N) Try.f13 [(1 : Nat), (1 : Nat), (0 : Nat), (1 : Nat), (0 : Nat)] [] n
  { tmps := Tm.of (nat_lit 44) [((0 : Nat), AV.p (PV.str x0)), ((3 : Nat), AV.p (PV.int IntKind.i64 x1))], heap := [] } fun x => Cod.dec R13 x some
noncomputable def L13_10 (N : Nat) (n : Nat) (x0 : List UInt8) (x1 : List PV) (x2 : Int) : Option Bool :=
  atLoop (E13 N) (O13 N) Try.f13 [(1 : Nat), (1 : Nat), (1 : Nat), (1 : Nat), (0 : Nat), (1 : Nat), (0 : Nat)] [] n
  { tmps := Tm.of (nat_lit 44) [((0 : Nat), AV.p (PV.str x0)), ((4 : Nat), AV.p (PV.sl (1 : Nat) x1)), ((5 : Nat), AV.p (PV.int IntKind.i64 x2))], heap := [] } fun x =>
  Cod.dec R13 x some
theorem L13_4_eq (N : Nat) (n : Nat) (x0 : List UInt8) (x1 : Int) : L13_4 N (n + 1) x0 x1 =
    aIf (decide (x1 < Int.ofNat (List.length x0)))
  (onGet x0 x1 fun z2 => onSome (F25 N (Int.ofNat (UInt8.toNat z2))) fun y3 => aIf (!y3) (some false) (L13_4 N n x0 (IntKind.wrap IntKind.i64 (x1 + (1 : Int)))))
  (onSome (F26 N PUnit.unit) fun y4 => L13_10 N N x0 y4 (0 : Int)) := by kernel_rfl
theorem L13_4_zero (N : Nat) (x0 : List UInt8) (x1 : Int) : L13_4 N 0 x0 x1 = none := by kernel_rfl
theorem L13_10_eq (N : Nat) (n : Nat) (x0 : List UInt8) (x1 : List PV) (x2 : Int) : L13_10 N (n + 1) x0 x1 x2 =
    aIf (decide (x2 < Int.ofNat (List.length x1))) (onGet x1 x2 fun z5 => onStr z5 fun u6 => aIf (u6 == x0) (some false) (L13_10 N n x0 x1 (IntKind.wrap IntKind.i64 (x2 + (1 : Int)))))
  (some true) := by kernel_rfl
theorem L13_10_zero (N : Nat) (x0 : List UInt8) (x1 : List PV) (x2 : Int) : L13_10 N 0 x0 x1 x2 = none := by kernel_rfl
theorem F13_eq (N : Nat) (a0 : List UInt8) : F13 N a0 =
    aIf (Int.ofNat (List.length a0) == (0 : Int)) (some false)
  (aIf (decide ((16 : Int) < Int.ofNat (List.length a0))) (some false)
    (onGet a0 (0 : Int) fun z0 => onSome (F24 N (Int.ofNat (UInt8.toNat z0))) fun y1 => aIf (!y1) (some false) (L13_4 N N a0 (0 : Int)))) := by kernel_rfl
noncomputable def C13 (N : Nat) : Callee := mkCallee A13 R13 (F13 N)
theorem S13 (N : Nat) : Cok 13 (C13 N) := cok_of (l := (E13 N).calls) (O := O13 N) (cok_cons (S24 N) (cok_cons (S25 N) (cok_cons (S26 N) cok_nil))) rfl Try.func13 rfl (by kernel_rfl) (by kernel_rfl)

-- function 4
def A4 : Cods (List UInt8) := (codsOne codStr)
def R4 : Cod (Bool) := codBool
noncomputable def E4 (N : Nat) : Env := ⟨Try.prog, [(8, C8 N), (12, C12 N), (13, C13 N)]⟩
def O4 (N : Nat) : Opts := ⟨N, [], []⟩
noncomputable def F4 (N : Nat) (a : List UInt8) : Option (Bool) := aTyped (E4 N) (O4 N) Try.f4 A4 R4 a
theorem F4_eq (N : Nat) (a0 : List UInt8) : F4 N a0 =
    aIf (decide ((1000 : Int) < Int.ofNat (List.length a0))) (some true) (onSome (F12 N a0) fun y0 => onSome (F13 N a0) fun y1 => aIf (y0 == y1) (some true) (some false)) := by kernel_rfl
noncomputable def C4 (N : Nat) : Callee := mkCallee A4 R4 (F4 N)
theorem S4 (N : Nat) : Cok 4 (C4 N) := cok_of (l := (E4 N).calls) (O := O4 N) (cok_cons (S8 N) (cok_cons (S12 N) (cok_cons (S13 N) cok_nil))) rfl Try.func4 rfl (by kernel_rfl) (by kernel_rfl)

-- function 5
def A5 : Cods (List UInt8) := (codsOne codStr)
def R5 : Cod (Bool) := codBool
noncomputable def E5 (N : Nat) : Env := ⟨Try.prog, [(8, C8 N), (9, C9 N)]⟩
def O5 (N : Nat) : Opts := ⟨N, [(7, ⟨[0, 3, 6], [], [], 0⟩)], []⟩
noncomputable def F5 (N : Nat) (a : List UInt8) : Option (Bool) := aTyped (E5 N) (O5 N) Try.f5 A5 R5 a
noncomputable def L5_7 (N : Nat) (n : Nat) (x0 : List UInt8) (x1 : List PV) (x2 : Int) : Option Bool :=
  atLoop (E5 N) (O5 N) Try.f5 [(1 : Nat), (1 : Nat), (1 : Nat), (1 : Nat), (0 : Nat), (1 : Nat), (0 : Nat)] [] n
  { tmps := Tm.of (nat_lit 107) [((0 : Nat), AV.p (PV.str x0)), ((3 : Nat), AV.p (PV.sl (4 : Nat) x1)), ((6 : Nat), AV.p (PV.int IntKind.i64 x2))], heap := [] } fun x =>
  Cod.dec R5 x some
theorem L5_7_eq (N : Nat) (n : Nat) (x0 : List UInt8) (x1 : List PV) (x2 : Int) : L5_7 N (n + 1) x0 x1 x2 =
    aIf (decide (x2 < Int.ofNat (List.length x1)))
  (onGet x1 x2 fun z1 =>
    onSome (PV.cells z1)[(3 : Nat)]? fun y2 =>
      onInt IntKind.i64 y2 fun n3 =>
        onGet x1 x2 fun z4 =>
          onSome (PV.cells z4)[(0 : Nat)]? fun y5 =>
            onInt IntKind.i64 y5 fun n6 =>
              aIf (n6 == (6 : Int))
                (aIf (decide ((0 : Int) < x2))
                  (onGet x1 x2 fun z7 =>
                    onSome (PV.cells z7)[(3 : Nat)]? fun y8 =>
                      onInt IntKind.i64 y8 fun n9 =>
                        onGet x1 (IntKind.wrap IntKind.i64 (x2 - (1 : Int))) fun z10 =>
                          onSome (PV.cells z10)[(3 : Nat)]? fun y11 =>
                            onInt IntKind.i64 y11 fun n12 =>
                              aIf (decide (n9 ≤ n12)) (some false)
                                (onGet x1 x2 fun z13 =>
                                  onSome (PV.cells z13)[(3 : Nat)]? fun y14 =>
                                    onInt IntKind.i64 y14 fun n15 =>
                                      aIf (decide (n15 < (0 : Int))) (some false)
                                        (onGet x1 x2 fun z16 =>
                                          onSome (PV.cells z16)[(1 : Nat)]? fun y17 =>
                                            onStr y17 fun u18 =>
                                              aIf
                                                (decide
                                                  (IntKind.wrap IntKind.i64 (Int.ofNat (List.length x0) - Int.ofNat (List.length u18)) < IntKind.wrap IntKind.i64 (n3 + (1 : Int))))
                                                (some false)
                                                (onGet x1 x2 fun z19 =>
                                                  onSome (PV.cells z19)[(1 : Nat)]? fun y20 =>
                                                    onStr y20 fun u21 =>
                                                      aGd (decide ((0 : Int) ≤ IntKind.wrap IntKind.i64 (IntKind.wrap IntKind.i64 (n3 + (1 : Int)) + Int.ofNat (List.length u21))))
                                                        (aGd
                                                          (decide
                                                            (IntKind.wrap IntKind.i64 (IntKind.wrap IntKind.i64 (n3 + (1 : Int)) + Int.ofNat (List.length u21)) ≤
                                                              Int.ofNat (List.length x0)))
                                                          (aGd (decide ((0 : Int) ≤ IntKind.wrap IntKind.i64 (n3 + (1 : Int))))
                                                            (aGd
                                                              (decide
                                                                (IntKind.wrap IntKind.i64 (n3 + (1 : Int)) ≤
                                                                  Int.ofNat
                                                                    (Int.toNat
                                                                      (IntKind.wrap IntKind.i64 (IntKind.wrap IntKind.i64 (n3 + (1 : Int)) + Int.ofNat (List.length u21))))))
                                                              (onGet x1 x2 fun z22 =>
                                                                onSome (PV.cells z22)[(1 : Nat)]? fun y23 =>
                                                                  onStr y23 fun u24 =>
                                                                    aIf
                                                                      (!List.drop (Int.toNat (IntKind.wrap IntKind.i64 (n3 + (1 : Int))))
                                                                            (List.take
                                                                              (Int.toNat
                                                                                (IntKind.wrap IntKind.i64
                                                                                  (IntKind.wrap IntKind.i64 (n3 + (1 : Int)) + Int.ofNat (List.length u21))))
                                                                              x0) ==
                                                                          u24)
                                                                      (some false) (L5_7 N n x0 x1 (IntKind.wrap IntKind.i64 (x2 + (1 : Int))))))))))))
                  (onGet x1 x2 fun z25 =>
                    onSome (PV.cells z25)[(3 : Nat)]? fun y26 =>
                      onInt IntKind.i64 y26 fun n27 =>
                        aIf (decide (n27 < (0 : Int))) (some false)
                          (onGet x1 x2 fun z28 =>
                            onSome (PV.cells z28)[(1 : Nat)]? fun y29 =>
                              onStr y29 fun u30 =>
                                aIf (decide (IntKind.wrap IntKind.i64 (Int.ofNat (List.length x0) - Int.ofNat (List.length u30)) < IntKind.wrap IntKind.i64 (n3 + (1 : Int))))
                                  (some false)
                                  (onGet x1 x2 fun z31 =>
                                    onSome (PV.cells z31)[(1 : Nat)]? fun y32 =>
                                      onStr y32 fun u33 =>
                                        aGd (decide ((0 : Int) ≤ IntKind.wrap IntKind.i64 (IntKind.wrap IntKind.i64 (n3 + (1 : Int)) + Int.ofNat (List.length u33))))
                                          (aGd
                                            (decide
                                              (IntKind.wrap IntKind.i64 (IntKind.wrap IntKind.i64 (n3 + (1 : Int)) + Int.ofNat (List.length u33)) ≤ Int.ofNat (List.length x0)))
                                            (aGd (decide ((0 : Int) ≤ IntKind.wrap IntKind.i64 (n3 + (1 : Int))))
                                              (aGd
                                                (decide
                                                  (IntKind.wrap IntKind.i64 (n3 + (1 : Int)) ≤
                                                    Int.ofNat (Int.toNat (IntKind.wrap IntKind.i64 (IntKind.wrap IntKind.i64 (n3 + (1 : Int)) + Int.ofNat (List.length u33))))))
                                                (onGet x1 x2 fun z34 =>
                                                  onSome (PV.cells z34)[(1 : Nat)]? fun y35 =>
                                                    onStr y35 fun u36 =>
                                                      aIf
                                                        (!List.drop (Int.toNat (IntKind.wrap IntKind.i64 (n3 + (1 : Int))))
                                                              (List.take
                                                                (Int.toNat (IntKind.wrap IntKind.i64 (IntKind.wrap IntKind.i64 (n3 + (1 : Int)) + Int.ofNat (List.length u33))))
                                                                x0) ==
                                                            u36)
                                                        (some false) (L5_7 N n x0 x1 (IntKind.wrap IntKind.i64 (x2 + (1 : Int))))))))))))
                (aIf (decide ((0 : Int) < x2))
                  (onGet x1 x2 fun z37 =>
                    onSome (PV.cells z37)[(3 : Nat)]? fun y38 =>
                      onInt IntKind.i64 y38 fun n39 =>
                        onGet x1 (IntKind.wrap IntKind.i64 (x2 - (1 : Int))) fun z40 =>
                          onSome (PV.cells z40)[(3 : Nat)]? fun y41 =>
                            onInt IntKind.i64 y41 fun n42 =>
                              aIf (decide (n39 ≤ n42)) (some false)
                                (onGet x1 x2 fun z43 =>
                                  onSome (PV.cells z43)[(3 : Nat)]? fun y44 =>
                                    onInt IntKind.i64 y44 fun n45 =>
                                      aIf (decide (n45 < (0 : Int))) (some false)
                                        (onGet x1 x2 fun z46 =>
                                          onSome (PV.cells z46)[(1 : Nat)]? fun y47 =>
                                            onStr y47 fun u48 =>
                                              aIf (decide (IntKind.wrap IntKind.i64 (Int.ofNat (List.length x0) - Int.ofNat (List.length u48)) < n3)) (some false)
                                                (onGet x1 x2 fun z49 =>
                                                  onSome (PV.cells z49)[(1 : Nat)]? fun y50 =>
                                                    onStr y50 fun u51 =>
                                                      aGd (decide ((0 : Int) ≤ IntKind.wrap IntKind.i64 (n3 + Int.ofNat (List.length u51))))
                                                        (aGd (decide (IntKind.wrap IntKind.i64 (n3 + Int.ofNat (List.length u51)) ≤ Int.ofNat (List.length x0)))
                                                          (aGd (decide ((0 : Int) ≤ n3))
                                                            (aGd (decide (n3 ≤ Int.ofNat (Int.toNat (IntKind.wrap IntKind.i64 (n3 + Int.ofNat (List.length u51))))))
                                                              (onGet x1 x2 fun z52 =>
                                                                onSome (PV.cells z52)[(1 : Nat)]? fun y53 =>
                                                                  onStr y53 fun u54 =>
                                                                    aIf
                                                                      (!List.drop (Int.toNat n3)
                                                                            (List.take (Int.toNat (IntKind.wrap IntKind.i64 (n3 + Int.ofNat (List.length u51)))) x0) ==
                                                                          u54)
                                                                      (some false) (L5_7 N n x0 x1 (IntKind.wrap IntKind.i64 (x2 + (1 : Int))))))))))))
                  (onGet x1 x2 fun z55 =>
                    onSome (PV.cells z55)[(3 : Nat)]? fun y56 =>
                      onInt IntKind.i64 y56 fun n57 =>
                        aIf (decide (n57 < (0 : Int))) (some false)
                          (onGet x1 x2 fun z58 =>
                            onSome (PV.cells z58)[(1 : Nat)]? fun y59 =>
                              onStr y59 fun u60 =>
                                aIf (decide (IntKind.wrap IntKind.i64 (Int.ofNat (List.length x0) - Int.ofNat (List.length u60)) < n3)) (some false)
                                  (onGet x1 x2 fun z61 =>
                                    onSome (PV.cells z61)[(1 : Nat)]? fun y62 =>
                                      onStr y62 fun u63 =>
                                        aGd (decide ((0 : Int) ≤ IntKind.wrap IntKind.i64 (n3 + Int.ofNat (List.length u63))))
                                          (aGd (decide (IntKind.wrap IntKind.i64 (n3 + Int.ofNat (List.length u63)) ≤ Int.ofNat (List.length x0)))
                                            (aGd (decide ((0 : Int) ≤ n3))
                                              (aGd (decide (n3 ≤ Int.ofNat (Int.toNat (IntKind.wrap IntKind.i64 (n3 + Int.ofNat (List.length u63))))))
                                                (onGet x1 x2 fun z64 =>
                                                  onSome (PV.cells z64)[(1 : Nat)]? fun y65 =>
                                                    onStr y65 fun u66 =>
                                                      aIf
                                                        (!List.drop (Int.toNat n3) (List.take (Int.toNat (IntKind.wrap IntKind.i64 (n3 + Int.ofNat (List.length u63)))) x0) == u66)
                                                        (some false) (L5_7 N n x0 x1 (IntKind.wrap IntKind.i64 (x2 + (1 : Int)))))))))))))
  (some true) := by kernel_rfl
theorem L5_7_zero (N : Nat) (x0 : List UInt8) (x1 : List PV) (x2 : Int) : L5_7 N 0 x0 x1 x2 = none := by kernel_rfl
theorem F5_eq (N : Nat) (a0 : List UInt8) : F5 N a0 =
    aIf (decide ((3000 : Int) < Int.ofNat (List.length a0))) (some true)
  (onSome (F9 N a0) fun y0 =>
    aIf (Prod.snd (Prod.snd y0) != (0 : Int))
      (aIf (decide ((0 : Int) ≤ Prod.fst (Prod.snd y0))) (aIf (decide (Prod.fst (Prod.snd y0) ≤ Int.ofNat (List.length a0))) (some true) (some false)) (some false))
      (L5_7 N N a0 (Prod.fst y0) (0 : Int))) := by kernel_rfl
noncomputable def C5 (N : Nat) : Callee := mkCallee A5 R5 (F5 N)
theorem S5 (N : Nat) : Cok 5 (C5 N) := cok_of (l := (E5 N).calls) (O := O5 N) (cok_cons (S8 N) (cok_cons (S9 N) cok_nil)) rfl Try.func5 rfl (by kernel_rfl) (by kernel_rfl)

end Go.Proofs.Ytmnedpfilckilaa
