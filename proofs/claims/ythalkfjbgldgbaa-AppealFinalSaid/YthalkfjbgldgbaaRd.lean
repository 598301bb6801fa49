/- The pure reading of the program's functions (printed by a program of mine; each line is proved by the kernel's evaluation). -/
import Derived.Test.YthalkfjbgldgbaaExl0
import Derived.Test.YthalkfjbgldgbaaProg
set_option linter.unusedSimpArgs false
set_option linter.unusedVariables false
set_option maxRecDepth 100000
namespace Go.Proofs.Ythalkfjbgldgbaa
open Go.RowKit

-- function 47
def A47 : Cods (Int) := (codsOne (codInt .i64))
def R47 : Cod (Bool) := codBool
noncomputable def E47 (N : Nat) : Env := ⟨Try.prog, []⟩
def O47 (N : Nat) : Opts := ⟨N, [], []⟩
noncomputable def F47 (N : Nat) (a : Int) : Option (Bool) := aTyped (E47 N) (O47 N) Try.f47 A47 R47 a
theorem F47_eq (N : Nat) (a0 : Int) : F47 N a0 =
    aIf (decide ((0 : Int) ≤ a0)) (some (decide (a0 ≤ (109572 : Int)))) (some false) := by kernel_rfl
noncomputable def C47 (N : Nat) : Callee := mkCallee A47 R47 (F47 N)
theorem S47 (N : Nat) : Cok 47 (C47 N) := cok_of (l := (E47 N).calls) (O := O47 N) cok_nil rfl Try.func47 rfl (by kernel_rfl) (by kernel_rfl)

-- function 45
def A45 : Cods (Int) := (codsOne (codInt .i64))
def R45 : Cod (Int) := (codInt .i64)
noncomputable def E45 (N : Nat) : Env := ⟨Try.prog, [(47, C47 N)]⟩
def O45 (N : Nat) : Opts := ⟨N, [], []⟩
noncomputable def F45 (N : Nat) (a : Int) : Option (Int) := aTyped (E45 N) (O45 N) Try.f45 A45 R45 a
theorem F45_eq (N : Nat) (a0 : Int) : F45 N a0 =
    onSome (F47 N a0) fun y0 => aIf (!y0) (some (-1 : Int)) (some (Int.tmod a0 (7 : Int))) := by kernel_rfl
noncomputable def C45 (N : Nat) : Callee := mkCallee A45 R45 (F45 N)
theorem S45 (N : Nat) : Cok 45 (C45 N) := cok_of (l := (E45 N).calls) (O := O45 N) (cok_cons (S47 N) cok_nil) rfl Try.func45 rfl (by kernel_rfl) (by kernel_rfl)

-- function 50
def A50 : Cods (Int) := (codsOne (codInt .i64))
def R50 : Cod (Bool) := codBool
noncomputable def E50 (N : Nat) : Env := ⟨Try.prog, []⟩
def O50 (N : Nat) : Opts := ⟨N, [], []⟩
noncomputable def F50 (N : Nat) (a : Int) : Option (Bool) := aTyped (E50 N) (O50 N) Try.f50 A50 R50 a
theorem F50_eq (N : Nat) (a0 : Int) : F50 N a0 =
    some (a0 != a0) := by kernel_rfl
noncomputable def C50 (N : Nat) : Callee := mkCallee A50 R50 (F50 N)
theorem S50 (N : Nat) : Cok 50 (C50 N) := cok_of (l := (E50 N).calls) (O := O50 N) cok_nil rfl Try.func50 rfl (by kernel_rfl) (by kernel_rfl)

-- function 49
def A49 : Cods (Int) := (codsOne (codInt .i64))
def R49 : Cod (Bool) := codBool
noncomputable def E49 (N : Nat) : Env := ⟨Try.prog, []⟩
def O49 (N : Nat) : Opts := ⟨N, [], []⟩
noncomputable def F49 (N : Nat) (a : Int) : Option (Bool) := aTyped (E49 N) (O49 N) Try.f49 A49 R49 a
theorem F49_eq (N : Nat) (a0 : Int) : F49 N a0 =
    some (a0 != a0) := by kernel_rfl
noncomputable def C49 (N : Nat) : Callee := mkCallee A49 R49 (F49 N)
theorem S49 (N : Nat) : Cok 49 (C49 N) := cok_of (l := (E49 N).calls) (O := O49 N) cok_nil rfl Try.func49 rfl (by kernel_rfl) (by kernel_rfl)

-- function 48
def A48 : Cods ((Int) × Int) := (codsCons (codInt .i64) (codsOne (codInt .i64)))
def R48 : Cod (Bool) := codBool
noncomputable def E48 (N : Nat) : Env := ⟨Try.prog, [(50, C50 N)]⟩
def O48 (N : Nat) : Opts := ⟨N, [], []⟩
noncomputable def F48 (N : Nat) (a : (Int) × Int) : Option (Bool) := aTyped (E48 N) (O48 N) Try.f48 A48 R48 a
theorem F48_eq (N : Nat) (a0 : Int) (a1 : Int) : F48 N (a0, a1) =
    onSome (F50 N a0) fun y0 => aIf y0 (onSome (F50 N a1) fun y1 => aIf (!y1) (some true) (some (decide (a0 < a1)))) (some (decide (a0 < a1))) := by kernel_rfl
noncomputable def C48 (N : Nat) : Callee := mkCallee A48 R48 (F48 N)
theorem S48 (N : Nat) : Cok 48 (C48 N) := cok_of (l := (E48 N).calls) (O := O48 N) (cok_cons (S50 N) cok_nil) rfl Try.func48 rfl (by kernel_rfl) (by kernel_rfl)

-- function 46
def A46 : Cods ((List PV) × Int) := (codsCons (codSl 1) (codsOne (codInt .i64)))
def R46 : Cod ((Int) × Bool) := (codTup (codsCons (codInt .i64) (codsOne codBool)))
noncomputable def E46 (N : Nat) : Env := ⟨Try.prog, [(48, C48 N), (49, C49 N)]⟩
def O46 (N : Nat) : Opts := ⟨N, [(3, ⟨[1, 0, 8, 7, 6], [], [], 0⟩)], []⟩
noncomputable def F46 (N : Nat) (a : (List PV) × Int) : Option ((Int) × Bool) := aTyped (E46 N) (O46 N) Try.f46 A46 R46 a
noncomputable def L46_3 (N : Nat) (n : Nat) (x0 : List PV) (x1 : Int) (x2 : Int) (x3 : Int) (x4 : Int) : Option (Int × Bool) :=
  atLoop (E46 N) (O46 N) Try.f46 [(1 : Nat), (1 : Nat), (1 : Nat), (0 : Nat), (0 : Nat)] [] n
  {
    tmps :=
      [AV.p (PV.sl (1 : Nat) x0), AV.p (PV.int IntKind.i64 x1), AV.top, AV.top, AV.top, AV.top, AV.p (PV.int IntKind.i64 x2), AV.p (PV.int IntKind.i64 x3),
        AV.p (PV.int IntKind.i64 x4), AV.top, AV.top, AV.top, AV.top, AV.top, AV.top, AV.top, AV.top, AV.top, AV.top, AV.top, AV.top, AV.top, AV.top, AV.top, AV.top, AV.top,
        AV.top, AV.top, AV.top, AV.top, AV.top, AV.top, AV.top, AV.top, AV.top, AV.top, AV.top, AV.top, AV.top, AV.top, AV.top, AV.top, AV.top, AV.top, AV.top, AV.top, AV.top,
        AV.top, AV.top, AV.top, AV.top, AV.top, AV.top, AV.top],
    heap := [] }
  fun x => Cod.dec R46 x some
theorem L46_3_eq (N : Nat) (n : Nat) (x0 : List PV) (x1 : Int) (x2 : Int) (x3 : Int) (x4 : Int) : L46_3 N (n + 1) x0 x1 x2 x3 x4 =
    aIf (decide (x3 < x4))
  (onGet x0 (IntKind.wrap IntKind.i64 (Int.fdiv (IntKind.wrap IntKind.u64 (IntKind.wrap IntKind.i64 (x3 + x4))) (2 : Int))) fun z0 =>
    onInt IntKind.i64 z0 fun n1 =>
      onSome (F48 N (n1, x1)) fun y2 =>
        aIf y2
          (L46_3 N n x0 x1 x2 (IntKind.wrap IntKind.i64 (IntKind.wrap IntKind.i64 (Int.fdiv (IntKind.wrap IntKind.u64 (IntKind.wrap IntKind.i64 (x3 + x4))) (2 : Int)) + (1 : Int)))
            x4)
          (L46_3 N n x0 x1 x2 x3 (IntKind.wrap IntKind.i64 (Int.fdiv (IntKind.wrap IntKind.u64 (IntKind.wrap IntKind.i64 (x3 + x4))) (2 : Int)))))
  (aIf (decide (x3 < x2))
    (onGet x0 x3 fun z3 =>
      onInt IntKind.i64 z3 fun n4 =>
        aIf (n4 == x1) (some (x3, true))
          (onGet x0 x3 fun z5 => onInt IntKind.i64 z5 fun n6 => onSome (F49 N n6) fun y7 => aIf y7 (onSome (F49 N x1) fun y8 => some (x3, y8)) (some (x3, false))))
    (some (x3, false))) := by kernel_rfl
theorem L46_3_zero (N : Nat) (x0 : List PV) (x1 : Int) (x2 : Int) (x3 : Int) (x4 : Int) : L46_3 N 0 x0 x1 x2 x3 x4 = none := by kernel_rfl
theorem F46_eq (N : Nat) (a0 : List PV) (a1 : Int) : F46 N (a0, a1) =
    L46_3 N N a0 a1 (Int.ofNat (List.length a0)) (0 : Int) (Int.ofNat (List.length a0)) := by kernel_rfl
noncomputable def C46 (N : Nat) : Callee := mkCallee A46 R46 (F46 N)
theorem S46 (N : Nat) : Cok 46 (C46 N) := cok_of (l := (E46 N).calls) (O := O46 N) (cok_cons (S48 N) (cok_cons (S49 N) cok_nil)) rfl Try.func46 rfl (by kernel_rfl) (by kernel_rfl)

-- function 32
def A32 : Cods (Int) := (codsOne (codInt .i64))
def R32 : Cod (Bool) := codBool
noncomputable def E32 (N : Nat) : Env := ⟨Try.prog, []⟩
def O32 (N : Nat) : Opts := ⟨N, [], []⟩
noncomputable def F32 (N : Nat) (a : Int) : Option (Bool) := aTyped (E32 N) (O32 N) Try.f32 A32 R32 a
theorem F32_eq (N : Nat) (a0 : Int) : F32 N a0 =
    aIf (decide ((0 : Int) ≤ a0)) (some (decide (a0 ≤ (109572 : Int)))) (some false) := by kernel_rfl
noncomputable def C32 (N : Nat) : Callee := mkCallee A32 R32 (F32 N)
theorem S32 (N : Nat) : Cok 32 (C32 N) := cok_of (l := (E32 N).calls) (O := O32 N) cok_nil rfl Try.func32 rfl (by kernel_rfl) (by kernel_rfl)

-- function 33
def A33 : Cods (((Int) × List PV) × Int) := (codsCons (codAgg (codsCons (codInt .i64) (codsOne (codSl 1)))) (codsOne (codInt .i64)))
def R33 : Cod (Bool) := codBool
noncomputable def E33 (N : Nat) : Env := ⟨Try.prog, [(45, C45 N), (46, C46 N)]⟩
def O33 (N : Nat) : Opts := ⟨N, [], []⟩
noncomputable def F33 (N : Nat) (a : ((Int) × List PV) × Int) : Option (Bool) := aTyped (E33 N) (O33 N) Try.f33 A33 R33 a
theorem F33_eq (N : Nat) (a0 : Int × List PV) (a1 : Int) : F33 N (a0, a1) =
    onSome (F45 N a1) fun y0 =>
  aGd (decide ((0 : Int) ≤ y0))
    (aIf
      (IntKind.wrap IntKind.i64
          (Int.ofNat (BitVec.toNat (BitVec.ofInt (64 : Nat) (Int.fdiv (Prod.fst a0) ((2 : Int) ^ min (Int.toNat y0) (64 : Nat))) &&& BitVec.ofInt (64 : Nat) (1 : Int)))) ==
        (1 : Int))
      (some false) (onSome (F46 N (Prod.snd a0, a1)) fun y1 => some !Prod.snd y1)) := by kernel_rfl
noncomputable def C33 (N : Nat) : Callee := mkCallee A33 R33 (F33 N)
theorem S33 (N : Nat) : Cok 33 (C33 N) := cok_of (l := (E33 N).calls) (O := O33 N) (cok_cons (S45 N) (cok_cons (S46 N) cok_nil)) rfl Try.func33 rfl (by kernel_rfl) (by kernel_rfl)

-- function 15
def A15 : Cods ((Int) × List PV) := (codsOne (codAgg (codsCons (codInt .i64) (codsOne (codSl 1)))))
def R15 : Cod (Bool) := codBool
noncomputable def E15 (N : Nat) : Env := ⟨Try.prog, [(32, C32 N)]⟩
def O15 (N : Nat) : Opts := ⟨N, [(5, ⟨[23, 3, 21, 22], [], [], 1⟩)], []⟩
noncomputable def F15 (N : Nat) (a : (Int) × List PV) : Option (Bool) := aTyped (E15 N) (O15 N) Try.f15 A15 R15 a
noncomputable def L15_5 (N : Nat) (n : Nat) (x0 : Int) (x1 : List PV) (x2 : Int) (x3 : Int) (x4 : Int) (x5 : List PV) : Option Bool :=
  atLoop (E15 N) (O15 N) Try.f15 [(1 : Nat), (1 : Nat), (1 : Nat), (0 : Nat), (1 : Nat), (0 : Nat)] [] n
  {
    tmps :=
      [AV.top, AV.top, AV.top, AV.p (PV.int IntKind.i64 x0), AV.top, AV.top, AV.top, AV.top, AV.top, AV.top, AV.top, AV.top, AV.top, AV.top, AV.top, AV.top, AV.top, AV.top, AV.top,
        AV.top, AV.top, AV.p (PV.sl (1 : Nat) x1), AV.p (PV.int IntKind.i64 x2), AV.p (PV.int IntKind.i64 x3), AV.top, AV.top, AV.top, AV.top, AV.top, AV.top, AV.top, AV.top,
        AV.top, AV.top, AV.top, AV.top, AV.top],
    heap := [Blk.box [AV.p (PV.int IntKind.i64 x4), AV.p (PV.sl (1 : Nat) x5)]] }
  fun x => Cod.dec R15 x some
theorem L15_5_eq (N : Nat) (n : Nat) (x0 : Int) (x1 : List PV) (x2 : Int) (x3 : Int) (x4 : Int) (x5 : List PV) : L15_5 N (n + 1) x0 x1 x2 x3 x4 x5 =
    aIf (decide (x3 < x2))
  (onGet x1 x3 fun z0 =>
    onInt IntKind.i64 z0 fun n1 =>
      onSome (F32 N n1) fun y2 => aIf (!y2) (some false) (aIf (decide (n1 ≤ x0)) (some false) (L15_5 N n n1 x1 x2 (IntKind.wrap IntKind.i64 (x3 + (1 : Int))) x4 x5)))
  (some true) := by kernel_rfl
theorem L15_5_zero (N : Nat) (x0 : Int) (x1 : List PV) (x2 : Int) (x3 : Int) (x4 : Int) (x5 : List PV) : L15_5 N 0 x0 x1 x2 x3 x4 x5 = none := by kernel_rfl
theorem F15_eq (N : Nat) (a0 : Int) (a1 : List PV) : F15 N (a0, a1) =
    aIf (decide (a0 < (0 : Int))) (some false)
  (aIf (decide ((126 : Int) < a0)) (some false)
    (aIf (decide ((64 : Int) < Int.ofNat (List.length a1))) (some false) (L15_5 N N (-1 : Int) a1 (Int.ofNat (List.length a1)) (0 : Int) a0 a1))) := by kernel_rfl
noncomputable def C15 (N : Nat) : Callee := mkCallee A15 R15 (F15 N)
theorem S15 (N : Nat) : Cok 15 (C15 N) := cok_of (l := (E15 N).calls) (O := O15 N) (cok_cons (S32 N) cok_nil) rfl Try.func15 rfl (by kernel_rfl) (by kernel_rfl)

-- function 13
def A13 : Cods (((Int) × List PV) × Int) := (codsCons (codAgg (codsCons (codInt .i64) (codsOne (codSl 1)))) (codsOne (codInt .i64)))
def R13 : Cod ((Int) × Int) := (codTup (codsCons (codInt .i64) (codsOne (codInt .i64))))
noncomputable def E13 (N : Nat) : Env := ⟨Try.prog, [(15, C15 N), (32, C32 N), (33, C33 N)]⟩
def O13 (N : Nat) : Opts := ⟨N, [(5, ⟨[1, 2], [], [], 1⟩)], []⟩
noncomputable def F13 (N : Nat) (a : ((Int) × List PV) × Int) : Option ((Int) × Int) := aTyped (E13 N) (O13 N) Try.f13 A13 R13 a
noncomputable def L13_5 (N : Nat) (n : Nat) (x0 : Int) (x1 : Int) (x2 : List PV) : Option (Int × Int) :=
  atLoop (E13 N) (O13 N) Try.f13 [(1 : Nat), (1 : Nat), (1 : Nat), (0 : Nat), (0 : Nat)] [] n
  {
    tmps :=
      [AV.top, AV.p (PV.int IntKind.i64 x0), AV.box (0 : Nat) (0 : Nat), AV.top, AV.top, AV.top, AV.top, AV.top, AV.top, AV.top, AV.top, AV.top, AV.top, AV.top, AV.top, AV.top,
        AV.top, AV.top, AV.top, AV.top],
    heap := [Blk.box [AV.p (PV.int IntKind.i64 x1), AV.p (PV.sl (1 : Nat) x2)]] }
  fun x => Cod.dec R13 x some
theorem L13_5_eq (N : Nat) (n : Nat) (x0 : Int) (x1 : Int) (x2 : List PV) : L13_5 N (n + 1) x0 x1 x2 =
    aIf (decide (x0 ≤ (109572 : Int))) (onSome (F33 N ((x1, x2), x0)) fun y2 => aIf y2 (some (x0, (0 : Int))) (L13_5 N n (IntKind.wrap IntKind.i64 (x0 + (1 : Int))) x1 x2))
  (some ((0 : Int), (6 : Int))) := by kernel_rfl
theorem L13_5_zero (N : Nat) (x0 : Int) (x1 : Int) (x2 : List PV) : L13_5 N 0 x0 x1 x2 = none := by kernel_rfl
theorem F13_eq (N : Nat) (a0 : Int × List PV) (a1 : Int) : F13 N (a0, a1) =
    onSome (F15 N (Prod.fst a0, Prod.snd a0)) fun y0 =>
  aIf (!y0) (some ((0 : Int), (1 : Int))) (onSome (F32 N a1) fun y1 => aIf (!y1) (some ((0 : Int), (3 : Int))) (L13_5 N N a1 (Prod.fst a0) (Prod.snd a0))) := by kernel_rfl
noncomputable def C13 (N : Nat) : Callee := mkCallee A13 R13 (F13 N)
theorem S13 (N : Nat) : Cok 13 (C13 N) := cok_of (l := (E13 N).calls) (O := O13 N) (cok_cons (S15 N) (cok_cons (S32 N) (cok_cons (S33 N) cok_nil))) rfl Try.func13 rfl (by kernel_rfl) (by kernel_rfl)

-- function 19
def A19 : Cods (((Int) × List PV) × (Int) × Int) := (codsCons (codAgg (codsCons (codInt .i64) (codsOne (codSl 1)))) (codsCons (codInt .i64) (codsOne (codInt .i64))))
def R19 : Cod ((Int) × Int) := (codTup (codsCons (codInt .i64) (codsOne (codInt .i64))))
noncomputable def E19 (N : Nat) : Env := ⟨Try.prog, [(13, C13 N), (15, C15 N), (32, C32 N), (33, C33 N)]⟩
def O19 (N : Nat) : Opts := ⟨N, [(8, ⟨[1, 2, 3], [], [], 1⟩)], []⟩
noncomputable def F19 (N : Nat) (a : ((Int) × List PV) × (Int) × Int) : Option ((Int) × Int) := aTyped (E19 N) (O19 N) Try.f19 A19 R19 a
noncomputable def L19_8 (N : Nat) (n : Nat) (x0 : Int) (x1 : Int) (x2 : Int) (x3 : List PV) : Option (Int × Int) :=
  atLoop (E19 N) (O19 N) Try.f19 [(1 : Nat), (1 : Nat), (1 : Nat), (1 : Nat), (0 : Nat), (1 : Nat), (0 : Nat)] [] n
  {
    tmps :=
      [AV.top, AV.p (PV.int IntKind.i64 x0), AV.p (PV.int IntKind.i64 x1), AV.box (0 : Nat) (0 : Nat), AV.top, AV.top, AV.top, AV.top, AV.top, AV.top, AV.top, AV.top, AV.top,
        AV.top, AV.top, AV.top, AV.top, AV.top, AV.top, AV.top, AV.top, AV.top, AV.top, AV.top, AV.top, AV.top, AV.top, AV.top, AV.top, AV.top, AV.top, AV.top, AV.top, AV.top,
        AV.top, AV.top, AV.top, AV.top, AV.top, AV.top, AV.top, AV.top, AV.top, AV.top],
    heap := [Blk.box [AV.p (PV.int IntKind.i64 x2), AV.p (PV.sl (1 : Nat) x3)]] }
  fun x => Cod.dec R19 x some
theorem L19_8_eq (N : Nat) (n : Nat) (x0 : Int) (x1 : Int) (x2 : Int) (x3 : List PV) : L19_8 N (n + 1) x0 x1 x2 x3 =
    aIf (decide (x0 ≤ (109572 : Int)))
  (onSome (F33 N ((x2, x3), x0)) fun y3 =>
    aIf (!y3) (L19_8 N n (IntKind.wrap IntKind.i64 (x0 + (1 : Int))) x1 x2 x3)
      (aIf (IntKind.wrap IntKind.i64 (x1 - (1 : Int)) == (0 : Int)) (some (x0, (0 : Int)))
        (L19_8 N n (IntKind.wrap IntKind.i64 (x0 + (1 : Int))) (IntKind.wrap IntKind.i64 (x1 - (1 : Int))) x2 x3)))
  (some ((0 : Int), (6 : Int))) := by kernel_rfl
theorem L19_8_zero (N : Nat) (x0 : Int) (x1 : Int) (x2 : Int) (x3 : List PV) : L19_8 N 0 x0 x1 x2 x3 = none := by kernel_rfl
theorem F19_eq (N : Nat) (a0 : Int × List PV) (a1 : Int) (a2 : Int) : F19 N (a0, a1, a2) =
    aIf (a2 == (0 : Int)) (onSome (F13 N ((Prod.fst a0, Prod.snd a0), a1)) fun y0 => some (Prod.fst y0, Prod.snd y0))
  (onSome (F15 N (Prod.fst a0, Prod.snd a0)) fun y1 =>
    aIf (!y1) (some ((0 : Int), (1 : Int)))
      (onSome (F32 N a1) fun y2 =>
        aIf (!y2) (some ((0 : Int), (3 : Int)))
          (aIf (decide (a2 < (0 : Int))) (some ((0 : Int), (3 : Int)))
            (aIf (decide ((365 : Int) < a2)) (some ((0 : Int), (3 : Int))) (L19_8 N N (IntKind.wrap IntKind.i64 (a1 + (1 : Int))) a2 (Prod.fst a0) (Prod.snd a0)))))) := by kernel_rfl
noncomputable def C19 (N : Nat) : Callee := mkCallee A19 R19 (F19 N)
theorem S19 (N : Nat) : Cok 19 (C19 N) := cok_of (l := (E19 N).calls) (O := O19 N) (cok_cons (S13 N) (cok_cons (S15 N) (cok_cons (S32 N) (cok_cons (S33 N) cok_nil)))) rfl Try.func19 rfl (by kernel_rfl) (by kernel_rfl)

-- function 39
def A39 : Cods (((Int) × List PV) × (Int) × Int) := (codsCons (codAgg (codsCons (codInt .i64) (codsOne (codSl 1)))) (codsCons (codInt .i64) (codsOne (codInt .i64))))
def R39 : Cod (Int) := (codInt .i64)
noncomputable def E39 (N : Nat) : Env := ⟨Try.prog, [(19, C19 N)]⟩
def O39 (N : Nat) : Opts := ⟨N, [], []⟩
noncomputable def F39 (N : Nat) (a : ((Int) × List PV) × (Int) × Int) : Option (Int) := aTyped (E39 N) (O39 N) Try.f39 A39 R39 a
theorem F39_eq (N : Nat) (a0 : Int × List PV) (a1 : Int) (a2 : Int) : F39 N (a0, a1, a2) =
    onSome (F19 N ((Prod.fst a0, Prod.snd a0), a1, a2)) fun y0 => aIf (Prod.snd y0 != (0 : Int)) (some (109572 : Int)) (some (Prod.fst y0)) := by kernel_rfl
noncomputable def C39 (N : Nat) : Callee := mkCallee A39 R39 (F39 N)
theorem S39 (N : Nat) : Cok 39 (C39 N) := cok_of (l := (E39 N).calls) (O := O39 N) (cok_cons (S19 N) cok_nil) rfl Try.func39 rfl (by kernel_rfl) (by kernel_rfl)

-- function 38
def A38 : Cods ((Int) × Int) := (codsCons (codInt .i64) (codsOne (codInt .i64)))
def R38 : Cod (Bool) := codBool
noncomputable def E38 (N : Nat) : Env := ⟨Try.prog, []⟩
def O38 (N : Nat) : Opts := ⟨N, [], []⟩
noncomputable def F38 (N : Nat) (a : (Int) × Int) : Option (Bool) := aTyped (E38 N) (O38 N) Try.f38 A38 R38 a
theorem F38_eq (N : Nat) (a0 : Int) (a1 : Int) : F38 N (a0, a1) =
    aIf (decide ((0 : Int) ≤ a0))
  (aIf (decide (a0 < a1)) (aIf (decide (a1 ≤ (3600 : Int))) (some (decide (IntKind.wrap IntKind.i64 (a1 - a0) ≤ (120 : Int)))) (some false)) (some false)) (some false) := by kernel_rfl
noncomputable def C38 (N : Nat) : Callee := mkCallee A38 R38 (F38 N)
theorem S38 (N : Nat) : Cok 38 (C38 N) := cok_of (l := (E38 N).calls) (O := O38 N) cok_nil rfl Try.func38 rfl (by kernel_rfl) (by kernel_rfl)

-- function 37
def A37 : Cods (Int) := (codsOne (codInt .i64))
def R37 : Cod (Bool) := codBool
noncomputable def E37 (N : Nat) : Env := ⟨Try.prog, []⟩
def O37 (N : Nat) : Opts := ⟨N, [], []⟩
noncomputable def F37 (N : Nat) (a : Int) : Option (Bool) := aTyped (E37 N) (O37 N) Try.f37 A37 R37 a
theorem F37_eq (N : Nat) (a0 : Int) : F37 N a0 =
    aIf (decide ((0 : Int) ≤ a0)) (some (decide (a0 ≤ (109572 : Int)))) (some false) := by kernel_rfl
noncomputable def C37 (N : Nat) : Callee := mkCallee A37 R37 (F37 N)
theorem S37 (N : Nat) : Cok 37 (C37 N) := cok_of (l := (E37 N).calls) (O := O37 N) cok_nil rfl Try.func37 rfl (by kernel_rfl) (by kernel_rfl)

-- function 24
def A24 : Cods ((Int) × (Int) × (Int) × (Int) × (Int) × (Int) × (Int) × (Int) × (Int) × (Int) × (Int) × (Int) × (Int) × List PV) := (codsCons (codInt .i64) (codsCons (codInt .i64) (codsCons (codInt .i64) (codsCons (codInt .i64) (codsCons (codInt .i64) (codsOne (codAgg (codsCons (codInt .i64) (codsCons (codInt .i64) (codsCons (codInt .i64) (codsCons (codInt .i64) (codsCons (codInt .i64) (codsCons (codInt .i64) (codsCons (codInt .i64) (codsCons (codInt .i64) (codsOne (codSl 1)))))))))))))))))
def R24 : Cod (((Int) × (Int) × (Int) × (Int) × (Int) × (Int) × Int) × Int) := (codTup (codsCons (codAgg (codsCons (codInt .i64) (codsCons (codInt .i64) (codsCons (codInt .i64) (codsCons (codInt .i64) (codsCons (codInt .i64) (codsCons (codInt .i64) (codsOne (codInt .i64))))))))) (codsOne (codInt .i64))))
noncomputable def E24 (N : Nat) : Env := ⟨Try.prog, [(37, C37 N), (38, C38 N), (15, C15 N), (39, C39 N)]⟩
def O24 (N : Nat) : Opts := ⟨N, [], []⟩
noncomputable def F24 (N : Nat) (a : (Int) × (Int) × (Int) × (Int) × (Int) × (Int) × (Int) × (Int) × (Int) × (Int) × (Int) × (Int) × (Int) × List PV) : Option (((Int) × (Int) × (Int) × (Int) × (Int) × (Int) × Int) × Int) := aTyped (E24 N) (O24 N) Try.f24 A24 R24 a
theorem F24_eq (N : Nat) (a0 : Int) (a1 : Int) (a2 : Int) (a3 : Int) (a4 : Int) (a5 : Int) (a6 : Int) (a7 : Int) (a8 : Int) (a9 : Int) (a10 : Int) (a11 : Int) (a12 : Int) (a13 : List PV) : F24 N (a0, a1, a2, a3, a4, a5, a6, a7, a8, a9, a10, a11, a12, a13) =
    aIf (decide (a0 < (0 : Int))) (aGd (decide ((0 : Nat) + (7 : Nat) ≤ (7 : Nat))) (some (((0 : Int), (0 : Int), (0 : Int), (0 : Int), (0 : Int), (0 : Int), (0 : Int)), (3 : Int))))
  (onSome (F37 N a3) fun y0 =>
    aIf (!y0) (aGd (decide ((0 : Nat) + (7 : Nat) ≤ (7 : Nat))) (some (((0 : Int), (0 : Int), (0 : Int), (0 : Int), (0 : Int), (0 : Int), (0 : Int)), (3 : Int))))
      (onSome (F37 N a4) fun y1 =>
        aIf (!y1) (aGd (decide ((0 : Nat) + (7 : Nat) ≤ (7 : Nat))) (some (((0 : Int), (0 : Int), (0 : Int), (0 : Int), (0 : Int), (0 : Int), (0 : Int)), (3 : Int))))
          (onSome (F38 N (a1, a2)) fun y2 =>
            aIf (!y2) (aGd (decide ((0 : Nat) + (7 : Nat) ≤ (7 : Nat))) (some (((0 : Int), (0 : Int), (0 : Int), (0 : Int), (0 : Int), (0 : Int), (0 : Int)), (3 : Int))))
              (aIf (decide (a3 < a4))
                (aGd (decide ((0 : Nat) + (7 : Nat) ≤ (7 : Nat))) (some (((0 : Int), (0 : Int), (0 : Int), (0 : Int), (0 : Int), (0 : Int), (0 : Int)), (14 : Int))))
                (onSome (F15 N (a12, a13)) fun y3 =>
                  aIf (!y3) (aGd (decide ((0 : Nat) + (7 : Nat) ≤ (7 : Nat))) (some (((0 : Int), (0 : Int), (0 : Int), (0 : Int), (0 : Int), (0 : Int), (0 : Int)), (1 : Int))))
                    (aIf (decide (a11 < (0 : Int)))
                      (aGd (decide ((0 : Nat) + (7 : Nat) ≤ (7 : Nat))) (some (((0 : Int), (0 : Int), (0 : Int), (0 : Int), (0 : Int), (0 : Int), (0 : Int)), (1 : Int))))
                      (aIf (decide ((365 : Int) < a11))
                        (aGd (decide ((0 : Nat) + (7 : Nat) ≤ (7 : Nat))) (some (((0 : Int), (0 : Int), (0 : Int), (0 : Int), (0 : Int), (0 : Int), (0 : Int)), (1 : Int))))
                        (aGd (decide ((0 : Nat) + (7 : Nat) ≤ (7 : Nat)))
                          (onSome (F39 N ((a12, a13), a4, a11)) fun y4 =>
                            aIf (decide (a3 ≤ y4))
                              (aGd (decide ((5 : Nat) + (1 : Nat) ≤ (7 : Nat)))
                                (onSome (F39 N ((a12, a13), a3, (60 : Int))) fun y5 =>
                                  aGd (decide ((4 : Nat) + (1 : Nat) ≤ (7 : Nat)))
                                    (aGd (decide ((0 : Nat) + (7 : Nat) ≤ (7 : Nat))) (some ((a0, a1, a2, a3, y5, (1 : Int), (0 : Int)), (0 : Int))))))
                              (aGd (decide ((0 : Nat) + (7 : Nat) ≤ (7 : Nat))) (some ((a0, a1, a2, a3, a3, (6 : Int), (0 : Int)), (0 : Int))))))))))))) := by kernel_rfl
noncomputable def C24 (N : Nat) : Callee := mkCallee A24 R24 (F24 N)
theorem S24 (N : Nat) : Cok 24 (C24 N) := cok_of (l := (E24 N).calls) (O := O24 N) (cok_cons (S37 N) (cok_cons (S38 N) (cok_cons (S15 N) (cok_cons (S39 N) cok_nil)))) rfl Try.func24 rfl (by kernel_rfl) (by kernel_rfl)

-- function 43
def A43 : Cods ((Int) × Int) := (codsCons (codInt .i64) (codsOne (codInt .i64)))
def R43 : Cod (Bool) := codBool
noncomputable def E43 (N : Nat) : Env := ⟨Try.prog, []⟩
def O43 (N : Nat) : Opts := ⟨N, [], []⟩
noncomputable def F43 (N : Nat) (a : (Int) × Int) : Option (Bool) := aTyped (E43 N) (O43 N) Try.f43 A43 R43 a
theorem F43_eq (N : Nat) (a0 : Int) (a1 : Int) : F43 N (a0, a1) =
    aIf (a1 == (2 : Int)) (some (a0 == (1 : Int)))
  (aIf (a1 == (3 : Int)) (some (a0 == (2 : Int)))
    (aIf (a1 == (4 : Int)) (aIf (a1 == (4 : Int)) (aIf (a0 == (1 : Int)) (some true) (some (a0 == (2 : Int)))) (some false))
      (aIf (a1 == (5 : Int)) (aIf (a0 == (1 : Int)) (some true) (some (a0 == (2 : Int)))) (some false)))) := by kernel_rfl
noncomputable def C43 (N : Nat) : Callee := mkCallee A43 R43 (F43 N)
theorem S43 (N : Nat) : Cok 43 (C43 N) := cok_of (l := (E43 N).calls) (O := O43 N) cok_nil rfl Try.func43 rfl (by kernel_rfl) (by kernel_rfl)

-- function 26
def A26 : Cods (((Int) × (Int) × (Int) × (Int) × (Int) × (Int) × Int) × (Int) × (Int) × Int) := (codsCons (codAgg (codsCons (codInt .i64) (codsCons (codInt .i64) (codsCons (codInt .i64) (codsCons (codInt .i64) (codsCons (codInt .i64) (codsCons (codInt .i64) (codsOne (codInt .i64))))))))) (codsCons (codInt .i64) (codsCons (codInt .i64) (codsOne (codInt .i64)))))
def R26 : Cod (((Int) × (Int) × (Int) × (Int) × (Int) × (Int) × Int) × Int) := (codTup (codsCons (codAgg (codsCons (codInt .i64) (codsCons (codInt .i64) (codsCons (codInt .i64) (codsCons (codInt .i64) (codsCons (codInt .i64) (codsCons (codInt .i64) (codsOne (codInt .i64))))))))) (codsOne (codInt .i64))))
noncomputable def E26 (N : Nat) : Env := ⟨Try.prog, [(43, C43 N)]⟩
def O26 (N : Nat) : Opts := ⟨N, [], []⟩
noncomputable def F26 (N : Nat) (a : ((Int) × (Int) × (Int) × (Int) × (Int) × (Int) × Int) × (Int) × (Int) × Int) : Option (((Int) × (Int) × (Int) × (Int) × (Int) × (Int) × Int) × Int) := aTyped (E26 N) (O26 N) Try.f26 A26 R26 a
theorem F26_eq (N : Nat) (a0 : Int × Int × Int × Int × Int × Int × Int) (a1 : Int) (a2 : Int) (a3 : Int) : F26 N (a0, a1, a2, a3) =
    onSome (F43 N (Prod.fst (Prod.snd (Prod.snd (Prod.snd (Prod.snd (Prod.snd a0))))), a1)) fun y0 =>
  aIf (!y0) (aGd (decide ((0 : Nat) + (7 : Nat) ≤ (7 : Nat))) (some (((0 : Int), (0 : Int), (0 : Int), (0 : Int), (0 : Int), (0 : Int), (0 : Int)), (13 : Int))))
    (aIf (decide (a3 < Prod.fst (Prod.snd (Prod.snd (Prod.snd a0)))))
      (aGd (decide ((0 : Nat) + (7 : Nat) ≤ (7 : Nat))) (some (((0 : Int), (0 : Int), (0 : Int), (0 : Int), (0 : Int), (0 : Int), (0 : Int)), (9 : Int))))
      (aIf (decide (Prod.fst (Prod.snd (Prod.snd (Prod.snd (Prod.snd a0)))) < a3))
        (aIf (a1 == (2 : Int)) (aGd (decide ((0 : Nat) + (7 : Nat) ≤ (7 : Nat))) (some (((0 : Int), (0 : Int), (0 : Int), (0 : Int), (0 : Int), (0 : Int), (0 : Int)), (14 : Int))))
          (aIf (a1 == (3 : Int))
            (aGd (decide ((0 : Nat) + (7 : Nat) ≤ (7 : Nat))) (some (((0 : Int), (0 : Int), (0 : Int), (0 : Int), (0 : Int), (0 : Int), (0 : Int)), (14 : Int))))
            (aIf (decide (a2 < (0 : Int)))
              (aGd (decide ((0 : Nat) + (7 : Nat) ≤ (7 : Nat))) (some (((0 : Int), (0 : Int), (0 : Int), (0 : Int), (0 : Int), (0 : Int), (0 : Int)), (3 : Int))))
              (aIf (decide ((1000000000000000 : Int) < a2))
                (aGd (decide ((0 : Nat) + (7 : Nat) ≤ (7 : Nat))) (some (((0 : Int), (0 : Int), (0 : Int), (0 : Int), (0 : Int), (0 : Int), (0 : Int)), (3 : Int))))
                (aIf (a2 != (0 : Int))
                  (aIf (a1 != (3 : Int))
                    (aGd (decide ((0 : Nat) + (7 : Nat) ≤ (7 : Nat))) (some (((0 : Int), (0 : Int), (0 : Int), (0 : Int), (0 : Int), (0 : Int), (0 : Int)), (3 : Int))))
                    (aGd (decide ((5 : Nat) + (1 : Nat) ≤ (7 : Nat)))
                      (aGd (decide ((6 : Nat) + (1 : Nat) ≤ (7 : Nat)))
                        (aGd (decide ((0 : Nat) + (7 : Nat) ≤ (7 : Nat)))
                          (some
                            ((Prod.fst a0, Prod.fst (Prod.snd a0), Prod.fst (Prod.snd (Prod.snd a0)), Prod.fst (Prod.snd (Prod.snd (Prod.snd a0))),
                                Prod.fst (Prod.snd (Prod.snd (Prod.snd (Prod.snd a0)))), a1, a2),
                              (0 : Int)))))))
                  (aGd (decide ((5 : Nat) + (1 : Nat) ≤ (7 : Nat)))
                    (aGd (decide ((6 : Nat) + (1 : Nat) ≤ (7 : Nat)))
                      (aGd (decide ((0 : Nat) + (7 : Nat) ≤ (7 : Nat)))
                        (some
                          ((Prod.fst a0, Prod.fst (Prod.snd a0), Prod.fst (Prod.snd (Prod.snd a0)), Prod.fst (Prod.snd (Prod.snd (Prod.snd a0))),
                              Prod.fst (Prod.snd (Prod.snd (Prod.snd (Prod.snd a0)))), a1, a2),
                            (0 : Int)))))))))))
        (aIf (decide (a2 < (0 : Int)))
          (aGd (decide ((0 : Nat) + (7 : Nat) ≤ (7 : Nat))) (some (((0 : Int), (0 : Int), (0 : Int), (0 : Int), (0 : Int), (0 : Int), (0 : Int)), (3 : Int))))
          (aIf (decide ((1000000000000000 : Int) < a2))
            (aGd (decide ((0 : Nat) + (7 : Nat) ≤ (7 : Nat))) (some (((0 : Int), (0 : Int), (0 : Int), (0 : Int), (0 : Int), (0 : Int), (0 : Int)), (3 : Int))))
            (aIf (a2 != (0 : Int))
              (aIf (a1 != (3 : Int))
                (aGd (decide ((0 : Nat) + (7 : Nat) ≤ (7 : Nat))) (some (((0 : Int), (0 : Int), (0 : Int), (0 : Int), (0 : Int), (0 : Int), (0 : Int)), (3 : Int))))
                (aGd (decide ((5 : Nat) + (1 : Nat) ≤ (7 : Nat)))
                  (aGd (decide ((6 : Nat) + (1 : Nat) ≤ (7 : Nat)))
                    (aGd (decide ((0 : Nat) + (7 : Nat) ≤ (7 : Nat)))
                      (some
                        ((Prod.fst a0, Prod.fst (Prod.snd a0), Prod.fst (Prod.snd (Prod.snd a0)), Prod.fst (Prod.snd (Prod.snd (Prod.snd a0))),
                            Prod.fst (Prod.snd (Prod.snd (Prod.snd (Prod.snd a0)))), a1, a2),
                          (0 : Int)))))))
              (aGd (decide ((5 : Nat) + (1 : Nat) ≤ (7 : Nat)))
                (aGd (decide ((6 : Nat) + (1 : Nat) ≤ (7 : Nat)))
                  (aGd (decide ((0 : Nat) + (7 : Nat) ≤ (7 : Nat)))
                    (some
                      ((Prod.fst a0, Prod.fst (Prod.snd a0), Prod.fst (Prod.snd (Prod.snd a0)), Prod.fst (Prod.snd (Prod.snd (Prod.snd a0))),
                          Prod.fst (Prod.snd (Prod.snd (Prod.snd (Prod.snd a0)))), a1, a2),
                        (0 : Int))))))))))) := by kernel_rfl
noncomputable def C26 (N : Nat) : Callee := mkCallee A26 R26 (F26 N)
theorem S26 (N : Nat) : Cok 26 (C26 N) := cok_of (l := (E26 N).calls) (O := O26 N) (cok_cons (S43 N) cok_nil) rfl Try.func26 rfl (by kernel_rfl) (by kernel_rfl)

-- function 28
def A28 : Cods ((Int) × (Int) × (Int) × (Int) × (Int) × (Int) × Int) := (codsOne (codAgg (codsCons (codInt .i64) (codsCons (codInt .i64) (codsCons (codInt .i64) (codsCons (codInt .i64) (codsCons (codInt .i64) (codsCons (codInt .i64) (codsOne (codInt .i64))))))))))
def R28 : Cod (Bool) := codBool
noncomputable def E28 (N : Nat) : Env := ⟨Try.prog, [(38, C38 N)]⟩
def O28 (N : Nat) : Opts := ⟨N, [], []⟩
noncomputable def F28 (N : Nat) (a : (Int) × (Int) × (Int) × (Int) × (Int) × (Int) × Int) : Option (Bool) := aTyped (E28 N) (O28 N) Try.f28 A28 R28 a
theorem F28_eq (N : Nat) (a0 : Int) (a1 : Int) (a2 : Int) (a3 : Int) (a4 : Int) (a5 : Int) (a6 : Int) : F28 N (a0, a1, a2, a3, a4, a5, a6) =
    aIf (decide (a0 < (0 : Int))) (some false)
  (onSome (F38 N (a1, a2)) fun y0 =>
    aIf (!y0) (some false)
      (aIf (decide (a3 < (0 : Int))) (some false)
        (aIf (decide (a4 < a3)) (some false)
          (aIf (decide ((109572 : Int) < a4)) (some false)
            (aIf (decide (a5 < (1 : Int))) (some false)
              (aIf (decide ((6 : Int) < a5)) (some false)
                (aIf (a6 == (0 : Int)) (some true)
                  (aIf (a5 == (3 : Int)) (aIf (decide ((0 : Int) < a6)) (some (decide (a6 ≤ (1000000000000000 : Int)))) (some false)) (some false))))))))) := by kernel_rfl
noncomputable def C28 (N : Nat) : Callee := mkCallee A28 R28 (F28 N)
theorem S28 (N : Nat) : Cok 28 (C28 N) := cok_of (l := (E28 N).calls) (O := O28 N) (cok_cons (S38 N) cok_nil) rfl Try.func28 rfl (by kernel_rfl) (by kernel_rfl)

-- function 30
def A30 : Cods ((Int) × (Int) × (Int) × (Int) × (Int) × (Int) × Int) := (codsOne (codAgg (codsCons (codInt .i64) (codsCons (codInt .i64) (codsCons (codInt .i64) (codsCons (codInt .i64) (codsCons (codInt .i64) (codsCons (codInt .i64) (codsOne (codInt .i64))))))))))
def R30 : Cod (Bool) := codBool
noncomputable def E30 (N : Nat) : Env := ⟨Try.prog, []⟩
def O30 (N : Nat) : Opts := ⟨N, [], []⟩
noncomputable def F30 (N : Nat) (a : (Int) × (Int) × (Int) × (Int) × (Int) × (Int) × Int) : Option (Bool) := aTyped (E30 N) (O30 N) Try.f30 A30 R30 a
theorem F30_eq (N : Nat) (a0 : Int) (a1 : Int) (a2 : Int) (a3 : Int) (a4 : Int) (a5 : Int) (a6 : Int) : F30 N (a0, a1, a2, a3, a4, a5, a6) =
    aIf (decide ((3 : Int) ≤ a5)) (some (decide (a5 ≤ (6 : Int)))) (some false) := by kernel_rfl
noncomputable def C30 (N : Nat) : Callee := mkCallee A30 R30 (F30 N)
theorem S30 (N : Nat) : Cok 30 (C30 N) := cok_of (l := (E30 N).calls) (O := O30 N) cok_nil rfl Try.func30 rfl (by kernel_rfl) (by kernel_rfl)

-- function 23
def A23 : Cods (Unit) := codsNil
def R23 : Cod (Bool) := codBool
noncomputable def E23 (N : Nat) : Env := ⟨Try.prog, [(24, C24 N), (26, C26 N), (30, C30 N), (28, C28 N)]⟩
def O23 (N : Nat) : Opts := ⟨N, [], []⟩
noncomputable def F23 (N : Nat) (a : Unit) : Option (Bool) := aTyped (E23 N) (O23 N) Try.f23 A23 R23 a
theorem F23_eq (N : Nat)  : F23 N () =
    onSome (F24 N ((7 : Int), (3 : Int), (5 : Int), (102 : Int), (100 : Int), (0 : Int), (0 : Int), (0 : Int), (0 : Int), (0 : Int), (0 : Int), (5 : Int), (0 : Int), [])) fun y0 =>
  aGd (decide ((0 : Nat) + (7 : Nat) ≤ (7 : Nat)))
    (onSome
      (F26 N
        ((Prod.fst (Prod.fst y0), Prod.fst (Prod.snd (Prod.fst y0)), Prod.fst (Prod.snd (Prod.snd (Prod.fst y0))), Prod.fst (Prod.snd (Prod.snd (Prod.snd (Prod.fst y0)))),
            Prod.fst (Prod.snd (Prod.snd (Prod.snd (Prod.snd (Prod.fst y0))))), Prod.fst (Prod.snd (Prod.snd (Prod.snd (Prod.snd (Prod.snd (Prod.fst y0)))))),
            Prod.snd (Prod.snd (Prod.snd (Prod.snd (Prod.snd (Prod.snd (Prod.fst y0))))))),
          (2 : Int), (0 : Int), (110 : Int)))
      fun y1 =>
      aGd (decide ((0 : Nat) + (7 : Nat) ≤ (7 : Nat)))
        (onSome
          (F26 N
            ((Prod.fst (Prod.fst y1), Prod.fst (Prod.snd (Prod.fst y1)), Prod.fst (Prod.snd (Prod.snd (Prod.fst y1))), Prod.fst (Prod.snd (Prod.snd (Prod.snd (Prod.fst y1)))),
                Prod.fst (Prod.snd (Prod.snd (Prod.snd (Prod.snd (Prod.fst y1))))), Prod.fst (Prod.snd (Prod.snd (Prod.snd (Prod.snd (Prod.snd (Prod.fst y1)))))),
                Prod.snd (Prod.snd (Prod.snd (Prod.snd (Prod.snd (Prod.snd (Prod.fst y1))))))),
              (3 : Int), (5000 : Int), (120 : Int)))
          fun y2 =>
          aGd (decide ((0 : Nat) + (7 : Nat) ≤ (7 : Nat)))
            (onSome
              (F26 N
                ((Prod.fst (Prod.fst y0), Prod.fst (Prod.snd (Prod.fst y0)), Prod.fst (Prod.snd (Prod.snd (Prod.fst y0))), Prod.fst (Prod.snd (Prod.snd (Prod.snd (Prod.fst y0)))),
                    Prod.fst (Prod.snd (Prod.snd (Prod.snd (Prod.snd (Prod.fst y0))))), Prod.fst (Prod.snd (Prod.snd (Prod.snd (Prod.snd (Prod.snd (Prod.fst y0)))))),
                    Prod.snd (Prod.snd (Prod.snd (Prod.snd (Prod.snd (Prod.snd (Prod.fst y0))))))),
                  (3 : Int), (5000 : Int), (120 : Int)))
              fun y3 =>
              aGd (decide ((0 : Nat) + (7 : Nat) ≤ (7 : Nat)))
                (onSome
                  (F24 N ((7 : Int), (3 : Int), (5 : Int), (106 : Int), (100 : Int), (0 : Int), (0 : Int), (0 : Int), (0 : Int), (0 : Int), (0 : Int), (5 : Int), (0 : Int), []))
                  fun y4 =>
                  aGd (decide ((0 : Nat) + (7 : Nat) ≤ (7 : Nat)))
                    (aIf (Prod.snd y0 == (0 : Int))
                      (aIf (Prod.snd y1 == (0 : Int))
                        (aIf (Prod.snd y2 == (0 : Int))
                          (aIf (Prod.snd y3 == (13 : Int))
                            (aIf (Prod.snd y4 == (0 : Int))
                              (aIf (Prod.fst (Prod.snd (Prod.snd (Prod.snd (Prod.snd (Prod.snd (Prod.fst y0)))))) == (1 : Int))
                                (aIf (Prod.fst (Prod.snd (Prod.snd (Prod.snd (Prod.snd (Prod.fst y0))))) == (162 : Int))
                                  (aIf (Prod.snd (Prod.snd (Prod.snd (Prod.snd (Prod.snd (Prod.snd (Prod.fst y2)))))) == (5000 : Int))
                                    (onSome
                                      (F30 N
                                        (Prod.fst (Prod.fst y2), Prod.fst (Prod.snd (Prod.fst y2)), Prod.fst (Prod.snd (Prod.snd (Prod.fst y2))),
                                          Prod.fst (Prod.snd (Prod.snd (Prod.snd (Prod.fst y2)))), Prod.fst (Prod.snd (Prod.snd (Prod.snd (Prod.snd (Prod.fst y2))))),
                                          Prod.fst (Prod.snd (Prod.snd (Prod.snd (Prod.snd (Prod.snd (Prod.fst y2)))))),
                                          Prod.snd (Prod.snd (Prod.snd (Prod.snd (Prod.snd (Prod.snd (Prod.fst y2))))))))
                                      fun y5 =>
                                      aIf y5
                                        (onSome
                                          (F28 N
                                            (Prod.fst (Prod.fst y2), Prod.fst (Prod.snd (Prod.fst y2)), Prod.fst (Prod.snd (Prod.snd (Prod.fst y2))),
                                              Prod.fst (Prod.snd (Prod.snd (Prod.snd (Prod.fst y2)))), Prod.fst (Prod.snd (Prod.snd (Prod.snd (Prod.snd (Prod.fst y2))))),
                                              Prod.fst (Prod.snd (Prod.snd (Prod.snd (Prod.snd (Prod.snd (Prod.fst y2)))))),
                                              Prod.snd (Prod.snd (Prod.snd (Prod.snd (Prod.snd (Prod.snd (Prod.fst y2))))))))
                                          fun y6 =>
                                          aIf y6
                                            (onSome
                                              (F30 N
                                                (Prod.fst (Prod.fst y1), Prod.fst (Prod.snd (Prod.fst y1)), Prod.fst (Prod.snd (Prod.snd (Prod.fst y1))),
                                                  Prod.fst (Prod.snd (Prod.snd (Prod.snd (Prod.fst y1)))), Prod.fst (Prod.snd (Prod.snd (Prod.snd (Prod.snd (Prod.fst y1))))),
                                                  Prod.fst (Prod.snd (Prod.snd (Prod.snd (Prod.snd (Prod.snd (Prod.fst y1)))))),
                                                  Prod.snd (Prod.snd (Prod.snd (Prod.snd (Prod.snd (Prod.snd (Prod.fst y1))))))))
                                              fun y7 => aIf (!y7) (some (Prod.fst (Prod.snd (Prod.snd (Prod.snd (Prod.snd (Prod.snd (Prod.fst y4)))))) == (6 : Int))) (some false))
                                            (some false))
                                        (some false))
                                    (some false))
                                  (some false))
                                (some false))
                              (some false))
                            (some false))
                          (some false))
                        (some false))
                      (some false)))))) := by kernel_rfl
def G23 (a : Unit) : Option (Bool) := some true
theorem K23 : F23 200 = G23 := funext fun _ => by kernel_rfl
noncomputable def C23 (N : Nat) : Callee := mkCallee A23 R23 G23
theorem S23 (N : Nat) : Cok 23 (C23 N) := by
  unfold C23
  rw [← K23]
  exact cok_of (l := (E23 200).calls) (O := O23 200) (cok_cons (S24 200) (cok_cons (S26 200) (cok_cons (S30 200) (cok_cons (S28 200) cok_nil)))) rfl Try.func23 rfl (by kernel_rfl) (by kernel_rfl)

-- function 10
def A10 : Cods (((Int) × (Int) × (Int) × (Int) × (Int) × (Int) × Int) × ((Int) × (Int) × Int) × (Int) × Int) := (codsCons (codAgg (codsCons (codInt .i64) (codsCons (codInt .i64) (codsCons (codInt .i64) (codsCons (codInt .i64) (codsCons (codInt .i64) (codsCons (codInt .i64) (codsOne (codInt .i64))))))))) (codsCons (codAgg (codsCons (codInt .i64) (codsCons (codInt .i64) (codsOne (codInt .i64))))) (codsCons (codInt .i64) (codsOne (codInt .i64)))))
def R10 : Cod (Bool) := codBool
noncomputable def E10 (N : Nat) : Env := ⟨Try.prog, [(28, C28 N), (23, C23 N), (26, C26 N), (30, C30 N)]⟩
def O10 (N : Nat) : Opts := ⟨N, [(5, ⟨[10, 9, 4, 5, 3, 2], [], [], 2⟩)], []⟩
noncomputable def F10 (N : Nat) (a : ((Int) × (Int) × (Int) × (Int) × (Int) × (Int) × Int) × ((Int) × (Int) × Int) × (Int) × Int) : Option (Bool) := aTyped (E10 N) (O10 N) Try.f10 A10 R10 a
noncomputable def L10_5 (N : Nat) (n : Nat) (x0 : Int) (x1 : Int) (x2 : Int) (x3 : Int) (x4 : Int) (x5 : Int) (x6 : Int) (x7 : Int) (x8 : Int) (x9 : Int) (x10 : Int) (x11 : Int) (x12 : Int) (x13 : Int) : Option Bool :=
  atLoop (E10 N) (O10 N) Try.f10 [(1 : Nat), (1 : Nat), (1 : Nat), (0 : Nat), (1 : Nat), (0 : Nat)] [] n
  {
    tmps :=
      [AV.top, AV.top, AV.p (PV.int IntKind.i64 x0), AV.p (PV.int IntKind.i64 x1), AV.box (0 : Nat) (0 : Nat), AV.box (1 : Nat) (0 : Nat), AV.top, AV.top, AV.top,
        AV.p (PV.int IntKind.i64 x2), AV.p (PV.int IntKind.i64 x3), AV.top, AV.top, AV.top, AV.top, AV.top, AV.top, AV.top, AV.top, AV.top, AV.top, AV.top, AV.top, AV.top, AV.top,
        AV.top, AV.top, AV.top, AV.top, AV.top, AV.top, AV.top, AV.top, AV.top, AV.top, AV.top, AV.top, AV.top, AV.top, AV.top, AV.top, AV.top, AV.top, AV.top, AV.top, AV.top,
        AV.top, AV.top, AV.top, AV.top, AV.top, AV.top, AV.top, AV.top, AV.top, AV.top, AV.top, AV.top, AV.top, AV.top, AV.top, AV.top, AV.top, AV.top, AV.top, AV.top, AV.top,
        AV.top, AV.top, AV.top, AV.top, AV.top, AV.top, AV.top, AV.top, AV.top, AV.top, AV.top, AV.top, AV.top, AV.top, AV.top, AV.top, AV.top, AV.top, AV.top, AV.top, AV.top,
        AV.top, AV.top, AV.top, AV.top, AV.top, AV.top, AV.top, AV.top, AV.top, AV.top, AV.top, AV.top, AV.top, AV.top, AV.top, AV.top, AV.top],
    heap :=
      [Blk.box
          [AV.p (PV.int IntKind.i64 x4), AV.p (PV.int IntKind.i64 x5), AV.p (PV.int IntKind.i64 x6), AV.p (PV.int IntKind.i64 x7), AV.p (PV.int IntKind.i64 x8),
            AV.p (PV.int IntKind.i64 x9), AV.p (PV.int IntKind.i64 x10)],
        Blk.box [AV.p (PV.int IntKind.i64 x11), AV.p (PV.int IntKind.i64 x12), AV.p (PV.int IntKind.i64 x13)]] }
  fun x => Cod.dec R10 x some
theorem L10_5_eq (N : Nat) (n : Nat) (x0 : Int) (x1 : Int) (x2 : Int) (x3 : Int) (x4 : Int) (x5 : Int) (x6 : Int) (x7 : Int) (x8 : Int) (x9 : Int) (x10 : Int) (x11 : Int) (x12 : Int) (x13 : Int) : L10_5 N (n + 1) x0 x1 x2 x3 x4 x5 x6 x7 x8 x9 x10 x11 x12 x13 =
    aIf (decide (x3 < (3 : Int)))
  (aGd (decide ((0 : Int) ≤ x3))
    (aGd (decide (x3 < (3 : Int)))
      (onSome [PV.int IntKind.i64 x11, PV.int IntKind.i64 x12, PV.int IntKind.i64 x13][(0 : Nat) + Int.toNat x3 * (1 : Nat)]? fun y1 =>
        onInt IntKind.i64 y1 fun n2 =>
          aGd (decide ((0 : Int) ≤ x3))
            (aGd (decide (x3 < (3 : Int)))
              (onSome [PV.int IntKind.i64 x11, PV.int IntKind.i64 x12, PV.int IntKind.i64 x13][(0 : Nat) + Int.toNat x3 * (1 : Nat)]? fun y3 =>
                onInt IntKind.i64 y3 fun n4 =>
                  onSome (F26 N ((x4, x5, x6, x7, x8, x9, x10), n2, IntKind.wrap IntKind.i64 (x0 * Int.tmod (IntKind.wrap IntKind.i64 (Int.tdiv n4 (3 : Int))) (2 : Int)), x1))
                    fun y5 =>
                    aGd (decide ((0 : Nat) + (7 : Nat) ≤ (7 : Nat)))
                      (aIf (Prod.snd y5 != (0 : Int)) (L10_5 N n x0 x1 x2 (IntKind.wrap IntKind.i64 (x3 + (1 : Int))) x4 x5 x6 x7 x8 x9 x10 x11 x12 x13)
                        (onSome (F30 N (x4, x5, x6, x7, x8, x9, x10)) fun y6 =>
                          aIf y6 (some false)
                            (onSome
                              (F28 N
                                (Prod.fst (Prod.fst y5), Prod.fst (Prod.snd (Prod.fst y5)), Prod.fst (Prod.snd (Prod.snd (Prod.fst y5))),
                                  Prod.fst (Prod.snd (Prod.snd (Prod.snd (Prod.fst y5)))), Prod.fst (Prod.snd (Prod.snd (Prod.snd (Prod.snd (Prod.fst y5))))),
                                  Prod.fst (Prod.snd (Prod.snd (Prod.snd (Prod.snd (Prod.snd (Prod.fst y5)))))),
                                  Prod.snd (Prod.snd (Prod.snd (Prod.snd (Prod.snd (Prod.snd (Prod.fst y5))))))))
                              fun y7 =>
                              aIf (!y7) (some false)
                                (aGd (decide ((0 : Int) ≤ x3))
                                  (aGd (decide (x3 < (3 : Int)))
                                    (onSome [PV.int IntKind.i64 x11, PV.int IntKind.i64 x12, PV.int IntKind.i64 x13][(0 : Nat) + Int.toNat x3 * (1 : Nat)]? fun y8 =>
                                      onInt IntKind.i64 y8 fun n9 =>
                                        aIf (Prod.fst (Prod.snd (Prod.snd (Prod.snd (Prod.snd (Prod.snd (Prod.fst y5)))))) != n9) (some false)
                                          (aIf (Prod.fst (Prod.fst y5) != x4) (some false)
                                            (aIf (Prod.fst (Prod.snd (Prod.fst y5)) != x5) (some false)
                                              (aIf (Prod.fst (Prod.snd (Prod.snd (Prod.fst y5))) != x6) (some false)
                                                (aIf (Prod.fst (Prod.snd (Prod.snd (Prod.snd (Prod.fst y5)))) != x7) (some false)
                                                  (aIf (Prod.fst (Prod.snd (Prod.snd (Prod.snd (Prod.snd (Prod.fst y5))))) != x8) (some false)
                                                    (aGd (decide ((0 : Nat) + (7 : Nat) ≤ (7 : Nat)))
                                                      (L10_5 N n x0 x1 (IntKind.wrap IntKind.i64 (x2 + (1 : Int))) (IntKind.wrap IntKind.i64 (x3 + (1 : Int)))
                                                        (Prod.fst (Prod.fst y5)) (Prod.fst (Prod.snd (Prod.fst y5))) (Prod.fst (Prod.snd (Prod.snd (Prod.fst y5))))
                                                        (Prod.fst (Prod.snd (Prod.snd (Prod.snd (Prod.fst y5)))))
                                                        (Prod.fst (Prod.snd (Prod.snd (Prod.snd (Prod.snd (Prod.fst y5))))))
                                                        (Prod.fst (Prod.snd (Prod.snd (Prod.snd (Prod.snd (Prod.snd (Prod.fst y5)))))))
                                                        (Prod.snd (Prod.snd (Prod.snd (Prod.snd (Prod.snd (Prod.snd (Prod.fst y5))))))) x11 x12 x13))))))))))))))))))
  (aIf (decide (x2 ≤ (2 : Int))) (aIf (decide (x2 < (2 : Int))) (some true) (onSome (F30 N (x4, x5, x6, x7, x8, x9, x10)) fun y10 => aIf y10 (some true) (some false)))
    (some false)) := by kernel_rfl
theorem L10_5_zero (N : Nat) (x0 : Int) (x1 : Int) (x2 : Int) (x3 : Int) (x4 : Int) (x5 : Int) (x6 : Int) (x7 : Int) (x8 : Int) (x9 : Int) (x10 : Int) (x11 : Int) (x12 : Int) (x13 : Int) : L10_5 N 0 x0 x1 x2 x3 x4 x5 x6 x7 x8 x9 x10 x11 x12 x13 = none := by kernel_rfl
theorem F10_eq (N : Nat) (a0 : Int × Int × Int × Int × Int × Int × Int) (a1 : Int × Int × Int) (a2 : Int) (a3 : Int) : F10 N (a0, a1, a2, a3) =
    onSome
  (F28 N
    (Prod.fst a0, Prod.fst (Prod.snd a0), Prod.fst (Prod.snd (Prod.snd a0)), Prod.fst (Prod.snd (Prod.snd (Prod.snd a0))), Prod.fst (Prod.snd (Prod.snd (Prod.snd (Prod.snd a0)))),
      Prod.fst (Prod.snd (Prod.snd (Prod.snd (Prod.snd (Prod.snd a0))))), Prod.snd (Prod.snd (Prod.snd (Prod.snd (Prod.snd (Prod.snd a0)))))))
  fun y0 =>
  aIf (!y0) (some true)
    (L10_5 N N a2 a3 (0 : Int) (0 : Int) (Prod.fst a0) (Prod.fst (Prod.snd a0)) (Prod.fst (Prod.snd (Prod.snd a0))) (Prod.fst (Prod.snd (Prod.snd (Prod.snd a0))))
      (Prod.fst (Prod.snd (Prod.snd (Prod.snd (Prod.snd a0))))) (Prod.fst (Prod.snd (Prod.snd (Prod.snd (Prod.snd (Prod.snd a0))))))
      (Prod.snd (Prod.snd (Prod.snd (Prod.snd (Prod.snd (Prod.snd a0)))))) (Prod.fst a1) (Prod.fst (Prod.snd a1)) (Prod.snd (Prod.snd a1))) := by kernel_rfl
noncomputable def C10 (N : Nat) : Callee := mkCallee A10 R10 (F10 N)
theorem S10 (N : Nat) : Cok 10 (C10 N) := cok_of (l := (E10 N).calls) (O := O10 N) (cok_cons (S28 N) (cok_cons (S23 N) (cok_cons (S26 N) (cok_cons (S30 N) cok_nil)))) rfl Try.func10 rfl (by kernel_rfl) (by kernel_rfl)

end Go.Proofs.Ythalkfjbgldgbaa
