/- The pure reading of the program's functions (printed by a program of mine; each line is proved by the kernel's evaluation). -/
import Derived.Test.YtmnedpfilckilaaDoorExm
import Derived.Test.YtmnedpfilckilaaDoorProg
set_option linter.unusedSimpArgs false
set_option linter.unusedVariables false
set_option maxRecDepth 100000
namespace Go.Proofs.YtmnedpfilckilaaDoor
open Go.RowKit

-- function 43
def A43 : Cods ((List UInt8) × List UInt8) := (codsCons codStr (codsOne codStr))
def R43 : Cod (Bool) := codBool
noncomputable def E43 (N : Nat) : Env := ⟨Tryd.prog, []⟩
def O43 (N : Nat) : Opts := ⟨N, [], []⟩
noncomputable def F43 (N : Nat) (a : (List UInt8) × List UInt8) : Option (Bool) := aTyped (E43 N) (O43 N) Tryd.f43 A43 R43 a
theorem F43_eq (N : Nat) (a0 : List UInt8) (a1 : List UInt8) : F43 N (a0, a1) =
    aIf (decide (Int.ofNat (List.length a1) ≤ Int.ofNat (List.length a0)))
  (aGd (decide (Int.ofNat (List.length a1) ≤ Int.ofNat (List.length a0))) (some (List.drop (0 : Nat) (List.take (Int.toNat (Int.ofNat (List.length a1))) a0) == a1))) (some false) := by kernel_rfl
noncomputable def C43 (N : Nat) : Callee := mkCallee A43 R43 (F43 N)
theorem S43 (N : Nat) : Cok 43 (C43 N) := cok_of (l := (E43 N).calls) (O := O43 N) cok_nil rfl Tryd.func43 rfl (by kernel_rfl) (by kernel_rfl)

-- function 35
def A35 : Cods ((List UInt8) × List UInt8) := (codsCons codStr (codsOne codStr))
def R35 : Cod ((List UInt8) × Bool) := (codTup (codsCons codStr (codsOne codBool)))
noncomputable def E35 (N : Nat) : Env := ⟨Tryd.prog, [(43, C43 N)]⟩
def O35 (N : Nat) : Opts := ⟨N, [], []⟩
noncomputable def F35 (N : Nat) (a : (List UInt8) × List UInt8) : Option ((List UInt8) × Bool) := aTyped (E35 N) (O35 N) Tryd.f35 A35 R35 a
theorem F35_eq (N : Nat) (a0 : List UInt8) (a1 : List UInt8) : F35 N (a0, a1) =
    onSome (F43 N (a0, a1)) fun y0 =>
  aIf (!y0) (some (a0, false))
    (aGd (decide (Int.ofNat (List.length a1) ≤ Int.ofNat (List.length a0))) (some (List.drop (Int.toNat (Int.ofNat (List.length a1))) (List.take (List.length a0) a0), true))) := by kernel_rfl
noncomputable def C35 (N : Nat) : Callee := mkCallee A35 R35 (F35 N)
theorem S35 (N : Nat) : Cok 35 (C35 N) := cok_of (l := (E35 N).calls) (O := O35 N) (cok_cons (S43 N) cok_nil) rfl Tryd.func35 rfl (by kernel_rfl) (by kernel_rfl)

-- function 23
def A23 : Cods ((List UInt8) × List UInt8) := (codsCons codStr (codsOne codStr))
def R23 : Cod ((List UInt8) × Bool) := (codTup (codsCons codStr (codsOne codBool)))
noncomputable def E23 (N : Nat) : Env := ⟨Tryd.prog, [(35, C35 N)]⟩
def O23 (N : Nat) : Opts := ⟨N, [], []⟩
noncomputable def F23 (N : Nat) (a : (List UInt8) × List UInt8) : Option ((List UInt8) × Bool) := aTyped (E23 N) (O23 N) Tryd.f23 A23 R23 a
theorem F23_eq (N : Nat) (a0 : List UInt8) (a1 : List UInt8) : F23 N (a0, a1) =
    onSome (F35 N (a0, a1)) fun y0 => some (Prod.fst y0, Prod.snd y0) := by kernel_rfl
noncomputable def C23 (N : Nat) : Callee := mkCallee A23 R23 (F23 N)
theorem S23 (N : Nat) : Cok 23 (C23 N) := cok_of (l := (E23 N).calls) (O := O23 N) (cok_cons (S35 N) cok_nil) rfl Tryd.func23 rfl (by kernel_rfl) (by kernel_rfl)

-- function 24
def A24 : Cods (List UInt8) := (codsOne codStr)
def R24 : Cod (Bool) := codBool
noncomputable def E24 (N : Nat) : Env := ⟨Tryd.prog, []⟩
def O24 (N : Nat) : Opts := ⟨N, [(2, ⟨[0, 6], [], 1⟩)], []⟩
noncomputable def F24 (N : Nat) (a : List UInt8) : Option (Bool) := aTyped (E24 N) (O24 N) Tryd.f24 A24 R24 a
noncomputable def L24_2 (N : Nat) (n : Nat) (x0 : List UInt8) (x1 : List UInt8) (x2 : Nat) : Option Bool :=
  atLoop (E24 N) (O24 N) Tryd.f24 [(1 : Nat), (0 : Nat), (1 : Nat), (0 : Nat)] [] n
  {
    tmps :=
      [AV.p (PV.str x0), AV.top, AV.top, AV.top, AV.top, AV.top, AV.it (0 : Nat), AV.top, AV.top, AV.top, AV.top, AV.top, AV.top, AV.top, AV.top, AV.top, AV.top, AV.top, AV.top,
        AV.top, AV.top, AV.top, AV.top, AV.top, AV.top, AV.top, AV.top],
    heap := [Blk.iter x1 x2] }
  fun x => Cod.dec R24 x some
theorem L24_2_eq (N : Nat) (n : Nat) (x0 : List UInt8) (x1 : List UInt8) (x2 : Nat) : L24_2 N (n + 1) x0 x1 x2 =
    aIf (decide (x2 < List.length x1))
  (aIf (decide (Int.ofNat (Prod.fst (Utf8.decode { data := List.toArray x1 } x2)) < (48 : Int))) (some false)
    (aIf (decide ((57 : Int) < Int.ofNat (Prod.fst (Utf8.decode { data := List.toArray x1 } x2)))) (some false)
      (L24_2 N n x0 x1 (x2 + Prod.snd (Utf8.decode { data := List.toArray x1 } x2)))))
  (aIf (x0 == [(48 : UInt8)]) (some true) (aIf (!x0 == []) (onGet x0 (0 : Int) fun z0 => some (Int.ofNat (UInt8.toNat z0) != (48 : Int))) (some false))) := by kernel_rfl
theorem L24_2_zero (N : Nat) (x0 : List UInt8) (x1 : List UInt8) (x2 : Nat) : L24_2 N 0 x0 x1 x2 = none := by kernel_rfl
theorem F24_eq (N : Nat) (a0 : List UInt8) : F24 N a0 =
    L24_2 N N a0 a0 (0 : Nat) := by kernel_rfl
noncomputable def C24 (N : Nat) : Callee := mkCallee A24 R24 (F24 N)
theorem S24 (N : Nat) : Cok 24 (C24 N) := cok_of (l := (E24 N).calls) (O := O24 N) cok_nil rfl Tryd.func24 rfl (by kernel_rfl) (by kernel_rfl)

-- function 25
def A25 : Cods ((List UInt8) × Bool) := (codsCons codStr (codsOne codBool))
def R25 : Cod ((Int) × Int) := (codTup (codsCons (codInt .i64) (codsOne (codInt .i64))))
noncomputable def E25 (N : Nat) : Env := ⟨Tryd.prog, []⟩
def O25 (N : Nat) : Opts := ⟨N, [(3, ⟨[6, 1, 11], [], 1⟩)], []⟩
noncomputable def F25 (N : Nat) (a : (List UInt8) × Bool) : Option ((Int) × Int) := aTyped (E25 N) (O25 N) Tryd.f25 A25 R25 a
noncomputable def L25_3 (N : Nat) (n : Nat) (x0 : Bool) (x1 : Int) (x2 : List UInt8) (x3 : Nat) : Option (Int × Int) :=
  atLoop (E25 N) (O25 N) Tryd.f25 [(1 : Nat), (1 : Nat), (0 : Nat), (1 : Nat), (0 : Nat)] [] n
  {
    tmps :=
      [AV.top, AV.p (PV.bool x0), AV.top, AV.top, AV.top, AV.top, AV.p (PV.int IntKind.i64 x1), AV.top, AV.top, AV.top, AV.top, AV.it (0 : Nat), AV.top, AV.top, AV.top, AV.top,
        AV.top, AV.top, AV.top, AV.top, AV.top, AV.top, AV.top, AV.top, AV.top, AV.top, AV.top, AV.top, AV.top, AV.top, AV.top],
    heap := [Blk.iter x2 x3] }
  fun x => Cod.dec R25 x some
theorem L25_3_eq (N : Nat) (n : Nat) (x0 : Bool) (x1 : Int) (x2 : List UInt8) (x3 : Nat) : L25_3 N (n + 1) x0 x1 x2 x3 =
    aIf (decide (x3 < List.length x2))
  (aIf
    (decide
      (IntKind.wrap IntKind.i64
          (Int.tdiv
            (IntKind.wrap IntKind.i64
              ((4611686018427387904 : Int) - IntKind.wrap IntKind.i64 (IntKind.wrap IntKind.i32 (Int.ofNat (Prod.fst (Utf8.decode { data := List.toArray x2 } x3)) - (48 : Int)))))
            (10 : Int)) <
        x1))
    (some ((0 : Int), (3 : Int)))
    (L25_3 N n x0
      (IntKind.wrap IntKind.i64
        (IntKind.wrap IntKind.i64 (x1 * (10 : Int)) +
          IntKind.wrap IntKind.i64 (IntKind.wrap IntKind.i32 (Int.ofNat (Prod.fst (Utf8.decode { data := List.toArray x2 } x3)) - (48 : Int)))))
      x2 (x3 + Prod.snd (Utf8.decode { data := List.toArray x2 } x3))))
  (aIf x0 (some (IntKind.wrap IntKind.i64 ((0 : Int) - x1), (0 : Int))) (some (x1, (0 : Int)))) := by kernel_rfl
theorem L25_3_zero (N : Nat) (x0 : Bool) (x1 : Int) (x2 : List UInt8) (x3 : Nat) : L25_3 N 0 x0 x1 x2 x3 = none := by kernel_rfl
theorem F25_eq (N : Nat) (a0 : List UInt8) (a1 : Bool) : F25 N (a0, a1) =
    L25_3 N N a1 (0 : Int) a0 (0 : Nat) := by kernel_rfl
noncomputable def C25 (N : Nat) : Callee := mkCallee A25 R25 (F25 N)
theorem S25 (N : Nat) : Cok 25 (C25 N) := cok_of (l := (E25 N).calls) (O := O25 N) cok_nil rfl Tryd.func25 rfl (by kernel_rfl) (by kernel_rfl)

-- function 31
def A31 : Cods (Int) := (codsOne (codInt .i64))
def R31 : Cod (Int) := (codInt .i64)
noncomputable def E31 (N : Nat) : Env := ⟨Tryd.prog, []⟩
def O31 (N : Nat) : Opts := ⟨N, [], []⟩
noncomputable def F31 (N : Nat) (a : Int) : Option (Int) := aTyped (E31 N) (O31 N) Tryd.f31 A31 R31 a
theorem F31_eq (N : Nat) (a0 : Int) : F31 N a0 =
    some (max (0 : Int) (min a0 (9 : Int))) := by kernel_rfl
noncomputable def C31 (N : Nat) : Callee := mkCallee A31 R31 (F31 N)
theorem S31 (N : Nat) : Cok 31 (C31 N) := cok_of (l := (E31 N).calls) (O := O31 N) cok_nil rfl Tryd.func31 rfl (by kernel_rfl) (by kernel_rfl)

-- function 33
def A33 : Cods (Int) := (codsOne (codInt .i64))
def R33 : Cod (Int) := (codInt .i64)
noncomputable def E33 (N : Nat) : Env := ⟨Tryd.prog, []⟩
def O33 (N : Nat) : Opts := ⟨N, [], []⟩
noncomputable def F33 (N : Nat) (a : Int) : Option (Int) := aTyped (E33 N) (O33 N) Tryd.f33 A33 R33 a
theorem F33_eq (N : Nat) (a0 : Int) : F33 N a0 =
    some (min (max a0 (0 : Int)) (9 : Int)) := by kernel_rfl
noncomputable def C33 (N : Nat) : Callee := mkCallee A33 R33 (F33 N)
theorem S33 (N : Nat) : Cok 33 (C33 N) := cok_of (l := (E33 N).calls) (O := O33 N) cok_nil rfl Tryd.func33 rfl (by kernel_rfl) (by kernel_rfl)

-- function 32
def A32 : Cods (List UInt8) := (codsOne codStr)
def R32 : Cod (Bool) := codBool
noncomputable def E32 (N : Nat) : Env := ⟨Tryd.prog, []⟩
def O32 (N : Nat) : Opts := ⟨N, [(2, ⟨[6], [], 1⟩)], []⟩
noncomputable def F32 (N : Nat) (a : List UInt8) : Option (Bool) := aTyped (E32 N) (O32 N) Tryd.f32 A32 R32 a
noncomputable def L32_2 (N : Nat) (n : Nat) (x0 : List UInt8) (x1 : Nat) : Option Bool :=
  atLoop (E32 N) (O32 N) Tryd.f32 [(1 : Nat), (0 : Nat), (1 : Nat), (0 : Nat)] [] n
  { tmps := [AV.top, AV.top, AV.top, AV.top, AV.top, AV.top, AV.it (0 : Nat), AV.top, AV.top, AV.top, AV.top, AV.top, AV.top, AV.top, AV.top, AV.top], heap := [Blk.iter x0 x1] }
  fun x => Cod.dec R32 x some
theorem L32_2_eq (N : Nat) (n : Nat) (x0 : List UInt8) (x1 : Nat) : L32_2 N (n + 1) x0 x1 =
    aIf (decide (x1 < List.length x0))
  (aIf (decide (Int.ofNat (Prod.fst (Utf8.decode { data := List.toArray x0 } x1)) < (48 : Int))) (some false)
    (aIf (decide ((57 : Int) < Int.ofNat (Prod.fst (Utf8.decode { data := List.toArray x0 } x1)))) (some false)
      (L32_2 N n x0 (x1 + Prod.snd (Utf8.decode { data := List.toArray x0 } x1)))))
  (some true) := by kernel_rfl
theorem L32_2_zero (N : Nat) (x0 : List UInt8) (x1 : Nat) : L32_2 N 0 x0 x1 = none := by kernel_rfl
theorem F32_eq (N : Nat) (a0 : List UInt8) : F32 N a0 =
    L32_2 N N a0 (0 : Nat) := by kernel_rfl
noncomputable def C32 (N : Nat) : Callee := mkCallee A32 R32 (F32 N)
theorem S32 (N : Nat) : Cok 32 (C32 N) := cok_of (l := (E32 N).calls) (O := O32 N) cok_nil rfl Tryd.func32 rfl (by kernel_rfl) (by kernel_rfl)

-- function 26
def A26 : Cods (List UInt8) := (codsOne codStr)
def R26 : Cod ((List UInt8) × Bool) := (codTup (codsCons codStr (codsOne codBool)))
noncomputable def E26 (N : Nat) : Env := ⟨Tryd.prog, []⟩
def O26 (N : Nat) : Opts := ⟨N, [], []⟩
noncomputable def F26 (N : Nat) (a : List UInt8) : Option ((List UInt8) × Bool) := aTyped (E26 N) (O26 N) Tryd.f26 A26 R26 a
theorem F26_eq (N : Nat) (a0 : List UInt8) : F26 N a0 =
    aIf (decide ((0 : Int) < Int.ofNat (List.length a0)))
  (onGet a0 (0 : Int) fun z0 =>
    aIf (Int.ofNat (UInt8.toNat z0) == (45 : Int)) (aGd (decide ((1 : Int) ≤ Int.ofNat (List.length a0))) (some (List.drop (1 : Nat) (List.take (List.length a0) a0), true)))
      (some (a0, false)))
  (some (a0, false)) := by kernel_rfl
noncomputable def C26 (N : Nat) : Callee := mkCallee A26 R26 (F26 N)
theorem S26 (N : Nat) : Cok 26 (C26 N) := cok_of (l := (E26 N).calls) (O := O26 N) cok_nil rfl Tryd.func26 rfl (by kernel_rfl) (by kernel_rfl)

-- function 27
def A27 : Cods (List UInt8) := (codsOne codStr)
def R27 : Cod (Bool) := codBool
noncomputable def E27 (N : Nat) : Env := ⟨Tryd.prog, []⟩
def O27 (N : Nat) : Opts := ⟨N, [(2, ⟨[3, 0], [], 0⟩)], []⟩
noncomputable def F27 (N : Nat) (a : List UInt8) : Option (Bool) := aTyped (E27 N) (O27 N) Tryd.f27 A27 R27 a
noncomputable def L27_2 (N : Nat) (n : Nat) (x0 : List UInt8) (x1 : Int) : Option Bool :=
  atLoop (E27 N) (O27 N) Tryd.f27 [(1 : Nat), (0 : Nat), (1 : Nat), (0 : Nat)] [] n
  {
    tmps :=
      [AV.p (PV.str x0), AV.top, AV.top, AV.p (PV.int IntKind.i64 x1), AV.top, AV.top, AV.top, AV.top, AV.top, AV.top, AV.top, AV.top, AV.top, AV.top, AV.top, AV.top, AV.top,
        AV.top, AV.top, AV.top, AV.top, AV.top, AV.top],
    heap := [] }
  fun x => Cod.dec R27 x some
theorem L27_2_eq (N : Nat) (n : Nat) (x0 : List UInt8) (x1 : Int) : L27_2 N (n + 1) x0 x1 =
    aIf (decide (x1 < Int.ofNat (List.length x0)))
  (onGet x0 x1 fun z0 =>
    aIf (decide (Int.ofNat (UInt8.toNat z0) < (48 : Int))) (some false)
      (onGet x0 x1 fun z1 => aIf (decide ((57 : Int) < Int.ofNat (UInt8.toNat z1))) (some false) (L27_2 N n x0 (IntKind.wrap IntKind.i64 (x1 + (1 : Int))))))
  (some (decide ((0 : Int) < Int.ofNat (List.length x0)))) := by kernel_rfl
theorem L27_2_zero (N : Nat) (x0 : List UInt8) (x1 : Int) : L27_2 N 0 x0 x1 = none := by kernel_rfl
theorem F27_eq (N : Nat) (a0 : List UInt8) : F27 N a0 =
    L27_2 N N a0 (0 : Int) := by kernel_rfl
noncomputable def C27 (N : Nat) : Callee := mkCallee A27 R27 (F27 N)
theorem S27 (N : Nat) : Cok 27 (C27 N) := cok_of (l := (E27 N).calls) (O := O27 N) cok_nil rfl Tryd.func27 rfl (by kernel_rfl) (by kernel_rfl)

-- function 28
def A28 : Cods ((List UInt8) × Bool) := (codsCons codStr (codsOne codBool))
def R28 : Cod ((Int) × Int) := (codTup (codsCons (codInt .i64) (codsOne (codInt .i64))))
noncomputable def E28 (N : Nat) : Env := ⟨Tryd.prog, []⟩
def O28 (N : Nat) : Opts := ⟨N, [(5, ⟨[7, 0, 6, 1], [], 0⟩)], []⟩
noncomputable def F28 (N : Nat) (a : (List UInt8) × Bool) : Option ((Int) × Int) := aTyped (E28 N) (O28 N) Tryd.f28 A28 R28 a
noncomputable def L28_5 (N : Nat) (n : Nat) (x0 : List UInt8) (x1 : Bool) (x2 : Int) (x3 : Int) : Option (Int × Int) :=
  atLoop (E28 N) (O28 N) Tryd.f28 [(1 : Nat), (1 : Nat), (1 : Nat), (0 : Nat), (1 : Nat), (0 : Nat)] [] n
  {
    tmps :=
      [AV.p (PV.str x0), AV.p (PV.bool x1), AV.top, AV.top, AV.top, AV.top, AV.p (PV.int IntKind.u64 x2), AV.p (PV.int IntKind.i64 x3), AV.top, AV.top, AV.top, AV.top, AV.top,
        AV.top, AV.top, AV.top, AV.top, AV.top, AV.top, AV.top, AV.top, AV.top, AV.top, AV.top, AV.top, AV.top, AV.top, AV.top, AV.top, AV.top, AV.top, AV.top, AV.top],
    heap := [] }
  fun x => Cod.dec R28 x some
theorem L28_5_eq (N : Nat) (n : Nat) (x0 : List UInt8) (x1 : Bool) (x2 : Int) (x3 : Int) : L28_5 N (n + 1) x0 x1 x2 x3 =
    aIf (decide (x3 < Int.ofNat (List.length x0)))
  (onGet x0 x3 fun z0 =>
    L28_5 N n x0 x1
      (IntKind.wrap IntKind.u64 (IntKind.wrap IntKind.u64 ((10 : Int) * x2) + IntKind.wrap IntKind.u64 (IntKind.wrap IntKind.u8 (Int.ofNat (UInt8.toNat z0) - (48 : Int)))))
      (IntKind.wrap IntKind.i64 (x3 + (1 : Int))))
  (aIf (decide ((4611686018427387904 : Int) < x2)) (some ((0 : Int), (3 : Int)))
    (aIf x1 (some (IntKind.wrap IntKind.i64 ((0 : Int) - IntKind.wrap IntKind.i64 x2), (0 : Int))) (some (IntKind.wrap IntKind.i64 x2, (0 : Int))))) := by kernel_rfl
theorem L28_5_zero (N : Nat) (x0 : List UInt8) (x1 : Bool) (x2 : Int) (x3 : Int) : L28_5 N 0 x0 x1 x2 x3 = none := by kernel_rfl
theorem F28_eq (N : Nat) (a0 : List UInt8) (a1 : Bool) : F28 N (a0, a1) =
    aIf (decide ((19 : Int) < Int.ofNat (List.length a0))) (some ((0 : Int), (3 : Int))) (L28_5 N N a0 a1 (0 : Int) (0 : Int)) := by kernel_rfl
noncomputable def C28 (N : Nat) : Callee := mkCallee A28 R28 (F28 N)
theorem S28 (N : Nat) : Cok 28 (C28 N) := cok_of (l := (E28 N).calls) (O := O28 N) cok_nil rfl Tryd.func28 rfl (by kernel_rfl) (by kernel_rfl)

-- function 10
def A10 : Cods (List UInt8) := (codsOne codStr)
def R10 : Cod ((Int) × Int) := (codTup (codsCons (codInt .i64) (codsOne (codInt .i64))))
noncomputable def E10 (N : Nat) : Env := ⟨Tryd.prog, [(23, C23 N), (24, C24 N), (25, C25 N)]⟩
def O10 (N : Nat) : Opts := ⟨N, [], []⟩
noncomputable def F10 (N : Nat) (a : List UInt8) : Option ((Int) × Int) := aTyped (E10 N) (O10 N) Tryd.f10 A10 R10 a
theorem F10_eq (N : Nat) (a0 : List UInt8) : F10 N a0 =
    onSome (F23 N (a0, [(45 : UInt8)])) fun y0 =>
  onSome (F24 N (Prod.fst y0)) fun y1 =>
    aIf (!y1) (some ((0 : Int), (2 : Int)))
      (aIf (Prod.snd y0) (aIf (Prod.fst y0 == [(48 : UInt8)]) (some ((0 : Int), (2 : Int))) (onSome (F25 N (Prod.fst y0, Prod.snd y0)) fun y2 => some (Prod.fst y2, Prod.snd y2)))
        (onSome (F25 N (Prod.fst y0, Prod.snd y0)) fun y3 => some (Prod.fst y3, Prod.snd y3))) := by kernel_rfl
noncomputable def C10 (N : Nat) : Callee := mkCallee A10 R10 (F10 N)
theorem S10 (N : Nat) : Cok 10 (C10 N) := cok_of (l := (E10 N).calls) (O := O10 N) (cok_cons (S23 N) (cok_cons (S24 N) (cok_cons (S25 N) cok_nil))) rfl Tryd.func10 rfl (by kernel_rfl) (by kernel_rfl)

-- function 11
def A11 : Cods (List UInt8) := (codsOne codStr)
def R11 : Cod ((Int) × Int) := (codTup (codsCons (codInt .i64) (codsOne (codInt .i64))))
noncomputable def E11 (N : Nat) : Env := ⟨Tryd.prog, [(26, C26 N), (27, C27 N), (28, C28 N)]⟩
def O11 (N : Nat) : Opts := ⟨N, [], []⟩
noncomputable def F11 (N : Nat) (a : List UInt8) : Option ((Int) × Int) := aTyped (E11 N) (O11 N) Tryd.f11 A11 R11 a
theorem F11_eq (N : Nat) (a0 : List UInt8) : F11 N a0 =
    onSome (F26 N a0) fun y0 =>
  onSome (F27 N (Prod.fst y0)) fun y1 =>
    aIf (!y1) (some ((0 : Int), (2 : Int)))
      (aIf (decide ((1 : Int) < Int.ofNat (List.length (Prod.fst y0))))
        (onGet (Prod.fst y0) (0 : Int) fun z2 =>
          aIf (Int.ofNat (UInt8.toNat z2) == (48 : Int)) (some ((0 : Int), (2 : Int)))
            (aIf (Prod.snd y0)
              (aIf (Prod.fst y0 == [(48 : UInt8)]) (some ((0 : Int), (2 : Int))) (onSome (F28 N (Prod.fst y0, Prod.snd y0)) fun y3 => some (Prod.fst y3, Prod.snd y3)))
              (onSome (F28 N (Prod.fst y0, Prod.snd y0)) fun y4 => some (Prod.fst y4, Prod.snd y4))))
        (aIf (Prod.snd y0) (aIf (Prod.fst y0 == [(48 : UInt8)]) (some ((0 : Int), (2 : Int))) (onSome (F28 N (Prod.fst y0, Prod.snd y0)) fun y5 => some (Prod.fst y5, Prod.snd y5)))
          (onSome (F28 N (Prod.fst y0, Prod.snd y0)) fun y6 => some (Prod.fst y6, Prod.snd y6)))) := by kernel_rfl
noncomputable def C11 (N : Nat) : Callee := mkCallee A11 R11 (F11 N)
theorem S11 (N : Nat) : Cok 11 (C11 N) := cok_of (l := (E11 N).calls) (O := O11 N) (cok_cons (S26 N) (cok_cons (S27 N) (cok_cons (S28 N) cok_nil))) rfl Tryd.func11 rfl (by kernel_rfl) (by kernel_rfl)

-- function 14
def A14 : Cods ((List UInt8) × Int) := (codsCons codStr (codsOne (codInt .i64)))
def R14 : Cod ((Int) × Int) := (codTup (codsCons (codInt .i64) (codsOne (codInt .i64))))
noncomputable def E14 (N : Nat) : Env := ⟨Tryd.prog, [(31, C31 N), (10, C10 N), (23, C23 N), (24, C24 N), (32, C32 N), (25, C25 N)]⟩
def O14 (N : Nat) : Opts := ⟨N, [], []⟩
noncomputable def F14 (N : Nat) (a : (List UInt8) × Int) : Option ((Int) × Int) := aTyped (E14 N) (O14 N) Tryd.f14 A14 R14 a
theorem F14_eq (N : Nat) (a0 : List UInt8) (a1 : Int) : F14 N (a0, a1) =
    onSome (F31 N a1) fun y0 =>
  aIf (y0 == (0 : Int)) (onSome (F10 N a0) fun y1 => some (Prod.fst y1, Prod.snd y1))
    (onSome (F23 N (a0, [(45 : UInt8)])) fun y2 =>
      aIf (decide (IntKind.wrap IntKind.i64 (IntKind.wrap IntKind.i64 (Int.ofNat (List.length (Prod.fst y2)) - y0) - (1 : Int)) < (1 : Int))) (some ((0 : Int), (2 : Int)))
        (onGet (Prod.fst y2) (IntKind.wrap IntKind.i64 (IntKind.wrap IntKind.i64 (Int.ofNat (List.length (Prod.fst y2)) - y0) - (1 : Int))) fun z3 =>
          aIf (Int.ofNat (UInt8.toNat z3) != (46 : Int)) (some ((0 : Int), (2 : Int)))
            (aGd (decide ((0 : Int) ≤ IntKind.wrap IntKind.i64 (IntKind.wrap IntKind.i64 (Int.ofNat (List.length (Prod.fst y2)) - y0) - (1 : Int))))
              (aGd (decide (IntKind.wrap IntKind.i64 (IntKind.wrap IntKind.i64 (Int.ofNat (List.length (Prod.fst y2)) - y0) - (1 : Int)) ≤ Int.ofNat (List.length (Prod.fst y2))))
                (onSome
                  (F24 N
                    (List.drop (0 : Nat)
                      (List.take (Int.toNat (IntKind.wrap IntKind.i64 (IntKind.wrap IntKind.i64 (Int.ofNat (List.length (Prod.fst y2)) - y0) - (1 : Int)))) (Prod.fst y2))))
                  fun y4 =>
                  aIf (!y4) (some ((0 : Int), (2 : Int)))
                    (aGd
                      (decide
                        ((0 : Int) ≤
                          IntKind.wrap IntKind.i64 (IntKind.wrap IntKind.i64 (IntKind.wrap IntKind.i64 (Int.ofNat (List.length (Prod.fst y2)) - y0) - (1 : Int)) + (1 : Int))))
                      (aGd
                        (decide
                          (IntKind.wrap IntKind.i64 (IntKind.wrap IntKind.i64 (IntKind.wrap IntKind.i64 (Int.ofNat (List.length (Prod.fst y2)) - y0) - (1 : Int)) + (1 : Int)) ≤
                            Int.ofNat (List.length (Prod.fst y2))))
                        (onSome
                          (F32 N
                            (List.drop
                              (Int.toNat
                                (IntKind.wrap IntKind.i64
                                  (IntKind.wrap IntKind.i64 (IntKind.wrap IntKind.i64 (Int.ofNat (List.length (Prod.fst y2)) - y0) - (1 : Int)) + (1 : Int))))
                              (List.take (List.length (Prod.fst y2)) (Prod.fst y2))))
                          fun y5 =>
                          aIf (!y5) (some ((0 : Int), (2 : Int)))
                            (aGd (decide ((0 : Int) ≤ IntKind.wrap IntKind.i64 (IntKind.wrap IntKind.i64 (Int.ofNat (List.length (Prod.fst y2)) - y0) - (1 : Int))))
                              (aGd
                                (decide
                                  (IntKind.wrap IntKind.i64 (IntKind.wrap IntKind.i64 (Int.ofNat (List.length (Prod.fst y2)) - y0) - (1 : Int)) ≤
                                    Int.ofNat (List.length (Prod.fst y2))))
                                (aGd
                                  (decide
                                    ((0 : Int) ≤
                                      IntKind.wrap IntKind.i64
                                        (IntKind.wrap IntKind.i64 (IntKind.wrap IntKind.i64 (Int.ofNat (List.length (Prod.fst y2)) - y0) - (1 : Int)) + (1 : Int))))
                                  (aGd
                                    (decide
                                      (IntKind.wrap IntKind.i64
                                          (IntKind.wrap IntKind.i64 (IntKind.wrap IntKind.i64 (Int.ofNat (List.length (Prod.fst y2)) - y0) - (1 : Int)) + (1 : Int)) ≤
                                        Int.ofNat (List.length (Prod.fst y2))))
                                    (aGd
                                      (decide
                                        (List.length
                                              (List.drop (0 : Nat)
                                                (List.take
                                                  (Int.toNat (IntKind.wrap IntKind.i64 (IntKind.wrap IntKind.i64 (Int.ofNat (List.length (Prod.fst y2)) - y0) - (1 : Int))))
                                                  (Prod.fst y2))) +
                                            List.length
                                              (List.drop
                                                (Int.toNat
                                                  (IntKind.wrap IntKind.i64
                                                    (IntKind.wrap IntKind.i64 (IntKind.wrap IntKind.i64 (Int.ofNat (List.length (Prod.fst y2)) - y0) - (1 : Int)) + (1 : Int))))
                                                (List.take (List.length (Prod.fst y2)) (Prod.fst y2))) ≤
                                          (9223372036854775807 : Nat)))
                                      (onSome
                                        (F25 N
                                          (List.drop (0 : Nat)
                                                (List.take
                                                  (Int.toNat (IntKind.wrap IntKind.i64 (IntKind.wrap IntKind.i64 (Int.ofNat (List.length (Prod.fst y2)) - y0) - (1 : Int))))
                                                  (Prod.fst y2)) ++
                                              List.drop
                                                (Int.toNat
                                                  (IntKind.wrap IntKind.i64
                                                    (IntKind.wrap IntKind.i64 (IntKind.wrap IntKind.i64 (Int.ofNat (List.length (Prod.fst y2)) - y0) - (1 : Int)) + (1 : Int))))
                                                (List.take (List.length (Prod.fst y2)) (Prod.fst y2)),
                                            Prod.snd y2))
                                        fun y6 =>
                                        aIf (Prod.snd y6 == (0 : Int))
                                          (aIf (Prod.fst y6 == (0 : Int)) (aIf (Prod.snd y2) (some ((0 : Int), (2 : Int))) (some (Prod.fst y6, Prod.snd y6)))
                                            (some (Prod.fst y6, Prod.snd y6)))
                                          (some (Prod.fst y6, Prod.snd y6)))))))))))))))) := by kernel_rfl
noncomputable def C14 (N : Nat) : Callee := mkCallee A14 R14 (F14 N)
theorem S14 (N : Nat) : Cok 14 (C14 N) := cok_of (l := (E14 N).calls) (O := O14 N) (cok_cons (S31 N) (cok_cons (S10 N) (cok_cons (S23 N) (cok_cons (S24 N) (cok_cons (S32 N) (cok_cons (S25 N) cok_nil)))))) rfl Tryd.func14 rfl (by kernel_rfl) (by kernel_rfl)

-- function 15
def A15 : Cods ((List UInt8) × Int) := (codsCons codStr (codsOne (codInt .i64)))
def R15 : Cod ((Int) × Int) := (codTup (codsCons (codInt .i64) (codsOne (codInt .i64))))
noncomputable def E15 (N : Nat) : Env := ⟨Tryd.prog, [(33, C33 N), (11, C11 N), (26, C26 N), (27, C27 N), (28, C28 N)]⟩
def O15 (N : Nat) : Opts := ⟨N, [(9, ⟨[7, 8], [], 0⟩)], []⟩
noncomputable def F15 (N : Nat) (a : (List UInt8) × Int) : Option ((Int) × Int) := aTyped (E15 N) (O15 N) Tryd.f15 A15 R15 a
noncomputable def L15_9 (N : Nat) (n : Nat) (x0 : List UInt8) (x1 : Bool) : Option (Int × Int) :=
  atLoop (E15 N) (O15 N) Tryd.f15 [(1 : Nat), (1 : Nat), (1 : Nat), (1 : Nat), (1 : Nat), (1 : Nat), (1 : Nat), (0 : Nat), (0 : Nat)] [] n
  {
    tmps :=
      [AV.top, AV.top, AV.top, AV.top, AV.top, AV.top, AV.top, AV.p (PV.str x0), AV.p (PV.bool x1), AV.top, AV.top, AV.top, AV.top, AV.top, AV.top, AV.top, AV.top, AV.top, AV.top,
        AV.top, AV.top, AV.top, AV.top, AV.top, AV.top, AV.top, AV.top, AV.top, AV.top, AV.top, AV.top, AV.top, AV.top, AV.top, AV.top, AV.top, AV.top, AV.top, AV.top, AV.top,
        AV.top, AV.top, AV.top, AV.top, AV.top, AV.top, AV.top, AV.top, AV.top, AV.top, AV.top, AV.top, AV.top, AV.top, AV.top, AV.top, AV.top, AV.top, AV.top, AV.top, AV.top,
        AV.top, AV.top, AV.top, AV.top, AV.top, AV.top, AV.top, AV.top, AV.top, AV.top, AV.top, AV.top, AV.top, AV.top, AV.top, AV.top, AV.top, AV.top, AV.top, AV.top, AV.top,
        AV.top, AV.top, AV.top, AV.top, AV.top, AV.top],
    heap := [] }
  fun x => Cod.dec R15 x some
theorem L15_9_eq (N : Nat) (n : Nat) (x0 : List UInt8) (x1 : Bool) : L15_9 N (n + 1) x0 x1 =
    aIf (decide ((1 : Int) < Int.ofNat (List.length x0)))
  (onGet x0 (0 : Int) fun z7 =>
    aIf (Int.ofNat (UInt8.toNat z7) == (48 : Int)) (aGd (decide ((1 : Int) ≤ Int.ofNat (List.length x0))) (L15_9 N n (List.drop (1 : Nat) (List.take (List.length x0) x0)) x1))
      (aIf x1 (aIf (x0 == [(48 : UInt8)]) (some ((0 : Int), (2 : Int))) (onSome (F28 N (x0, x1)) fun y8 => some (Prod.fst y8, Prod.snd y8)))
        (onSome (F28 N (x0, x1)) fun y9 => some (Prod.fst y9, Prod.snd y9))))
  (aIf x1 (aIf (x0 == [(48 : UInt8)]) (some ((0 : Int), (2 : Int))) (onSome (F28 N (x0, x1)) fun y10 => some (Prod.fst y10, Prod.snd y10)))
    (onSome (F28 N (x0, x1)) fun y11 => some (Prod.fst y11, Prod.snd y11))) := by kernel_rfl
theorem L15_9_zero (N : Nat) (x0 : List UInt8) (x1 : Bool) : L15_9 N 0 x0 x1 = none := by kernel_rfl
theorem F15_eq (N : Nat) (a0 : List UInt8) (a1 : Int) : F15 N (a0, a1) =
    onSome (F33 N a1) fun y0 =>
  aIf (y0 == (0 : Int)) (onSome (F11 N a0) fun y1 => some (Prod.fst y1, Prod.snd y1))
    (onSome (F26 N a0) fun y2 =>
      aIf (decide (IntKind.wrap IntKind.i64 (IntKind.wrap IntKind.i64 (Int.ofNat (List.length (Prod.fst y2)) - y0) - (1 : Int)) < (1 : Int))) (some ((0 : Int), (2 : Int)))
        (onGet (Prod.fst y2) (IntKind.wrap IntKind.i64 (IntKind.wrap IntKind.i64 (Int.ofNat (List.length (Prod.fst y2)) - y0) - (1 : Int))) fun z3 =>
          aIf (Int.ofNat (UInt8.toNat z3) != (46 : Int)) (some ((0 : Int), (2 : Int)))
            (aGd (decide ((0 : Int) ≤ IntKind.wrap IntKind.i64 (IntKind.wrap IntKind.i64 (Int.ofNat (List.length (Prod.fst y2)) - y0) - (1 : Int))))
              (aGd (decide (IntKind.wrap IntKind.i64 (IntKind.wrap IntKind.i64 (Int.ofNat (List.length (Prod.fst y2)) - y0) - (1 : Int)) ≤ Int.ofNat (List.length (Prod.fst y2))))
                (onSome
                  (F27 N
                    (List.drop (0 : Nat)
                      (List.take (Int.toNat (IntKind.wrap IntKind.i64 (IntKind.wrap IntKind.i64 (Int.ofNat (List.length (Prod.fst y2)) - y0) - (1 : Int)))) (Prod.fst y2))))
                  fun y4 =>
                  aIf (!y4) (some ((0 : Int), (2 : Int)))
                    (aGd
                      (decide
                        ((0 : Int) ≤
                          IntKind.wrap IntKind.i64 (IntKind.wrap IntKind.i64 (IntKind.wrap IntKind.i64 (Int.ofNat (List.length (Prod.fst y2)) - y0) - (1 : Int)) + (1 : Int))))
                      (aGd
                        (decide
                          (IntKind.wrap IntKind.i64 (IntKind.wrap IntKind.i64 (IntKind.wrap IntKind.i64 (Int.ofNat (List.length (Prod.fst y2)) - y0) - (1 : Int)) + (1 : Int)) ≤
                            Int.ofNat (List.length (Prod.fst y2))))
                        (onSome
                          (F27 N
                            (List.drop
                              (Int.toNat
                                (IntKind.wrap IntKind.i64
                                  (IntKind.wrap IntKind.i64 (IntKind.wrap IntKind.i64 (Int.ofNat (List.length (Prod.fst y2)) - y0) - (1 : Int)) + (1 : Int))))
                              (List.take (List.length (Prod.fst y2)) (Prod.fst y2))))
                          fun y5 =>
                          aIf (!y5) (some ((0 : Int), (2 : Int)))
                            (aIf (decide ((1 : Int) < IntKind.wrap IntKind.i64 (IntKind.wrap IntKind.i64 (Int.ofNat (List.length (Prod.fst y2)) - y0) - (1 : Int))))
                              (onGet (Prod.fst y2) (0 : Int) fun z6 =>
                                aIf (Int.ofNat (UInt8.toNat z6) == (48 : Int)) (some ((0 : Int), (2 : Int)))
                                  (aGd (decide ((0 : Int) ≤ IntKind.wrap IntKind.i64 (IntKind.wrap IntKind.i64 (Int.ofNat (List.length (Prod.fst y2)) - y0) - (1 : Int))))
                                    (aGd
                                      (decide
                                        (IntKind.wrap IntKind.i64 (IntKind.wrap IntKind.i64 (Int.ofNat (List.length (Prod.fst y2)) - y0) - (1 : Int)) ≤
                                          Int.ofNat (List.length (Prod.fst y2))))
                                      (aGd
                                        (decide
                                          ((0 : Int) ≤
                                            IntKind.wrap IntKind.i64
                                              (IntKind.wrap IntKind.i64 (IntKind.wrap IntKind.i64 (Int.ofNat (List.length (Prod.fst y2)) - y0) - (1 : Int)) + (1 : Int))))
                                        (aGd
                                          (decide
                                            (IntKind.wrap IntKind.i64
                                                (IntKind.wrap IntKind.i64 (IntKind.wrap IntKind.i64 (Int.ofNat (List.length (Prod.fst y2)) - y0) - (1 : Int)) + (1 : Int)) ≤
                                              Int.ofNat (List.length (Prod.fst y2))))
                                          (aGd
                                            (decide
                                              (List.length
                                                    (List.drop (0 : Nat)
                                                      (List.take
                                                        (Int.toNat (IntKind.wrap IntKind.i64 (IntKind.wrap IntKind.i64 (Int.ofNat (List.length (Prod.fst y2)) - y0) - (1 : Int))))
                                                        (Prod.fst y2))) +
                                                  List.length
                                                    (List.drop
                                                      (Int.toNat
                                                        (IntKind.wrap IntKind.i64
                                                          (IntKind.wrap IntKind.i64 (IntKind.wrap IntKind.i64 (Int.ofNat (List.length (Prod.fst y2)) - y0) - (1 : Int)) +
                                                            (1 : Int))))
                                                      (List.take (List.length (Prod.fst y2)) (Prod.fst y2))) ≤
                                                (9223372036854775807 : Nat)))
                                            (L15_9 N N
                                              (List.drop (0 : Nat)
                                                  (List.take
                                                    (Int.toNat (IntKind.wrap IntKind.i64 (IntKind.wrap IntKind.i64 (Int.ofNat (List.length (Prod.fst y2)) - y0) - (1 : Int))))
                                                    (Prod.fst y2)) ++
                                                List.drop
                                                  (Int.toNat
                                                    (IntKind.wrap IntKind.i64
                                                      (IntKind.wrap IntKind.i64 (IntKind.wrap IntKind.i64 (Int.ofNat (List.length (Prod.fst y2)) - y0) - (1 : Int)) + (1 : Int))))
                                                  (List.take (List.length (Prod.fst y2)) (Prod.fst y2)))
                                              (Prod.snd y2))))))))
                              (aGd (decide ((0 : Int) ≤ IntKind.wrap IntKind.i64 (IntKind.wrap IntKind.i64 (Int.ofNat (List.length (Prod.fst y2)) - y0) - (1 : Int))))
                                (aGd
                                  (decide
                                    (IntKind.wrap IntKind.i64 (IntKind.wrap IntKind.i64 (Int.ofNat (List.length (Prod.fst y2)) - y0) - (1 : Int)) ≤
                                      Int.ofNat (List.length (Prod.fst y2))))
                                  (aGd
                                    (decide
                                      ((0 : Int) ≤
                                        IntKind.wrap IntKind.i64
                                          (IntKind.wrap IntKind.i64 (IntKind.wrap IntKind.i64 (Int.ofNat (List.length (Prod.fst y2)) - y0) - (1 : Int)) + (1 : Int))))
                                    (aGd
                                      (decide
                                        (IntKind.wrap IntKind.i64
                                            (IntKind.wrap IntKind.i64 (IntKind.wrap IntKind.i64 (Int.ofNat (List.length (Prod.fst y2)) - y0) - (1 : Int)) + (1 : Int)) ≤
                                          Int.ofNat (List.length (Prod.fst y2))))
                                      (aGd
                                        (decide
                                          (List.length
                                                (List.drop (0 : Nat)
                                                  (List.take
                                                    (Int.toNat (IntKind.wrap IntKind.i64 (IntKind.wrap IntKind.i64 (Int.ofNat (List.length (Prod.fst y2)) - y0) - (1 : Int))))
                                                    (Prod.fst y2))) +
                                              List.length
                                                (List.drop
                                                  (Int.toNat
                                                    (IntKind.wrap IntKind.i64
                                                      (IntKind.wrap IntKind.i64 (IntKind.wrap IntKind.i64 (Int.ofNat (List.length (Prod.fst y2)) - y0) - (1 : Int)) + (1 : Int))))
                                                  (List.take (List.length (Prod.fst y2)) (Prod.fst y2))) ≤
                                            (9223372036854775807 : Nat)))
                                        (L15_9 N N
                                          (List.drop (0 : Nat)
                                              (List.take (Int.toNat (IntKind.wrap IntKind.i64 (IntKind.wrap IntKind.i64 (Int.ofNat (List.length (Prod.fst y2)) - y0) - (1 : Int))))
                                                (Prod.fst y2)) ++
                                            List.drop
                                              (Int.toNat
                                                (IntKind.wrap IntKind.i64
                                                  (IntKind.wrap IntKind.i64 (IntKind.wrap IntKind.i64 (Int.ofNat (List.length (Prod.fst y2)) - y0) - (1 : Int)) + (1 : Int))))
                                              (List.take (List.length (Prod.fst y2)) (Prod.fst y2)))
                                          (Prod.snd y2)))))))))))))))) := by kernel_rfl
noncomputable def C15 (N : Nat) : Callee := mkCallee A15 R15 (F15 N)
theorem S15 (N : Nat) : Cok 15 (C15 N) := cok_of (l := (E15 N).calls) (O := O15 N) (cok_cons (S33 N) (cok_cons (S11 N) (cok_cons (S26 N) (cok_cons (S27 N) (cok_cons (S28 N) cok_nil))))) rfl Tryd.func15 rfl (by kernel_rfl) (by kernel_rfl)

-- function 18
def A18 : Cods ((List PV) × List PV) := (codsCons (codSl 1) (codsOne (codSl 1)))
def R18 : Cod (Bool) := codBool
noncomputable def E18 (N : Nat) : Env := ⟨Tryd.prog, []⟩
def O18 (N : Nat) : Opts := ⟨N, [(4, ⟨[5, 1, 0], [], 0⟩)], []⟩
noncomputable def F18 (N : Nat) (a : (List PV) × List PV) : Option (Bool) := aTyped (E18 N) (O18 N) Tryd.f18 A18 R18 a
noncomputable def L18_4 (N : Nat) (n : Nat) (x0 : List PV) (x1 : List PV) (x2 : Int) : Option Bool :=
  atLoop (E18 N) (O18 N) Tryd.f18 [(1 : Nat), (1 : Nat), (0 : Nat), (1 : Nat), (0 : Nat)] [] n
  {
    tmps :=
      [AV.p (PV.sl (1 : Nat) x0), AV.p (PV.sl (1 : Nat) x1), AV.top, AV.top, AV.top, AV.p (PV.int IntKind.i64 x2), AV.top, AV.top, AV.top, AV.top, AV.top, AV.top, AV.top, AV.top,
        AV.top, AV.top, AV.top, AV.top, AV.top, AV.top, AV.top, AV.top, AV.top, AV.top, AV.top, AV.top, AV.top, AV.top, AV.top, AV.top, AV.top, AV.top],
    heap := [] }
  fun x => Cod.dec R18 x some
theorem L18_4_eq (N : Nat) (n : Nat) (x0 : List PV) (x1 : List PV) (x2 : Int) : L18_4 N (n + 1) x0 x1 x2 =
    aIf (decide (x2 < Int.ofNat (List.length x0)))
  (aIf (decide (x2 < Int.ofNat (List.length x1)))
    (onGet x0 x2 fun z0 => onStr z0 fun u1 => onGet x1 x2 fun z2 => onStr z2 fun u3 => aIf (!u1 == u3) (some false) (L18_4 N n x0 x1 (IntKind.wrap IntKind.i64 (x2 + (1 : Int)))))
    (some true))
  (some true) := by kernel_rfl
theorem L18_4_zero (N : Nat) (x0 : List PV) (x1 : List PV) (x2 : Int) : L18_4 N 0 x0 x1 x2 = none := by kernel_rfl
theorem F18_eq (N : Nat) (a0 : List PV) (a1 : List PV) : F18 N (a0, a1) =
    aIf (Int.ofNat (List.length a0) != Int.ofNat (List.length a1)) (some false) (L18_4 N N a0 a1 (0 : Int)) := by kernel_rfl
noncomputable def C18 (N : Nat) : Callee := mkCallee A18 R18 (F18 N)
theorem S18 (N : Nat) : Cok 18 (C18 N) := cok_of (l := (E18 N).calls) (O := O18 N) cok_nil rfl Tryd.func18 rfl (by kernel_rfl) (by kernel_rfl)

-- function 19
def A19 : Cods (List UInt8) := (codsOne codStr)
def R19 : Cod (List PV) := (codSl 1)
noncomputable def E19 (N : Nat) : Env := ⟨Tryd.prog, []⟩
def O19 (N : Nat) : Opts := ⟨N, [(4, ⟨[4, 0, 3, 8], [(3, 9, 1)], 2⟩)], []⟩
noncomputable def F19 (N : Nat) (a : List UInt8) : Option (List PV) := aTyped (E19 N) (O19 N) Tryd.f19 A19 R19 a
noncomputable def L19_4 (N : Nat) (n : Nat) (x0 : List UInt8) (x1 : Int) (x2 : List UInt8) (x3 : Nat) (x4 : List PV) : Option (List PV) :=
  atLoop (E19 N) (O19 N) Tryd.f19 [(1 : Nat), (1 : Nat), (1 : Nat), (0 : Nat), (1 : Nat), (0 : Nat)] [] n
  {
    tmps :=
      [AV.p (PV.str x0), AV.top, AV.top, AV.own (1 : Nat), AV.p (PV.int IntKind.i64 x1), AV.top, AV.top, AV.top, AV.it (0 : Nat), AV.top, AV.top, AV.top, AV.top, AV.top, AV.top,
        AV.top, AV.top, AV.top, AV.top, AV.top, AV.top, AV.top, AV.top, AV.top, AV.top, AV.top, AV.top, AV.top, AV.top, AV.top, AV.top, AV.top, AV.top, AV.top, AV.top, AV.top,
        AV.top, AV.top, AV.top, AV.top],
    heap := [Blk.iter x2 x3, Blk.row (9 : Nat) (1 : Nat) x4] }
  fun x => Cod.dec R19 x some
theorem L19_4_eq (N : Nat) (n : Nat) (x0 : List UInt8) (x1 : Int) (x2 : List UInt8) (x3 : Nat) (x4 : List PV) : L19_4 N (n + 1) x0 x1 x2 x3 x4 =
    aIf (decide (x3 < List.length x2))
  (aIf (Int.ofNat (Prod.fst (Utf8.decode { data := List.toArray x2 } x3)) == (32 : Int))
    (aIf (decide ((0 : Int) ≤ x1))
      (aGd (decide (Int.ofNat x3 ≤ Int.ofNat (List.length x0)))
        (aGd (decide ((0 : Int) ≤ x1))
          (aGd (decide (x1 ≤ Int.ofNat (Int.toNat (Int.ofNat x3))))
            (aGd (decide ((List.length x4 + (1 : Nat)) * (17 : Nat) ≤ (140737488355328 : Nat)))
              (L19_4 N n x0 (-1 : Int) x2 (x3 + Prod.snd (Utf8.decode { data := List.toArray x2 } x3))
                (x4 ++ [PV.str (List.drop (Int.toNat x1) (List.take (Int.toNat (Int.ofNat x3)) x0))]))))))
      (L19_4 N n x0 (-1 : Int) x2 (x3 + Prod.snd (Utf8.decode { data := List.toArray x2 } x3)) x4))
    (aIf (Int.ofNat (Prod.fst (Utf8.decode { data := List.toArray x2 } x3)) == (9 : Int))
      (aIf (decide ((0 : Int) ≤ x1))
        (aGd (decide (Int.ofNat x3 ≤ Int.ofNat (List.length x0)))
          (aGd (decide ((0 : Int) ≤ x1))
            (aGd (decide (x1 ≤ Int.ofNat (Int.toNat (Int.ofNat x3))))
              (aGd (decide ((List.length x4 + (1 : Nat)) * (17 : Nat) ≤ (140737488355328 : Nat)))
                (L19_4 N n x0 (-1 : Int) x2 (x3 + Prod.snd (Utf8.decode { data := List.toArray x2 } x3))
                  (x4 ++ [PV.str (List.drop (Int.toNat x1) (List.take (Int.toNat (Int.ofNat x3)) x0))]))))))
        (L19_4 N n x0 (-1 : Int) x2 (x3 + Prod.snd (Utf8.decode { data := List.toArray x2 } x3)) x4))
      (aIf (decide (x1 < (0 : Int))) (L19_4 N n x0 (Int.ofNat x3) x2 (x3 + Prod.snd (Utf8.decode { data := List.toArray x2 } x3)) x4)
        (L19_4 N n x0 x1 x2 (x3 + Prod.snd (Utf8.decode { data := List.toArray x2 } x3)) x4))))
  (aIf (decide ((0 : Int) ≤ x1))
    (aGd (decide ((0 : Int) ≤ x1))
      (aGd (decide (x1 ≤ Int.ofNat (List.length x0)))
        (aGd (decide ((List.length x4 + (1 : Nat)) * (17 : Nat) ≤ (140737488355328 : Nat))) (some (x4 ++ [PV.str (List.drop (Int.toNat x1) (List.take (List.length x0) x0))])))))
    (some x4)) := by kernel_rfl
theorem L19_4_zero (N : Nat) (x0 : List UInt8) (x1 : Int) (x2 : List UInt8) (x3 : Nat) (x4 : List PV) : L19_4 N 0 x0 x1 x2 x3 x4 = none := by kernel_rfl
theorem F19_eq (N : Nat) (a0 : List UInt8) : F19 N a0 =
    L19_4 N N a0 (-1 : Int) a0 (0 : Nat) [] := by kernel_rfl
noncomputable def C19 (N : Nat) : Callee := mkCallee A19 R19 (F19 N)
theorem S19 (N : Nat) : Cok 19 (C19 N) := cok_of (l := (E19 N).calls) (O := O19 N) cok_nil rfl Tryd.func19 rfl (by kernel_rfl) (by kernel_rfl)

-- function 20
def A20 : Cods (List UInt8) := (codsOne codStr)
def R20 : Cod (List PV) := (codSl 1)
noncomputable def E20 (N : Nat) : Env := ⟨Tryd.prog, []⟩
def O20 (N : Nat) : Opts := ⟨N, [(4, ⟨[5, 4, 0, 3], [], 1⟩)], []⟩
noncomputable def F20 (N : Nat) (a : List UInt8) : Option (List PV) := aTyped (E20 N) (O20 N) Tryd.f20 A20 R20 a
noncomputable def L20_4 (N : Nat) (n : Nat) (x0 : List UInt8) (x1 : Int) (x2 : Int) (x3 : List PV) : Option (List PV) :=
  atLoop (E20 N) (O20 N) Tryd.f20 [(1 : Nat), (1 : Nat), (1 : Nat), (0 : Nat), (1 : Nat), (0 : Nat)] [] n
  {
    tmps :=
      [AV.p (PV.str x0), AV.top, AV.top, AV.own (0 : Nat), AV.p (PV.int IntKind.i64 x1), AV.p (PV.int IntKind.i64 x2), AV.top, AV.top, AV.top, AV.top, AV.top, AV.top, AV.top,
        AV.top, AV.top, AV.top, AV.top, AV.top, AV.top, AV.top, AV.top, AV.top, AV.top, AV.top, AV.top, AV.top, AV.top, AV.top, AV.top, AV.top, AV.top, AV.top, AV.top, AV.top,
        AV.top, AV.top, AV.top, AV.top, AV.top, AV.top, AV.top, AV.top, AV.top, AV.top, AV.top, AV.top, AV.top, AV.top, AV.top, AV.top],
    heap := [Blk.row (9 : Nat) (1 : Nat) x3] }
  fun x => Cod.dec R20 x some
theorem L20_4_eq (N : Nat) (n : Nat) (x0 : List UInt8) (x1 : Int) (x2 : Int) (x3 : List PV) : L20_4 N (n + 1) x0 x1 x2 x3 =
    aIf (decide (x2 ≤ Int.ofNat (List.length x0)))
  (aIf (x2 == Int.ofNat (List.length x0))
    (aIf (decide ((0 : Int) ≤ x1))
      (aGd (decide ((0 : Int) ≤ x2))
        (aGd (decide (x2 ≤ Int.ofNat (List.length x0)))
          (aGd (decide ((0 : Int) ≤ x1))
            (aGd (decide (x1 ≤ Int.ofNat (Int.toNat x2)))
              (aGd (decide ((List.length x3 + (1 : Nat)) * (17 : Nat) ≤ (140737488355328 : Nat)))
                (L20_4 N n x0 (-1 : Int) (IntKind.wrap IntKind.i64 (x2 + (1 : Int))) (x3 ++ [PV.str (List.drop (Int.toNat x1) (List.take (Int.toNat x2) x0))])))))))
      (L20_4 N n x0 x1 (IntKind.wrap IntKind.i64 (x2 + (1 : Int))) x3))
    (onGet x0 x2 fun z0 =>
      aIf (Int.ofNat (UInt8.toNat z0) == (32 : Int))
        (aIf (decide ((0 : Int) ≤ x1))
          (aGd (decide ((0 : Int) ≤ x2))
            (aGd (decide (x2 ≤ Int.ofNat (List.length x0)))
              (aGd (decide ((0 : Int) ≤ x1))
                (aGd (decide (x1 ≤ Int.ofNat (Int.toNat x2)))
                  (aGd (decide ((List.length x3 + (1 : Nat)) * (17 : Nat) ≤ (140737488355328 : Nat)))
                    (L20_4 N n x0 (-1 : Int) (IntKind.wrap IntKind.i64 (x2 + (1 : Int))) (x3 ++ [PV.str (List.drop (Int.toNat x1) (List.take (Int.toNat x2) x0))])))))))
          (L20_4 N n x0 x1 (IntKind.wrap IntKind.i64 (x2 + (1 : Int))) x3))
        (onGet x0 x2 fun z1 =>
          aIf (Int.ofNat (UInt8.toNat z1) == (9 : Int))
            (aIf (decide ((0 : Int) ≤ x1))
              (aGd (decide ((0 : Int) ≤ x2))
                (aGd (decide (x2 ≤ Int.ofNat (List.length x0)))
                  (aGd (decide ((0 : Int) ≤ x1))
                    (aGd (decide (x1 ≤ Int.ofNat (Int.toNat x2)))
                      (aGd (decide ((List.length x3 + (1 : Nat)) * (17 : Nat) ≤ (140737488355328 : Nat)))
                        (aIf (!Int.ofNat (UInt8.toNat z1) == (9 : Int))
                          (L20_4 N n x0 x2 (IntKind.wrap IntKind.i64 (x2 + (1 : Int))) (x3 ++ [PV.str (List.drop (Int.toNat x1) (List.take (Int.toNat x2) x0))]))
                          (L20_4 N n x0 (-1 : Int) (IntKind.wrap IntKind.i64 (x2 + (1 : Int))) (x3 ++ [PV.str (List.drop (Int.toNat x1) (List.take (Int.toNat x2) x0))]))))))))
              (aIf (!Int.ofNat (UInt8.toNat z1) == (9 : Int))
                (aIf (decide (x1 < (0 : Int))) (L20_4 N n x0 x2 (IntKind.wrap IntKind.i64 (x2 + (1 : Int))) x3) (L20_4 N n x0 x1 (IntKind.wrap IntKind.i64 (x2 + (1 : Int))) x3))
                (L20_4 N n x0 x1 (IntKind.wrap IntKind.i64 (x2 + (1 : Int))) x3)))
            (aIf (!Int.ofNat (UInt8.toNat z1) == (9 : Int))
              (aIf (decide (x1 < (0 : Int))) (L20_4 N n x0 x2 (IntKind.wrap IntKind.i64 (x2 + (1 : Int))) x3) (L20_4 N n x0 x1 (IntKind.wrap IntKind.i64 (x2 + (1 : Int))) x3))
              (L20_4 N n x0 x1 (IntKind.wrap IntKind.i64 (x2 + (1 : Int))) x3)))))
  (some x3) := by kernel_rfl
theorem L20_4_zero (N : Nat) (x0 : List UInt8) (x1 : Int) (x2 : Int) (x3 : List PV) : L20_4 N 0 x0 x1 x2 x3 = none := by kernel_rfl
theorem F20_eq (N : Nat) (a0 : List UInt8) : F20 N a0 =
    L20_4 N N a0 (-1 : Int) (0 : Int) [] := by kernel_rfl
noncomputable def C20 (N : Nat) : Callee := mkCallee A20 R20 (F20 N)
theorem S20 (N : Nat) : Cok 20 (C20 N) := cok_of (l := (E20 N).calls) (O := O20 N) cok_nil rfl Tryd.func20 rfl (by kernel_rfl) (by kernel_rfl)

-- function 21
def A21 : Cods (List UInt8) := (codsOne codStr)
def R21 : Cod ((List PV) × Int) := (codTup (codsCons (codSl 1) (codsOne (codInt .i64))))
noncomputable def E21 (N : Nat) : Env := ⟨Tryd.prog, []⟩
def O21 (N : Nat) : Opts := ⟨N, [(6, ⟨[5, 0, 4, 12], [(4, 9, 1)], 2⟩)], []⟩
noncomputable def F21 (N : Nat) (a : List UInt8) : Option ((List PV) × Int) := aTyped (E21 N) (O21 N) Tryd.f21 A21 R21 a
noncomputable def L21_6 (N : Nat) (n : Nat) (x0 : List UInt8) (x1 : Int) (x2 : List UInt8) (x3 : Nat) (x4 : List PV) : Option (List PV × Int) :=
  atLoop (E21 N) (O21 N) Tryd.f21 [(1 : Nat), (1 : Nat), (1 : Nat), (1 : Nat), (0 : Nat), (1 : Nat), (0 : Nat)] [] n
  {
    tmps :=
      [AV.p (PV.str x0), AV.top, AV.top, AV.top, AV.own (1 : Nat), AV.p (PV.int IntKind.i64 x1), AV.top, AV.top, AV.top, AV.top, AV.top, AV.top, AV.it (0 : Nat), AV.top, AV.top,
        AV.top, AV.top, AV.top, AV.top, AV.top, AV.top, AV.top, AV.top, AV.top, AV.top, AV.top, AV.top, AV.top, AV.top, AV.top, AV.top, AV.top, AV.top, AV.top, AV.top, AV.top,
        AV.top, AV.top, AV.top, AV.top, AV.top, AV.top, AV.top],
    heap := [Blk.iter x2 x3, Blk.row (9 : Nat) (1 : Nat) x4] }
  fun x => Cod.dec R21 x some
theorem L21_6_eq (N : Nat) (n : Nat) (x0 : List UInt8) (x1 : Int) (x2 : List UInt8) (x3 : Nat) (x4 : List PV) : L21_6 N (n + 1) x0 x1 x2 x3 x4 =
    aIf (decide (x3 < List.length x2))
  (aIf (Int.ofNat (Prod.fst (Utf8.decode { data := List.toArray x2 } x3)) == (10 : Int))
    (aGd (decide (Int.ofNat x3 ≤ Int.ofNat (List.length x0)))
      (aGd (decide ((0 : Int) ≤ x1))
        (aGd (decide (x1 ≤ Int.ofNat (Int.toNat (Int.ofNat x3))))
          (aGd (decide ((List.length x4 + (1 : Nat)) * (17 : Nat) ≤ (140737488355328 : Nat)))
            (L21_6 N n x0 (IntKind.wrap IntKind.i64 (Int.ofNat x3 + (1 : Int))) x2 (x3 + Prod.snd (Utf8.decode { data := List.toArray x2 } x3))
              (x4 ++ [PV.str (List.drop (Int.toNat x1) (List.take (Int.toNat (Int.ofNat x3)) x0))]))))))
    (aIf (Int.ofNat (Prod.fst (Utf8.decode { data := List.toArray x2 } x3)) != (9 : Int))
      (aIf (decide (Int.ofNat (Prod.fst (Utf8.decode { data := List.toArray x2 } x3)) < (32 : Int))) (some ([], (2 : Int)))
        (aIf (decide ((126 : Int) < Int.ofNat (Prod.fst (Utf8.decode { data := List.toArray x2 } x3)))) (some ([], (2 : Int)))
          (L21_6 N n x0 x1 x2 (x3 + Prod.snd (Utf8.decode { data := List.toArray x2 } x3)) x4)))
      (L21_6 N n x0 x1 x2 (x3 + Prod.snd (Utf8.decode { data := List.toArray x2 } x3)) x4)))
  (aIf (x1 != Int.ofNat (List.length x0)) (some ([], (2 : Int))) (some (x4, (0 : Int)))) := by kernel_rfl
theorem L21_6_zero (N : Nat) (x0 : List UInt8) (x1 : Int) (x2 : List UInt8) (x3 : Nat) (x4 : List PV) : L21_6 N 0 x0 x1 x2 x3 x4 = none := by kernel_rfl
theorem F21_eq (N : Nat) (a0 : List UInt8) : F21 N a0 =
    aIf (decide ((65536 : Int) < Int.ofNat (List.length a0))) (some ([], (4 : Int))) (L21_6 N N a0 (0 : Int) a0 (0 : Nat) []) := by kernel_rfl
noncomputable def C21 (N : Nat) : Callee := mkCallee A21 R21 (F21 N)
theorem S21 (N : Nat) : Cok 21 (C21 N) := cok_of (l := (E21 N).calls) (O := O21 N) cok_nil rfl Tryd.func21 rfl (by kernel_rfl) (by kernel_rfl)

-- function 22
def A22 : Cods (List UInt8) := (codsOne codStr)
def R22 : Cod ((List PV) × Int) := (codTup (codsCons (codSl 1) (codsOne (codInt .i64))))
noncomputable def E22 (N : Nat) : Env := ⟨Tryd.prog, []⟩
def O22 (N : Nat) : Opts := ⟨N, [(6, ⟨[6, 5, 0, 4], [], 1⟩)], []⟩
noncomputable def F22 (N : Nat) (a : List UInt8) : Option ((List PV) × Int) := aTyped (E22 N) (O22 N) Tryd.f22 A22 R22 a
noncomputable def L22_6 (N : Nat) (n : Nat) (x0 : List UInt8) (x1 : Int) (x2 : Int) (x3 : List PV) : Option (List PV × Int) :=
  atLoop (E22 N) (O22 N) Tryd.f22 [(1 : Nat), (1 : Nat), (1 : Nat), (1 : Nat), (0 : Nat), (1 : Nat), (0 : Nat)] [] n
  {
    tmps :=
      [AV.p (PV.str x0), AV.top, AV.top, AV.top, AV.own (0 : Nat), AV.p (PV.int IntKind.i64 x1), AV.p (PV.int IntKind.i64 x2), AV.top, AV.top, AV.top, AV.top, AV.top, AV.top,
        AV.top, AV.top, AV.top, AV.top, AV.top, AV.top, AV.top, AV.top, AV.top, AV.top, AV.top, AV.top, AV.top, AV.top, AV.top, AV.top, AV.top, AV.top, AV.top, AV.top, AV.top,
        AV.top, AV.top, AV.top, AV.top, AV.top, AV.top, AV.top, AV.top, AV.top, AV.top, AV.top, AV.top, AV.top, AV.top, AV.top, AV.top, AV.top],
    heap := [Blk.row (9 : Nat) (1 : Nat) x3] }
  fun x => Cod.dec R22 x some
theorem L22_6_eq (N : Nat) (n : Nat) (x0 : List UInt8) (x1 : Int) (x2 : Int) (x3 : List PV) : L22_6 N (n + 1) x0 x1 x2 x3 =
    aIf (decide (x2 < Int.ofNat (List.length x0)))
  (onGet x0 x2 fun z0 =>
    aIf (decide (Int.ofNat (UInt8.toNat z0) < (32 : Int)))
      (aIf (Int.ofNat (UInt8.toNat z0) != (9 : Int))
        (aIf (Int.ofNat (UInt8.toNat z0) != (10 : Int)) (some ([], (2 : Int)))
          (aIf (decide ((126 : Int) < Int.ofNat (UInt8.toNat z0))) (some ([], (2 : Int)))
            (aIf (Int.ofNat (UInt8.toNat z0) == (10 : Int))
              (aGd (decide ((0 : Int) ≤ x2))
                (aGd (decide (x2 ≤ Int.ofNat (List.length x0)))
                  (aGd (decide ((0 : Int) ≤ x1))
                    (aGd (decide (x1 ≤ Int.ofNat (Int.toNat x2)))
                      (aGd (decide ((List.length x3 + (1 : Nat)) * (17 : Nat) ≤ (140737488355328 : Nat)))
                        (L22_6 N n x0 (IntKind.wrap IntKind.i64 (x2 + (1 : Int))) (IntKind.wrap IntKind.i64 (x2 + (1 : Int)))
                          (x3 ++ [PV.str (List.drop (Int.toNat x1) (List.take (Int.toNat x2) x0))])))))))
              (L22_6 N n x0 x1 (IntKind.wrap IntKind.i64 (x2 + (1 : Int))) x3))))
        (aIf (decide ((126 : Int) < Int.ofNat (UInt8.toNat z0))) (some ([], (2 : Int)))
          (aIf (Int.ofNat (UInt8.toNat z0) == (10 : Int))
            (aGd (decide ((0 : Int) ≤ x2))
              (aGd (decide (x2 ≤ Int.ofNat (List.length x0)))
                (aGd (decide ((0 : Int) ≤ x1))
                  (aGd (decide (x1 ≤ Int.ofNat (Int.toNat x2)))
                    (aGd (decide ((List.length x3 + (1 : Nat)) * (17 : Nat) ≤ (140737488355328 : Nat)))
                      (L22_6 N n x0 (IntKind.wrap IntKind.i64 (x2 + (1 : Int))) (IntKind.wrap IntKind.i64 (x2 + (1 : Int)))
                        (x3 ++ [PV.str (List.drop (Int.toNat x1) (List.take (Int.toNat x2) x0))])))))))
            (L22_6 N n x0 x1 (IntKind.wrap IntKind.i64 (x2 + (1 : Int))) x3))))
      (aIf (decide ((126 : Int) < Int.ofNat (UInt8.toNat z0))) (some ([], (2 : Int)))
        (aIf (Int.ofNat (UInt8.toNat z0) == (10 : Int))
          (aGd (decide ((0 : Int) ≤ x2))
            (aGd (decide (x2 ≤ Int.ofNat (List.length x0)))
              (aGd (decide ((0 : Int) ≤ x1))
                (aGd (decide (x1 ≤ Int.ofNat (Int.toNat x2)))
                  (aGd (decide ((List.length x3 + (1 : Nat)) * (17 : Nat) ≤ (140737488355328 : Nat)))
                    (L22_6 N n x0 (IntKind.wrap IntKind.i64 (x2 + (1 : Int))) (IntKind.wrap IntKind.i64 (x2 + (1 : Int)))
                      (x3 ++ [PV.str (List.drop (Int.toNat x1) (List.take (Int.toNat x2) x0))])))))))
          (L22_6 N n x0 x1 (IntKind.wrap IntKind.i64 (x2 + (1 : Int))) x3))))
  (aIf (decide (x1 < Int.ofNat (List.length x0))) (some ([], (2 : Int))) (some (x3, (0 : Int)))) := by kernel_rfl
theorem L22_6_zero (N : Nat) (x0 : List UInt8) (x1 : Int) (x2 : Int) (x3 : List PV) : L22_6 N 0 x0 x1 x2 x3 = none := by kernel_rfl
theorem F22_eq (N : Nat) (a0 : List UInt8) : F22 N a0 =
    aIf (decide ((65536 : Int) < Int.ofNat (List.length a0))) (some ([], (4 : Int))) (L22_6 N N a0 (0 : Int) (0 : Int) []) := by kernel_rfl
noncomputable def C22 (N : Nat) : Callee := mkCallee A22 R22 (F22 N)
theorem S22 (N : Nat) : Cok 22 (C22 N) := cok_of (l := (E22 N).calls) (O := O22 N) cok_nil rfl Tryd.func22 rfl (by kernel_rfl) (by kernel_rfl)

-- function 12
def A12 : Cods (Int) := (codsOne (codInt .i64))
def R12 : Cod (List UInt8) := codStr
noncomputable def E12 (N : Nat) : Env := ⟨Tryd.prog, [(29, C29 N)]⟩
def O12 (N : Nat) : Opts := ⟨N, [], []⟩
noncomputable def F12 (N : Nat) (a : Int) : Option (List UInt8) := aTyped (E12 N) (O12 N) Tryd.f12 A12 R12 a
theorem F12_eq (N : Nat) (a0 : Int) : F12 N a0 =
    onSome (F29 N a0) fun y0 => some y0 := by kernel_rfl
noncomputable def C12 (N : Nat) : Callee := mkCallee A12 R12 (F12 N)
theorem S12 (N : Nat) : Cok 12 (C12 N) := cok_of (l := (E12 N).calls) (O := O12 N) (cok_cons (S29 N) cok_nil) rfl Tryd.func12 rfl (by kernel_rfl) (by kernel_rfl)

-- function 13
def A13 : Cods (Int) := (codsOne (codInt .i64))
def R13 : Cod (List UInt8) := codStr
noncomputable def E13 (N : Nat) : Env := ⟨Tryd.prog, [(30, C30 N)]⟩
def O13 (N : Nat) : Opts := ⟨N, [], []⟩
noncomputable def F13 (N : Nat) (a : Int) : Option (List UInt8) := aTyped (E13 N) (O13 N) Tryd.f13 A13 R13 a
theorem F13_eq (N : Nat) (a0 : Int) : F13 N a0 =
    aIf (decide (a0 < (0 : Int)))
  (onSome (F30 N (IntKind.wrap IntKind.u64 (IntKind.wrap IntKind.u64 (IntKind.wrap IntKind.i64 ((0 : Int) - IntKind.wrap IntKind.i64 (a0 + (1 : Int)))) + (1 : Int)))) fun y0 =>
    aGd (decide ((1 : Nat) + List.length y0 ≤ (9223372036854775807 : Nat))) (some ((45 : UInt8) :: List.append [] y0)))
  (onSome (F30 N (IntKind.wrap IntKind.u64 a0)) fun y1 => some y1) := by kernel_rfl
noncomputable def C13 (N : Nat) : Callee := mkCallee A13 R13 (F13 N)
theorem S13 (N : Nat) : Cok 13 (C13 N) := cok_of (l := (E13 N).calls) (O := O13 N) (cok_cons (S30 N) cok_nil) rfl Tryd.func13 rfl (by kernel_rfl) (by kernel_rfl)

-- function 16
def A16 : Cods ((Int) × Int) := (codsCons (codInt .i64) (codsOne (codInt .i64)))
def R16 : Cod (List UInt8) := codStr
noncomputable def E16 (N : Nat) : Env := ⟨Tryd.prog, [(31, C31 N), (12, C12 N), (23, C23 N), (34, C34 N)]⟩
def O16 (N : Nat) : Opts := ⟨N, [], []⟩
noncomputable def F16 (N : Nat) (a : (Int) × Int) : Option (List UInt8) := aTyped (E16 N) (O16 N) Tryd.f16 A16 R16 a
theorem F16_eq (N : Nat) (a0 : Int) (a1 : Int) : F16 N (a0, a1) =
    onSome (F31 N a1) fun y0 =>
  aIf (y0 == (0 : Int)) (onSome (F12 N a0) fun y1 => some y1)
    (onSome (F12 N a0) fun y2 =>
      onSome (F23 N (y2, [(45 : UInt8)])) fun y3 =>
        aIf (decide ((0 : Int) < IntKind.wrap IntKind.i64 (IntKind.wrap IntKind.i64 (y0 + (1 : Int)) - Int.ofNat (List.length (Prod.fst y3)))))
          (onSome (F34 N ([(48 : UInt8)], IntKind.wrap IntKind.i64 (IntKind.wrap IntKind.i64 (y0 + (1 : Int)) - Int.ofNat (List.length (Prod.fst y3))))) fun y4 =>
            aGd (decide (List.length y4 + List.length (Prod.fst y3) ≤ (9223372036854775807 : Nat)))
              (aGd (decide ((0 : Int) ≤ IntKind.wrap IntKind.i64 (Int.ofNat (List.length (y4 ++ Prod.fst y3)) - y0)))
                (aGd (decide (IntKind.wrap IntKind.i64 (Int.ofNat (List.length (y4 ++ Prod.fst y3)) - y0) ≤ Int.ofNat (List.length (y4 ++ Prod.fst y3))))
                  (aGd
                    (decide
                      (List.length (List.drop (0 : Nat) (List.take (Int.toNat (IntKind.wrap IntKind.i64 (Int.ofNat (List.length (y4 ++ Prod.fst y3)) - y0))) (y4 ++ Prod.fst y3))) +
                          (1 : Nat) ≤
                        (9223372036854775807 : Nat)))
                    (aGd (decide ((0 : Int) ≤ IntKind.wrap IntKind.i64 (Int.ofNat (List.length (y4 ++ Prod.fst y3)) - y0)))
                      (aGd (decide (IntKind.wrap IntKind.i64 (Int.ofNat (List.length (y4 ++ Prod.fst y3)) - y0) ≤ Int.ofNat (List.length (y4 ++ Prod.fst y3))))
                        (aGd
                          (decide
                            (List.length
                                  (List.drop (0 : Nat) (List.take (Int.toNat (IntKind.wrap IntKind.i64 (Int.ofNat (List.length (y4 ++ Prod.fst y3)) - y0))) (y4 ++ Prod.fst y3)) ++
                                    [(46 : UInt8)]) +
                                List.length
                                  (List.drop (Int.toNat (IntKind.wrap IntKind.i64 (Int.ofNat (List.length (y4 ++ Prod.fst y3)) - y0)))
                                    (List.take (List.length (y4 ++ Prod.fst y3)) (y4 ++ Prod.fst y3))) ≤
                              (9223372036854775807 : Nat)))
                          (aIf (Prod.snd y3)
                            (aGd
                              (decide
                                ((1 : Nat) +
                                    List.length
                                      (List.drop (0 : Nat)
                                            (List.take (Int.toNat (IntKind.wrap IntKind.i64 (Int.ofNat (List.length (y4 ++ Prod.fst y3)) - y0))) (y4 ++ Prod.fst y3)) ++
                                          [(46 : UInt8)] ++
                                        List.drop (Int.toNat (IntKind.wrap IntKind.i64 (Int.ofNat (List.length (y4 ++ Prod.fst y3)) - y0)))
                                          (List.take (List.length (y4 ++ Prod.fst y3)) (y4 ++ Prod.fst y3))) ≤
                                  (9223372036854775807 : Nat)))
                              (some
                                ((45 : UInt8) ::
                                  List.append []
                                    (List.drop (0 : Nat)
                                          (List.take (Int.toNat (IntKind.wrap IntKind.i64 (Int.ofNat (List.length (y4 ++ Prod.fst y3)) - y0))) (y4 ++ Prod.fst y3)) ++
                                        [(46 : UInt8)] ++
                                      List.drop (Int.toNat (IntKind.wrap IntKind.i64 (Int.ofNat (List.length (y4 ++ Prod.fst y3)) - y0)))
                                        (List.take (List.length (y4 ++ Prod.fst y3)) (y4 ++ Prod.fst y3))))))
                            (some
                              (List.drop (0 : Nat) (List.take (Int.toNat (IntKind.wrap IntKind.i64 (Int.ofNat (List.length (y4 ++ Prod.fst y3)) - y0))) (y4 ++ Prod.fst y3)) ++
                                  [(46 : UInt8)] ++
                                List.drop (Int.toNat (IntKind.wrap IntKind.i64 (Int.ofNat (List.length (y4 ++ Prod.fst y3)) - y0)))
                                  (List.take (List.length (y4 ++ Prod.fst y3)) (y4 ++ Prod.fst y3))))))))))))
          (aGd (decide ((0 : Int) ≤ IntKind.wrap IntKind.i64 (Int.ofNat (List.length (Prod.fst y3)) - y0)))
            (aGd (decide (IntKind.wrap IntKind.i64 (Int.ofNat (List.length (Prod.fst y3)) - y0) ≤ Int.ofNat (List.length (Prod.fst y3))))
              (aGd
                (decide
                  (List.length (List.drop (0 : Nat) (List.take (Int.toNat (IntKind.wrap IntKind.i64 (Int.ofNat (List.length (Prod.fst y3)) - y0))) (Prod.fst y3))) + (1 : Nat) ≤
                    (9223372036854775807 : Nat)))
                (aGd (decide ((0 : Int) ≤ IntKind.wrap IntKind.i64 (Int.ofNat (List.length (Prod.fst y3)) - y0)))
                  (aGd (decide (IntKind.wrap IntKind.i64 (Int.ofNat (List.length (Prod.fst y3)) - y0) ≤ Int.ofNat (List.length (Prod.fst y3))))
                    (aGd
                      (decide
                        (List.length
                              (List.drop (0 : Nat) (List.take (Int.toNat (IntKind.wrap IntKind.i64 (Int.ofNat (List.length (Prod.fst y3)) - y0))) (Prod.fst y3)) ++
                                [(46 : UInt8)]) +
                            List.length
                              (List.drop (Int.toNat (IntKind.wrap IntKind.i64 (Int.ofNat (List.length (Prod.fst y3)) - y0)))
                                (List.take (List.length (Prod.fst y3)) (Prod.fst y3))) ≤
                          (9223372036854775807 : Nat)))
                      (aIf (Prod.snd y3)
                        (aGd
                          (decide
                            ((1 : Nat) +
                                List.length
                                  (List.drop (0 : Nat) (List.take (Int.toNat (IntKind.wrap IntKind.i64 (Int.ofNat (List.length (Prod.fst y3)) - y0))) (Prod.fst y3)) ++
                                      [(46 : UInt8)] ++
                                    List.drop (Int.toNat (IntKind.wrap IntKind.i64 (Int.ofNat (List.length (Prod.fst y3)) - y0)))
                                      (List.take (List.length (Prod.fst y3)) (Prod.fst y3))) ≤
                              (9223372036854775807 : Nat)))
                          (some
                            ((45 : UInt8) ::
                              List.append []
                                (List.drop (0 : Nat) (List.take (Int.toNat (IntKind.wrap IntKind.i64 (Int.ofNat (List.length (Prod.fst y3)) - y0))) (Prod.fst y3)) ++
                                    [(46 : UInt8)] ++
                                  List.drop (Int.toNat (IntKind.wrap IntKind.i64 (Int.ofNat (List.length (Prod.fst y3)) - y0)))
                                    (List.take (List.length (Prod.fst y3)) (Prod.fst y3))))))
                        (some
                          (List.drop (0 : Nat) (List.take (Int.toNat (IntKind.wrap IntKind.i64 (Int.ofNat (List.length (Prod.fst y3)) - y0))) (Prod.fst y3)) ++ [(46 : UInt8)] ++
                            List.drop (Int.toNat (IntKind.wrap IntKind.i64 (Int.ofNat (List.length (Prod.fst y3)) - y0)))
                              (List.take (List.length (Prod.fst y3)) (Prod.fst y3)))))))))))) := by kernel_rfl
noncomputable def C16 (N : Nat) : Callee := mkCallee A16 R16 (F16 N)
theorem S16 (N : Nat) : Cok 16 (C16 N) := cok_of (l := (E16 N).calls) (O := O16 N) (cok_cons (S31 N) (cok_cons (S12 N) (cok_cons (S23 N) (cok_cons (S34 N) cok_nil)))) rfl Tryd.func16 rfl (by kernel_rfl) (by kernel_rfl)

-- function 17
def A17 : Cods ((Int) × Int) := (codsCons (codInt .i64) (codsOne (codInt .i64)))
def R17 : Cod (List UInt8) := codStr
noncomputable def E17 (N : Nat) : Env := ⟨Tryd.prog, [(33, C33 N), (13, C13 N), (26, C26 N)]⟩
def O17 (N : Nat) : Opts := ⟨N, [(5, ⟨[6, 7, 5], [], 0⟩)], []⟩
noncomputable def F17 (N : Nat) (a : (Int) × Int) : Option (List UInt8) := aTyped (E17 N) (O17 N) Tryd.f17 A17 R17 a
noncomputable def L17_5 (N : Nat) (n : Nat) (x0 : Int) (x1 : List UInt8) (x2 : Bool) : Option (List UInt8) :=
  atLoop (E17 N) (O17 N) Tryd.f17 [(1 : Nat), (1 : Nat), (1 : Nat), (1 : Nat), (0 : Nat), (0 : Nat)] [] n
  {
    tmps :=
      [AV.top, AV.top, AV.top, AV.top, AV.top, AV.p (PV.int IntKind.i64 x0), AV.p (PV.str x1), AV.p (PV.bool x2), AV.top, AV.top, AV.top, AV.top, AV.top, AV.top, AV.top, AV.top,
        AV.top, AV.top, AV.top, AV.top, AV.top, AV.top, AV.top, AV.top, AV.top, AV.top, AV.top, AV.top, AV.top, AV.top, AV.top, AV.top, AV.top, AV.top, AV.top, AV.top, AV.top,
        AV.top, AV.top, AV.top, AV.top, AV.top, AV.top, AV.top],
    heap := [] }
  fun x => Cod.dec R17 x some
theorem L17_5_eq (N : Nat) (n : Nat) (x0 : Int) (x1 : List UInt8) (x2 : Bool) : L17_5 N (n + 1) x0 x1 x2 =
    aIf (decide (Int.ofNat (List.length x1) ≤ x0)) (aGd (decide ((1 : Nat) + List.length x1 ≤ (9223372036854775807 : Nat))) (L17_5 N n x0 ((48 : UInt8) :: List.append [] x1) x2))
  (aGd (decide ((0 : Int) ≤ IntKind.wrap IntKind.i64 (Int.ofNat (List.length x1) - x0)))
    (aGd (decide (IntKind.wrap IntKind.i64 (Int.ofNat (List.length x1) - x0) ≤ Int.ofNat (List.length x1)))
      (aGd
        (decide
          (List.length (List.drop (0 : Nat) (List.take (Int.toNat (IntKind.wrap IntKind.i64 (Int.ofNat (List.length x1) - x0))) x1)) + (1 : Nat) ≤ (9223372036854775807 : Nat)))
        (aGd (decide ((0 : Int) ≤ IntKind.wrap IntKind.i64 (Int.ofNat (List.length x1) - x0)))
          (aGd (decide (IntKind.wrap IntKind.i64 (Int.ofNat (List.length x1) - x0) ≤ Int.ofNat (List.length x1)))
            (aGd
              (decide
                (List.length (List.drop (0 : Nat) (List.take (Int.toNat (IntKind.wrap IntKind.i64 (Int.ofNat (List.length x1) - x0))) x1) ++ [(46 : UInt8)]) +
                    List.length (List.drop (Int.toNat (IntKind.wrap IntKind.i64 (Int.ofNat (List.length x1) - x0))) (List.take (List.length x1) x1)) ≤
                  (9223372036854775807 : Nat)))
              (aIf x2
                (aGd
                  (decide
                    ((1 : Nat) +
                        List.length
                          (List.drop (0 : Nat) (List.take (Int.toNat (IntKind.wrap IntKind.i64 (Int.ofNat (List.length x1) - x0))) x1) ++ [(46 : UInt8)] ++
                            List.drop (Int.toNat (IntKind.wrap IntKind.i64 (Int.ofNat (List.length x1) - x0))) (List.take (List.length x1) x1)) ≤
                      (9223372036854775807 : Nat)))
                  (some
                    ((45 : UInt8) ::
                      List.append []
                        (List.drop (0 : Nat) (List.take (Int.toNat (IntKind.wrap IntKind.i64 (Int.ofNat (List.length x1) - x0))) x1) ++ [(46 : UInt8)] ++
                          List.drop (Int.toNat (IntKind.wrap IntKind.i64 (Int.ofNat (List.length x1) - x0))) (List.take (List.length x1) x1)))))
                (some
                  (List.drop (0 : Nat) (List.take (Int.toNat (IntKind.wrap IntKind.i64 (Int.ofNat (List.length x1) - x0))) x1) ++ [(46 : UInt8)] ++
                    List.drop (Int.toNat (IntKind.wrap IntKind.i64 (Int.ofNat (List.length x1) - x0))) (List.take (List.length x1) x1)))))))))) := by kernel_rfl
theorem L17_5_zero (N : Nat) (x0 : Int) (x1 : List UInt8) (x2 : Bool) : L17_5 N 0 x0 x1 x2 = none := by kernel_rfl
theorem F17_eq (N : Nat) (a0 : Int) (a1 : Int) : F17 N (a0, a1) =
    onSome (F33 N a1) fun y0 =>
  aIf (y0 == (0 : Int)) (onSome (F13 N a0) fun y1 => some y1) (onSome (F13 N a0) fun y2 => onSome (F26 N y2) fun y3 => L17_5 N N y0 (Prod.fst y3) (Prod.snd y3)) := by kernel_rfl
noncomputable def C17 (N : Nat) : Callee := mkCallee A17 R17 (F17 N)
theorem S17 (N : Nat) : Cok 17 (C17 N) := cok_of (l := (E17 N).calls) (O := O17 N) (cok_cons (S33 N) (cok_cons (S13 N) (cok_cons (S26 N) cok_nil))) rfl Tryd.func17 rfl (by kernel_rfl) (by kernel_rfl)

-- function 9
def A9 : Cods (Unit) := codsNil
def R9 : Cod (Bool) := codBool
noncomputable def E9 (N : Nat) : Env := ⟨Tryd.prog, [(21, C21 N), (10, C10 N), (14, C14 N), (12, C12 N), (16, C16 N), (18, C18 N), (19, C19 N)]⟩
def O9 (N : Nat) : Opts := ⟨N, [], []⟩
noncomputable def F9 (N : Nat) (a : Unit) : Option (Bool) := aTyped (E9 N) (O9 N) Tryd.f9 A9 R9 a
theorem F9_eq (N : Nat)  : F9 N () =
    onSome (F21 N [(97 : UInt8), (10 : UInt8), (98 : UInt8), (10 : UInt8)]) fun y0 =>
  onSome (F10 N [(48 : UInt8), (48 : UInt8), (55 : UInt8)]) fun y1 =>
    onSome (F14 N ([(45 : UInt8), (48 : UInt8), (46 : UInt8), (48 : UInt8), (53 : UInt8)], (2 : Int))) fun y2 =>
      onSome (F12 N (-5 : Int)) fun y3 =>
        aIf (y3 == [(45 : UInt8), (53 : UInt8)])
          (onSome (F16 N ((-5 : Int), (2 : Int))) fun y4 =>
            aIf (y4 == [(45 : UInt8), (48 : UInt8), (46 : UInt8), (48 : UInt8), (53 : UInt8)])
              (aIf (Prod.fst y2 == (-5 : Int))
                (aIf (Prod.snd y2 == (0 : Int))
                  (aIf (Prod.snd y1 == (2 : Int))
                    (aIf (Prod.snd y0 == (0 : Int))
                      (onSome (F18 N (Prod.fst y0, [PV.str [(97 : UInt8)], PV.str [(98 : UInt8)]])) fun y5 =>
                        aIf y5
                          (onSome (F19 N [(32 : UInt8), (97 : UInt8), (9 : UInt8), (98 : UInt8), (99 : UInt8), (32 : UInt8)]) fun y6 =>
                            onSome (F18 N (y6, [PV.str [(97 : UInt8)], PV.str [(98 : UInt8), (99 : UInt8)]])) fun y7 => some y7)
                          (some false))
                      (some false))
                    (some false))
                  (some false))
                (some false))
              (some false))
          (some false) := by kernel_rfl
noncomputable def C9 (N : Nat) : Callee := mkCallee A9 R9 (F9 40)
theorem S9 (N : Nat) : Cok 9 (C9 N) := cok_of (l := (E9 40).calls) (O := O9 40) (cok_cons (S21 40) (cok_cons (S10 40) (cok_cons (S14 40) (cok_cons (S12 40) (cok_cons (S16 40) (cok_cons (S18 40) (cok_cons (S19 40) cok_nil))))))) rfl Tryd.func9 rfl (by kernel_rfl) (by kernel_rfl)

-- function 3
def A3 : Cods ((Int) × List UInt8) := (codsCons (codInt .i64) (codsOne codStr))
def R3 : Cod (Bool) := codBool
noncomputable def E3 (N : Nat) : Env := ⟨Tryd.prog, [(9, C9 N), (10, C10 N), (11, C11 N), (12, C12 N), (13, C13 N)]⟩
def O3 (N : Nat) : Opts := ⟨N, [], []⟩
noncomputable def F3 (N : Nat) (a : (Int) × List UInt8) : Option (Bool) := aTyped (E3 N) (O3 N) Tryd.f3 A3 R3 a
theorem F3_eq (N : Nat) (a0 : Int) (a1 : List UInt8) : F3 N (a0, a1) =
    aIf (decide ((2000 : Int) < Int.ofNat (List.length a1))) (onSome (F9 (40 : Nat) PUnit.unit) fun y0 => some y0)
  (onSome (F10 N a1) fun y1 =>
    onSome (F11 N a1) fun y2 =>
      onSome (F12 N a0) fun y3 =>
        onSome (F13 N a0) fun y4 =>
          aIf (y3 == y4) (aIf (Prod.fst y1 == Prod.fst y2) (aIf (Prod.snd y1 == Prod.snd y2) (onSome (F9 (40 : Nat) PUnit.unit) fun y5 => some y5) (some false)) (some false))
            (some false)) := by kernel_rfl
noncomputable def C3 (N : Nat) : Callee := mkCallee A3 R3 (F3 N)
theorem S3 (N : Nat) : Cok 3 (C3 N) := cok_of (l := (E3 N).calls) (O := O3 N) (cok_cons (S9 N) (cok_cons (S10 N) (cok_cons (S11 N) (cok_cons (S12 N) (cok_cons (S13 N) cok_nil))))) rfl Tryd.func3 rfl (by kernel_rfl) (by kernel_rfl)

-- function 4
def A4 : Cods ((Int) × (Int) × List UInt8) := (codsCons (codInt .i64) (codsCons (codInt .i64) (codsOne codStr)))
def R4 : Cod (Bool) := codBool
noncomputable def E4 (N : Nat) : Env := ⟨Tryd.prog, [(9, C9 N), (14, C14 N), (15, C15 N), (16, C16 N), (17, C17 N)]⟩
def O4 (N : Nat) : Opts := ⟨N, [], []⟩
noncomputable def F4 (N : Nat) (a : (Int) × (Int) × List UInt8) : Option (Bool) := aTyped (E4 N) (O4 N) Tryd.f4 A4 R4 a
theorem F4_eq (N : Nat) (a0 : Int) (a1 : Int) (a2 : List UInt8) : F4 N (a0, a1, a2) =
    aIf (decide ((2000 : Int) < Int.ofNat (List.length a2))) (onSome (F9 (40 : Nat) PUnit.unit) fun y0 => some y0)
  (onSome (F14 N (a2, a1)) fun y1 =>
    onSome (F15 N (a2, a1)) fun y2 =>
      onSome (F16 N (a0, a1)) fun y3 =>
        onSome (F17 N (a0, a1)) fun y4 =>
          aIf (y3 == y4) (aIf (Prod.fst y1 == Prod.fst y2) (aIf (Prod.snd y1 == Prod.snd y2) (onSome (F9 (40 : Nat) PUnit.unit) fun y5 => some y5) (some false)) (some false))
            (some false)) := by kernel_rfl
noncomputable def C4 (N : Nat) : Callee := mkCallee A4 R4 (F4 N)
theorem S4 (N : Nat) : Cok 4 (C4 N) := cok_of (l := (E4 N).calls) (O := O4 N) (cok_cons (S9 N) (cok_cons (S14 N) (cok_cons (S15 N) (cok_cons (S16 N) (cok_cons (S17 N) cok_nil))))) rfl Tryd.func4 rfl (by kernel_rfl) (by kernel_rfl)

-- function 5
def A5 : Cods (List UInt8) := (codsOne codStr)
def R5 : Cod (Bool) := codBool
noncomputable def E5 (N : Nat) : Env := ⟨Tryd.prog, [(9, C9 N), (19, C19 N), (20, C20 N), (18, C18 N)]⟩
def O5 (N : Nat) : Opts := ⟨N, [], []⟩
noncomputable def F5 (N : Nat) (a : List UInt8) : Option (Bool) := aTyped (E5 N) (O5 N) Tryd.f5 A5 R5 a
theorem F5_eq (N : Nat) (a0 : List UInt8) : F5 N a0 =
    aIf (decide ((5000 : Int) < Int.ofNat (List.length a0))) (onSome (F9 (40 : Nat) PUnit.unit) fun y0 => some y0)
  (onSome (F19 N a0) fun y1 => onSome (F20 N a0) fun y2 => onSome (F18 N (y1, y2)) fun y3 => aIf y3 (onSome (F9 (40 : Nat) PUnit.unit) fun y4 => some y4) (some false)) := by kernel_rfl
noncomputable def C5 (N : Nat) : Callee := mkCallee A5 R5 (F5 N)
theorem S5 (N : Nat) : Cok 5 (C5 N) := cok_of (l := (E5 N).calls) (O := O5 N) (cok_cons (S9 N) (cok_cons (S19 N) (cok_cons (S20 N) (cok_cons (S18 N) cok_nil)))) rfl Tryd.func5 rfl (by kernel_rfl) (by kernel_rfl)

-- function 6
def A6 : Cods (List UInt8) := (codsOne codStr)
def R6 : Cod (Bool) := codBool
noncomputable def E6 (N : Nat) : Env := ⟨Tryd.prog, [(9, C9 N), (21, C21 N), (22, C22 N), (18, C18 N)]⟩
def O6 (N : Nat) : Opts := ⟨N, [], []⟩
noncomputable def F6 (N : Nat) (a : List UInt8) : Option (Bool) := aTyped (E6 N) (O6 N) Tryd.f6 A6 R6 a
theorem F6_eq (N : Nat) (a0 : List UInt8) : F6 N a0 =
    aIf (decide ((70000 : Int) < Int.ofNat (List.length a0))) (onSome (F9 (40 : Nat) PUnit.unit) fun y0 => some y0)
  (onSome (F21 N a0) fun y1 =>
    onSome (F22 N a0) fun y2 =>
      onSome (F18 N (Prod.fst y1, Prod.fst y2)) fun y3 => aIf y3 (aIf (Prod.snd y1 == Prod.snd y2) (onSome (F9 (40 : Nat) PUnit.unit) fun y4 => some y4) (some false)) (some false)) := by kernel_rfl
noncomputable def C6 (N : Nat) : Callee := mkCallee A6 R6 (F6 N)
theorem S6 (N : Nat) : Cok 6 (C6 N) := cok_of (l := (E6 N).calls) (O := O6 N) (cok_cons (S9 N) (cok_cons (S21 N) (cok_cons (S22 N) (cok_cons (S18 N) cok_nil)))) rfl Tryd.func6 rfl (by kernel_rfl) (by kernel_rfl)

-- function 7
def A7 : Cods ((Int) × Int) := (codsCons (codInt .i64) (codsOne (codInt .i64)))
def R7 : Cod (Bool) := codBool
noncomputable def E7 (N : Nat) : Env := ⟨Tryd.prog, [(12, C12 N), (10, C10 N), (16, C16 N), (14, C14 N), (9, C9 N)]⟩
def O7 (N : Nat) : Opts := ⟨N, [], []⟩
noncomputable def F7 (N : Nat) (a : (Int) × Int) : Option (Bool) := aTyped (E7 N) (O7 N) Tryd.f7 A7 R7 a
theorem F7_eq (N : Nat) (a0 : Int) (a1 : Int) : F7 N (a0, a1) =
    onSome (F12 N a0) fun y0 =>
  onSome (F10 N y0) fun y1 =>
    onSome (F16 N (a0, a1)) fun y2 =>
      onSome (F14 N (y2, a1)) fun y3 =>
        aIf (decide (a0 < (-4611686018427387904 : Int)))
          (aIf (Prod.snd y1 == (3 : Int))
            (aIf (Prod.snd y3 == (3 : Int))
              (aIf (Prod.fst y1 == (0 : Int)) (aIf (Prod.fst y3 == (0 : Int)) (onSome (F9 (40 : Nat) PUnit.unit) fun y4 => some y4) (some false)) (some false)) (some false))
            (some false))
          (aIf (decide ((4611686018427387904 : Int) < a0))
            (aIf (Prod.snd y1 == (3 : Int))
              (aIf (Prod.snd y3 == (3 : Int))
                (aIf (Prod.fst y1 == (0 : Int)) (aIf (Prod.fst y3 == (0 : Int)) (onSome (F9 (40 : Nat) PUnit.unit) fun y5 => some y5) (some false)) (some false)) (some false))
              (some false))
            (aIf (Prod.fst y1 == a0)
              (aIf (Prod.snd y1 == (0 : Int))
                (aIf (Prod.fst y3 == a0) (aIf (Prod.snd y3 == (0 : Int)) (onSome (F9 (40 : Nat) PUnit.unit) fun y6 => some y6) (some false)) (some false)) (some false))
              (some false))) := by kernel_rfl
noncomputable def C7 (N : Nat) : Callee := mkCallee A7 R7 (F7 N)
theorem S7 (N : Nat) : Cok 7 (C7 N) := cok_of (l := (E7 N).calls) (O := O7 N) (cok_cons (S12 N) (cok_cons (S10 N) (cok_cons (S16 N) (cok_cons (S14 N) (cok_cons (S9 N) cok_nil))))) rfl Tryd.func7 rfl (by kernel_rfl) (by kernel_rfl)

-- function 8
def A8 : Cods ((List UInt8) × Int) := (codsCons codStr (codsOne (codInt .i64)))
def R8 : Cod (Bool) := codBool
noncomputable def E8 (N : Nat) : Env := ⟨Tryd.prog, [(9, C9 N), (10, C10 N), (14, C14 N), (12, C12 N), (16, C16 N), (21, C21 N)]⟩
def O8 (N : Nat) : Opts := ⟨N, [(10, ⟨[12, 0, 9, 11, 10], [], 0⟩)], []⟩
noncomputable def F8 (N : Nat) (a : (List UInt8) × Int) : Option (Bool) := aTyped (E8 N) (O8 N) Tryd.f8 A8 R8 a
noncomputable def L8_10 (N : Nat) (n : Nat) (x0 : List UInt8) (x1 : List PV) (x2 : Int) (x3 : Int) (x4 : Int) : Option Bool :=
  atLoop (E8 N) (O8 N) Tryd.f8 [(1 : Nat), (1 : Nat), (1 : Nat), (1 : Nat), (1 : Nat), (1 : Nat), (1 : Nat), (0 : Nat), (1 : Nat), (0 : Nat)] [] n
  {
    tmps :=
      [AV.p (PV.str x0), AV.top, AV.top, AV.top, AV.top, AV.top, AV.top, AV.top, AV.top, AV.p (PV.sl (1 : Nat) x1), AV.p (PV.int IntKind.i64 x2), AV.p (PV.int IntKind.i64 x3),
        AV.p (PV.int IntKind.i64 x4), AV.top, AV.top, AV.top, AV.top, AV.top, AV.top, AV.top, AV.top, AV.top, AV.top, AV.top, AV.top, AV.top, AV.top, AV.top, AV.top, AV.top,
        AV.top, AV.top, AV.top, AV.top, AV.top, AV.top, AV.top, AV.top, AV.top, AV.top, AV.top, AV.top, AV.top, AV.top, AV.top, AV.top, AV.top, AV.top, AV.top, AV.top, AV.top,
        AV.top, AV.top, AV.top, AV.top, AV.top, AV.top, AV.top, AV.top, AV.top, AV.top, AV.top, AV.top, AV.top, AV.top, AV.top, AV.top, AV.top, AV.top, AV.top, AV.top, AV.top,
        AV.top, AV.top, AV.top, AV.top, AV.top, AV.top, AV.top, AV.top, AV.top, AV.top, AV.top, AV.top, AV.top, AV.top, AV.top, AV.top, AV.top, AV.top, AV.top, AV.top, AV.top,
        AV.top, AV.top, AV.top, AV.top, AV.top, AV.top, AV.top],
    heap := [] }
  fun x => Cod.dec R8 x some
theorem L8_10_eq (N : Nat) (n : Nat) (x0 : List UInt8) (x1 : List PV) (x2 : Int) (x3 : Int) (x4 : Int) : L8_10 N (n + 1) x0 x1 x2 x3 x4 =
    aIf (decide (x4 < Int.ofNat (List.length x1)))
  (onGet x1 x4 fun z10 =>
    onStr z10 fun u11 =>
      aIf (decide (Int.ofNat (List.length x0) ≤ IntKind.wrap IntKind.i64 (x3 + Int.ofNat (List.length u11)))) (some false)
        (aGd (decide ((0 : Int) ≤ IntKind.wrap IntKind.i64 (x3 + Int.ofNat (List.length u11))))
          (aGd (decide (IntKind.wrap IntKind.i64 (x3 + Int.ofNat (List.length u11)) ≤ Int.ofNat (List.length x0)))
            (aGd (decide ((0 : Int) ≤ x3))
              (aGd (decide (x3 ≤ Int.ofNat (Int.toNat (IntKind.wrap IntKind.i64 (x3 + Int.ofNat (List.length u11))))))
                (onGet x1 x4 fun z12 =>
                  onStr z12 fun u13 =>
                    aIf (!List.drop (Int.toNat x3) (List.take (Int.toNat (IntKind.wrap IntKind.i64 (x3 + Int.ofNat (List.length u11)))) x0) == u13) (some false)
                      (onGet x0 (IntKind.wrap IntKind.i64 (x3 + Int.ofNat (List.length u11))) fun z14 =>
                        aIf (Int.ofNat (UInt8.toNat z14) != (10 : Int)) (some false)
                          (L8_10 N n x0 x1 x2 (IntKind.wrap IntKind.i64 (IntKind.wrap IntKind.i64 (x3 + Int.ofNat (List.length u11)) + (1 : Int)))
                            (IntKind.wrap IntKind.i64 (x4 + (1 : Int)))))))))))
  (aIf (x2 != (0 : Int)) (onSome (F9 (40 : Nat) PUnit.unit) fun y15 => some y15)
    (aIf (x3 == Int.ofNat (List.length x0)) (onSome (F9 (40 : Nat) PUnit.unit) fun y16 => some y16) (some false))) := by kernel_rfl
theorem L8_10_zero (N : Nat) (x0 : List UInt8) (x1 : List PV) (x2 : Int) (x3 : Int) (x4 : Int) : L8_10 N 0 x0 x1 x2 x3 x4 = none := by kernel_rfl
theorem F8_eq (N : Nat) (a0 : List UInt8) (a1 : Int) : F8 N (a0, a1) =
    aIf (decide ((70000 : Int) < Int.ofNat (List.length a0))) (onSome (F9 (40 : Nat) PUnit.unit) fun y0 => some y0)
  (onSome (F10 N a0) fun y1 =>
    onSome (F14 N (a0, a1)) fun y2 =>
      aIf (Prod.snd y1 == (0 : Int))
        (onSome (F12 N (Prod.fst y1)) fun y3 =>
          aIf (!y3 == a0) (some false)
            (aIf (Prod.snd y2 == (0 : Int))
              (onSome (F16 N (Prod.fst y2, a1)) fun y4 => aIf (!y4 == a0) (some false) (onSome (F21 N a0) fun y5 => L8_10 N N a0 (Prod.fst y5) (Prod.snd y5) (0 : Int) (0 : Int)))
              (onSome (F21 N a0) fun y6 => L8_10 N N a0 (Prod.fst y6) (Prod.snd y6) (0 : Int) (0 : Int))))
        (aIf (Prod.snd y2 == (0 : Int))
          (onSome (F16 N (Prod.fst y2, a1)) fun y7 => aIf (!y7 == a0) (some false) (onSome (F21 N a0) fun y8 => L8_10 N N a0 (Prod.fst y8) (Prod.snd y8) (0 : Int) (0 : Int)))
          (onSome (F21 N a0) fun y9 => L8_10 N N a0 (Prod.fst y9) (Prod.snd y9) (0 : Int) (0 : Int)))) := by kernel_rfl
noncomputable def C8 (N : Nat) : Callee := mkCallee A8 R8 (F8 N)
theorem S8 (N : Nat) : Cok 8 (C8 N) := cok_of (l := (E8 N).calls) (O := O8 N) (cok_cons (S9 N) (cok_cons (S10 N) (cok_cons (S14 N) (cok_cons (S12 N) (cok_cons (S16 N) (cok_cons (S21 N) cok_nil)))))) rfl Tryd.func8 rfl (by kernel_rfl) (by kernel_rfl)

end Go.Proofs.YtmnedpfilckilaaDoor
