/- The pure reading of the program's functions (printed by a program of mine; each line is proved by the kernel's evaluation). -/
import Derived.Test.YtflpiekacionaaaGreatDoorExs
import Derived.Test.YtflpiekacionaaaGreatDoorProg
set_option linter.unusedSimpArgs false
set_option linter.unusedVariables false
set_option maxRecDepth 100000
namespace Go.Proofs.YtflpiekacionaaaGreatDoor
open Go.RowKit

-- function 17
def A17 : Cods ((List UInt8) × (Int) × (List PV) × (List PV) × List PV) := (codsOne (codAgg (codsCons codStr (codsCons (codInt .i64) (codsCons (codSl 3) (codsCons (codSl 3) (codsOne (codSl 9))))))))
def R17 : Cod (Bool) := codBool
noncomputable def E17 (N : Nat) : Env := ⟨Tryz.prog, []⟩
def O17 (N : Nat) : Opts := ⟨N, [(4, ⟨[1, 3], [], [], 1⟩), (9, ⟨[1, 4], [], [], 1⟩), (14, ⟨[1, 5], [], [], 1⟩)], []⟩
noncomputable def F17 (N : Nat) (a : (List UInt8) × (Int) × (List PV) × (List PV) × List PV) : Option (Bool) := aTyped (E17 N) (O17 N) Tryz.f17 A17 R17 a
noncomputable def L17_4 (N : Nat) (n : Nat) (x0 : Int) (x1 : List UInt8) (x2 : Int) (x3 : List PV) (x4 : List PV) (x5 : List PV) : Option Bool :=
  atLoop (E17 N) (O17 N) Tryz.f17 [(1 : Nat), (1 : Nat), (0 : Nat), (1 : Nat), (0 : Nat)] [] n
  { tmps := Tm.of (nat_lit 93) [((1 : Nat), AV.box (0 : Nat) (0 : Nat)), ((3 : Nat), AV.p (PV.int IntKind.i64 x0))],
    heap := [Blk.box [AV.p (PV.str x1), AV.p (PV.int IntKind.i64 x2), AV.p (PV.sl (3 : Nat) x3), AV.p (PV.sl (3 : Nat) x4), AV.p (PV.sl (9 : Nat) x5)]] }
  fun x => Cod.dec R17 x some
noncomputable def L17_9 (N : Nat) (n : Nat) (x0 : Int) (x1 : List UInt8) (x2 : Int) (x3 : List PV) (x4 : List PV) (x5 : List PV) : Option Bool :=
  atLoop (E17 N) (O17 N) Tryz.f17 [(1 : Nat), (1 : Nat), (1 : Nat), (0 : Nat), (1 : Nat), (0 : Nat)] [] n
  { tmps := Tm.of (nat_lit 93) [((1 : Nat), AV.box (0 : Nat) (0 : Nat)), ((4 : Nat), AV.p (PV.int IntKind.i64 x0))],
    heap := [Blk.box [AV.p (PV.str x1), AV.p (PV.int IntKind.i64 x2), AV.p (PV.sl (3 : Nat) x3), AV.p (PV.sl (3 : Nat) x4), AV.p (PV.sl (9 : Nat) x5)]] }
  fun x => Cod.dec R17 x some
noncomputable def L17_14 (N : Nat) (n : Nat) (x0 : Int) (x1 : List UInt8) (x2 : Int) (x3 : List PV) (x4 : List PV) (x5 : List PV) : Option Bool :=
  atLoop (E17 N) (O17 N) Tryz.f17 [(1 : Nat), (1 : Nat), (1 : Nat), (1 : Nat), (0 : Nat), (1 : Nat), (0 : Nat)] [] n
  { tmps := Tm.of (nat_lit 93) [((1 : Nat), AV.box (0 : Nat) (0 : Nat)), ((5 : Nat), AV.p (PV.int IntKind.i64 x0))],
    heap := [Blk.box [AV.p (PV.str x1), AV.p (PV.int IntKind.i64 x2), AV.p (PV.sl (3 : Nat) x3), AV.p (PV.sl (3 : Nat) x4), AV.p (PV.sl (9 : Nat) x5)]] }
  fun x => Cod.dec R17 x some
theorem L17_4_eq (N : Nat) (n : Nat) (x0 : Int) (x1 : List UInt8) (x2 : Int) (x3 : List PV) (x4 : List PV) (x5 : List PV) : L17_4 N (n + 1) x0 x1 x2 x3 x4 x5 =
    aIf (decide (x0 < Int.ofNat (List.length x3)))
  (onGet x3 x0 fun z0 =>
    onSome (PV.cells z0)[(0 : Nat)]? fun y1 =>
      onStr y1 fun u2 => aIf (decide ((80 : Int) < Int.ofNat (List.length u2))) (some false) (L17_4 N n (IntKind.wrap IntKind.i64 (x0 + (1 : Int))) x1 x2 x3 x4 x5))
  (L17_9 N N (0 : Int) x1 x2 x3 x4 x5) := by kernel_rfl
theorem L17_4_zero (N : Nat) (x0 : Int) (x1 : List UInt8) (x2 : Int) (x3 : List PV) (x4 : List PV) (x5 : List PV) : L17_4 N 0 x0 x1 x2 x3 x4 x5 = none := by kernel_rfl
theorem L17_9_eq (N : Nat) (n : Nat) (x0 : Int) (x1 : List UInt8) (x2 : Int) (x3 : List PV) (x4 : List PV) (x5 : List PV) : L17_9 N (n + 1) x0 x1 x2 x3 x4 x5 =
    aIf (decide (x0 < Int.ofNat (List.length x4)))
  (onGet x4 x0 fun z3 =>
    onSome (PV.cells z3)[(0 : Nat)]? fun y4 =>
      onStr y4 fun u5 => aIf (decide ((80 : Int) < Int.ofNat (List.length u5))) (some false) (L17_9 N n (IntKind.wrap IntKind.i64 (x0 + (1 : Int))) x1 x2 x3 x4 x5))
  (L17_14 N N (0 : Int) x1 x2 x3 x4 x5) := by kernel_rfl
theorem L17_9_zero (N : Nat) (x0 : Int) (x1 : List UInt8) (x2 : Int) (x3 : List PV) (x4 : List PV) (x5 : List PV) : L17_9 N 0 x0 x1 x2 x3 x4 x5 = none := by kernel_rfl
theorem L17_14_eq (N : Nat) (n : Nat) (x0 : Int) (x1 : List UInt8) (x2 : Int) (x3 : List PV) (x4 : List PV) (x5 : List PV) : L17_14 N (n + 1) x0 x1 x2 x3 x4 x5 =
    aIf (decide (x0 < Int.ofNat (List.length x5)))
  (onGet x5 x0 fun z6 =>
    onCons (List.take (9 : Nat) (List.drop (0 : Nat) (PV.cells z6))) fun h7 t8 =>
      onStr h7 fun u9 =>
        onCons t8 fun h10 t11 =>
          onInt IntKind.i64 h10 fun n12 =>
            onCons t11 fun h13 t14 =>
              onInt IntKind.i64 h13 fun n15 =>
                onCons t14 fun h16 t17 =>
                  onInt IntKind.i64 h16 fun n18 =>
                    onCons t17 fun h19 t20 =>
                      onInt IntKind.i64 h19 fun n21 =>
                        onCons t20 fun h22 t23 =>
                          onInt IntKind.i64 h22 fun n24 =>
                            onCons t23 fun h25 t26 =>
                              onSl (2 : Nat) h25 fun l27 =>
                                onCons t26 fun h28 t29 =>
                                  onSl (2 : Nat) h28 fun l30 =>
                                    onCons t29 fun h31 t32 =>
                                      onStr h31 fun u33 =>
                                        onNil t32
                                          (aGd (decide ((0 : Nat) + (9 : Nat) ≤ (9 : Nat)))
                                            (aIf (decide ((80 : Int) < Int.ofNat (List.length u9))) (some false)
                                              (aIf (decide ((80 : Int) < Int.ofNat (List.length u33))) (some false)
                                                (aIf (decide ((50 : Int) < Int.ofNat (List.length l27))) (some false)
                                                  (aIf (decide ((50 : Int) < Int.ofNat (List.length l30))) (some false)
                                                    (L17_14 N n (IntKind.wrap IntKind.i64 (x0 + (1 : Int))) x1 x2 x3 x4 x5)))))))
  (some true) := by kernel_rfl
theorem L17_14_zero (N : Nat) (x0 : Int) (x1 : List UInt8) (x2 : Int) (x3 : List PV) (x4 : List PV) (x5 : List PV) : L17_14 N 0 x0 x1 x2 x3 x4 x5 = none := by kernel_rfl
theorem F17_eq (N : Nat) (a0 : List UInt8) (a1 : Int) (a2 : List PV) (a3 : List PV) (a4 : List PV) : F17 N (a0, a1, a2, a3, a4) =
    aIf (decide ((80 : Int) < Int.ofNat (List.length a0))) (some false)
  (aIf (decide ((14 : Int) < Int.ofNat (List.length a2))) (some false)
    (aIf (decide ((14 : Int) < Int.ofNat (List.length a3))) (some false)
      (aIf (decide ((60 : Int) < Int.ofNat (List.length a4))) (some false) (L17_4 N N (0 : Int) a0 a1 a2 a3 a4)))) := by kernel_rfl
noncomputable def C17 (N : Nat) : Callee := mkCallee A17 R17 (F17 N)
theorem S17 (N : Nat) : Cok 17 (C17 N) := cok_of (l := (E17 N).calls) (O := O17 N) cok_nil rfl Tryz.func17 rfl (by kernel_rfl) (by kernel_rfl)

-- function 6
def A6 : Cods ((List PV) × (List PV) × List PV) := (codsOne (codAgg (codsCons (codSl 2) (codsCons (codSl 6) (codsOne (codSl 5))))))
def R6 : Cod (Bool) := codBool
noncomputable def E6 (N : Nat) : Env := ⟨Tryz.prog, [(17, C17 N)]⟩
def O6 (N : Nat) : Opts := ⟨N, [(6, ⟨[1, 3, 4, 5], [], [], 1⟩), (11, ⟨[1, 3, 4, 5, 6], [], [], 1⟩), (16, ⟨[1, 3, 4, 7], [], [], 1⟩), (22, ⟨[1, 4, 8], [], [], 1⟩)], []⟩
noncomputable def F6 (N : Nat) (a : (List PV) × (List PV) × List PV) : Option (Bool) := aTyped (E6 N) (O6 N) Tryz.f6 A6 R6 a
noncomputable def L6_6 (N : Nat) (n : Nat) (x0 : Int) (x1 : Int) (x2 : Int) (x3 : List PV) (x4 : List PV) (x5 : List PV) : Option Bool :=
  atLoop (E6 N) (O6 N) Tryz.f6 [(1 : Nat), (1 : Nat), (1 : Nat), (1 : Nat), (0 : Nat), (1 : Nat), (0 : Nat)] [] n
  {
    tmps :=
      Tm.of (nat_lit 127)
        [((1 : Nat), AV.box (0 : Nat) (0 : Nat)), ((3 : Nat), AV.p (PV.int IntKind.i64 x0)), ((4 : Nat), AV.p (PV.int IntKind.i64 x1)), ((5 : Nat), AV.p (PV.int IntKind.i64 x2))],
    heap := [Blk.box [AV.p (PV.sl (2 : Nat) x3), AV.p (PV.sl (6 : Nat) x4), AV.p (PV.sl (5 : Nat) x5)]] }
  fun x => Cod.dec R6 x some
noncomputable def L6_11 (N : Nat) (n : Nat) (m0 : Nat) (x0 : Int) (x1 : Int) (x2 : Int) (x3 : Int) (x4 : List PV) (x5 : List PV) (x6 : List PV) : Option Bool :=
  atLoop (E6 N) (O6 N) Tryz.f6
  [(1 : Nat), (1 : Nat), (1 : Nat), (1 : Nat), (0 : Nat), (1 : Nat), (0 : Nat), (0 : Nat), (1 : Nat), (0 : Nat), (0 : Nat), (1 : Nat), (1 : Nat), (0 : Nat)] [m0] n
  {
    tmps :=
      Tm.of (nat_lit 127)
        [((1 : Nat), AV.box (0 : Nat) (0 : Nat)), ((3 : Nat), AV.p (PV.int IntKind.i64 x0)), ((4 : Nat), AV.p (PV.int IntKind.i64 x1)), ((5 : Nat), AV.p (PV.int IntKind.i64 x2)),
          ((6 : Nat), AV.p (PV.int IntKind.i64 x3))],
    heap := [Blk.box [AV.p (PV.sl (2 : Nat) x4), AV.p (PV.sl (6 : Nat) x5), AV.p (PV.sl (5 : Nat) x6)]] }
  fun x => Cod.dec R6 x some
noncomputable def L6_16 (N : Nat) (n : Nat) (x0 : Int) (x1 : Int) (x2 : Int) (x3 : List PV) (x4 : List PV) (x5 : List PV) : Option Bool :=
  atLoop (E6 N) (O6 N) Tryz.f6 [(1 : Nat), (1 : Nat), (1 : Nat), (1 : Nat), (1 : Nat), (0 : Nat), (1 : Nat), (0 : Nat)] [] n
  {
    tmps :=
      Tm.of (nat_lit 127)
        [((1 : Nat), AV.box (0 : Nat) (0 : Nat)), ((3 : Nat), AV.p (PV.int IntKind.i64 x0)), ((4 : Nat), AV.p (PV.int IntKind.i64 x1)), ((7 : Nat), AV.p (PV.int IntKind.i64 x2))],
    heap := [Blk.box [AV.p (PV.sl (2 : Nat) x3), AV.p (PV.sl (6 : Nat) x4), AV.p (PV.sl (5 : Nat) x5)]] }
  fun x => Cod.dec R6 x some
noncomputable def L6_22 (N : Nat) (n : Nat) (x0 : Int) (x1 : Int) (x2 : List PV) (x3 : List PV) (x4 : List PV) : Option Bool :=
  atLoop (E6 N) (O6 N) Tryz.f6 [(1 : Nat), (1 : Nat), (1 : Nat), (1 : Nat), (1 : Nat), (1 : Nat), (0 : Nat), (1 : Nat), (0 : Nat)] [] n
  { tmps := Tm.of (nat_lit 127) [((1 : Nat), AV.box (0 : Nat) (0 : Nat)), ((4 : Nat), AV.p (PV.int IntKind.i64 x0)), ((8 : Nat), AV.p (PV.int IntKind.i64 x1))],
    heap := [Blk.box [AV.p (PV.sl (2 : Nat) x2), AV.p (PV.sl (6 : Nat) x3), AV.p (PV.sl (5 : Nat) x4)]] }
  fun x => Cod.dec R6 x some
theorem L6_6_eq (N : Nat) (n : Nat) (x0 : Int) (x1 : Int) (x2 : Int) (x3 : List PV) (x4 : List PV) (x5 : List PV) : L6_6 N (n + 1) x0 x1 x2 x3 x4 x5 =
    aIf (decide (x2 < Int.ofNat (List.length x3)))
  (onGet x3 x2 fun z0 =>
    onSome (PV.cells z0)[(0 : Nat)]? fun y1 =>
      onStr y1 fun u2 =>
        aIf (decide ((80 : Int) < Int.ofNat (List.length u2))) (some false)
          (onGet x3 x2 fun z3 =>
            onSome (PV.cells z3)[(1 : Nat)]? fun y4 =>
              onSl (1 : Nat) y4 fun l5 => aIf (decide ((20 : Int) < Int.ofNat (List.length l5))) (some false) (L6_11 N N n x0 x1 x2 (0 : Int) x3 x4 x5)))
  (L6_16 N N x0 x1 (0 : Int) x3 x4 x5) := by kernel_rfl
theorem L6_6_zero (N : Nat) (x0 : Int) (x1 : Int) (x2 : Int) (x3 : List PV) (x4 : List PV) (x5 : List PV) : L6_6 N 0 x0 x1 x2 x3 x4 x5 = none := by kernel_rfl
theorem L6_11_eq (N : Nat) (n : Nat) (m0 : Nat) (x0 : Int) (x1 : Int) (x2 : Int) (x3 : Int) (x4 : List PV) (x5 : List PV) (x6 : List PV) : L6_11 N (n + 1) m0 x0 x1 x2 x3 x4 x5 x6 =
    onGet x4 x2 fun z6 =>
  onSome (PV.cells z6)[(1 : Nat)]? fun y7 =>
    onSl (1 : Nat) y7 fun l8 =>
      aIf (decide (x3 < Int.ofNat (List.length l8)))
        (onGet x4 x2 fun z9 =>
          onSome (PV.cells z9)[(1 : Nat)]? fun y10 =>
            onSl (1 : Nat) y10 fun l11 =>
              onGet l11 x3 fun z12 =>
                onStr z12 fun u13 =>
                  aIf (decide ((80 : Int) < Int.ofNat (List.length u13))) (some false) (L6_11 N n m0 x0 x1 x2 (IntKind.wrap IntKind.i64 (x3 + (1 : Int))) x4 x5 x6))
        (L6_6 N m0 x0 x1 (IntKind.wrap IntKind.i64 (x2 + (1 : Int))) x4 x5 x6) := by kernel_rfl
theorem L6_11_zero (N : Nat) (m0 : Nat) (x0 : Int) (x1 : Int) (x2 : Int) (x3 : Int) (x4 : List PV) (x5 : List PV) (x6 : List PV) : L6_11 N 0 m0 x0 x1 x2 x3 x4 x5 x6 = none := by kernel_rfl
theorem L6_16_eq (N : Nat) (n : Nat) (x0 : Int) (x1 : Int) (x2 : Int) (x3 : List PV) (x4 : List PV) (x5 : List PV) : L6_16 N (n + 1) x0 x1 x2 x3 x4 x5 =
    aIf (decide (x2 < Int.ofNat (List.length x4)))
  (onGet x4 x2 fun z14 =>
    onSome (PV.cells z14)[(5 : Nat)]? fun y15 =>
      onSl (5 : Nat) y15 fun l16 =>
        onGet x4 x2 fun z17 =>
          onSome (PV.cells z17)[(0 : Nat)]? fun y18 =>
            onStr y18 fun u19 =>
              aIf (decide ((80 : Int) < Int.ofNat (List.length u19))) (some false)
                (aIf (decide ((150 : Int) < IntKind.wrap IntKind.i64 (x0 + Int.ofNat (List.length l16)))) (some false)
                  (L6_16 N n (IntKind.wrap IntKind.i64 (x0 + Int.ofNat (List.length l16))) x1 (IntKind.wrap IntKind.i64 (x2 + (1 : Int))) x3 x4 x5)))
  (L6_22 N N x1 (0 : Int) x3 x4 x5) := by kernel_rfl
theorem L6_16_zero (N : Nat) (x0 : Int) (x1 : Int) (x2 : Int) (x3 : List PV) (x4 : List PV) (x5 : List PV) : L6_16 N 0 x0 x1 x2 x3 x4 x5 = none := by kernel_rfl
theorem L6_22_eq (N : Nat) (n : Nat) (x0 : Int) (x1 : Int) (x2 : List PV) (x3 : List PV) (x4 : List PV) : L6_22 N (n + 1) x0 x1 x2 x3 x4 =
    aIf (decide (x1 < Int.ofNat (List.length x4)))
  (onGet x4 x1 fun z20 =>
    onSome (PV.cells z20)[(4 : Nat)]? fun y21 =>
      onSl (9 : Nat) y21 fun l22 =>
        aIf (decide ((60 : Int) < IntKind.wrap IntKind.i64 (x0 + Int.ofNat (List.length l22)))) (some false)
          (onGet x4 x1 fun z23 =>
            onCons (List.take (5 : Nat) (List.drop (0 : Nat) (PV.cells z23))) fun h24 t25 =>
              onStr h24 fun u26 =>
                onCons t25 fun h27 t28 =>
                  onInt IntKind.i64 h27 fun n29 =>
                    onCons t28 fun h30 t31 =>
                      onSl (3 : Nat) h30 fun l32 =>
                        onCons t31 fun h33 t34 =>
                          onSl (3 : Nat) h33 fun l35 =>
                            onCons t34 fun h36 t37 =>
                              onSl (9 : Nat) h36 fun l38 =>
                                onNil t37
                                  (onSome (F17 N (u26, n29, l32, l35, l38)) fun y39 =>
                                    aIf (!y39) (some false)
                                      (L6_22 N n (IntKind.wrap IntKind.i64 (x0 + Int.ofNat (List.length l22))) (IntKind.wrap IntKind.i64 (x1 + (1 : Int))) x2 x3 x4))))
  (some true) := by kernel_rfl
theorem L6_22_zero (N : Nat) (x0 : Int) (x1 : Int) (x2 : List PV) (x3 : List PV) (x4 : List PV) : L6_22 N 0 x0 x1 x2 x3 x4 = none := by kernel_rfl
theorem F6_eq (N : Nat) (a0 : List PV) (a1 : List PV) (a2 : List PV) : F6 N (a0, a1, a2) =
    aIf (decide ((9 : Int) < Int.ofNat (List.length a0))) (some false)
  (aIf (decide ((9 : Int) < Int.ofNat (List.length a1))) (some false)
    (aIf (decide ((5 : Int) < Int.ofNat (List.length a2))) (some false) (L6_6 N N (0 : Int) (0 : Int) (0 : Int) a0 a1 a2))) := by kernel_rfl
noncomputable def C6 (N : Nat) : Callee := mkCallee A6 R6 (F6 N)
theorem S6 (N : Nat) : Cok 6 (C6 N) := cok_of (l := (E6 N).calls) (O := O6 N) (cok_cons (S17 N) cok_nil) rfl Tryz.func6 rfl (by kernel_rfl) (by kernel_rfl)

-- function 7
def A7 : Cods ((Int) × (List PV) × List PV) := (codsOne (codAgg (codsCons (codInt .i64) (codsCons (codSl 3) (codsOne (codSl 1))))))
def R7 : Cod (Bool) := codBool
noncomputable def E7 (N : Nat) : Env := ⟨Tryz.prog, []⟩
def O7 (N : Nat) : Opts := ⟨N, [(4, ⟨[1, 3], [], [], 1⟩)], []⟩
noncomputable def F7 (N : Nat) (a : (Int) × (List PV) × List PV) : Option (Bool) := aTyped (E7 N) (O7 N) Tryz.f7 A7 R7 a
noncomputable def L7_4 (N : Nat) (n : Nat) (x0 : Int) (x1 : Int) (x2 : List PV) (x3 : List PV) : Option Bool :=
  atLoop (E7 N) (O7 N) Tryz.f7 [(1 : Nat), (1 : Nat), (0 : Nat), (1 : Nat), (0 : Nat)] [] n
  { tmps := Tm.of (nat_lit 28) [((1 : Nat), AV.box (0 : Nat) (0 : Nat)), ((3 : Nat), AV.p (PV.int IntKind.i64 x0))],
    heap := [Blk.box [AV.p (PV.int IntKind.i64 x1), AV.p (PV.sl (3 : Nat) x2), AV.p (PV.sl (1 : Nat) x3)]] }
  fun x => Cod.dec R7 x some
theorem L7_4_eq (N : Nat) (n : Nat) (x0 : Int) (x1 : Int) (x2 : List PV) (x3 : List PV) : L7_4 N (n + 1) x0 x1 x2 x3 =
    aIf (decide (x0 < Int.ofNat (List.length x3)))
  (onGet x3 x0 fun z0 =>
    onSl (3 : Nat) z0 fun l1 => aIf (decide ((14 : Int) < Int.ofNat (List.length l1))) (some false) (L7_4 N n (IntKind.wrap IntKind.i64 (x0 + (1 : Int))) x1 x2 x3))
  (some true) := by kernel_rfl
theorem L7_4_zero (N : Nat) (x0 : Int) (x1 : Int) (x2 : List PV) (x3 : List PV) : L7_4 N 0 x0 x1 x2 x3 = none := by kernel_rfl
theorem F7_eq (N : Nat) (a0 : Int) (a1 : List PV) (a2 : List PV) : F7 N (a0, a1, a2) =
    aIf (decide ((14 : Int) < Int.ofNat (List.length a1))) (some false) (aIf (decide ((10 : Int) < Int.ofNat (List.length a2))) (some false) (L7_4 N N (0 : Int) a0 a1 a2)) := by kernel_rfl
noncomputable def C7 (N : Nat) : Callee := mkCallee A7 R7 (F7 N)
theorem S7 (N : Nat) : Cok 7 (C7 N) := cok_of (l := (E7 N).calls) (O := O7 N) cok_nil rfl Tryz.func7 rfl (by kernel_rfl) (by kernel_rfl)

-- function 18
def A18 : Cods (Unit) := codsNil
def R18 : Cod ((List PV) × (List PV) × List PV) := (codAgg (codsCons (codSl 2) (codsCons (codSl 6) (codsOne (codSl 5)))))
noncomputable def E18 (N : Nat) : Env := ⟨Tryz.prog, []⟩
def O18 (N : Nat) : Opts := ⟨N, [], []⟩
noncomputable def F18 (N : Nat) (a : Unit) : Option ((List PV) × (List PV) × List PV) := aTyped (E18 N) (O18 N) Tryz.f18 A18 R18 a
theorem F18_eq (N : Nat)  : F18 N () =
    some
  ([], [],
    [PV.agg
        [PV.str [(115 : UInt8)], PV.int IntKind.i64 (-1 : Int),
          PV.sl (3 : Nat)
            [PV.agg [PV.str [(97 : UInt8)], PV.int IntKind.i64 (3 : Int), PV.int IntKind.i64 (0 : Int)],
              PV.agg [PV.str [(98 : UInt8)], PV.int IntKind.i64 (1 : Int), PV.int IntKind.i64 (0 : Int)]],
          PV.nilsl, PV.nilsl]]) := by kernel_rfl
noncomputable def C18 (N : Nat) : Callee := mkCallee A18 R18 (F18 N)
theorem S18 (N : Nat) : Cok 18 (C18 N) := cok_of (l := (E18 N).calls) (O := O18 N) cok_nil rfl Tryz.func18 rfl (by kernel_rfl) (by kernel_rfl)

-- function 24
def A24 : Cods (List UInt8) := (codsOne codStr)
def R24 : Cod ((List PV) × Int) := (codTup (codsCons (codSl 1) (codsOne (codInt .i64))))
noncomputable def E24 (N : Nat) : Env := ⟨Tryz.prog, []⟩
def O24 (N : Nat) : Opts := ⟨N, [(6, ⟨[0, 4, 5, 12], [(4, 9, 1)], [], 2⟩)], []⟩
noncomputable def F24 (N : Nat) (a : List UInt8) : Option ((List PV) × Int) := aTyped (E24 N) (O24 N) Tryz.f24 A24 R24 a
noncomputable def L24_6 (N : Nat) (n : Nat) (x0 : List UInt8) (x1 : Int) (x2 : List UInt8) (x3 : Nat) (x4 : List PV) : Option (List PV × Int) :=
  atLoop (E24 N) (O24 N) Tryz.f24 [(1 : Nat), (1 : Nat), (1 : Nat), (1 : Nat), (0 : Nat), (1 : Nat), (0 : Nat)] [] n
  { tmps := Tm.of (nat_lit 43) [((0 : Nat), AV.p (PV.str x0)), ((4 : Nat), AV.own (1 : Nat)), ((5 : Nat), AV.p (PV.int IntKind.i64 x1)), ((12 : Nat), AV.it (0 : Nat))],
    heap := [Blk.iter x2 x3, Blk.row (9 : Nat) (1 : Nat) x4] }
  fun x => Cod.dec R24 x some
theorem L24_6_eq (N : Nat) (n : Nat) (x0 : List UInt8) (x1 : Int) (x2 : List UInt8) (x3 : Nat) (x4 : List PV) : L24_6 N (n + 1) x0 x1 x2 x3 x4 =
    aIf (decide (x3 < List.length x2))
  (aIf (Int.ofNat (Prod.fst (Utf8.decode { data := List.toArray x2 } x3)) == (10 : Int))
    (aGd (decide (Int.ofNat x3 ≤ Int.ofNat (List.length x0)))
      (aGd (decide ((0 : Int) ≤ x1))
        (aGd (decide (x1 ≤ Int.ofNat (Int.toNat (Int.ofNat x3))))
          (aGd (decide ((List.length x4 + (1 : Nat)) * (17 : Nat) ≤ (140737488355328 : Nat)))
            (aGd
              (keptUnder (2 : Nat)
                  [((0 : Nat), AV.p (PV.str x0)), ((4 : Nat), AV.own (1 : Nat)), ((5 : Nat), AV.p (PV.int IntKind.i64 (IntKind.wrap IntKind.i64 (Int.ofNat x3 + (1 : Int))))),
                    ((12 : Nat), AV.it (0 : Nat))] &&
                underH (2 : Nat)
                  (List.take (2 : Nat)
                    [Blk.iter x2 (x3 + Prod.snd (Utf8.decode { data := List.toArray x2 } x3)),
                      Blk.row (9 : Nat) (1 : Nat) (x4 ++ [PV.str (List.drop (Int.toNat x1) (List.take (Int.toNat (Int.ofNat x3)) x0))])]))
              (L24_6 N n x0 (IntKind.wrap IntKind.i64 (Int.ofNat x3 + (1 : Int))) x2 (x3 + Prod.snd (Utf8.decode { data := List.toArray x2 } x3))
                (x4 ++ [PV.str (List.drop (Int.toNat x1) (List.take (Int.toNat (Int.ofNat x3)) x0))])))))))
    (aIf (Int.ofNat (Prod.fst (Utf8.decode { data := List.toArray x2 } x3)) != (9 : Int))
      (aIf (decide (Int.ofNat (Prod.fst (Utf8.decode { data := List.toArray x2 } x3)) < (32 : Int))) (some ([], (2 : Int)))
        (aIf (decide ((126 : Int) < Int.ofNat (Prod.fst (Utf8.decode { data := List.toArray x2 } x3)))) (some ([], (2 : Int)))
          (aGd
            (keptUnder (2 : Nat) [((0 : Nat), AV.p (PV.str x0)), ((4 : Nat), AV.own (1 : Nat)), ((5 : Nat), AV.p (PV.int IntKind.i64 x1)), ((12 : Nat), AV.it (0 : Nat))] &&
              underH (2 : Nat) (List.take (2 : Nat) [Blk.iter x2 (x3 + Prod.snd (Utf8.decode { data := List.toArray x2 } x3)), Blk.row (9 : Nat) (1 : Nat) x4]))
            (L24_6 N n x0 x1 x2 (x3 + Prod.snd (Utf8.decode { data := List.toArray x2 } x3)) x4))))
      (aGd
        (keptUnder (2 : Nat) [((0 : Nat), AV.p (PV.str x0)), ((4 : Nat), AV.own (1 : Nat)), ((5 : Nat), AV.p (PV.int IntKind.i64 x1)), ((12 : Nat), AV.it (0 : Nat))] &&
          underH (2 : Nat) (List.take (2 : Nat) [Blk.iter x2 (x3 + Prod.snd (Utf8.decode { data := List.toArray x2 } x3)), Blk.row (9 : Nat) (1 : Nat) x4]))
        (L24_6 N n x0 x1 x2 (x3 + Prod.snd (Utf8.decode { data := List.toArray x2 } x3)) x4))))
  (aIf (x1 != Int.ofNat (List.length x0)) (some ([], (2 : Int))) (some (x4, (0 : Int)))) := by kernel_rfl
theorem L24_6_zero (N : Nat) (x0 : List UInt8) (x1 : Int) (x2 : List UInt8) (x3 : Nat) (x4 : List PV) : L24_6 N 0 x0 x1 x2 x3 x4 = none := by kernel_rfl
theorem F24_eq (N : Nat) (a0 : List UInt8) : F24 N a0 =
    aIf (decide ((65536 : Int) < Int.ofNat (List.length a0))) (some ([], (4 : Int)))
  (aGd
    (keptUnder (2 : Nat) [((0 : Nat), AV.p (PV.str a0)), ((4 : Nat), AV.own (1 : Nat)), ((5 : Nat), AV.p (PV.int IntKind.i64 (0 : Int))), ((12 : Nat), AV.it (0 : Nat))] &&
      underH (2 : Nat) (List.take (2 : Nat) [Blk.iter a0 (0 : Nat), Blk.row (9 : Nat) (1 : Nat) []]))
    (L24_6 N N a0 (0 : Int) a0 (0 : Nat) [])) := by kernel_rfl
noncomputable def C24 (N : Nat) : Callee := mkCallee A24 R24 (F24 N)
theorem S24 (N : Nat) : Cok 24 (C24 N) := cok_of (l := (E24 N).calls) (O := O24 N) cok_nil rfl Tryz.func24 rfl (by kernel_rfl) (by kernel_rfl)

-- function 79
def A79 : Cods ((List UInt8) × List UInt8) := (codsCons codStr (codsOne codStr))
def R79 : Cod (Bool) := codBool
noncomputable def E79 (N : Nat) : Env := ⟨Tryz.prog, []⟩
def O79 (N : Nat) : Opts := ⟨N, [], []⟩
noncomputable def F79 (N : Nat) (a : (List UInt8) × List UInt8) : Option (Bool) := aTyped (E79 N) (O79 N) Tryz.f79 A79 R79 a
theorem F79_eq (N : Nat) (a0 : List UInt8) (a1 : List UInt8) : F79 N (a0, a1) =
    aIf (decide (Int.ofNat (List.length a1) ≤ Int.ofNat (List.length a0)))
  (aGd (decide (Int.ofNat (List.length a1) ≤ Int.ofNat (List.length a0))) (some (List.drop (0 : Nat) (List.take (Int.toNat (Int.ofNat (List.length a1))) a0) == a1))) (some false) := by kernel_rfl
noncomputable def C79 (N : Nat) : Callee := mkCallee A79 R79 (F79 N)
theorem S79 (N : Nat) : Cok 79 (C79 N) := cok_of (l := (E79 N).calls) (O := O79 N) cok_nil rfl Tryz.func79 rfl (by kernel_rfl) (by kernel_rfl)

-- function 49
def A49 : Cods ((List UInt8) × List UInt8) := (codsCons codStr (codsOne codStr))
def R49 : Cod ((List UInt8) × Bool) := (codTup (codsCons codStr (codsOne codBool)))
noncomputable def E49 (N : Nat) : Env := ⟨Tryz.prog, [(79, C79 N)]⟩
def O49 (N : Nat) : Opts := ⟨N, [], []⟩
noncomputable def F49 (N : Nat) (a : (List UInt8) × List UInt8) : Option ((List UInt8) × Bool) := aTyped (E49 N) (O49 N) Tryz.f49 A49 R49 a
theorem F49_eq (N : Nat) (a0 : List UInt8) (a1 : List UInt8) : F49 N (a0, a1) =
    onSome (F79 N (a0, a1)) fun y0 =>
  aIf (!y0) (some (a0, false))
    (aGd (decide (Int.ofNat (List.length a1) ≤ Int.ofNat (List.length a0))) (some (List.drop (Int.toNat (Int.ofNat (List.length a1))) (List.take (List.length a0) a0), true))) := by kernel_rfl
noncomputable def C49 (N : Nat) : Callee := mkCallee A49 R49 (F49 N)
theorem S49 (N : Nat) : Cok 49 (C49 N) := cok_of (l := (E49 N).calls) (O := O49 N) (cok_cons (S79 N) cok_nil) rfl Tryz.func49 rfl (by kernel_rfl) (by kernel_rfl)

-- function 25
def A25 : Cods ((List UInt8) × List UInt8) := (codsCons codStr (codsOne codStr))
def R25 : Cod ((List UInt8) × Bool) := (codTup (codsCons codStr (codsOne codBool)))
noncomputable def E25 (N : Nat) : Env := ⟨Tryz.prog, [(49, C49 N)]⟩
def O25 (N : Nat) : Opts := ⟨N, [], []⟩
noncomputable def F25 (N : Nat) (a : (List UInt8) × List UInt8) : Option ((List UInt8) × Bool) := aTyped (E25 N) (O25 N) Tryz.f25 A25 R25 a
theorem F25_eq (N : Nat) (a0 : List UInt8) (a1 : List UInt8) : F25 N (a0, a1) =
    onSome (F49 N (a0, a1)) fun y0 => some (Prod.fst y0, Prod.snd y0) := by kernel_rfl
noncomputable def C25 (N : Nat) : Callee := mkCallee A25 R25 (F25 N)
theorem S25 (N : Nat) : Cok 25 (C25 N) := cok_of (l := (E25 N).calls) (O := O25 N) (cok_cons (S49 N) cok_nil) rfl Tryz.func25 rfl (by kernel_rfl) (by kernel_rfl)

-- function 50
def A50 : Cods (List UInt8) := (codsOne codStr)
def R50 : Cod ((Int) × Bool) := (codTup (codsCons (codInt .i64) (codsOne codBool)))
noncomputable def E50 (N : Nat) : Env := ⟨Tryz.prog, []⟩
def O50 (N : Nat) : Opts := ⟨N, [(3, ⟨[0, 4, 7, 8], [], [], 0⟩)], []⟩
noncomputable def F50 (N : Nat) (a : List UInt8) : Option ((Int) × Bool) := aTyped (E50 N) (O50 N) Tryz.f50 A50 R50 a
noncomputable def L50_3 (N : Nat) (n : Nat) (x0 : List UInt8) (x1 : Int) (x2 : Int) (x3 : Int) : Option (Int × Bool) :=
  atLoop (E50 N) (O50 N) Tryz.f50 [(1 : Nat), (1 : Nat), (0 : Nat), (1 : Nat), (0 : Nat)] [] n
  {
    tmps :=
      Tm.of (nat_lit 31)
        [((0 : Nat), AV.p (PV.str x0)), ((4 : Nat), AV.p (PV.int IntKind.i64 x1)), ((7 : Nat), AV.p (PV.int IntKind.i64 x2)), ((8 : Nat), AV.p (PV.int IntKind.i64 x3))],
    heap := [] }
  fun x => Cod.dec R50 x some
theorem L50_3_eq (N : Nat) (n : Nat) (x0 : List UInt8) (x1 : Int) (x2 : Int) (x3 : Int) : L50_3 N (n + 1) x0 x1 x2 x3 =
    aIf (decide (x3 < x2))
  (onGet x0 x3 fun z0 =>
    aIf (decide (Int.ofNat (UInt8.toNat z0) < (48 : Int))) (some ((0 : Int), false))
      (onGet x0 x3 fun z1 =>
        aIf (decide ((57 : Int) < Int.ofNat (UInt8.toNat z1))) (some ((0 : Int), false))
          (onGet x0 x3 fun z2 =>
            L50_3 N n x0
              (IntKind.wrap IntKind.i64 (IntKind.wrap IntKind.i64 ((10 : Int) * x1) + IntKind.wrap IntKind.i64 (IntKind.wrap IntKind.u8 (Int.ofNat (UInt8.toNat z2) - (48 : Int)))))
              x2 (IntKind.wrap IntKind.i64 (x3 + (1 : Int))))))
  (some (x1, true)) := by kernel_rfl
theorem L50_3_zero (N : Nat) (x0 : List UInt8) (x1 : Int) (x2 : Int) (x3 : Int) : L50_3 N 0 x0 x1 x2 x3 = none := by kernel_rfl
theorem F50_eq (N : Nat) (a0 : List UInt8) : F50 N a0 =
    L50_3 N N a0 (0 : Int) (Int.ofNat (List.length a0)) (0 : Int) := by kernel_rfl
noncomputable def C50 (N : Nat) : Callee := mkCallee A50 R50 (F50 N)
theorem S50 (N : Nat) : Cok 50 (C50 N) := cok_of (l := (E50 N).calls) (O := O50 N) cok_nil rfl Tryz.func50 rfl (by kernel_rfl) (by kernel_rfl)

-- function 91
def A91 : Cods (Int) := (codsOne (codInt .i64))
def R91 : Cod (Bool) := codBool
noncomputable def E91 (N : Nat) : Env := ⟨Tryz.prog, []⟩
def O91 (N : Nat) : Opts := ⟨N, [], []⟩
noncomputable def F91 (N : Nat) (a : Int) : Option (Bool) := aTyped (E91 N) (O91 N) Tryz.f91 A91 R91 a
theorem F91_eq (N : Nat) (a0 : Int) : F91 N a0 =
    aIf (Int.tmod a0 (4 : Int) == (0 : Int)) (aIf (Int.tmod a0 (100 : Int) != (0 : Int)) (some true) (some (Int.tmod a0 (400 : Int) == (0 : Int)))) (some false) := by kernel_rfl
noncomputable def C91 (N : Nat) : Callee := mkCallee A91 R91 (F91 N)
theorem S91 (N : Nat) : Cok 91 (C91 N) := cok_of (l := (E91 N).calls) (O := O91 N) cok_nil rfl Tryz.func91 rfl (by kernel_rfl) (by kernel_rfl)

-- function 64
def A64 : Cods ((Int) × Int) := (codsCons (codInt .i64) (codsOne (codInt .i64)))
def R64 : Cod (Int) := (codInt .i64)
noncomputable def E64 (N : Nat) : Env := ⟨Tryz.prog, [(91, C91 N)]⟩
def O64 (N : Nat) : Opts := ⟨N, [], []⟩
noncomputable def F64 (N : Nat) (a : (Int) × Int) : Option (Int) := aTyped (E64 N) (O64 N) Tryz.f64 A64 R64 a
theorem F64_eq (N : Nat) (a0 : Int) (a1 : Int) : F64 N (a0, a1) =
    aGd (decide ((0 : Nat) + (13 : Nat) ≤ (13 : Nat)))
  (aIf (decide (a1 < (1 : Int))) (some (0 : Int))
    (aIf (decide ((12 : Int) < a1)) (some (0 : Int))
      (aIf (a1 == (2 : Int))
        (onSome (F91 N a0) fun y0 =>
          aIf y0 (some (29 : Int))
            (aGd (decide ((0 : Int) ≤ a1))
              (aGd (decide (a1 < (13 : Int)))
                (onSome
                  [PV.int IntKind.i64 (0 : Int), PV.int IntKind.i64 (31 : Int), PV.int IntKind.i64 (28 : Int), PV.int IntKind.i64 (31 : Int), PV.int IntKind.i64 (30 : Int),
                      PV.int IntKind.i64 (31 : Int), PV.int IntKind.i64 (30 : Int), PV.int IntKind.i64 (31 : Int), PV.int IntKind.i64 (31 : Int), PV.int IntKind.i64 (30 : Int),
                      PV.int IntKind.i64 (31 : Int), PV.int IntKind.i64 (30 : Int), PV.int IntKind.i64 (31 : Int)][(0 : Nat) + Int.toNat a1 * (1 : Nat)]?
                  fun y1 => onInt IntKind.i64 y1 fun n2 => some n2))))
        (aGd (decide ((0 : Int) ≤ a1))
          (aGd (decide (a1 < (13 : Int)))
            (onSome
              [PV.int IntKind.i64 (0 : Int), PV.int IntKind.i64 (31 : Int), PV.int IntKind.i64 (28 : Int), PV.int IntKind.i64 (31 : Int), PV.int IntKind.i64 (30 : Int),
                  PV.int IntKind.i64 (31 : Int), PV.int IntKind.i64 (30 : Int), PV.int IntKind.i64 (31 : Int), PV.int IntKind.i64 (31 : Int), PV.int IntKind.i64 (30 : Int),
                  PV.int IntKind.i64 (31 : Int), PV.int IntKind.i64 (30 : Int), PV.int IntKind.i64 (31 : Int)][(0 : Nat) + Int.toNat a1 * (1 : Nat)]?
              fun y3 => onInt IntKind.i64 y3 fun n4 => some n4)))))) := by kernel_rfl
noncomputable def C64 (N : Nat) : Callee := mkCallee A64 R64 (F64 N)
theorem S64 (N : Nat) : Cok 64 (C64 N) := cok_of (l := (E64 N).calls) (O := O64 N) (cok_cons (S91 N) cok_nil) rfl Tryz.func64 rfl (by kernel_rfl) (by kernel_rfl)

-- function 63
def A63 : Cods (Int) := (codsOne (codInt .i64))
def R63 : Cod (Int) := (codInt .i64)
noncomputable def E63 (N : Nat) : Env := ⟨Tryz.prog, [(91, C91 N)]⟩
def O63 (N : Nat) : Opts := ⟨N, [], []⟩
noncomputable def F63 (N : Nat) (a : Int) : Option (Int) := aTyped (E63 N) (O63 N) Tryz.f63 A63 R63 a
theorem F63_eq (N : Nat) (a0 : Int) : F63 N a0 =
    onSome (F91 N a0) fun y0 => aIf y0 (some (366 : Int)) (some (365 : Int)) := by kernel_rfl
noncomputable def C63 (N : Nat) : Callee := mkCallee A63 R63 (F63 N)
theorem S63 (N : Nat) : Cok 63 (C63 N) := cok_of (l := (E63 N).calls) (O := O63 N) (cok_cons (S91 N) cok_nil) rfl Tryz.func63 rfl (by kernel_rfl) (by kernel_rfl)

-- function 51
def A51 : Cods ((Int) × (Int) × Int) := (codsCons (codInt .i64) (codsCons (codInt .i64) (codsOne (codInt .i64))))
def R51 : Cod ((Int) × Int) := (codTup (codsCons (codInt .i64) (codsOne (codInt .i64))))
noncomputable def E51 (N : Nat) : Env := ⟨Tryz.prog, [(64, C64 N), (63, C63 N)]⟩
def O51 (N : Nat) : Opts := ⟨N, [(5, ⟨[0, 1, 8, 31, 32], [], [], 0⟩), (10, ⟨[0, 8, 42, 43], [], [], 0⟩)], []⟩
noncomputable def F51 (N : Nat) (a : (Int) × (Int) × Int) : Option ((Int) × Int) := aTyped (E51 N) (O51 N) Tryz.f51 A51 R51 a
noncomputable def L51_5 (N : Nat) (n : Nat) (x0 : Int) (x1 : Int) (x2 : Int) (x3 : Int) (x4 : Int) : Option (Int × Int) :=
  atLoop (E51 N) (O51 N) Tryz.f51 [(1 : Nat), (1 : Nat), (1 : Nat), (0 : Nat), (1 : Nat), (0 : Nat)] [] n
  {
    tmps :=
      Tm.of (nat_lit 54)
        [((0 : Nat), AV.p (PV.int IntKind.i64 x0)), ((1 : Nat), AV.p (PV.int IntKind.i64 x1)), ((8 : Nat), AV.p (PV.int IntKind.i64 x2)),
          ((31 : Nat), AV.p (PV.int IntKind.i64 x3)), ((32 : Nat), AV.p (PV.int IntKind.i64 x4))],
    heap := [] }
  fun x => Cod.dec R51 x some
noncomputable def L51_10 (N : Nat) (n : Nat) (x0 : Int) (x1 : Int) (x2 : Int) (x3 : Int) : Option (Int × Int) :=
  atLoop (E51 N) (O51 N) Tryz.f51 [(1 : Nat), (1 : Nat), (1 : Nat), (1 : Nat), (0 : Nat), (1 : Nat), (0 : Nat)] [] n
  {
    tmps :=
      Tm.of (nat_lit 54)
        [((0 : Nat), AV.p (PV.int IntKind.i64 x0)), ((8 : Nat), AV.p (PV.int IntKind.i64 x1)), ((42 : Nat), AV.p (PV.int IntKind.i64 x2)),
          ((43 : Nat), AV.p (PV.int IntKind.i64 x3))],
    heap := [] }
  fun x => Cod.dec R51 x some
theorem L51_5_eq (N : Nat) (n : Nat) (x0 : Int) (x1 : Int) (x2 : Int) (x3 : Int) (x4 : Int) : L51_5 N (n + 1) x0 x1 x2 x3 x4 =
    aIf (decide (x4 < x3))
  (onSome (F63 N (IntKind.wrap IntKind.i64 ((1900 : Int) + x4))) fun y1 => L51_5 N n x0 x1 (IntKind.wrap IntKind.i64 (x2 + y1)) x3 (IntKind.wrap IntKind.i64 (x4 + (1 : Int))))
  (L51_10 N N x0 x2 (IntKind.wrap IntKind.i64 (x1 - (1 : Int))) (0 : Int)) := by kernel_rfl
theorem L51_5_zero (N : Nat) (x0 : Int) (x1 : Int) (x2 : Int) (x3 : Int) (x4 : Int) : L51_5 N 0 x0 x1 x2 x3 x4 = none := by kernel_rfl
theorem L51_10_eq (N : Nat) (n : Nat) (x0 : Int) (x1 : Int) (x2 : Int) (x3 : Int) : L51_10 N (n + 1) x0 x1 x2 x3 =
    aIf (decide (x3 < x2))
  (onSome (F64 N (x0, IntKind.wrap IntKind.i64 (x3 + (1 : Int)))) fun y2 => L51_10 N n x0 (IntKind.wrap IntKind.i64 (x1 + y2)) x2 (IntKind.wrap IntKind.i64 (x3 + (1 : Int))))
  (some (x1, (0 : Int))) := by kernel_rfl
theorem L51_10_zero (N : Nat) (x0 : Int) (x1 : Int) (x2 : Int) (x3 : Int) : L51_10 N 0 x0 x1 x2 x3 = none := by kernel_rfl
theorem F51_eq (N : Nat) (a0 : Int) (a1 : Int) (a2 : Int) : F51 N (a0, a1, a2) =
    aIf (decide (a0 < (1900 : Int))) (some ((0 : Int), (3 : Int)))
  (aIf (decide ((2199 : Int) < a0)) (some ((0 : Int), (3 : Int)))
    (aIf (decide (a2 < (1 : Int))) (some ((0 : Int), (3 : Int)))
      (onSome (F64 N (a0, a1)) fun y0 =>
        aIf (decide (y0 < a2)) (some ((0 : Int), (3 : Int)))
          (L51_5 N N a0 a1 (IntKind.wrap IntKind.i64 (a2 - (1 : Int))) (IntKind.wrap IntKind.i64 (a0 - (1900 : Int))) (0 : Int))))) := by kernel_rfl
noncomputable def C51 (N : Nat) : Callee := mkCallee A51 R51 (F51 N)
theorem S51 (N : Nat) : Cok 51 (C51 N) := cok_of (l := (E51 N).calls) (O := O51 N) (cok_cons (S64 N) (cok_cons (S63 N) cok_nil)) rfl Tryz.func51 rfl (by kernel_rfl) (by kernel_rfl)

-- function 26
def A26 : Cods (List UInt8) := (codsOne codStr)
def R26 : Cod ((Int) × Int) := (codTup (codsCons (codInt .i64) (codsOne (codInt .i64))))
noncomputable def E26 (N : Nat) : Env := ⟨Tryz.prog, [(50, C50 N), (51, C51 N)]⟩
def O26 (N : Nat) : Opts := ⟨N, [], []⟩
noncomputable def F26 (N : Nat) (a : List UInt8) : Option ((Int) × Int) := aTyped (E26 N) (O26 N) Tryz.f26 A26 R26 a
theorem F26_eq (N : Nat) (a0 : List UInt8) : F26 N a0 =
    aIf (Int.ofNat (List.length a0) != (10 : Int)) (some ((0 : Int), (2 : Int)))
  (onGet a0 (4 : Int) fun z0 =>
    aIf (Int.ofNat (UInt8.toNat z0) != (45 : Int)) (some ((0 : Int), (2 : Int)))
      (onGet a0 (7 : Int) fun z1 =>
        aIf (Int.ofNat (UInt8.toNat z1) != (45 : Int)) (some ((0 : Int), (2 : Int)))
          (aGd (decide ((4 : Int) ≤ Int.ofNat (List.length a0)))
            (onSome (F50 N (List.drop (0 : Nat) (List.take (4 : Nat) a0))) fun y2 =>
              aGd (decide ((7 : Int) ≤ Int.ofNat (List.length a0)))
                (onSome (F50 N (List.drop (5 : Nat) (List.take (7 : Nat) a0))) fun y3 =>
                  aGd (decide ((8 : Int) ≤ Int.ofNat (List.length a0)))
                    (onSome (F50 N (List.drop (8 : Nat) (List.take (List.length a0) a0))) fun y4 =>
                      aIf (!Prod.snd y2) (some ((0 : Int), (2 : Int)))
                        (aIf (!Prod.snd y3) (some ((0 : Int), (2 : Int)))
                          (aIf (!Prod.snd y4) (some ((0 : Int), (2 : Int)))
                            (onSome (F51 N (Prod.fst y2, Prod.fst y3, Prod.fst y4)) fun y5 => some (Prod.fst y5, Prod.snd y5)))))))))) := by kernel_rfl
noncomputable def C26 (N : Nat) : Callee := mkCallee A26 R26 (F26 N)
theorem S26 (N : Nat) : Cok 26 (C26 N) := cok_of (l := (E26 N).calls) (O := O26 N) (cok_cons (S50 N) (cok_cons (S51 N) cok_nil)) rfl Tryz.func26 rfl (by kernel_rfl) (by kernel_rfl)

-- function 130
def A130 : Cods (List UInt8) := (codsOne codStr)
def R130 : Cod (Int) := (codInt .i64)
noncomputable def E130 (N : Nat) : Env := ⟨Tryz.prog, []⟩
def O130 (N : Nat) : Opts := ⟨N, [(2, ⟨[2, 4], [], [], 1⟩)], []⟩
noncomputable def F130 (N : Nat) (a : List UInt8) : Option (Int) := aTyped (E130 N) (O130 N) Tryz.f130 A130 R130 a
noncomputable def L130_2 (N : Nat) (n : Nat) (x0 : Int) (x1 : List UInt8) (x2 : Nat) : Option Int :=
  atLoop (E130 N) (O130 N) Tryz.f130 [(1 : Nat), (0 : Nat), (1 : Nat), (0 : Nat)] [] n
  { tmps := Tm.of (nat_lit 10) [((2 : Nat), AV.p (PV.int IntKind.i64 x0)), ((4 : Nat), AV.it (0 : Nat))], heap := [Blk.iter x1 x2] } fun x => Cod.dec R130 x some
theorem L130_2_eq (N : Nat) (n : Nat) (x0 : Int) (x1 : List UInt8) (x2 : Nat) : L130_2 N (n + 1) x0 x1 x2 =
    aIf (decide (x2 < List.length x1)) (L130_2 N n (IntKind.wrap IntKind.i64 (x0 + (1 : Int))) x1 (x2 + Prod.snd (Utf8.decode { data := List.toArray x1 } x2))) (some x0) := by kernel_rfl
theorem L130_2_zero (N : Nat) (x0 : Int) (x1 : List UInt8) (x2 : Nat) : L130_2 N 0 x0 x1 x2 = none := by kernel_rfl
theorem F130_eq (N : Nat) (a0 : List UInt8) : F130 N a0 =
    L130_2 N N (0 : Int) a0 (0 : Nat) := by kernel_rfl
noncomputable def C130 (N : Nat) : Callee := mkCallee A130 R130 (F130 N)
theorem S130 (N : Nat) : Cok 130 (C130 N) := cok_of (l := (E130 N).calls) (O := O130 N) cok_nil rfl Tryz.func130 rfl (by kernel_rfl) (by kernel_rfl)

-- function 149
def A149 : Cods (List UInt8) := (codsOne codStr)
def R149 : Cod ((Int) × Int) := (codTup (codsCons (codInt .i32) (codsOne (codInt .i64))))
noncomputable def E149 (N : Nat) : Env := ⟨Tryz.prog, []⟩
def O149 (N : Nat) : Opts := ⟨N, [], []⟩
noncomputable def F149 (N : Nat) (a : List UInt8) : Option ((Int) × Int) := aTyped (E149 N) (O149 N) Tryz.f149 A149 R149 a
theorem F149_eq (N : Nat) (a0 : List UInt8) : F149 N a0 =
    aIf (decide (Int.ofNat (List.length a0) < (1 : Int))) (some ((65533 : Int), (0 : Int))) (onGet a0 (0 : Int) fun z0 => none) := by kernel_rfl
noncomputable def C149 (N : Nat) : Callee := mkCallee A149 R149 (F149 N)
theorem S149 (N : Nat) : Cok 149 (C149 N) := cok_of (l := (E149 N).calls) (O := O149 N) cok_nil rfl Tryz.func149 rfl (by kernel_rfl) (by kernel_rfl)

-- function 131
def A131 : Cods (List UInt8) := (codsOne codStr)
def R131 : Cod ((Int) × Int) := (codTup (codsCons (codInt .i32) (codsOne (codInt .i64))))
noncomputable def E131 (N : Nat) : Env := ⟨Tryz.prog, [(149, C149 N)]⟩
def O131 (N : Nat) : Opts := ⟨N, [], []⟩
noncomputable def F131 (N : Nat) (a : List UInt8) : Option ((Int) × Int) := aTyped (E131 N) (O131 N) Tryz.f131 A131 R131 a
theorem F131_eq (N : Nat) (a0 : List UInt8) : F131 N a0 =
    aIf (!a0 == [])
  (onGet a0 (0 : Int) fun z0 =>
    aIf (decide (Int.ofNat (UInt8.toNat z0) < (128 : Int))) (onGet a0 (0 : Int) fun z1 => some (IntKind.wrap IntKind.i32 (Int.ofNat (UInt8.toNat z1)), (1 : Int)))
      (onSome (F149 N a0) fun y2 => some (Prod.fst y2, Prod.snd y2)))
  (onSome (F149 N a0) fun y3 => some (Prod.fst y3, Prod.snd y3)) := by kernel_rfl
noncomputable def C131 (N : Nat) : Callee := mkCallee A131 R131 (F131 N)
theorem S131 (N : Nat) : Cok 131 (C131 N) := cok_of (l := (E131 N).calls) (O := O131 N) (cok_cons (S149 N) cok_nil) rfl Tryz.func131 rfl (by kernel_rfl) (by kernel_rfl)

-- function 105
def A105 : Cods ((List UInt8) × Int) := (codsCons codStr (codsOne (codInt .i64)))
def R105 : Cod (List PV) := (codSl 1)
noncomputable def E105 (N : Nat) : Env := ⟨Tryz.prog, [(130, C130 N), (131, C131 N)]⟩
def O105 (N : Nat) : Opts := ⟨N, [(6, ⟨[0, 1, 6, 7], [], [], 1⟩)], []⟩
noncomputable def F105 (N : Nat) (a : (List UInt8) × Int) : Option (List PV) := aTyped (E105 N) (O105 N) Tryz.f105 A105 R105 a
noncomputable def L105_6 (N : Nat) (n : Nat) (x0 : List UInt8) (x1 : Int) (x2 : Int) (x3 : List PV) : Option (List PV) :=
  atLoop (E105 N) (O105 N) Tryz.f105 [(1 : Nat), (1 : Nat), (1 : Nat), (1 : Nat), (0 : Nat), (1 : Nat), (0 : Nat)] [] n
  { tmps := Tm.of (nat_lit 50) [((0 : Nat), AV.p (PV.str x0)), ((1 : Nat), AV.p (PV.int IntKind.i64 x1)), ((6 : Nat), AV.own (0 : Nat)), ((7 : Nat), AV.p (PV.int IntKind.i64 x2))],
    heap := [Blk.row (9 : Nat) (1 : Nat) x3] }
  fun x => Cod.dec R105 x some
theorem L105_6_eq (N : Nat) (n : Nat) (x0 : List UInt8) (x1 : Int) (x2 : Int) (x3 : List PV) : L105_6 N (n + 1) x0 x1 x2 x3 =
    aIf (decide (x2 < IntKind.wrap IntKind.i64 (x1 - (1 : Int))))
  (onSome (F131 N x0) fun y1 =>
    aGd (decide ((0 : Int) ≤ Prod.snd y1))
      (aGd (decide (Prod.snd y1 ≤ Int.ofNat (List.length x0)))
        (aGd (decide ((0 : Int) ≤ x2))
          (aGd (decide (x2 < Int.ofNat (List.length x3)))
            (aGd (decide ((0 : Nat) + (1 : Nat) ≤ (1 : Nat)))
              (onGet x3 (Int.ofNat (Int.toNat x2)) fun z2 =>
                aGd (decide ((0 : Int) ≤ Prod.snd y1))
                  (aGd (decide (Prod.snd y1 ≤ Int.ofNat (List.length x0)))
                    (L105_6 N n (List.drop (Int.toNat (Prod.snd y1)) (List.take (List.length x0) x0)) x1 (IntKind.wrap IntKind.i64 (x2 + (1 : Int)))
                      (List.set x3 (Int.toNat x2) (setCells z2 (0 : Nat) [PV.str (List.drop (0 : Nat) (List.take (Int.toNat (Prod.snd y1)) x0))]))))))))))
  (aIf (decide ((0 : Int) < x1))
    (aGd (decide ((0 : Int) ≤ IntKind.wrap IntKind.i64 (x1 - (1 : Int))))
      (aGd (decide (IntKind.wrap IntKind.i64 (x1 - (1 : Int)) < Int.ofNat (List.length x3)))
        (aGd (decide ((0 : Nat) + (1 : Nat) ≤ (1 : Nat)))
          (onGet x3 (Int.ofNat (Int.toNat (IntKind.wrap IntKind.i64 (x1 - (1 : Int))))) fun z3 =>
            some (List.set x3 (Int.toNat (IntKind.wrap IntKind.i64 (x1 - (1 : Int)))) (setCells z3 (0 : Nat) [PV.str x0]))))))
    (some x3)) := by kernel_rfl
theorem L105_6_zero (N : Nat) (x0 : List UInt8) (x1 : Int) (x2 : Int) (x3 : List PV) : L105_6 N 0 x0 x1 x2 x3 = none := by kernel_rfl
theorem F105_eq (N : Nat) (a0 : List UInt8) (a1 : Int) : F105 N (a0, a1) =
    onSome (F130 N a0) fun y0 =>
  aIf (decide (a1 < (0 : Int)))
    (aGd (decide ((0 : Int) ≤ y0)) (aGd (decide (y0 * (17 : Int) ≤ (140737488355328 : Int))) (L105_6 N N a0 y0 (0 : Int) (List.replicate (Int.toNat y0) (PV.str [])))))
    (aIf (decide (y0 < a1))
      (aGd (decide ((0 : Int) ≤ y0)) (aGd (decide (y0 * (17 : Int) ≤ (140737488355328 : Int))) (L105_6 N N a0 y0 (0 : Int) (List.replicate (Int.toNat y0) (PV.str [])))))
      (aGd (decide ((0 : Int) ≤ a1)) (aGd (decide (a1 * (17 : Int) ≤ (140737488355328 : Int))) (L105_6 N N a0 a1 (0 : Int) (List.replicate (Int.toNat a1) (PV.str [])))))) := by kernel_rfl
noncomputable def C105 (N : Nat) : Callee := mkCallee A105 R105 (F105 N)
theorem S105 (N : Nat) : Cok 105 (C105 N) := cok_of (l := (E105 N).calls) (O := O105 N) (cok_cons (S130 N) (cok_cons (S131 N) cok_nil)) rfl Tryz.func105 rfl (by kernel_rfl) (by kernel_rfl)

-- function 80
def A80 : Cods ((List UInt8) × (List UInt8) × (Int) × Int) := (codsCons codStr (codsCons codStr (codsCons (codInt .i64) (codsOne (codInt .i64)))))
def R80 : Cod (List PV) := (codSl 1)
noncomputable def E80 (N : Nat) : Env := ⟨Tryz.prog, [(105, C105 N), (106, C106 N), (107, C107 N)]⟩
def O80 (N : Nat) : Opts := ⟨N, [(11, ⟨[0, 1, 2, 3, 9, 10], [], [], 1⟩)], []⟩
noncomputable def F80 (N : Nat) (a : (List UInt8) × (List UInt8) × (Int) × Int) : Option (List PV) := aTyped (E80 N) (O80 N) Tryz.f80 A80 R80 a
noncomputable def L80_11 (N : Nat) (n : Nat) (x0 : List UInt8) (x1 : List UInt8) (x2 : Int) (x3 : Int) (x4 : Int) (x5 : List PV) : Option (List PV) :=
  atLoop (E80 N) (O80 N) Tryz.f80 [(1 : Nat), (1 : Nat), (1 : Nat), (1 : Nat), (1 : Nat), (1 : Nat), (1 : Nat), (1 : Nat), (0 : Nat), (0 : Nat)] [] n
  {
    tmps :=
      Tm.of (nat_lit 66)
        [((0 : Nat), AV.p (PV.str x0)), ((1 : Nat), AV.p (PV.str x1)), ((2 : Nat), AV.p (PV.int IntKind.i64 x2)), ((3 : Nat), AV.p (PV.int IntKind.i64 x3)),
          ((9 : Nat), AV.own (0 : Nat)), ((10 : Nat), AV.p (PV.int IntKind.i64 x4))],
    heap := [Blk.row (9 : Nat) (1 : Nat) x5] }
  fun x => Cod.dec R80 x some
theorem L80_11_eq (N : Nat) (n : Nat) (x0 : List UInt8) (x1 : List UInt8) (x2 : Int) (x3 : Int) (x4 : Int) (x5 : List PV) : L80_11 N (n + 1) x0 x1 x2 x3 x4 x5 =
    aIf (decide (x4 < x3))
  (onSome (F107 N (x0, x1)) fun y2 =>
    aIf (decide (y2 < (0 : Int)))
      (aGd (decide ((0 : Int) ≤ x4))
        (aGd (decide (x4 < Int.ofNat (List.length x5)))
          (aGd (decide ((0 : Nat) + (1 : Nat) ≤ (1 : Nat)))
            (onGet x5 (Int.ofNat (Int.toNat x4)) fun z3 =>
              aGd (decide ((0 : Int) ≤ IntKind.wrap IntKind.i64 (x4 + (1 : Int))))
                (aGd (decide (IntKind.wrap IntKind.i64 (x4 + (1 : Int)) ≤ Int.ofNat (List.length (List.set x5 (Int.toNat x4) (setCells z3 (0 : Nat) [PV.str x0])))))
                  (some
                    (List.drop (0 : Nat) (List.take (Int.toNat (IntKind.wrap IntKind.i64 (x4 + (1 : Int)))) (List.set x5 (Int.toNat x4) (setCells z3 (0 : Nat) [PV.str x0]))))))))))
      (aGd (decide ((0 : Int) ≤ IntKind.wrap IntKind.i64 (y2 + x2)))
        (aGd (decide (IntKind.wrap IntKind.i64 (y2 + x2) ≤ Int.ofNat (List.length x0)))
          (aGd (decide ((0 : Int) ≤ x4))
            (aGd (decide (x4 < Int.ofNat (List.length x5)))
              (aGd (decide ((0 : Nat) + (1 : Nat) ≤ (1 : Nat)))
                (onGet x5 (Int.ofNat (Int.toNat x4)) fun z4 =>
                  aGd (decide ((0 : Int) ≤ IntKind.wrap IntKind.i64 (y2 + Int.ofNat (List.length x1))))
                    (aGd (decide (IntKind.wrap IntKind.i64 (y2 + Int.ofNat (List.length x1)) ≤ Int.ofNat (List.length x0)))
                      (L80_11 N n (List.drop (Int.toNat (IntKind.wrap IntKind.i64 (y2 + Int.ofNat (List.length x1)))) (List.take (List.length x0) x0)) x1 x2 x3
                        (IntKind.wrap IntKind.i64 (x4 + (1 : Int)))
                        (List.set x5 (Int.toNat x4) (setCells z4 (0 : Nat) [PV.str (List.drop (0 : Nat) (List.take (Int.toNat (IntKind.wrap IntKind.i64 (y2 + x2))) x0))])))))))))))
  (aGd (decide ((0 : Int) ≤ x4))
    (aGd (decide (x4 < Int.ofNat (List.length x5)))
      (aGd (decide ((0 : Nat) + (1 : Nat) ≤ (1 : Nat)))
        (onGet x5 (Int.ofNat (Int.toNat x4)) fun z5 =>
          aGd (decide ((0 : Int) ≤ IntKind.wrap IntKind.i64 (x4 + (1 : Int))))
            (aGd (decide (IntKind.wrap IntKind.i64 (x4 + (1 : Int)) ≤ Int.ofNat (List.length (List.set x5 (Int.toNat x4) (setCells z5 (0 : Nat) [PV.str x0])))))
              (some (List.drop (0 : Nat) (List.take (Int.toNat (IntKind.wrap IntKind.i64 (x4 + (1 : Int)))) (List.set x5 (Int.toNat x4) (setCells z5 (0 : Nat) [PV.str x0])))))))))) := by kernel_rfl
theorem L80_11_zero (N : Nat) (x0 : List UInt8) (x1 : List UInt8) (x2 : Int) (x3 : Int) (x4 : Int) (x5 : List PV) : L80_11 N 0 x0 x1 x2 x3 x4 x5 = none := by kernel_rfl
theorem F80_eq (N : Nat) (a0 : List UInt8) (a1 : List UInt8) (a2 : Int) (a3 : Int) : F80 N (a0, a1, a2, a3) =
    aIf (a3 == (0 : Int)) (some [])
  (aIf (a1 == []) (onSome (F105 N (a0, a3)) fun y0 => some y0)
    (aIf (decide (a3 < (0 : Int)))
      (onSome (F106 N (a0, a1)) fun y1 =>
        aGd (decide ((0 : Int) ≤ min (IntKind.wrap IntKind.i64 (y1 + (1 : Int))) (IntKind.wrap IntKind.i64 (Int.ofNat (List.length a0) + (1 : Int)))))
          (aGd (decide (min (IntKind.wrap IntKind.i64 (y1 + (1 : Int))) (IntKind.wrap IntKind.i64 (Int.ofNat (List.length a0) + (1 : Int))) * (17 : Int) ≤ (140737488355328 : Int)))
            (L80_11 N N a0 a1 a2
              (IntKind.wrap IntKind.i64 (min (IntKind.wrap IntKind.i64 (y1 + (1 : Int))) (IntKind.wrap IntKind.i64 (Int.ofNat (List.length a0) + (1 : Int))) - (1 : Int))) (0 : Int)
              (List.replicate (Int.toNat (min (IntKind.wrap IntKind.i64 (y1 + (1 : Int))) (IntKind.wrap IntKind.i64 (Int.ofNat (List.length a0) + (1 : Int))))) (PV.str [])))))
      (aGd (decide ((0 : Int) ≤ min a3 (IntKind.wrap IntKind.i64 (Int.ofNat (List.length a0) + (1 : Int)))))
        (aGd (decide (min a3 (IntKind.wrap IntKind.i64 (Int.ofNat (List.length a0) + (1 : Int))) * (17 : Int) ≤ (140737488355328 : Int)))
          (L80_11 N N a0 a1 a2 (IntKind.wrap IntKind.i64 (min a3 (IntKind.wrap IntKind.i64 (Int.ofNat (List.length a0) + (1 : Int))) - (1 : Int))) (0 : Int)
            (List.replicate (Int.toNat (min a3 (IntKind.wrap IntKind.i64 (Int.ofNat (List.length a0) + (1 : Int))))) (PV.str []))))))) := by kernel_rfl
noncomputable def C80 (N : Nat) : Callee := mkCallee A80 R80 (F80 N)
theorem S80 (N : Nat) : Cok 80 (C80 N) := cok_of (l := (E80 N).calls) (O := O80 N) (cok_cons (S105 N) (cok_cons (S106 N) (cok_cons (S107 N) cok_nil))) rfl Tryz.func80 rfl (by kernel_rfl) (by kernel_rfl)

-- function 52
def A52 : Cods ((List UInt8) × List UInt8) := (codsCons codStr (codsOne codStr))
def R52 : Cod (List PV) := (codSl 1)
noncomputable def E52 (N : Nat) : Env := ⟨Tryz.prog, [(80, C80 N)]⟩
def O52 (N : Nat) : Opts := ⟨N, [], []⟩
noncomputable def F52 (N : Nat) (a : (List UInt8) × List UInt8) : Option (List PV) := aTyped (E52 N) (O52 N) Tryz.f52 A52 R52 a
theorem F52_eq (N : Nat) (a0 : List UInt8) (a1 : List UInt8) : F52 N (a0, a1) =
    onSome (F80 N (a0, a1, (0 : Int), (-1 : Int))) fun y0 => some y0 := by kernel_rfl
noncomputable def C52 (N : Nat) : Callee := mkCallee A52 R52 (F52 N)
theorem S52 (N : Nat) : Cok 52 (C52 N) := cok_of (l := (E52 N).calls) (O := O52 N) (cok_cons (S80 N) cok_nil) rfl Tryz.func52 rfl (by kernel_rfl) (by kernel_rfl)

-- function 81
def A81 : Cods ((List PV) × List UInt8) := (codsCons (codSl 1) (codsOne codStr))
def R81 : Cod (Int) := (codInt .i64)
noncomputable def E81 (N : Nat) : Env := ⟨Tryz.prog, []⟩
def O81 (N : Nat) : Opts := ⟨N, [(2, ⟨[0, 1, 7, 8], [], [], 0⟩)], []⟩
noncomputable def F81 (N : Nat) (a : (List PV) × List UInt8) : Option (Int) := aTyped (E81 N) (O81 N) Tryz.f81 A81 R81 a
noncomputable def L81_2 (N : Nat) (n : Nat) (x0 : List PV) (x1 : List UInt8) (x2 : Int) (x3 : Int) : Option Int :=
  atLoop (E81 N) (O81 N) Tryz.f81 [(1 : Nat), (0 : Nat), (1 : Nat), (0 : Nat)] [] n
  {
    tmps :=
      Tm.of (nat_lit 19)
        [((0 : Nat), AV.p (PV.sl (1 : Nat) x0)), ((1 : Nat), AV.p (PV.str x1)), ((7 : Nat), AV.p (PV.int IntKind.i64 x2)), ((8 : Nat), AV.p (PV.int IntKind.i64 x3))],
    heap := [] }
  fun x => Cod.dec R81 x some
theorem L81_2_eq (N : Nat) (n : Nat) (x0 : List PV) (x1 : List UInt8) (x2 : Int) (x3 : Int) : L81_2 N (n + 1) x0 x1 x2 x3 =
    aIf (decide (x3 < x2)) (onGet x0 x3 fun z0 => onStr z0 fun u1 => aIf (x1 == u1) (some x3) (L81_2 N n x0 x1 x2 (IntKind.wrap IntKind.i64 (x3 + (1 : Int))))) (some (-1 : Int)) := by kernel_rfl
theorem L81_2_zero (N : Nat) (x0 : List PV) (x1 : List UInt8) (x2 : Int) (x3 : Int) : L81_2 N 0 x0 x1 x2 x3 = none := by kernel_rfl
theorem F81_eq (N : Nat) (a0 : List PV) (a1 : List UInt8) : F81 N (a0, a1) =
    L81_2 N N a0 a1 (Int.ofNat (List.length a0)) (0 : Int) := by kernel_rfl
noncomputable def C81 (N : Nat) : Callee := mkCallee A81 R81 (F81 N)
theorem S81 (N : Nat) : Cok 81 (C81 N) := cok_of (l := (E81 N).calls) (O := O81 N) cok_nil rfl Tryz.func81 rfl (by kernel_rfl) (by kernel_rfl)

-- function 53
def A53 : Cods ((List PV) × List UInt8) := (codsCons (codSl 1) (codsOne codStr))
def R53 : Cod (Bool) := codBool
noncomputable def E53 (N : Nat) : Env := ⟨Tryz.prog, [(81, C81 N)]⟩
def O53 (N : Nat) : Opts := ⟨N, [], []⟩
noncomputable def F53 (N : Nat) (a : (List PV) × List UInt8) : Option (Bool) := aTyped (E53 N) (O53 N) Tryz.f53 A53 R53 a
theorem F53_eq (N : Nat) (a0 : List PV) (a1 : List UInt8) : F53 N (a0, a1) =
    onSome (F81 N (a0, a1)) fun y0 => some (decide ((0 : Int) ≤ y0)) := by kernel_rfl
noncomputable def C53 (N : Nat) : Callee := mkCallee A53 R53 (F53 N)
theorem S53 (N : Nat) : Cok 53 (C53 N) := cok_of (l := (E53 N).calls) (O := O53 N) (cok_cons (S81 N) cok_nil) rfl Tryz.func53 rfl (by kernel_rfl) (by kernel_rfl)

-- function 67
def A67 : Cods (((Int) × Int) × List PV) := (codsCons (codAgg (codsCons (codInt .i64) (codsOne (codInt .i64)))) (codsOne (codSl 2)))
def R67 : Cod (Bool) := codBool
noncomputable def E67 (N : Nat) : Env := ⟨Tryz.prog, []⟩
def O67 (N : Nat) : Opts := ⟨N, [], []⟩
noncomputable def F67 (N : Nat) (a : ((Int) × Int) × List PV) : Option (Bool) := aTyped (E67 N) (O67 N) Tryz.f67 A67 R67 a
theorem F67_eq (N : Nat) (a0 : Int × Int) (a1 : List PV) : F67 N (a0, a1) =
    aIf (Prod.fst a0 == (1 : Int))
  (aIf (Prod.fst a0 == (1 : Int)) (some (Prod.snd a0 == (0 : Int)))
    (aIf (Prod.fst a0 == (6 : Int)) (aIf (decide ((0 : Int) ≤ Prod.snd a0)) (some (decide (Prod.snd a0 < Int.ofNat (List.length a1)))) (some false)) (some false)))
  (aIf (Prod.fst a0 == (2 : Int))
    (aIf (Prod.fst a0 == (2 : Int)) (some (Prod.snd a0 == (0 : Int)))
      (aIf (Prod.fst a0 == (6 : Int)) (aIf (decide ((0 : Int) ≤ Prod.snd a0)) (some (decide (Prod.snd a0 < Int.ofNat (List.length a1)))) (some false)) (some false)))
    (aIf (Prod.fst a0 == (3 : Int))
      (aIf (Prod.fst a0 == (3 : Int)) (some (Prod.snd a0 == (0 : Int)))
        (aIf (Prod.fst a0 == (6 : Int)) (aIf (decide ((0 : Int) ≤ Prod.snd a0)) (some (decide (Prod.snd a0 < Int.ofNat (List.length a1)))) (some false)) (some false)))
      (aIf (Prod.fst a0 == (4 : Int))
        (aIf (Prod.fst a0 == (4 : Int)) (some (Prod.snd a0 == (0 : Int)))
          (aIf (Prod.fst a0 == (6 : Int)) (aIf (decide ((0 : Int) ≤ Prod.snd a0)) (some (decide (Prod.snd a0 < Int.ofNat (List.length a1)))) (some false)) (some false)))
        (aIf (Prod.fst a0 == (5 : Int)) (some (Prod.snd a0 == (0 : Int)))
          (aIf (Prod.fst a0 == (6 : Int)) (aIf (decide ((0 : Int) ≤ Prod.snd a0)) (some (decide (Prod.snd a0 < Int.ofNat (List.length a1)))) (some false)) (some false)))))) := by kernel_rfl
noncomputable def C67 (N : Nat) : Callee := mkCallee A67 R67 (F67 N)
theorem S67 (N : Nat) : Cok 67 (C67 N) := cok_of (l := (E67 N).calls) (O := O67 N) cok_nil rfl Tryz.func67 rfl (by kernel_rfl) (by kernel_rfl)

-- function 134
def A134 : Cods (List UInt8) := (codsOne codStr)
def R134 : Cod (Bool) := codBool
noncomputable def E134 (N : Nat) : Env := ⟨Tryz.prog, []⟩
def O134 (N : Nat) : Opts := ⟨N, [(2, ⟨[0, 6], [], [], 1⟩)], []⟩
noncomputable def F134 (N : Nat) (a : List UInt8) : Option (Bool) := aTyped (E134 N) (O134 N) Tryz.f134 A134 R134 a
noncomputable def L134_2 (N : Nat) (n : Nat) (x0 : List UInt8) (x1 : List UInt8) (x2 : Nat) : Option Bool :=
  atLoop (E134 N) (O134 N) Tryz.f134 [(1 : Nat), (0 : Nat), (1 : Nat), (0 : Nat)] [] n
  { tmps := Tm.of (nat_lit 27) [((0 : Nat), AV.p (PV.str x0)), ((6 : Nat), AV.it (0 : Nat))], heap := [Blk.iter x1 x2] } fun x => Cod.dec R134 x some
theorem L134_2_eq (N : Nat) (n : Nat) (x0 : List UInt8) (x1 : List UInt8) (x2 : Nat) : L134_2 N (n + 1) x0 x1 x2 =
    aIf (decide (x2 < List.length x1))
  (aIf (decide (Int.ofNat (Prod.fst (Utf8.decode { data := List.toArray x1 } x2)) < (48 : Int))) (some false)
    (aIf (decide ((57 : Int) < Int.ofNat (Prod.fst (Utf8.decode { data := List.toArray x1 } x2)))) (some false)
      (L134_2 N n x0 x1 (x2 + Prod.snd (Utf8.decode { data := List.toArray x1 } x2)))))
  (aIf (x0 == [(48 : UInt8)]) (some true) (aIf (!x0 == []) (onGet x0 (0 : Int) fun z0 => some (Int.ofNat (UInt8.toNat z0) != (48 : Int))) (some false))) := by kernel_rfl
theorem L134_2_zero (N : Nat) (x0 : List UInt8) (x1 : List UInt8) (x2 : Nat) : L134_2 N 0 x0 x1 x2 = none := by kernel_rfl
theorem F134_eq (N : Nat) (a0 : List UInt8) : F134 N a0 =
    L134_2 N N a0 a0 (0 : Nat) := by kernel_rfl
noncomputable def C134 (N : Nat) : Callee := mkCallee A134 R134 (F134 N)
theorem S134 (N : Nat) : Cok 134 (C134 N) := cok_of (l := (E134 N).calls) (O := O134 N) cok_nil rfl Tryz.func134 rfl (by kernel_rfl) (by kernel_rfl)

-- function 135
def A135 : Cods ((List UInt8) × Bool) := (codsCons codStr (codsOne codBool))
def R135 : Cod ((Int) × Int) := (codTup (codsCons (codInt .i64) (codsOne (codInt .i64))))
noncomputable def E135 (N : Nat) : Env := ⟨Tryz.prog, []⟩
def O135 (N : Nat) : Opts := ⟨N, [(3, ⟨[1, 6, 11], [], [], 1⟩)], []⟩
noncomputable def F135 (N : Nat) (a : (List UInt8) × Bool) : Option ((Int) × Int) := aTyped (E135 N) (O135 N) Tryz.f135 A135 R135 a
noncomputable def L135_3 (N : Nat) (n : Nat) (x0 : Bool) (x1 : Int) (x2 : List UInt8) (x3 : Nat) : Option (Int × Int) :=
  atLoop (E135 N) (O135 N) Tryz.f135 [(1 : Nat), (1 : Nat), (0 : Nat), (1 : Nat), (0 : Nat)] [] n
  { tmps := Tm.of (nat_lit 31) [((1 : Nat), AV.p (PV.bool x0)), ((6 : Nat), AV.p (PV.int IntKind.i64 x1)), ((11 : Nat), AV.it (0 : Nat))], heap := [Blk.iter x2 x3] } fun x =>
  Cod.dec R135 x some
theorem L135_3_eq (N : Nat) (n : Nat) (x0 : Bool) (x1 : Int) (x2 : List UInt8) (x3 : Nat) : L135_3 N (n + 1) x0 x1 x2 x3 =
    aIf (decide (x3 < List.length x2))
  (aIf
    (decide
      (IntKind.wrap IntKind.i64
          (Int.tdiv
            (IntKind.wrap IntKind.i64
              ((4611686018427387904 : Int) - IntKind.wrap IntKind.i64 (IntKind.wrap IntKind.i32 (Int.ofNat (Prod.fst (Utf8.decode { data := List.toArray x2 } x3)) - (48 : Int)))))
            (10 : Int)) <
        x1))
    (some ((0 : Int), (3 : Int)))
    (L135_3 N n x0
      (IntKind.wrap IntKind.i64
        (IntKind.wrap IntKind.i64 (x1 * (10 : Int)) +
          IntKind.wrap IntKind.i64 (IntKind.wrap IntKind.i32 (Int.ofNat (Prod.fst (Utf8.decode { data := List.toArray x2 } x3)) - (48 : Int)))))
      x2 (x3 + Prod.snd (Utf8.decode { data := List.toArray x2 } x3))))
  (aIf x0 (some (IntKind.wrap IntKind.i64 ((0 : Int) - x1), (0 : Int))) (some (x1, (0 : Int)))) := by kernel_rfl
theorem L135_3_zero (N : Nat) (x0 : Bool) (x1 : Int) (x2 : List UInt8) (x3 : Nat) : L135_3 N 0 x0 x1 x2 x3 = none := by kernel_rfl
theorem F135_eq (N : Nat) (a0 : List UInt8) (a1 : Bool) : F135 N (a0, a1) =
    L135_3 N N a1 (0 : Int) a0 (0 : Nat) := by kernel_rfl
noncomputable def C135 (N : Nat) : Callee := mkCallee A135 R135 (F135 N)
theorem S135 (N : Nat) : Cok 135 (C135 N) := cok_of (l := (E135 N).calls) (O := O135 N) cok_nil rfl Tryz.func135 rfl (by kernel_rfl) (by kernel_rfl)

-- function 108
def A108 : Cods (List UInt8) := (codsOne codStr)
def R108 : Cod ((Int) × Int) := (codTup (codsCons (codInt .i64) (codsOne (codInt .i64))))
noncomputable def E108 (N : Nat) : Env := ⟨Tryz.prog, [(25, C25 N), (134, C134 N), (135, C135 N)]⟩
def O108 (N : Nat) : Opts := ⟨N, [], []⟩
noncomputable def F108 (N : Nat) (a : List UInt8) : Option ((Int) × Int) := aTyped (E108 N) (O108 N) Tryz.f108 A108 R108 a
theorem F108_eq (N : Nat) (a0 : List UInt8) : F108 N a0 =
    onSome (F25 N (a0, [(45 : UInt8)])) fun y0 =>
  onSome (F134 N (Prod.fst y0)) fun y1 =>
    aIf (!y1) (some ((0 : Int), (2 : Int)))
      (aIf (Prod.snd y0) (aIf (Prod.fst y0 == [(48 : UInt8)]) (some ((0 : Int), (2 : Int))) (onSome (F135 N (Prod.fst y0, Prod.snd y0)) fun y2 => some (Prod.fst y2, Prod.snd y2)))
        (onSome (F135 N (Prod.fst y0, Prod.snd y0)) fun y3 => some (Prod.fst y3, Prod.snd y3))) := by kernel_rfl
noncomputable def C108 (N : Nat) : Callee := mkCallee A108 R108 (F108 N)
theorem S108 (N : Nat) : Cok 108 (C108 N) := cok_of (l := (E108 N).calls) (O := O108 N) (cok_cons (S25 N) (cok_cons (S134 N) (cok_cons (S135 N) cok_nil))) rfl Tryz.func108 rfl (by kernel_rfl) (by kernel_rfl)

-- function 99
def A99 : Cods (Int) := (codsOne (codInt .i64))
def R99 : Cod (Int) := (codInt .i64)
noncomputable def E99 (N : Nat) : Env := ⟨Tryz.prog, []⟩
def O99 (N : Nat) : Opts := ⟨N, [], []⟩
noncomputable def F99 (N : Nat) (a : Int) : Option (Int) := aTyped (E99 N) (O99 N) Tryz.f99 A99 R99 a
theorem F99_eq (N : Nat) (a0 : Int) : F99 N a0 =
    some (max (0 : Int) (min a0 (9 : Int))) := by kernel_rfl
noncomputable def C99 (N : Nat) : Callee := mkCallee A99 R99 (F99 N)
theorem S99 (N : Nat) : Cok 99 (C99 N) := cok_of (l := (E99 N).calls) (O := O99 N) cok_nil rfl Tryz.func99 rfl (by kernel_rfl) (by kernel_rfl)

-- function 136
def A136 : Cods (List UInt8) := (codsOne codStr)
def R136 : Cod (Bool) := codBool
noncomputable def E136 (N : Nat) : Env := ⟨Tryz.prog, []⟩
def O136 (N : Nat) : Opts := ⟨N, [(2, ⟨[6], [], [], 1⟩)], []⟩
noncomputable def F136 (N : Nat) (a : List UInt8) : Option (Bool) := aTyped (E136 N) (O136 N) Tryz.f136 A136 R136 a
noncomputable def L136_2 (N : Nat) (n : Nat) (x0 : List UInt8) (x1 : Nat) : Option Bool :=
  atLoop (E136 N) (O136 N) Tryz.f136 [(1 : Nat), (0 : Nat), (1 : Nat), (0 : Nat)] [] n { tmps := Tm.of (nat_lit 16) [((6 : Nat), AV.it (0 : Nat))], heap := [Blk.iter x0 x1] }
  fun x => Cod.dec R136 x some
theorem L136_2_eq (N : Nat) (n : Nat) (x0 : List UInt8) (x1 : Nat) : L136_2 N (n + 1) x0 x1 =
    aIf (decide (x1 < List.length x0))
  (aIf (decide (Int.ofNat (Prod.fst (Utf8.decode { data := List.toArray x0 } x1)) < (48 : Int))) (some false)
    (aIf (decide ((57 : Int) < Int.ofNat (Prod.fst (Utf8.decode { data := List.toArray x0 } x1)))) (some false)
      (L136_2 N n x0 (x1 + Prod.snd (Utf8.decode { data := List.toArray x0 } x1)))))
  (some true) := by kernel_rfl
theorem L136_2_zero (N : Nat) (x0 : List UInt8) (x1 : Nat) : L136_2 N 0 x0 x1 = none := by kernel_rfl
theorem F136_eq (N : Nat) (a0 : List UInt8) : F136 N a0 =
    L136_2 N N a0 (0 : Nat) := by kernel_rfl
noncomputable def C136 (N : Nat) : Callee := mkCallee A136 R136 (F136 N)
theorem S136 (N : Nat) : Cok 136 (C136 N) := cok_of (l := (E136 N).calls) (O := O136 N) cok_nil rfl Tryz.func136 rfl (by kernel_rfl) (by kernel_rfl)

-- function 109
def A109 : Cods ((List UInt8) × Int) := (codsCons codStr (codsOne (codInt .i64)))
def R109 : Cod ((Int) × Int) := (codTup (codsCons (codInt .i64) (codsOne (codInt .i64))))
noncomputable def E109 (N : Nat) : Env := ⟨Tryz.prog, [(99, C99 N), (108, C108 N), (25, C25 N), (134, C134 N), (136, C136 N), (135, C135 N)]⟩
def O109 (N : Nat) : Opts := ⟨N, [], []⟩
noncomputable def F109 (N : Nat) (a : (List UInt8) × Int) : Option ((Int) × Int) := aTyped (E109 N) (O109 N) Tryz.f109 A109 R109 a
theorem F109_eq (N : Nat) (a0 : List UInt8) (a1 : Int) : F109 N (a0, a1) =
    onSome (F99 N a1) fun y0 =>
  aIf (y0 == (0 : Int)) (onSome (F108 N a0) fun y1 => some (Prod.fst y1, Prod.snd y1))
    (onSome (F25 N (a0, [(45 : UInt8)])) fun y2 =>
      aIf (decide (IntKind.wrap IntKind.i64 (IntKind.wrap IntKind.i64 (Int.ofNat (List.length (Prod.fst y2)) - y0) - (1 : Int)) < (1 : Int))) (some ((0 : Int), (2 : Int)))
        (onGet (Prod.fst y2) (IntKind.wrap IntKind.i64 (IntKind.wrap IntKind.i64 (Int.ofNat (List.length (Prod.fst y2)) - y0) - (1 : Int))) fun z3 =>
          aIf (Int.ofNat (UInt8.toNat z3) != (46 : Int)) (some ((0 : Int), (2 : Int)))
            (aGd (decide ((0 : Int) ≤ IntKind.wrap IntKind.i64 (IntKind.wrap IntKind.i64 (Int.ofNat (List.length (Prod.fst y2)) - y0) - (1 : Int))))
              (aGd (decide (IntKind.wrap IntKind.i64 (IntKind.wrap IntKind.i64 (Int.ofNat (List.length (Prod.fst y2)) - y0) - (1 : Int)) ≤ Int.ofNat (List.length (Prod.fst y2))))
                (onSome
                  (F134 N
                    (List.drop (0 : Nat)
                      (List.take (Int.toNat (IntKind.wrap IntKind.i64 (IntKind.wrap IntKind.i64 (Int.ofNat (List.length (Prod.fst y2)) - y0) - (1 : Int)))) (Prod.fst y2))))
                  fun y4 =>
                  aIf (!y4) (some ((0 : Int), (2 : Int)))
                    (aGd
                      (decide
                        ((0 : Int) ≤
                          IntKind.wrap IntKind.i64 (IntKind.wrap IntKind.i64 (IntKind.wrap IntKind.i64 (Int.ofNat (List.length (Prod.fst y2)) - y0) - (1 : Int)) + (1 : Int))))
                      (aGd
                        (decide
                          (IntKind.wrap IntKind.i64 (IntKind.wrap IntKind.i64 (IntKind.wrap IntKind.i64 (Int.ofNat (List.length (Prod.fst y2)) - y0) - (1 : Int)) + (1 : Int)) ≤
                            Int.ofNat (List.length (Prod.fst y2))))
                        (onSome
                          (F136 N
                            (List.drop
                              (Int.toNat
                                (IntKind.wrap IntKind.i64
                                  (IntKind.wrap IntKind.i64 (IntKind.wrap IntKind.i64 (Int.ofNat (List.length (Prod.fst y2)) - y0) - (1 : Int)) + (1 : Int))))
                              (List.take (List.length (Prod.fst y2)) (Prod.fst y2))))
                          fun y5 =>
                          aIf (!y5) (some ((0 : Int), (2 : Int)))
                            (aGd (decide ((0 : Int) ≤ IntKind.wrap IntKind.i64 (IntKind.wrap IntKind.i64 (Int.ofNat (List.length (Prod.fst y2)) - y0) - (1 : Int))))
                              (aGd
                                (decide
                                  (IntKind.wrap IntKind.i64 (IntKind.wrap IntKind.i64 (Int.ofNat (List.length (Prod.fst y2)) - y0) - (1 : Int)) ≤
                                    Int.ofNat (List.length (Prod.fst y2))))
                                (aGd
                                  (decide
                                    ((0 : Int) ≤
                                      IntKind.wrap IntKind.i64
                                        (IntKind.wrap IntKind.i64 (IntKind.wrap IntKind.i64 (Int.ofNat (List.length (Prod.fst y2)) - y0) - (1 : Int)) + (1 : Int))))
                                  (aGd
                                    (decide
                                      (IntKind.wrap IntKind.i64
                                          (IntKind.wrap IntKind.i64 (IntKind.wrap IntKind.i64 (Int.ofNat (List.length (Prod.fst y2)) - y0) - (1 : Int)) + (1 : Int)) ≤
                                        Int.ofNat (List.length (Prod.fst y2))))
                                    (aGd
                                      (decide
                                        (List.length
                                              (List.drop (0 : Nat)
                                                (List.take
                                                  (Int.toNat (IntKind.wrap IntKind.i64 (IntKind.wrap IntKind.i64 (Int.ofNat (List.length (Prod.fst y2)) - y0) - (1 : Int))))
                                                  (Prod.fst y2))) +
                                            List.length
                                              (List.drop
                                                (Int.toNat
                                                  (IntKind.wrap IntKind.i64
                                                    (IntKind.wrap IntKind.i64 (IntKind.wrap IntKind.i64 (Int.ofNat (List.length (Prod.fst y2)) - y0) - (1 : Int)) + (1 : Int))))
                                                (List.take (List.length (Prod.fst y2)) (Prod.fst y2))) ≤
                                          (9223372036854775807 : Nat)))
                                      (onSome
                                        (F135 N
                                          (List.drop (0 : Nat)
                                                (List.take
                                                  (Int.toNat (IntKind.wrap IntKind.i64 (IntKind.wrap IntKind.i64 (Int.ofNat (List.length (Prod.fst y2)) - y0) - (1 : Int))))
                                                  (Prod.fst y2)) ++
                                              List.drop
                                                (Int.toNat
                                                  (IntKind.wrap IntKind.i64
                                                    (IntKind.wrap IntKind.i64 (IntKind.wrap IntKind.i64 (Int.ofNat (List.length (Prod.fst y2)) - y0) - (1 : Int)) + (1 : Int))))
                                                (List.take (List.length (Prod.fst y2)) (Prod.fst y2)),
                                            Prod.snd y2))
                                        fun y6 =>
                                        aIf (Prod.snd y6 == (0 : Int))
                                          (aIf (Prod.fst y6 == (0 : Int)) (aIf (Prod.snd y2) (some ((0 : Int), (2 : Int))) (some (Prod.fst y6, Prod.snd y6)))
                                            (some (Prod.fst y6, Prod.snd y6)))
                                          (some (Prod.fst y6, Prod.snd y6)))))))))))))))) := by kernel_rfl
noncomputable def C109 (N : Nat) : Callee := mkCallee A109 R109 (F109 N)
theorem S109 (N : Nat) : Cok 109 (C109 N) := cok_of (l := (E109 N).calls) (O := O109 N) (cok_cons (S99 N) (cok_cons (S108 N) (cok_cons (S25 N) (cok_cons (S134 N) (cok_cons (S136 N) (cok_cons (S135 N) cok_nil)))))) rfl Tryz.func109 rfl (by kernel_rfl) (by kernel_rfl)

-- function 154
def A154 : Cods ((List UInt8) × List UInt8) := (codsCons codStr (codsOne codStr))
def R154 : Cod (Bool) := codBool
noncomputable def E154 (N : Nat) : Env := ⟨Tryz.prog, []⟩
def O154 (N : Nat) : Opts := ⟨N, [], []⟩
noncomputable def F154 (N : Nat) (a : (List UInt8) × List UInt8) : Option (Bool) := aTyped (E154 N) (O154 N) Tryz.f154 A154 R154 a
theorem F154_eq (N : Nat) (a0 : List UInt8) (a1 : List UInt8) : F154 N (a0, a1) =
    aIf (decide (Int.ofNat (List.length a1) ≤ Int.ofNat (List.length a0)))
  (aGd (decide ((0 : Int) ≤ IntKind.wrap IntKind.i64 (Int.ofNat (List.length a0) - Int.ofNat (List.length a1))))
    (aGd (decide (IntKind.wrap IntKind.i64 (Int.ofNat (List.length a0) - Int.ofNat (List.length a1)) ≤ Int.ofNat (List.length a0)))
      (some (List.drop (Int.toNat (IntKind.wrap IntKind.i64 (Int.ofNat (List.length a0) - Int.ofNat (List.length a1)))) (List.take (List.length a0) a0) == a1))))
  (some false) := by kernel_rfl
noncomputable def C154 (N : Nat) : Callee := mkCallee A154 R154 (F154 N)
theorem S154 (N : Nat) : Cok 154 (C154 N) := cok_of (l := (E154 N).calls) (O := O154 N) cok_nil rfl Tryz.func154 rfl (by kernel_rfl) (by kernel_rfl)

-- function 137
def A137 : Cods ((List UInt8) × List UInt8) := (codsCons codStr (codsOne codStr))
def R137 : Cod ((List UInt8) × Bool) := (codTup (codsCons codStr (codsOne codBool)))
noncomputable def E137 (N : Nat) : Env := ⟨Tryz.prog, [(154, C154 N)]⟩
def O137 (N : Nat) : Opts := ⟨N, [], []⟩
noncomputable def F137 (N : Nat) (a : (List UInt8) × List UInt8) : Option ((List UInt8) × Bool) := aTyped (E137 N) (O137 N) Tryz.f137 A137 R137 a
theorem F137_eq (N : Nat) (a0 : List UInt8) (a1 : List UInt8) : F137 N (a0, a1) =
    onSome (F154 N (a0, a1)) fun y0 =>
  aIf (!y0) (some (a0, false))
    (aGd (decide ((0 : Int) ≤ IntKind.wrap IntKind.i64 (Int.ofNat (List.length a0) - Int.ofNat (List.length a1))))
      (aGd (decide (IntKind.wrap IntKind.i64 (Int.ofNat (List.length a0) - Int.ofNat (List.length a1)) ≤ Int.ofNat (List.length a0)))
        (some (List.drop (0 : Nat) (List.take (Int.toNat (IntKind.wrap IntKind.i64 (Int.ofNat (List.length a0) - Int.ofNat (List.length a1)))) a0), true)))) := by kernel_rfl
noncomputable def C137 (N : Nat) : Callee := mkCallee A137 R137 (F137 N)
theorem S137 (N : Nat) : Cok 137 (C137 N) := cok_of (l := (E137 N).calls) (O := O137 N) (cok_cons (S154 N) cok_nil) rfl Tryz.func137 rfl (by kernel_rfl) (by kernel_rfl)

-- function 110
def A110 : Cods ((List UInt8) × List UInt8) := (codsCons codStr (codsOne codStr))
def R110 : Cod ((List UInt8) × Bool) := (codTup (codsCons codStr (codsOne codBool)))
noncomputable def E110 (N : Nat) : Env := ⟨Tryz.prog, [(137, C137 N)]⟩
def O110 (N : Nat) : Opts := ⟨N, [], []⟩
noncomputable def F110 (N : Nat) (a : (List UInt8) × List UInt8) : Option ((List UInt8) × Bool) := aTyped (E110 N) (O110 N) Tryz.f110 A110 R110 a
theorem F110_eq (N : Nat) (a0 : List UInt8) (a1 : List UInt8) : F110 N (a0, a1) =
    onSome (F137 N (a0, a1)) fun y0 => some (Prod.fst y0, Prod.snd y0) := by kernel_rfl
noncomputable def C110 (N : Nat) : Callee := mkCallee A110 R110 (F110 N)
theorem S110 (N : Nat) : Cok 110 (C110 N) := cok_of (l := (E110 N).calls) (O := O110 N) (cok_cons (S137 N) cok_nil) rfl Tryz.func110 rfl (by kernel_rfl) (by kernel_rfl)

-- function 82
def A82 : Cods ((List UInt8) × ((Int) × Int) × List PV) := (codsCons codStr (codsCons (codAgg (codsCons (codInt .i64) (codsOne (codInt .i64)))) (codsOne (codSl 2))))
def R82 : Cod ((Int) × Int) := (codTup (codsCons (codInt .i64) (codsOne (codInt .i64))))
noncomputable def E82 (N : Nat) : Env := ⟨Tryz.prog, [(108, C108 N), (109, C109 N), (110, C110 N), (26, C26 N), (81, C81 N)]⟩
def O82 (N : Nat) : Opts := ⟨N, [], []⟩
noncomputable def F82 (N : Nat) (a : (List UInt8) × ((Int) × Int) × List PV) : Option ((Int) × Int) := aTyped (E82 N) (O82 N) Tryz.f82 A82 R82 a
theorem F82_eq (N : Nat) (a0 : List UInt8) (a1 : Int × Int) (a2 : List PV) : F82 N (a0, a1, a2) =
    aIf (Prod.fst a1 == (1 : Int))
  (aIf (a0 == [(102 : UInt8), (97 : UInt8), (108 : UInt8), (115 : UInt8), (101 : UInt8)]) (some ((0 : Int), (0 : Int)))
    (aIf (a0 == [(116 : UInt8), (114 : UInt8), (117 : UInt8), (101 : UInt8)]) (some ((1 : Int), (0 : Int))) (some ((0 : Int), (2 : Int)))))
  (aIf (Prod.fst a1 == (2 : Int)) (onSome (F108 N a0) fun y0 => some (Prod.fst y0, Prod.snd y0))
    (aIf (Prod.fst a1 == (3 : Int)) (onSome (F109 N (a0, (2 : Int))) fun y1 => some (Prod.fst y1, Prod.snd y1))
      (aIf (Prod.fst a1 == (4 : Int))
        (onSome (F110 N (a0, [(37 : UInt8)])) fun y2 =>
          aIf (!Prod.snd y2) (some ((0 : Int), (2 : Int))) (onSome (F109 N (Prod.fst y2, (4 : Int))) fun y3 => some (Prod.fst y3, Prod.snd y3)))
        (aIf (Prod.fst a1 == (5 : Int)) (onSome (F26 N a0) fun y4 => some (Prod.fst y4, Prod.snd y4))
          (onGet a2 (Prod.snd a1) fun z5 =>
            onSome (PV.cells z5)[(1 : Nat)]? fun y6 =>
              onSl (1 : Nat) y6 fun l7 => onSome (F81 N (l7, a0)) fun y8 => aIf (decide (y8 < (0 : Int))) (some ((0 : Int), (6 : Int))) (some (y8, (0 : Int)))))))) := by kernel_rfl
noncomputable def C82 (N : Nat) : Callee := mkCallee A82 R82 (F82 N)
theorem S82 (N : Nat) : Cok 82 (C82 N) := cok_of (l := (E82 N).calls) (O := O82 N) (cok_cons (S108 N) (cok_cons (S109 N) (cok_cons (S110 N) (cok_cons (S26 N) (cok_cons (S81 N) cok_nil))))) rfl Tryz.func82 rfl (by kernel_rfl) (by kernel_rfl)

-- function 62
def A62 : Cods (((Int) × Int) × List PV) := (codsCons (codAgg (codsCons (codInt .i64) (codsOne (codInt .i64)))) (codsOne (codSl 2)))
def R62 : Cod ((Int) × Int) := (codTup (codsCons (codInt .i64) (codsOne (codInt .i64))))
noncomputable def E62 (N : Nat) : Env := ⟨Tryz.prog, [(67, C67 N)]⟩
def O62 (N : Nat) : Opts := ⟨N, [], []⟩
noncomputable def F62 (N : Nat) (a : ((Int) × Int) × List PV) : Option ((Int) × Int) := aTyped (E62 N) (O62 N) Tryz.f62 A62 R62 a
theorem F62_eq (N : Nat) (a0 : Int × Int) (a1 : List PV) : F62 N (a0, a1) =
    onSome (F67 N ((Prod.fst a0, Prod.snd a0), a1)) fun y0 =>
  aIf (!y0) (some ((0 : Int), (-1 : Int)))
    (aIf (Prod.fst a0 == (1 : Int)) (some ((0 : Int), (1 : Int)))
      (aIf (Prod.fst a0 == (2 : Int)) (some ((-1000000000000 : Int), (1000000000000 : Int)))
        (aIf (Prod.fst a0 == (3 : Int)) (some ((-1000000000000000 : Int), (1000000000000000 : Int)))
          (aIf (Prod.fst a0 == (4 : Int)) (some ((-1000000000 : Int), (1000000000 : Int)))
            (aIf (Prod.fst a0 == (5 : Int)) (some ((0 : Int), (109572 : Int)))
              (onGet a1 (Prod.snd a0) fun z1 =>
                onSome (PV.cells z1)[(1 : Nat)]? fun y2 => onSl (1 : Nat) y2 fun l3 => some ((0 : Int), IntKind.wrap IntKind.i64 (Int.ofNat (List.length l3) - (1 : Int))))))))) := by kernel_rfl
noncomputable def C62 (N : Nat) : Callee := mkCallee A62 R62 (F62 N)
theorem S62 (N : Nat) : Cok 62 (C62 N) := cok_of (l := (E62 N).calls) (O := O62 N) (cok_cons (S67 N) cok_nil) rfl Tryz.func62 rfl (by kernel_rfl) (by kernel_rfl)

-- function 83
def A83 : Cods ((Int) × ((Int) × Int) × List PV) := (codsCons (codInt .i64) (codsCons (codAgg (codsCons (codInt .i64) (codsOne (codInt .i64)))) (codsOne (codSl 2))))
def R83 : Cod (Bool) := codBool
noncomputable def E83 (N : Nat) : Env := ⟨Tryz.prog, [(62, C62 N)]⟩
def O83 (N : Nat) : Opts := ⟨N, [], []⟩
noncomputable def F83 (N : Nat) (a : (Int) × ((Int) × Int) × List PV) : Option (Bool) := aTyped (E83 N) (O83 N) Tryz.f83 A83 R83 a
theorem F83_eq (N : Nat) (a0 : Int) (a1 : Int × Int) (a2 : List PV) : F83 N (a0, a1, a2) =
    onSome (F62 N ((Prod.fst a1, Prod.snd a1), a2)) fun y0 => aIf (decide (Prod.fst y0 ≤ a0)) (some (decide (a0 ≤ Prod.snd y0))) (some false) := by kernel_rfl
noncomputable def C83 (N : Nat) : Callee := mkCallee A83 R83 (F83 N)
theorem S83 (N : Nat) : Cok 83 (C83 N) := cok_of (l := (E83 N).calls) (O := O83 N) (cok_cons (S62 N) cok_nil) rfl Tryz.func83 rfl (by kernel_rfl) (by kernel_rfl)

-- function 54
def A54 : Cods ((List UInt8) × ((Int) × Int) × List PV) := (codsCons codStr (codsCons (codAgg (codsCons (codInt .i64) (codsOne (codInt .i64)))) (codsOne (codSl 2))))
def R54 : Cod (((Int) × (Int) × Int) × Int) := (codTup (codsCons (codAgg (codsCons (codInt .i64) (codsCons (codInt .i64) (codsOne (codInt .i64))))) (codsOne (codInt .i64))))
noncomputable def E54 (N : Nat) : Env := ⟨Tryz.prog, [(67, C67 N), (82, C82 N), (83, C83 N)]⟩
def O54 (N : Nat) : Opts := ⟨N, [], []⟩
noncomputable def F54 (N : Nat) (a : (List UInt8) × ((Int) × Int) × List PV) : Option (((Int) × (Int) × Int) × Int) := aTyped (E54 N) (O54 N) Tryz.f54 A54 R54 a
theorem F54_eq (N : Nat) (a0 : List UInt8) (a1 : Int × Int) (a2 : List PV) : F54 N (a0, a1, a2) =
    onSome (F67 N ((Prod.fst a1, Prod.snd a1), a2)) fun y0 =>
  aIf (!y0) (aGd (decide ((0 : Nat) + (3 : Nat) ≤ (3 : Nat))) (some (((0 : Int), (0 : Int), (0 : Int)), (8 : Int))))
    (onSome (F82 N (a0, (Prod.fst a1, Prod.snd a1), a2)) fun y1 =>
      aIf (Prod.snd y1 != (0 : Int)) (aGd (decide ((0 : Nat) + (3 : Nat) ≤ (3 : Nat))) (some (((0 : Int), (0 : Int), (0 : Int)), Prod.snd y1)))
        (onSome (F83 N (Prod.fst y1, (Prod.fst a1, Prod.snd a1), a2)) fun y2 =>
          aIf (!y2) (aGd (decide ((0 : Nat) + (3 : Nat) ≤ (3 : Nat))) (some (((0 : Int), (0 : Int), (0 : Int)), (3 : Int))))
            (aGd (decide ((0 : Nat) + (3 : Nat) ≤ (3 : Nat))) (some ((Prod.fst a1, Prod.snd a1, Prod.fst y1), (0 : Int)))))) := by kernel_rfl
noncomputable def C54 (N : Nat) : Callee := mkCallee A54 R54 (F54 N)
theorem S54 (N : Nat) : Cok 54 (C54 N) := cok_of (l := (E54 N).calls) (O := O54 N) (cok_cons (S67 N) (cok_cons (S82 N) (cok_cons (S83 N) cok_nil))) rfl Tryz.func54 rfl (by kernel_rfl) (by kernel_rfl)

-- function 27
def A27 : Cods ((List UInt8) × (List UInt8) × (List PV) × List PV) := (codsCons codStr (codsCons codStr (codsCons (codSl 3) (codsOne (codSl 2)))))
def R27 : Cod ((List PV) × Int) := (codTup (codsCons (codSl 3) (codsOne (codInt .i64))))
noncomputable def E27 (N : Nat) : Env := ⟨Tryz.prog, [(52, C52 N), (53, C53 N), (54, C54 N)]⟩
def O27 (N : Nat) : Opts := ⟨N, [(11, ⟨[2, 3, 11, 42, 43, 44], [(11, 59, 3)], [], 1⟩)], []⟩
noncomputable def F27 (N : Nat) (a : (List UInt8) × (List UInt8) × (List PV) × List PV) : Option ((List PV) × Int) := aTyped (E27 N) (O27 N) Tryz.f27 A27 R27 a
noncomputable def L27_11 (N : Nat) (n : Nat) (x0 : List PV) (x1 : List PV) (x2 : List PV) (x3 : Int) (x4 : Int) (x5 : List PV) : Option (List PV × Int) :=
  atLoop (E27 N) (O27 N) Tryz.f27 [(1 : Nat), (1 : Nat), (1 : Nat), (1 : Nat), (1 : Nat), (1 : Nat), (0 : Nat), (1 : Nat), (0 : Nat)] [] n
  {
    tmps :=
      Tm.of (nat_lit 69)
        [((2 : Nat), AV.p (PV.sl (3 : Nat) x0)), ((3 : Nat), AV.p (PV.sl (2 : Nat) x1)), ((11 : Nat), AV.own (0 : Nat)), ((42 : Nat), AV.p (PV.sl (1 : Nat) x2)),
          ((43 : Nat), AV.p (PV.int IntKind.i64 x3)), ((44 : Nat), AV.p (PV.int IntKind.i64 x4))],
    heap := [Blk.row (59 : Nat) (3 : Nat) x5] }
  fun x => Cod.dec R27 x some
theorem L27_11_eq (N : Nat) (n : Nat) (x0 : List PV) (x1 : List PV) (x2 : List PV) (x3 : Int) (x4 : Int) (x5 : List PV) : L27_11 N (n + 1) x0 x1 x2 x3 x4 x5 =
    aIf (decide (x4 < x3))
  (onGet x2 x4 fun z4 =>
    onStr z4 fun u5 =>
      onGet x0 x4 fun z6 =>
        onCons (List.take (2 : Nat) (List.drop (1 : Nat) (PV.cells z6))) fun h7 t8 =>
          onInt IntKind.i64 h7 fun n9 =>
            onCons t8 fun h10 t11 =>
              onInt IntKind.i64 h10 fun n12 =>
                onNil t11
                  (onSome (F54 N (u5, (n9, n12), x1)) fun y13 =>
                    aGd (decide ((0 : Nat) + (3 : Nat) ≤ (3 : Nat)))
                      (aIf (Prod.snd y13 != (0 : Int)) (some ([], Prod.snd y13))
                        (aGd (decide ((List.length x5 + (1 : Nat)) * (25 : Nat) ≤ (140737488355328 : Nat)))
                          (aGd
                            (keptUnder (1 : Nat)
                                [((2 : Nat), AV.p (PV.sl (3 : Nat) x0)), ((3 : Nat), AV.p (PV.sl (2 : Nat) x1)), ((11 : Nat), AV.own (0 : Nat)),
                                  ((42 : Nat), AV.p (PV.sl (1 : Nat) x2)), ((43 : Nat), AV.p (PV.int IntKind.i64 x3)),
                                  ((44 : Nat), AV.p (PV.int IntKind.i64 (IntKind.wrap IntKind.i64 (x4 + (1 : Int)))))] &&
                              underH (1 : Nat)
                                (List.take (1 : Nat)
                                  [Blk.row (59 : Nat) (3 : Nat)
                                      (x5 ++
                                        [PV.agg
                                            [PV.int IntKind.i64 (Prod.fst (Prod.fst y13)), PV.int IntKind.i64 (Prod.fst (Prod.snd (Prod.fst y13))),
                                              PV.int IntKind.i64 (Prod.snd (Prod.snd (Prod.fst y13)))]]),
                                    Blk.box
                                      [AV.p (PV.int IntKind.i64 (Prod.fst (Prod.fst y13))), AV.p (PV.int IntKind.i64 (Prod.fst (Prod.snd (Prod.fst y13)))),
                                        AV.p (PV.int IntKind.i64 (Prod.snd (Prod.snd (Prod.fst y13))))]]))
                            (L27_11 N n x0 x1 x2 x3 (IntKind.wrap IntKind.i64 (x4 + (1 : Int)))
                              (x5 ++
                                [PV.agg
                                    [PV.int IntKind.i64 (Prod.fst (Prod.fst y13)), PV.int IntKind.i64 (Prod.fst (Prod.snd (Prod.fst y13))),
                                      PV.int IntKind.i64 (Prod.snd (Prod.snd (Prod.fst y13)))]])))))))
  (some (x5, (0 : Int))) := by kernel_rfl
theorem L27_11_zero (N : Nat) (x0 : List PV) (x1 : List PV) (x2 : List PV) (x3 : Int) (x4 : Int) (x5 : List PV) : L27_11 N 0 x0 x1 x2 x3 x4 x5 = none := by kernel_rfl
theorem F27_eq (N : Nat) (a0 : List UInt8) (a1 : List UInt8) (a2 : List PV) (a3 : List PV) : F27 N (a0, a1, a2, a3) =
    onSome (F52 N (a0, [(32 : UInt8)])) fun y0 =>
  onGet y0 (0 : Int) fun z1 =>
    onStr z1 fun u2 =>
      aIf (!u2 == a1) (some ([], (2 : Int)))
        (aGd (decide ((1 : Int) ≤ Int.ofNat (List.length y0)))
          (onSome (F53 N (List.drop (1 : Nat) (List.take (List.length y0) y0), [])) fun y3 =>
            aIf y3 (some ([], (2 : Int)))
              (aGd (decide ((1 : Int) ≤ Int.ofNat (List.length y0)))
                (aIf (decide (Int.ofNat (List.length (List.drop (1 : Nat) (List.take (List.length y0) y0))) < Int.ofNat (List.length a2))) (some ([], (5 : Int)))
                  (aIf (decide (Int.ofNat (List.length a2) < Int.ofNat (List.length (List.drop (1 : Nat) (List.take (List.length y0) y0))))) (some ([], (4 : Int)))
                    (aGd
                      (keptUnder (1 : Nat)
                          [((2 : Nat), AV.p (PV.sl (3 : Nat) a2)), ((3 : Nat), AV.p (PV.sl (2 : Nat) a3)), ((11 : Nat), AV.own (0 : Nat)),
                            ((42 : Nat), AV.p (PV.sl (1 : Nat) (List.drop (1 : Nat) (List.take (List.length y0) y0)))),
                            ((43 : Nat), AV.p (PV.int IntKind.i64 (Int.ofNat (List.length (List.drop (1 : Nat) (List.take (List.length y0) y0)))))),
                            ((44 : Nat), AV.p (PV.int IntKind.i64 (0 : Int)))] &&
                        underH (1 : Nat) (List.take (1 : Nat) [Blk.row (59 : Nat) (3 : Nat) []]))
                      (L27_11 N N a2 a3 (List.drop (1 : Nat) (List.take (List.length y0) y0)) (Int.ofNat (List.length (List.drop (1 : Nat) (List.take (List.length y0) y0))))
                        (0 : Int) []))))))) := by kernel_rfl
noncomputable def C27 (N : Nat) : Callee := mkCallee A27 R27 (F27 N)
theorem S27 (N : Nat) : Cok 27 (C27 N) := cok_of (l := (E27 N).calls) (O := O27 N) (cok_cons (S52 N) (cok_cons (S53 N) (cok_cons (S54 N) cok_nil))) rfl Tryz.func27 rfl (by kernel_rfl) (by kernel_rfl)

-- function 28
def A28 : Cods (((List PV) × (List PV) × List PV) × Int) := (codsCons (codAgg (codsCons (codSl 2) (codsCons (codSl 6) (codsOne (codSl 5))))) (codsOne (codInt .i64)))
def R28 : Cod (((List UInt8) × (Int) × (List PV) × (List PV) × List PV) × Bool) := (codTup (codsCons (codAgg (codsCons codStr (codsCons (codInt .i64) (codsCons (codSl 3) (codsCons (codSl 3) (codsOne (codSl 9))))))) (codsOne codBool)))
noncomputable def E28 (N : Nat) : Env := ⟨Tryz.prog, []⟩
def O28 (N : Nat) : Opts := ⟨N, [], []⟩
noncomputable def F28 (N : Nat) (a : ((List PV) × (List PV) × List PV) × Int) : Option (((List UInt8) × (Int) × (List PV) × (List PV) × List PV) × Bool) := aTyped (E28 N) (O28 N) Tryz.f28 A28 R28 a
theorem F28_eq (N : Nat) (a0 : List PV × List PV × List PV) (a1 : Int) : F28 N (a0, a1) =
    onGet (Prod.snd (Prod.snd a0)) a1 fun z0 =>
  onSome (PV.cells z0)[(1 : Nat)]? fun y1 =>
    onInt IntKind.i64 y1 fun n2 =>
      aIf (decide (n2 < (0 : Int))) (aGd (decide ((0 : Nat) + (5 : Nat) ≤ (5 : Nat))) (some (([], (0 : Int), [], [], []), false)))
        (aIf (decide (Int.ofNat (List.length (Prod.snd (Prod.snd a0))) ≤ n2)) (aGd (decide ((0 : Nat) + (5 : Nat) ≤ (5 : Nat))) (some (([], (0 : Int), [], [], []), false)))
          (onGet (Prod.snd (Prod.snd a0)) n2 fun z3 =>
            onCons (List.take (5 : Nat) (List.drop (0 : Nat) (PV.cells z3))) fun h4 t5 =>
              onStr h4 fun u6 =>
                onCons t5 fun h7 t8 =>
                  onInt IntKind.i64 h7 fun n9 =>
                    onCons t8 fun h10 t11 =>
                      onSl (3 : Nat) h10 fun l12 =>
                        onCons t11 fun h13 t14 =>
                          onSl (3 : Nat) h13 fun l15 =>
                            onCons t14 fun h16 t17 =>
                              onSl (9 : Nat) h16 fun l18 => onNil t17 (aGd (decide ((0 : Nat) + (5 : Nat) ≤ (5 : Nat))) (some ((u6, n9, l12, l15, l18), true))))) := by kernel_rfl
noncomputable def C28 (N : Nat) : Callee := mkCallee A28 R28 (F28 N)
theorem S28 (N : Nat) : Cok 28 (C28 N) := cok_of (l := (E28 N).calls) (O := O28 N) cok_nil rfl Tryz.func28 rfl (by kernel_rfl) (by kernel_rfl)

-- function 29
def A29 : Cods (((List PV) × (List PV) × List PV) × Int) := (codsCons (codAgg (codsCons (codSl 2) (codsCons (codSl 6) (codsOne (codSl 5))))) (codsOne (codInt .i64)))
def R29 : Cod (Int) := (codInt .i64)
noncomputable def E29 (N : Nat) : Env := ⟨Tryz.prog, [(28, C28 N)]⟩
def O29 (N : Nat) : Opts := ⟨N, [], []⟩
noncomputable def F29 (N : Nat) (a : ((List PV) × (List PV) × List PV) × Int) : Option (Int) := aTyped (E29 N) (O29 N) Tryz.f29 A29 R29 a
theorem F29_eq (N : Nat) (a0 : List PV × List PV × List PV) (a1 : Int) : F29 N (a0, a1) =
    onSome (F28 N ((Prod.fst a0, Prod.fst (Prod.snd a0), Prod.snd (Prod.snd a0)), a1)) fun y0 =>
  aGd (decide ((0 : Nat) + (5 : Nat) ≤ (5 : Nat))) (aIf (Prod.snd y0) (some (8 : Int)) (some (0 : Int))) := by kernel_rfl
noncomputable def C29 (N : Nat) : Callee := mkCallee A29 R29 (F29 N)
theorem S29 (N : Nat) : Cok 29 (C29 N) := cok_of (l := (E29 N).calls) (O := O29 N) (cok_cons (S28 N) cok_nil) rfl Tryz.func29 rfl (by kernel_rfl) (by kernel_rfl)

-- function 11
def A11 : Cods (((List PV) × (List PV) × List PV) × (Int) × List UInt8) := (codsCons (codAgg (codsCons (codSl 2) (codsCons (codSl 6) (codsOne (codSl 5))))) (codsCons (codInt .i64) (codsOne codStr)))
def R11 : Cod (((Int) × (List PV) × List PV) × (Int) × Int) := (codTup (codsCons (codAgg (codsCons (codInt .i64) (codsCons (codSl 3) (codsOne (codSl 1))))) (codsCons (codInt .i64) (codsOne (codInt .i64)))))
noncomputable def E11 (N : Nat) : Env := ⟨Tryz.prog, [(24, C24 N), (25, C25 N), (26, C26 N), (27, C27 N), (28, C28 N), (29, C29 N)]⟩
def O11 (N : Nat) : Opts := ⟨N, [(22, ⟨[1, 3, 6, 13, 14, 95, 96, 97], [], [(2, 2, 27, 1)], 5⟩)], []⟩
noncomputable def F11 (N : Nat) (a : ((List PV) × (List PV) × List PV) × (Int) × List UInt8) : Option (((Int) × (List PV) × List PV) × (Int) × Int) := aTyped (E11 N) (O11 N) Tryz.f11 A11 R11 a
noncomputable def L11_22 (N : Nat) (n : Nat) (x0 : Int) (x1 : List PV) (x2 : Int) (x3 : Int) (x4 : List PV) (x5 : List PV) (x6 : List PV) (x7 : Int) (x8 : Int) (x9 : List PV) (x10 : List UInt8) (x11 : Int) (x12 : List PV) (x13 : List PV) (x14 : List PV) (x15 : List PV) : Option ((Int × List PV × List PV) × Int × Int) :=
  atLoop (E11 N) (O11 N) Tryz.f11
  [(1 : Nat), (1 : Nat), (1 : Nat), (1 : Nat), (1 : Nat), (1 : Nat), (1 : Nat), (1 : Nat), (1 : Nat), (1 : Nat), (1 : Nat), (1 : Nat), (0 : Nat), (1 : Nat), (0 : Nat)] [] n
  {
    tmps :=
      Tm.of (nat_lit 133)
        [((1 : Nat), AV.p (PV.int IntKind.i64 x0)), ((3 : Nat), AV.box (0 : Nat) (0 : Nat)), ((6 : Nat), AV.box (1 : Nat) (0 : Nat)), ((13 : Nat), AV.box (2 : Nat) (0 : Nat)),
          ((14 : Nat), AV.box (3 : Nat) (0 : Nat)), ((95 : Nat), AV.p (PV.sl (1 : Nat) x1)), ((96 : Nat), AV.p (PV.int IntKind.i64 x2)),
          ((97 : Nat), AV.p (PV.int IntKind.i64 x3))],
    heap :=
      [Blk.box [AV.p (PV.sl (2 : Nat) x4), AV.p (PV.sl (6 : Nat) x5), AV.p (PV.sl (5 : Nat) x6)], Blk.box [AV.p (PV.int IntKind.i64 x7), AV.p PV.nilsl, AV.p PV.nilsl],
        Blk.box [AV.p (PV.int IntKind.i64 x8), AV.p (PV.sl (3 : Nat) x9), AV.own (4 : Nat)],
        Blk.box [AV.p (PV.str x10), AV.p (PV.int IntKind.i64 x11), AV.p (PV.sl (3 : Nat) x12), AV.p (PV.sl (3 : Nat) x13), AV.p (PV.sl (9 : Nat) x14)],
        Blk.row (27 : Nat) (1 : Nat) x15] }
  fun x => Cod.dec R11 x some
theorem L11_22_eq (N : Nat) (n : Nat) (x0 : Int) (x1 : List PV) (x2 : Int) (x3 : Int) (x4 : List PV) (x5 : List PV) (x6 : List PV) (x7 : Int) (x8 : Int) (x9 : List PV) (x10 : List UInt8) (x11 : Int) (x12 : List PV) (x13 : List PV) (x14 : List PV) (x15 : List PV) : L11_22 N (n + 1) x0 x1 x2 x3 x4 x5 x6 x7 x8 x9 x10 x11 x12 x13 x14 x15 =
    aIf (decide (x3 < x2))
  (onGet x1 x3 fun z12 =>
    onStr z12 fun u13 =>
      onSome (F29 N ((x4, x5, x6), x0)) fun y14 =>
        aIf (decide (y14 ≤ x3)) (aGd (decide ((0 : Nat) + (3 : Nat) ≤ (3 : Nat))) (some (((0 : Int), [], []), IntKind.wrap IntKind.i64 (x3 + (2 : Int)), (4 : Int))))
          (onSome (F27 N (u13, [(109 : UInt8), (101 : UInt8), (109 : UInt8), (98 : UInt8), (101 : UInt8), (114 : UInt8)], x12, x4)) fun y15 =>
            aIf (Prod.snd y15 != (0 : Int)) (aGd (decide ((0 : Nat) + (3 : Nat) ≤ (3 : Nat))) (some (((0 : Int), [], []), IntKind.wrap IntKind.i64 (x3 + (2 : Int)), Prod.snd y15)))
              (aGd (decide ((List.length x15 + (1 : Nat)) * (25 : Nat) ≤ (140737488355328 : Nat)))
                (aGd (decide ((2 : Nat) + (1 : Nat) ≤ (3 : Nat)))
                  (L11_22 N n x0 x1 x2 (IntKind.wrap IntKind.i64 (x3 + (1 : Int))) x4 x5 x6 x7 x8 x9 x10 x11 x12 x13 x14 (x15 ++ [PV.sl (3 : Nat) (Prod.fst y15)]))))))
  (aGd (decide ((0 : Nat) + (3 : Nat) ≤ (3 : Nat))) (some ((x8, x9, x15), (0 : Int), (0 : Int)))) := by kernel_rfl
theorem L11_22_zero (N : Nat) (x0 : Int) (x1 : List PV) (x2 : Int) (x3 : Int) (x4 : List PV) (x5 : List PV) (x6 : List PV) (x7 : Int) (x8 : Int) (x9 : List PV) (x10 : List UInt8) (x11 : Int) (x12 : List PV) (x13 : List PV) (x14 : List PV) (x15 : List PV) : L11_22 N 0 x0 x1 x2 x3 x4 x5 x6 x7 x8 x9 x10 x11 x12 x13 x14 x15 = none := by kernel_rfl
theorem F11_eq (N : Nat) (a0 : List PV × List PV × List PV) (a1 : Int) (a2 : List UInt8) : F11 N (a0, a1, a2) =
    aIf (decide (a1 < (0 : Int))) (aGd (decide ((0 : Nat) + (3 : Nat) ≤ (3 : Nat))) (some (((0 : Int), [], []), (0 : Int), (6 : Int))))
  (aIf (decide (Int.ofNat (List.length (Prod.snd (Prod.snd a0))) ≤ a1)) (aGd (decide ((0 : Nat) + (3 : Nat) ≤ (3 : Nat))) (some (((0 : Int), [], []), (0 : Int), (6 : Int))))
    (onSome (F24 N a2) fun y0 =>
      aIf (Prod.snd y0 != (0 : Int)) (aGd (decide ((0 : Nat) + (3 : Nat) ≤ (3 : Nat))) (some (((0 : Int), [], []), (0 : Int), Prod.snd y0)))
        (aIf (Int.ofNat (List.length (Prod.fst y0)) == (0 : Int)) (aGd (decide ((0 : Nat) + (3 : Nat) ≤ (3 : Nat))) (some (((0 : Int), [], []), (0 : Int), (5 : Int))))
          (onGet (Prod.fst y0) (0 : Int) fun z1 =>
            onStr z1 fun u2 =>
              onSome (F25 N (u2, [(100 : UInt8), (97 : UInt8), (116 : UInt8), (101 : UInt8), (32 : UInt8)])) fun y3 =>
                aIf (!Prod.snd y3) (aGd (decide ((0 : Nat) + (3 : Nat) ≤ (3 : Nat))) (some (((0 : Int), [], []), (0 : Int), (2 : Int))))
                  (aGd (decide ((0 : Nat) + (3 : Nat) ≤ (3 : Nat)))
                    (onSome (F26 N (Prod.fst y3)) fun y4 =>
                      aGd (decide ((0 : Nat) + (1 : Nat) ≤ (3 : Nat)))
                        (aIf (Prod.snd y4 != (0 : Int)) (aGd (decide ((0 : Nat) + (3 : Nat) ≤ (3 : Nat))) (some (((0 : Int), [], []), (0 : Int), Prod.snd y4)))
                          (aIf (Int.ofNat (List.length (Prod.fst y0)) == (1 : Int))
                            (aGd (decide ((0 : Nat) + (3 : Nat) ≤ (3 : Nat))) (some (((0 : Int), [], []), (1 : Int), (5 : Int))))
                            (onGet (Prod.fst y0) (1 : Int) fun z5 =>
                              onStr z5 fun u6 =>
                                onGet (Prod.snd (Prod.snd a0)) a1 fun z7 =>
                                  onSome (PV.cells z7)[(2 : Nat)]? fun y8 =>
                                    onSl (3 : Nat) y8 fun l9 =>
                                      onSome (F27 N (u6, [(105 : UInt8), (110 : UInt8)], l9, Prod.fst a0)) fun y10 =>
                                        aGd (decide ((1 : Nat) + (1 : Nat) ≤ (3 : Nat)))
                                          (aIf (Prod.snd y10 != (0 : Int)) (aGd (decide ((0 : Nat) + (3 : Nat) ≤ (3 : Nat))) (some (((0 : Int), [], []), (1 : Int), Prod.snd y10)))
                                            (onSome (F28 N ((Prod.fst a0, Prod.fst (Prod.snd a0), Prod.snd (Prod.snd a0)), a1)) fun y11 =>
                                              aGd (decide ((0 : Nat) + (5 : Nat) ≤ (5 : Nat)))
                                                (aGd (decide ((2 : Int) ≤ Int.ofNat (List.length (Prod.fst y0))))
                                                  (L11_22 N N a1 (List.drop (2 : Nat) (List.take (List.length (Prod.fst y0)) (Prod.fst y0)))
                                                    (Int.ofNat (List.length (List.drop (2 : Nat) (List.take (List.length (Prod.fst y0)) (Prod.fst y0))))) (0 : Int) (Prod.fst a0)
                                                    (Prod.fst (Prod.snd a0)) (Prod.snd (Prod.snd a0)) (0 : Int) (Prod.fst y4) (Prod.fst y10) (Prod.fst (Prod.fst y11))
                                                    (Prod.fst (Prod.snd (Prod.fst y11))) (Prod.fst (Prod.snd (Prod.snd (Prod.fst y11))))
                                                    (Prod.fst (Prod.snd (Prod.snd (Prod.snd (Prod.fst y11))))) (Prod.snd (Prod.snd (Prod.snd (Prod.snd (Prod.fst y11)))))
                                                    []))))))))))))) := by kernel_rfl
noncomputable def C11 (N : Nat) : Callee := mkCallee A11 R11 (F11 N)
theorem S11 (N : Nat) : Cok 11 (C11 N) := cok_of (l := (E11 N).calls) (O := O11 N) (cok_cons (S24 N) (cok_cons (S25 N) (cok_cons (S26 N) (cok_cons (S27 N) (cok_cons (S28 N) (cok_cons (S29 N) cok_nil)))))) rfl Tryz.func11 rfl (by kernel_rfl) (by kernel_rfl)

-- function 37
def A37 : Cods ((List PV) × (List PV) × List PV) := (codsCons (codSl 3) (codsCons (codSl 3) (codsOne (codSl 2))))
def R37 : Cod ((Int) × Int) := (codTup (codsCons (codInt .i64) (codsOne (codInt .i64))))
noncomputable def E37 (N : Nat) : Env := ⟨Tryz.prog, [(62, C62 N)]⟩
def O37 (N : Nat) : Opts := ⟨N, [(6, ⟨[1, 2, 27, 28, 29], [], [], 0⟩)], []⟩
noncomputable def F37 (N : Nat) (a : (List PV) × (List PV) × List PV) : Option ((Int) × Int) := aTyped (E37 N) (O37 N) Tryz.f37 A37 R37 a
noncomputable def L37_6 (N : Nat) (n : Nat) (x0 : List PV) (x1 : List PV) (x2 : List PV) (x3 : Int) (x4 : Int) : Option (Int × Int) :=
  atLoop (E37 N) (O37 N) Tryz.f37 [(1 : Nat), (1 : Nat), (1 : Nat), (0 : Nat), (1 : Nat), (0 : Nat)] [] n
  {
    tmps :=
      Tm.of (nat_lit 70)
        [((1 : Nat), AV.p (PV.sl (3 : Nat) x0)), ((2 : Nat), AV.p (PV.sl (2 : Nat) x1)), ((27 : Nat), AV.p (PV.sl (3 : Nat) x2)), ((28 : Nat), AV.p (PV.int IntKind.i64 x3)),
          ((29 : Nat), AV.p (PV.int IntKind.i64 x4))],
    heap := [] }
  fun x => Cod.dec R37 x some
theorem L37_6_eq (N : Nat) (n : Nat) (x0 : List PV) (x1 : List PV) (x2 : List PV) (x3 : Int) (x4 : Int) : L37_6 N (n + 1) x0 x1 x2 x3 x4 =
    aIf (decide (x4 < x3))
  (onGet x2 x4 fun z0 =>
    onCons (List.take (3 : Nat) (List.drop (0 : Nat) (PV.cells z0))) fun h1 t2 =>
      onInt IntKind.i64 h1 fun n3 =>
        onCons t2 fun h4 t5 =>
          onInt IntKind.i64 h4 fun n6 =>
            onCons t5 fun h7 t8 =>
              onInt IntKind.i64 h7 fun n9 =>
                onNil t8
                  (aGd (decide ((0 : Nat) + (3 : Nat) ≤ (3 : Nat)))
                    (onGet x0 x4 fun z10 =>
                      onCons (List.take (2 : Nat) (List.drop (1 : Nat) (PV.cells z10))) fun h11 t12 =>
                        onInt IntKind.i64 h11 fun n13 =>
                          onCons t12 fun h14 t15 =>
                            onInt IntKind.i64 h14 fun n16 =>
                              onNil t15
                                (aGd (decide ((0 : Nat) + (2 : Nat) ≤ (2 : Nat)))
                                  (onSome (F62 N ((n13, n16), x1)) fun y17 =>
                                    aIf (n3 != n13) (some (x4, (8 : Int)))
                                      (aIf (n6 != n16) (some (x4, (8 : Int)))
                                        (aIf (decide (n9 < Prod.fst y17)) (some (x4, (3 : Int)))
                                          (aIf (decide (Prod.snd y17 < n9)) (some (x4, (3 : Int))) (L37_6 N n x0 x1 x2 x3 (IntKind.wrap IntKind.i64 (x4 + (1 : Int))))))))))))
  (some ((0 : Int), (0 : Int))) := by kernel_rfl
theorem L37_6_zero (N : Nat) (x0 : List PV) (x1 : List PV) (x2 : List PV) (x3 : Int) (x4 : Int) : L37_6 N 0 x0 x1 x2 x3 x4 = none := by kernel_rfl
theorem F37_eq (N : Nat) (a0 : List PV) (a1 : List PV) (a2 : List PV) : F37 N (a0, a1, a2) =
    aIf (decide (Int.ofNat (List.length a0) < Int.ofNat (List.length a1))) (some (Int.ofNat (List.length a0), (5 : Int)))
  (aIf (decide (Int.ofNat (List.length a1) < Int.ofNat (List.length a0))) (some (Int.ofNat (List.length a1), (4 : Int)))
    (L37_6 N N a1 a2 a0 (Int.ofNat (List.length a0)) (0 : Int))) := by kernel_rfl
noncomputable def C37 (N : Nat) : Callee := mkCallee A37 R37 (F37 N)
theorem S37 (N : Nat) : Cok 37 (C37 N) := cok_of (l := (E37 N).calls) (O := O37 N) (cok_cons (S62 N) cok_nil) rfl Tryz.func37 rfl (by kernel_rfl) (by kernel_rfl)

-- function 15
def A15 : Cods (((List PV) × (List PV) × List PV) × (Int) × (Int) × (List PV) × List PV) := (codsCons (codAgg (codsCons (codSl 2) (codsCons (codSl 6) (codsOne (codSl 5))))) (codsCons (codInt .i64) (codsOne (codAgg (codsCons (codInt .i64) (codsCons (codSl 3) (codsOne (codSl 1))))))))
def R15 : Cod ((Int) × (Int) × Int) := (codTup (codsCons (codInt .i64) (codsCons (codInt .i64) (codsOne (codInt .i64)))))
noncomputable def E15 (N : Nat) : Env := ⟨Tryz.prog, [(37, C37 N), (29, C29 N), (28, C28 N)]⟩
def O15 (N : Nat) : Opts := ⟨N, [(13, ⟨[3, 12, 71, 72, 73], [], [], 3⟩)], []⟩
noncomputable def F15 (N : Nat) (a : ((List PV) × (List PV) × List PV) × (Int) × (Int) × (List PV) × List PV) : Option ((Int) × (Int) × Int) := aTyped (E15 N) (O15 N) Tryz.f15 A15 R15 a
noncomputable def L15_13 (N : Nat) (n : Nat) (x0 : List PV) (x1 : Int) (x2 : Int) (x3 : List PV) (x4 : List PV) (x5 : List PV) (x6 : Int) (x7 : List PV) (x8 : List PV) (x9 : List UInt8) (x10 : Int) (x11 : List PV) (x12 : List PV) (x13 : List PV) : Option (Int × Int × Int) :=
  atLoop (E15 N) (O15 N) Tryz.f15 [(1 : Nat), (1 : Nat), (1 : Nat), (1 : Nat), (1 : Nat), (0 : Nat), (1 : Nat), (0 : Nat)] [] n
  {
    tmps :=
      Tm.of (nat_lit 93)
        [((3 : Nat), AV.box (0 : Nat) (0 : Nat)), ((12 : Nat), AV.box (2 : Nat) (0 : Nat)), ((71 : Nat), AV.p (PV.sl (1 : Nat) x0)), ((72 : Nat), AV.p (PV.int IntKind.i64 x1)),
          ((73 : Nat), AV.p (PV.int IntKind.i64 x2))],
    heap :=
      [Blk.box [AV.p (PV.sl (2 : Nat) x3), AV.p (PV.sl (6 : Nat) x4), AV.p (PV.sl (5 : Nat) x5)],
        Blk.box [AV.p (PV.int IntKind.i64 x6), AV.p (PV.sl (3 : Nat) x7), AV.p (PV.sl (1 : Nat) x8)],
        Blk.box [AV.p (PV.str x9), AV.p (PV.int IntKind.i64 x10), AV.p (PV.sl (3 : Nat) x11), AV.p (PV.sl (3 : Nat) x12), AV.p (PV.sl (9 : Nat) x13)]] }
  fun x => Cod.dec R15 x some
theorem L15_13_eq (N : Nat) (n : Nat) (x0 : List PV) (x1 : Int) (x2 : Int) (x3 : List PV) (x4 : List PV) (x5 : List PV) (x6 : Int) (x7 : List PV) (x8 : List PV) (x9 : List UInt8) (x10 : Int) (x11 : List PV) (x12 : List PV) (x13 : List PV) : L15_13 N (n + 1) x0 x1 x2 x3 x4 x5 x6 x7 x8 x9 x10 x11 x12 x13 =
    aIf (decide (x2 < x1))
  (onGet x0 x2 fun z6 =>
    onSl (3 : Nat) z6 fun l7 =>
      onSome (F37 N (l7, x11, x3)) fun y8 =>
        aIf (Prod.snd y8 != (0 : Int)) (some (x2, Prod.fst y8, Prod.snd y8)) (L15_13 N n x0 x1 (IntKind.wrap IntKind.i64 (x2 + (1 : Int))) x3 x4 x5 x6 x7 x8 x9 x10 x11 x12 x13))
  (some ((0 : Int), (0 : Int), (0 : Int))) := by kernel_rfl
theorem L15_13_zero (N : Nat) (x0 : List PV) (x1 : Int) (x2 : Int) (x3 : List PV) (x4 : List PV) (x5 : List PV) (x6 : Int) (x7 : List PV) (x8 : List PV) (x9 : List UInt8) (x10 : Int) (x11 : List PV) (x12 : List PV) (x13 : List PV) : L15_13 N 0 x0 x1 x2 x3 x4 x5 x6 x7 x8 x9 x10 x11 x12 x13 = none := by kernel_rfl
theorem F15_eq (N : Nat) (a0 : List PV × List PV × List PV) (a1 : Int) (a2 : Int) (a3 : List PV) (a4 : List PV) : F15 N (a0, a1, a2, a3, a4) =
    aIf (decide (a1 < (0 : Int))) (some ((-1 : Int), (-1 : Int), (6 : Int)))
  (aIf (decide (Int.ofNat (List.length (Prod.snd (Prod.snd a0))) ≤ a1)) (some ((-1 : Int), (-1 : Int), (6 : Int)))
    (aIf (decide (a2 < (0 : Int))) (some ((-1 : Int), (-1 : Int), (3 : Int)))
      (aIf (decide ((109572 : Int) < a2)) (some ((-1 : Int), (-1 : Int), (3 : Int)))
        (onGet (Prod.snd (Prod.snd a0)) a1 fun z0 =>
          onSome (PV.cells z0)[(2 : Nat)]? fun y1 =>
            onSl (3 : Nat) y1 fun l2 =>
              onSome (F37 N (a3, l2, Prod.fst a0)) fun y3 =>
                aIf (Prod.snd y3 != (0 : Int)) (some ((-1 : Int), Prod.fst y3, Prod.snd y3))
                  (onSome (F29 N ((Prod.fst a0, Prod.fst (Prod.snd a0), Prod.snd (Prod.snd a0)), a1)) fun y4 =>
                    aIf (decide (y4 < Int.ofNat (List.length a4))) (some (y4, (-1 : Int), (4 : Int)))
                      (onSome (F28 N ((Prod.fst a0, Prod.fst (Prod.snd a0), Prod.snd (Prod.snd a0)), a1)) fun y5 =>
                        aGd (decide ((0 : Nat) + (5 : Nat) ≤ (5 : Nat)))
                          (L15_13 N N a4 (Int.ofNat (List.length a4)) (0 : Int) (Prod.fst a0) (Prod.fst (Prod.snd a0)) (Prod.snd (Prod.snd a0)) a2 a3 a4 (Prod.fst (Prod.fst y5))
                            (Prod.fst (Prod.snd (Prod.fst y5))) (Prod.fst (Prod.snd (Prod.snd (Prod.fst y5)))) (Prod.fst (Prod.snd (Prod.snd (Prod.snd (Prod.fst y5)))))
                            (Prod.snd (Prod.snd (Prod.snd (Prod.snd (Prod.fst y5)))))))))))) := by kernel_rfl
noncomputable def C15 (N : Nat) : Callee := mkCallee A15 R15 (F15 N)
theorem S15 (N : Nat) : Cok 15 (C15 N) := cok_of (l := (E15 N).calls) (O := O15 N) (cok_cons (S37 N) (cok_cons (S29 N) (cok_cons (S28 N) cok_nil))) rfl Tryz.func15 rfl (by kernel_rfl) (by kernel_rfl)

-- function 40
def A40 : Cods (Int) := (codsOne (codInt .i64))
def R40 : Cod (Bool) := codBool
noncomputable def E40 (N : Nat) : Env := ⟨Tryz.prog, []⟩
def O40 (N : Nat) : Opts := ⟨N, [], []⟩
noncomputable def F40 (N : Nat) (a : Int) : Option (Bool) := aTyped (E40 N) (O40 N) Tryz.f40 A40 R40 a
theorem F40_eq (N : Nat) (a0 : Int) : F40 N a0 =
    aIf (decide ((0 : Int) ≤ a0)) (some (decide (a0 ≤ (109572 : Int)))) (some false) := by kernel_rfl
noncomputable def C40 (N : Nat) : Callee := mkCallee A40 R40 (F40 N)
theorem S40 (N : Nat) : Cok 40 (C40 N) := cok_of (l := (E40 N).calls) (O := O40 N) cok_nil rfl Tryz.func40 rfl (by kernel_rfl) (by kernel_rfl)

-- function 41
def A41 : Cods (Int) := (codsOne (codInt .i64))
def R41 : Cod ((Int) × (Int) × Int) := (codTup (codsCons (codInt .i64) (codsCons (codInt .i64) (codsOne (codInt .i64)))))
noncomputable def E41 (N : Nat) : Env := ⟨Tryz.prog, [(40, C40 N), (63, C63 N), (64, C64 N)]⟩
def O41 (N : Nat) : Opts := ⟨N, [(4, ⟨[0, 5, 6], [], [], 0⟩), (7, ⟨[0, 5, 6], [], [], 0⟩)], []⟩
noncomputable def F41 (N : Nat) (a : Int) : Option ((Int) × (Int) × Int) := aTyped (E41 N) (O41 N) Tryz.f41 A41 R41 a
noncomputable def L41_4 (N : Nat) (n : Nat) (x0 : Int) (x1 : Int) (x2 : Int) : Option (Int × Int × Int) :=
  atLoop (E41 N) (O41 N) Tryz.f41 [(1 : Nat), (1 : Nat), (1 : Nat), (0 : Nat), (0 : Nat)] [] n
  { tmps := Tm.of (nat_lit 36) [((0 : Nat), AV.p (PV.int IntKind.i64 x0)), ((5 : Nat), AV.p (PV.int IntKind.i64 x1)), ((6 : Nat), AV.p (PV.int IntKind.i64 x2))], heap := [] }
  fun x => Cod.dec R41 x some
noncomputable def L41_7 (N : Nat) (n : Nat) (x0 : Int) (x1 : Int) (x2 : Int) : Option (Int × Int × Int) :=
  atLoop (E41 N) (O41 N) Tryz.f41 [(1 : Nat), (1 : Nat), (1 : Nat), (1 : Nat), (0 : Nat), (0 : Nat)] [] n
  { tmps := Tm.of (nat_lit 36) [((0 : Nat), AV.p (PV.int IntKind.i64 x0)), ((5 : Nat), AV.p (PV.int IntKind.i64 x1)), ((6 : Nat), AV.p (PV.int IntKind.i64 x2))], heap := [] }
  fun x => Cod.dec R41 x some
theorem L41_4_eq (N : Nat) (n : Nat) (x0 : Int) (x1 : Int) (x2 : Int) : L41_4 N (n + 1) x0 x1 x2 =
    onSome (F63 N x1) fun y1 =>
  aIf (decide (y1 ≤ x0)) (onSome (F63 N x1) fun y2 => L41_4 N n (IntKind.wrap IntKind.i64 (x0 - y2)) (IntKind.wrap IntKind.i64 (x1 + (1 : Int))) x2) (L41_7 N N x0 x1 x2) := by kernel_rfl
theorem L41_4_zero (N : Nat) (x0 : Int) (x1 : Int) (x2 : Int) : L41_4 N 0 x0 x1 x2 = none := by kernel_rfl
theorem L41_7_eq (N : Nat) (n : Nat) (x0 : Int) (x1 : Int) (x2 : Int) : L41_7 N (n + 1) x0 x1 x2 =
    onSome (F64 N (x1, x2)) fun y3 =>
  aIf (decide (y3 ≤ x0)) (onSome (F64 N (x1, x2)) fun y4 => L41_7 N n (IntKind.wrap IntKind.i64 (x0 - y4)) x1 (IntKind.wrap IntKind.i64 (x2 + (1 : Int))))
    (some (x1, x2, IntKind.wrap IntKind.i64 (x0 + (1 : Int)))) := by kernel_rfl
theorem L41_7_zero (N : Nat) (x0 : Int) (x1 : Int) (x2 : Int) : L41_7 N 0 x0 x1 x2 = none := by kernel_rfl
theorem F41_eq (N : Nat) (a0 : Int) : F41 N a0 =
    onSome (F40 N a0) fun y0 => aIf (!y0) (some ((0 : Int), (0 : Int), (0 : Int))) (L41_4 N N a0 (1900 : Int) (1 : Int)) := by kernel_rfl
noncomputable def C41 (N : Nat) : Callee := mkCallee A41 R41 (F41 N)
theorem S41 (N : Nat) : Cok 41 (C41 N) := cok_of (l := (E41 N).calls) (O := O41 N) (cok_cons (S40 N) (cok_cons (S63 N) (cok_cons (S64 N) cok_nil))) rfl Tryz.func41 rfl (by kernel_rfl) (by kernel_rfl)

-- function 65
def A65 : Cods (Int) := (codsOne (codInt .i64))
def R65 : Cod (List UInt8) := codStr
noncomputable def E65 (N : Nat) : Env := ⟨Tryz.prog, [(92, C92 N)]⟩
def O65 (N : Nat) : Opts := ⟨N, [], []⟩
noncomputable def F65 (N : Nat) (a : Int) : Option (List UInt8) := aTyped (E65 N) (O65 N) Tryz.f65 A65 R65 a
theorem F65_eq (N : Nat) (a0 : Int) : F65 N a0 =
    onSome (F92 N a0) fun y0 => some y0 := by kernel_rfl
noncomputable def C65 (N : Nat) : Callee := mkCallee A65 R65 (F65 N)
theorem S65 (N : Nat) : Cok 65 (C65 N) := cok_of (l := (E65 N).calls) (O := O65 N) (cok_cons (S92 N) cok_nil) rfl Tryz.func65 rfl (by kernel_rfl) (by kernel_rfl)

-- function 42
def A42 : Cods ((Int) × Int) := (codsCons (codInt .i64) (codsOne (codInt .i64)))
def R42 : Cod (List UInt8) := codStr
noncomputable def E42 (N : Nat) : Env := ⟨Tryz.prog, [(65, C65 N), (66, C66 N)]⟩
def O42 (N : Nat) : Opts := ⟨N, [], []⟩
noncomputable def F42 (N : Nat) (a : (Int) × Int) : Option (List UInt8) := aTyped (E42 N) (O42 N) Tryz.f42 A42 R42 a
theorem F42_eq (N : Nat) (a0 : Int) (a1 : Int) : F42 N (a0, a1) =
    onSome (F65 N a0) fun y0 =>
  onSome (F66 N ([(48 : UInt8)], max (0 : Int) (IntKind.wrap IntKind.i64 (a1 - Int.ofNat (List.length y0))))) fun y1 =>
    aGd (decide (List.length y1 + List.length y0 ≤ (9223372036854775807 : Nat))) (some (y1 ++ y0)) := by kernel_rfl
noncomputable def C42 (N : Nat) : Callee := mkCallee A42 R42 (F42 N)
theorem S42 (N : Nat) : Cok 42 (C42 N) := cok_of (l := (E42 N).calls) (O := O42 N) (cok_cons (S65 N) (cok_cons (S66 N) cok_nil)) rfl Tryz.func42 rfl (by kernel_rfl) (by kernel_rfl)

-- function 19
def A19 : Cods (Int) := (codsOne (codInt .i64))
def R19 : Cod (List UInt8) := codStr
noncomputable def E19 (N : Nat) : Env := ⟨Tryz.prog, [(40, C40 N), (41, C41 N), (42, C42 N)]⟩
def O19 (N : Nat) : Opts := ⟨N, [], []⟩
noncomputable def F19 (N : Nat) (a : Int) : Option (List UInt8) := aTyped (E19 N) (O19 N) Tryz.f19 A19 R19 a
theorem F19_eq (N : Nat) (a0 : Int) : F19 N a0 =
    onSome (F40 N a0) fun y0 =>
  aIf (!y0) (some [])
    (onSome (F41 N a0) fun y1 =>
      onSome (F42 N (Prod.fst y1, (4 : Int))) fun y2 =>
        aGd (decide (List.length y2 + (1 : Nat) ≤ (9223372036854775807 : Nat)))
          (onSome (F42 N (Prod.fst (Prod.snd y1), (2 : Int))) fun y3 =>
            aGd (decide (List.length (y2 ++ [(45 : UInt8)]) + List.length y3 ≤ (9223372036854775807 : Nat)))
              (aGd (decide (List.length (y2 ++ [(45 : UInt8)] ++ y3) + (1 : Nat) ≤ (9223372036854775807 : Nat)))
                (onSome (F42 N (Prod.snd (Prod.snd y1), (2 : Int))) fun y4 =>
                  aGd (decide (List.length (y2 ++ [(45 : UInt8)] ++ y3 ++ [(45 : UInt8)]) + List.length y4 ≤ (9223372036854775807 : Nat)))
                    (some (y2 ++ [(45 : UInt8)] ++ y3 ++ [(45 : UInt8)] ++ y4)))))) := by kernel_rfl
noncomputable def C19 (N : Nat) : Callee := mkCallee A19 R19 (F19 N)
theorem S19 (N : Nat) : Cok 19 (C19 N) := cok_of (l := (E19 N).calls) (O := O19 N) (cok_cons (S40 N) (cok_cons (S41 N) (cok_cons (S42 N) cok_nil))) rfl Tryz.func19 rfl (by kernel_rfl) (by kernel_rfl)

-- function 68
def A68 : Cods ((Int) × (Int) × Int) := (codsOne (codAgg (codsCons (codInt .i64) (codsCons (codInt .i64) (codsOne (codInt .i64))))))
def R68 : Cod ((Int) × Int) := (codAgg (codsCons (codInt .i64) (codsOne (codInt .i64))))
noncomputable def E68 (N : Nat) : Env := ⟨Tryz.prog, []⟩
def O68 (N : Nat) : Opts := ⟨N, [], []⟩
noncomputable def F68 (N : Nat) (a : (Int) × (Int) × Int) : Option ((Int) × Int) := aTyped (E68 N) (O68 N) Tryz.f68 A68 R68 a
theorem F68_eq (N : Nat) (a0 : Int) (a1 : Int) (a2 : Int) : F68 N (a0, a1, a2) =
    aGd (decide ((0 : Nat) + (2 : Nat) ≤ (2 : Nat))) (some (a0, a1)) := by kernel_rfl
noncomputable def C68 (N : Nat) : Callee := mkCallee A68 R68 (F68 N)
theorem S68 (N : Nat) : Cok 68 (C68 N) := cok_of (l := (E68 N).calls) (O := O68 N) cok_nil rfl Tryz.func68 rfl (by kernel_rfl) (by kernel_rfl)

-- function 69
def A69 : Cods (((Int) × (Int) × Int) × List PV) := (codsCons (codAgg (codsCons (codInt .i64) (codsCons (codInt .i64) (codsOne (codInt .i64))))) (codsOne (codSl 2)))
def R69 : Cod (Bool) := codBool
noncomputable def E69 (N : Nat) : Env := ⟨Tryz.prog, [(68, C68 N), (83, C83 N)]⟩
def O69 (N : Nat) : Opts := ⟨N, [], []⟩
noncomputable def F69 (N : Nat) (a : ((Int) × (Int) × Int) × List PV) : Option (Bool) := aTyped (E69 N) (O69 N) Tryz.f69 A69 R69 a
theorem F69_eq (N : Nat) (a0 : Int × Int × Int) (a1 : List PV) : F69 N (a0, a1) =
    onSome (F68 N (Prod.fst a0, Prod.fst (Prod.snd a0), Prod.snd (Prod.snd a0))) fun y0 => onSome (F83 N (Prod.snd (Prod.snd a0), (Prod.fst y0, Prod.snd y0), a1)) fun y1 => some y1 := by kernel_rfl
noncomputable def C69 (N : Nat) : Callee := mkCallee A69 R69 (F69 N)
theorem S69 (N : Nat) : Cok 69 (C69 N) := cok_of (l := (E69 N).calls) (O := O69 N) (cok_cons (S68 N) (cok_cons (S83 N) cok_nil)) rfl Tryz.func69 rfl (by kernel_rfl) (by kernel_rfl)

-- function 70
def A70 : Cods ((Int) × Int) := (codsCons (codInt .i64) (codsOne (codInt .i64)))
def R70 : Cod (List UInt8) := codStr
noncomputable def E70 (N : Nat) : Env := ⟨Tryz.prog, [(99, C99 N), (65, C65 N), (25, C25 N), (66, C66 N)]⟩
def O70 (N : Nat) : Opts := ⟨N, [], []⟩
noncomputable def F70 (N : Nat) (a : (Int) × Int) : Option (List UInt8) := aTyped (E70 N) (O70 N) Tryz.f70 A70 R70 a
theorem F70_eq (N : Nat) (a0 : Int) (a1 : Int) : F70 N (a0, a1) =
    onSome (F99 N a1) fun y0 =>
  aIf (y0 == (0 : Int)) (onSome (F65 N a0) fun y1 => some y1)
    (onSome (F65 N a0) fun y2 =>
      onSome (F25 N (y2, [(45 : UInt8)])) fun y3 =>
        aIf (decide ((0 : Int) < IntKind.wrap IntKind.i64 (IntKind.wrap IntKind.i64 (y0 + (1 : Int)) - Int.ofNat (List.length (Prod.fst y3)))))
          (onSome (F66 N ([(48 : UInt8)], IntKind.wrap IntKind.i64 (IntKind.wrap IntKind.i64 (y0 + (1 : Int)) - Int.ofNat (List.length (Prod.fst y3))))) fun y4 =>
            aGd (decide (List.length y4 + List.length (Prod.fst y3) ≤ (9223372036854775807 : Nat)))
              (aGd (decide ((0 : Int) ≤ IntKind.wrap IntKind.i64 (Int.ofNat (List.length (y4 ++ Prod.fst y3)) - y0)))
                (aGd (decide (IntKind.wrap IntKind.i64 (Int.ofNat (List.length (y4 ++ Prod.fst y3)) - y0) ≤ Int.ofNat (List.length (y4 ++ Prod.fst y3))))
                  (aGd
                    (decide
                      (List.length (List.drop (0 : Nat) (List.take (Int.toNat (IntKind.wrap IntKind.i64 (Int.ofNat (List.length (y4 ++ Prod.fst y3)) - y0))) (y4 ++ Prod.fst y3))) +
                          (1 : Nat) ≤
                        (9223372036854775807 : Nat)))
                    (aGd (decide ((0 : Int) ≤ IntKind.wrap IntKind.i64 (Int.ofNat (List.length (y4 ++ Prod.fst y3)) - y0)))
                      (aGd (decide (IntKind.wrap IntKind.i64 (Int.ofNat (List.length (y4 ++ Prod.fst y3)) - y0) ≤ Int.ofNat (List.length (y4 ++ Prod.fst y3))))
                        (aGd
                          (decide
                            (List.length
                                  (List.drop (0 : Nat) (List.take (Int.toNat (IntKind.wrap IntKind.i64 (Int.ofNat (List.length (y4 ++ Prod.fst y3)) - y0))) (y4 ++ Prod.fst y3)) ++
                                    [(46 : UInt8)]) +
                                List.length
                                  (List.drop (Int.toNat (IntKind.wrap IntKind.i64 (Int.ofNat (List.length (y4 ++ Prod.fst y3)) - y0)))
                                    (List.take (List.length (y4 ++ Prod.fst y3)) (y4 ++ Prod.fst y3))) ≤
                              (9223372036854775807 : Nat)))
                          (aIf (Prod.snd y3)
                            (aGd
                              (decide
                                ((1 : Nat) +
                                    List.length
                                      (List.drop (0 : Nat)
                                            (List.take (Int.toNat (IntKind.wrap IntKind.i64 (Int.ofNat (List.length (y4 ++ Prod.fst y3)) - y0))) (y4 ++ Prod.fst y3)) ++
                                          [(46 : UInt8)] ++
                                        List.drop (Int.toNat (IntKind.wrap IntKind.i64 (Int.ofNat (List.length (y4 ++ Prod.fst y3)) - y0)))
                                          (List.take (List.length (y4 ++ Prod.fst y3)) (y4 ++ Prod.fst y3))) ≤
                                  (9223372036854775807 : Nat)))
                              (some
                                ((45 : UInt8) ::
                                  List.append []
                                    (List.drop (0 : Nat)
                                          (List.take (Int.toNat (IntKind.wrap IntKind.i64 (Int.ofNat (List.length (y4 ++ Prod.fst y3)) - y0))) (y4 ++ Prod.fst y3)) ++
                                        [(46 : UInt8)] ++
                                      List.drop (Int.toNat (IntKind.wrap IntKind.i64 (Int.ofNat (List.length (y4 ++ Prod.fst y3)) - y0)))
                                        (List.take (List.length (y4 ++ Prod.fst y3)) (y4 ++ Prod.fst y3))))))
                            (some
                              (List.drop (0 : Nat) (List.take (Int.toNat (IntKind.wrap IntKind.i64 (Int.ofNat (List.length (y4 ++ Prod.fst y3)) - y0))) (y4 ++ Prod.fst y3)) ++
                                  [(46 : UInt8)] ++
                                List.drop (Int.toNat (IntKind.wrap IntKind.i64 (Int.ofNat (List.length (y4 ++ Prod.fst y3)) - y0)))
                                  (List.take (List.length (y4 ++ Prod.fst y3)) (y4 ++ Prod.fst y3))))))))))))
          (aGd (decide ((0 : Int) ≤ IntKind.wrap IntKind.i64 (Int.ofNat (List.length (Prod.fst y3)) - y0)))
            (aGd (decide (IntKind.wrap IntKind.i64 (Int.ofNat (List.length (Prod.fst y3)) - y0) ≤ Int.ofNat (List.length (Prod.fst y3))))
              (aGd
                (decide
                  (List.length (List.drop (0 : Nat) (List.take (Int.toNat (IntKind.wrap IntKind.i64 (Int.ofNat (List.length (Prod.fst y3)) - y0))) (Prod.fst y3))) + (1 : Nat) ≤
                    (9223372036854775807 : Nat)))
                (aGd (decide ((0 : Int) ≤ IntKind.wrap IntKind.i64 (Int.ofNat (List.length (Prod.fst y3)) - y0)))
                  (aGd (decide (IntKind.wrap IntKind.i64 (Int.ofNat (List.length (Prod.fst y3)) - y0) ≤ Int.ofNat (List.length (Prod.fst y3))))
                    (aGd
                      (decide
                        (List.length
                              (List.drop (0 : Nat) (List.take (Int.toNat (IntKind.wrap IntKind.i64 (Int.ofNat (List.length (Prod.fst y3)) - y0))) (Prod.fst y3)) ++
                                [(46 : UInt8)]) +
                            List.length
                              (List.drop (Int.toNat (IntKind.wrap IntKind.i64 (Int.ofNat (List.length (Prod.fst y3)) - y0)))
                                (List.take (List.length (Prod.fst y3)) (Prod.fst y3))) ≤
                          (9223372036854775807 : Nat)))
                      (aIf (Prod.snd y3)
                        (aGd
                          (decide
                            ((1 : Nat) +
                                List.length
                                  (List.drop (0 : Nat) (List.take (Int.toNat (IntKind.wrap IntKind.i64 (Int.ofNat (List.length (Prod.fst y3)) - y0))) (Prod.fst y3)) ++
                                      [(46 : UInt8)] ++
                                    List.drop (Int.toNat (IntKind.wrap IntKind.i64 (Int.ofNat (List.length (Prod.fst y3)) - y0)))
                                      (List.take (List.length (Prod.fst y3)) (Prod.fst y3))) ≤
                              (9223372036854775807 : Nat)))
                          (some
                            ((45 : UInt8) ::
                              List.append []
                                (List.drop (0 : Nat) (List.take (Int.toNat (IntKind.wrap IntKind.i64 (Int.ofNat (List.length (Prod.fst y3)) - y0))) (Prod.fst y3)) ++
                                    [(46 : UInt8)] ++
                                  List.drop (Int.toNat (IntKind.wrap IntKind.i64 (Int.ofNat (List.length (Prod.fst y3)) - y0)))
                                    (List.take (List.length (Prod.fst y3)) (Prod.fst y3))))))
                        (some
                          (List.drop (0 : Nat) (List.take (Int.toNat (IntKind.wrap IntKind.i64 (Int.ofNat (List.length (Prod.fst y3)) - y0))) (Prod.fst y3)) ++ [(46 : UInt8)] ++
                            List.drop (Int.toNat (IntKind.wrap IntKind.i64 (Int.ofNat (List.length (Prod.fst y3)) - y0)))
                              (List.take (List.length (Prod.fst y3)) (Prod.fst y3)))))))))))) := by kernel_rfl
noncomputable def C70 (N : Nat) : Callee := mkCallee A70 R70 (F70 N)
theorem S70 (N : Nat) : Cok 70 (C70 N) := cok_of (l := (E70 N).calls) (O := O70 N) (cok_cons (S99 N) (cok_cons (S65 N) (cok_cons (S25 N) (cok_cons (S66 N) cok_nil)))) rfl Tryz.func70 rfl (by kernel_rfl) (by kernel_rfl)

-- function 43
def A43 : Cods (((Int) × (Int) × Int) × List PV) := (codsCons (codAgg (codsCons (codInt .i64) (codsCons (codInt .i64) (codsOne (codInt .i64))))) (codsOne (codSl 2)))
def R43 : Cod ((List UInt8) × Int) := (codTup (codsCons codStr (codsOne (codInt .i64))))
noncomputable def E43 (N : Nat) : Env := ⟨Tryz.prog, [(68, C68 N), (67, C67 N), (69, C69 N), (65, C65 N), (70, C70 N), (19, C19 N)]⟩
def O43 (N : Nat) : Opts := ⟨N, [], []⟩
noncomputable def F43 (N : Nat) (a : ((Int) × (Int) × Int) × List PV) : Option ((List UInt8) × Int) := aTyped (E43 N) (O43 N) Tryz.f43 A43 R43 a
theorem F43_eq (N : Nat) (a0 : Int × Int × Int) (a1 : List PV) : F43 N (a0, a1) =
    onSome (F68 N (Prod.fst a0, Prod.fst (Prod.snd a0), Prod.snd (Prod.snd a0))) fun y0 =>
  onSome (F67 N ((Prod.fst y0, Prod.snd y0), a1)) fun y1 =>
    aIf (!y1) (some ([], (8 : Int)))
      (onSome (F69 N ((Prod.fst a0, Prod.fst (Prod.snd a0), Prod.snd (Prod.snd a0)), a1)) fun y2 =>
        aIf (!y2) (some ([], (3 : Int)))
          (aIf (Prod.fst a0 == (1 : Int))
            (aIf (Prod.snd (Prod.snd a0) == (1 : Int)) (some ([(116 : UInt8), (114 : UInt8), (117 : UInt8), (101 : UInt8)], (0 : Int)))
              (some ([(102 : UInt8), (97 : UInt8), (108 : UInt8), (115 : UInt8), (101 : UInt8)], (0 : Int))))
            (aIf (Prod.fst a0 == (2 : Int)) (onSome (F65 N (Prod.snd (Prod.snd a0))) fun y3 => some (y3, (0 : Int)))
              (aIf (Prod.fst a0 == (3 : Int)) (onSome (F70 N (Prod.snd (Prod.snd a0), (2 : Int))) fun y4 => some (y4, (0 : Int)))
                (aIf (Prod.fst a0 == (4 : Int))
                  (onSome (F70 N (Prod.snd (Prod.snd a0), (4 : Int))) fun y5 =>
                    aGd (decide (List.length y5 + (1 : Nat) ≤ (9223372036854775807 : Nat))) (some (y5 ++ [(37 : UInt8)], (0 : Int))))
                  (aIf (Prod.fst a0 == (5 : Int)) (onSome (F19 N (Prod.snd (Prod.snd a0))) fun y6 => some (y6, (0 : Int)))
                    (onGet a1 (Prod.fst (Prod.snd a0)) fun z7 =>
                      onSome (PV.cells z7)[(1 : Nat)]? fun y8 =>
                        onSl (1 : Nat) y8 fun l9 => onGet l9 (Prod.snd (Prod.snd a0)) fun z10 => onStr z10 fun u11 => some (u11, (0 : Int))))))))) := by kernel_rfl
noncomputable def C43 (N : Nat) : Callee := mkCallee A43 R43 (F43 N)
theorem S43 (N : Nat) : Cok 43 (C43 N) := cok_of (l := (E43 N).calls) (O := O43 N) (cok_cons (S68 N) (cok_cons (S67 N) (cok_cons (S69 N) (cok_cons (S65 N) (cok_cons (S70 N) (cok_cons (S19 N) cok_nil)))))) rfl Tryz.func43 rfl (by kernel_rfl) (by kernel_rfl)

-- function 20
def A20 : Cods ((List UInt8) × (List PV) × List PV) := (codsCons codStr (codsCons (codSl 3) (codsOne (codSl 2))))
def R20 : Cod (List UInt8) := codStr
noncomputable def E20 (N : Nat) : Env := ⟨Tryz.prog, [(43, C43 N)]⟩
def O20 (N : Nat) : Opts := ⟨N, [(2, ⟨[0, 2, 11, 12, 13], [], [], 0⟩)], []⟩
noncomputable def F20 (N : Nat) (a : (List UInt8) × (List PV) × List PV) : Option (List UInt8) := aTyped (E20 N) (O20 N) Tryz.f20 A20 R20 a
noncomputable def L20_2 (N : Nat) (n : Nat) (x0 : List UInt8) (x1 : List PV) (x2 : List PV) (x3 : Int) (x4 : Int) : Option (List UInt8) :=
  atLoop (E20 N) (O20 N) Tryz.f20 [(1 : Nat), (0 : Nat), (1 : Nat), (0 : Nat)] [] n
  {
    tmps :=
      Tm.of (nat_lit 30)
        [((0 : Nat), AV.p (PV.str x0)), ((2 : Nat), AV.p (PV.sl (2 : Nat) x1)), ((11 : Nat), AV.p (PV.sl (3 : Nat) x2)), ((12 : Nat), AV.p (PV.int IntKind.i64 x3)),
          ((13 : Nat), AV.p (PV.int IntKind.i64 x4))],
    heap := [] }
  fun x => Cod.dec R20 x some
theorem L20_2_eq (N : Nat) (n : Nat) (x0 : List UInt8) (x1 : List PV) (x2 : List PV) (x3 : Int) (x4 : Int) : L20_2 N (n + 1) x0 x1 x2 x3 x4 =
    aIf (decide (x4 < x3))
  (onGet x2 x4 fun z0 =>
    onCons (List.take (3 : Nat) (List.drop (0 : Nat) (PV.cells z0))) fun h1 t2 =>
      onInt IntKind.i64 h1 fun n3 =>
        onCons t2 fun h4 t5 =>
          onInt IntKind.i64 h4 fun n6 =>
            onCons t5 fun h7 t8 =>
              onInt IntKind.i64 h7 fun n9 =>
                onNil t8
                  (aGd (decide ((0 : Nat) + (3 : Nat) ≤ (3 : Nat)))
                    (onSome (F43 N ((n3, n6, n9), x1)) fun y10 =>
                      aGd (decide ((1 : Nat) + List.length (Prod.fst y10) ≤ (9223372036854775807 : Nat)))
                        (aGd (decide (List.length x0 + List.length ((32 : UInt8) :: List.append [] (Prod.fst y10)) ≤ (9223372036854775807 : Nat)))
                          (L20_2 N n (x0 ++ (32 : UInt8) :: List.append [] (Prod.fst y10)) x1 x2 x3 (IntKind.wrap IntKind.i64 (x4 + (1 : Int))))))))
  (aGd (decide (List.length x0 + (1 : Nat) ≤ (9223372036854775807 : Nat))) (some (x0 ++ [(10 : UInt8)]))) := by kernel_rfl
theorem L20_2_zero (N : Nat) (x0 : List UInt8) (x1 : List PV) (x2 : List PV) (x3 : Int) (x4 : Int) : L20_2 N 0 x0 x1 x2 x3 x4 = none := by kernel_rfl
theorem F20_eq (N : Nat) (a0 : List UInt8) (a1 : List PV) (a2 : List PV) : F20 N (a0, a1, a2) =
    L20_2 N N a0 a2 a1 (Int.ofNat (List.length a1)) (0 : Int) := by kernel_rfl
noncomputable def C20 (N : Nat) : Callee := mkCallee A20 R20 (F20 N)
theorem S20 (N : Nat) : Cok 20 (C20 N) := cok_of (l := (E20 N).calls) (O := O20 N) (cok_cons (S43 N) cok_nil) rfl Tryz.func20 rfl (by kernel_rfl) (by kernel_rfl)

-- function 9
def A9 : Cods (((List PV) × (List PV) × List PV) × (Int) × (Int) × (List PV) × List PV) := (codsCons (codAgg (codsCons (codSl 2) (codsCons (codSl 6) (codsOne (codSl 5))))) (codsCons (codInt .i64) (codsOne (codAgg (codsCons (codInt .i64) (codsCons (codSl 3) (codsOne (codSl 1))))))))
def R9 : Cod ((List UInt8) × Int) := (codTup (codsCons codStr (codsOne (codInt .i64))))
noncomputable def E9 (N : Nat) : Env := ⟨Tryz.prog, [(15, C15 N), (19, C19 N), (20, C20 N)]⟩
def O9 (N : Nat) : Opts := ⟨N, [(6, ⟨[3, 11, 37, 38, 39], [], [], 2⟩)], []⟩
noncomputable def F9 (N : Nat) (a : ((List PV) × (List PV) × List PV) × (Int) × (Int) × (List PV) × List PV) : Option ((List UInt8) × Int) := aTyped (E9 N) (O9 N) Tryz.f9 A9 R9 a
noncomputable def L9_6 (N : Nat) (n : Nat) (x0 : List UInt8) (x1 : List PV) (x2 : Int) (x3 : Int) (x4 : List PV) (x5 : List PV) (x6 : List PV) (x7 : Int) (x8 : List PV) (x9 : List PV) : Option (List UInt8 × Int) :=
  atLoop (E9 N) (O9 N) Tryz.f9 [(1 : Nat), (1 : Nat), (1 : Nat), (0 : Nat), (1 : Nat), (0 : Nat)] [] n
  {
    tmps :=
      Tm.of (nat_lit 51)
        [((3 : Nat), AV.box (0 : Nat) (0 : Nat)), ((11 : Nat), AV.p (PV.str x0)), ((37 : Nat), AV.p (PV.sl (1 : Nat) x1)), ((38 : Nat), AV.p (PV.int IntKind.i64 x2)),
          ((39 : Nat), AV.p (PV.int IntKind.i64 x3))],
    heap :=
      [Blk.box [AV.p (PV.sl (2 : Nat) x4), AV.p (PV.sl (6 : Nat) x5), AV.p (PV.sl (5 : Nat) x6)],
        Blk.box [AV.p (PV.int IntKind.i64 x7), AV.p (PV.sl (3 : Nat) x8), AV.p (PV.sl (1 : Nat) x9)]] }
  fun x => Cod.dec R9 x some
theorem L9_6_eq (N : Nat) (n : Nat) (x0 : List UInt8) (x1 : List PV) (x2 : Int) (x3 : Int) (x4 : List PV) (x5 : List PV) (x6 : List PV) (x7 : Int) (x8 : List PV) (x9 : List PV) : L9_6 N (n + 1) x0 x1 x2 x3 x4 x5 x6 x7 x8 x9 =
    aIf (decide (x3 < x2))
  (onGet x1 x3 fun z3 =>
    onSl (3 : Nat) z3 fun l4 =>
      onSome (F20 N ([(109 : UInt8), (101 : UInt8), (109 : UInt8), (98 : UInt8), (101 : UInt8), (114 : UInt8)], l4, x4)) fun y5 =>
        aGd (decide (List.length x0 + List.length y5 ≤ (9223372036854775807 : Nat))) (L9_6 N n (x0 ++ y5) x1 x2 (IntKind.wrap IntKind.i64 (x3 + (1 : Int))) x4 x5 x6 x7 x8 x9))
  (some (x0, (0 : Int))) := by kernel_rfl
theorem L9_6_zero (N : Nat) (x0 : List UInt8) (x1 : List PV) (x2 : Int) (x3 : Int) (x4 : List PV) (x5 : List PV) (x6 : List PV) (x7 : Int) (x8 : List PV) (x9 : List PV) : L9_6 N 0 x0 x1 x2 x3 x4 x5 x6 x7 x8 x9 = none := by kernel_rfl
theorem F9_eq (N : Nat) (a0 : List PV × List PV × List PV) (a1 : Int) (a2 : Int) (a3 : List PV) (a4 : List PV) : F9 N (a0, a1, a2, a3, a4) =
    onSome (F15 N ((Prod.fst a0, Prod.fst (Prod.snd a0), Prod.snd (Prod.snd a0)), a1, a2, a3, a4)) fun y0 =>
  aIf (Prod.snd (Prod.snd y0) != (0 : Int)) (some ([], Prod.snd (Prod.snd y0)))
    (onSome (F19 N a2) fun y1 =>
      aGd (decide ((5 : Nat) + List.length y1 ≤ (9223372036854775807 : Nat)))
        (aGd (decide (List.length ((100 : UInt8) :: (97 : UInt8) :: (116 : UInt8) :: (101 : UInt8) :: (32 : UInt8) :: List.append [] y1) + (1 : Nat) ≤ (9223372036854775807 : Nat)))
          (onSome (F20 N ([(105 : UInt8), (110 : UInt8)], a3, Prod.fst a0)) fun y2 =>
            aGd
              (decide
                (List.length ((100 : UInt8) :: (97 : UInt8) :: (116 : UInt8) :: (101 : UInt8) :: (32 : UInt8) :: List.append (List.append [] y1) [(10 : UInt8)]) + List.length y2 ≤
                  (9223372036854775807 : Nat)))
              (L9_6 N N ((100 : UInt8) :: (97 : UInt8) :: (116 : UInt8) :: (101 : UInt8) :: (32 : UInt8) :: List.append (List.append (List.append [] y1) [(10 : UInt8)]) y2) a4
                (Int.ofNat (List.length a4)) (0 : Int) (Prod.fst a0) (Prod.fst (Prod.snd a0)) (Prod.snd (Prod.snd a0)) a2 a3 a4)))) := by kernel_rfl
noncomputable def C9 (N : Nat) : Callee := mkCallee A9 R9 (F9 N)
theorem S9 (N : Nat) : Cok 9 (C9 N) := cok_of (l := (E9 N).calls) (O := O9 N) (cok_cons (S15 N) (cok_cons (S19 N) (cok_cons (S20 N) cok_nil))) rfl Tryz.func9 rfl (by kernel_rfl) (by kernel_rfl)

-- function 8
def A8 : Cods (Unit) := codsNil
def R8 : Cod (Bool) := codBool
noncomputable def E8 (N : Nat) : Env := ⟨Tryz.prog, [(18, C18 N), (11, C11 N), (9, C9 N), (15, C15 N)]⟩
def O8 (N : Nat) : Opts := ⟨N, [], []⟩
noncomputable def F8 (N : Nat) (a : Unit) : Option (Bool) := aTyped (E8 N) (O8 N) Tryz.f8 A8 R8 a
theorem F8_eq (N : Nat)  : F8 N () =
    onSome (F18 N PUnit.unit) fun y0 =>
  aGd (decide ((0 : Nat) + (3 : Nat) ≤ (3 : Nat)))
    (onSome
      (F11 N
        ((Prod.fst y0, Prod.fst (Prod.snd y0), Prod.snd (Prod.snd y0)), (0 : Int),
          [(100 : UInt8), (97 : UInt8), (116 : UInt8), (101 : UInt8), (32 : UInt8), (50 : UInt8), (48 : UInt8), (48 : UInt8), (48 : UInt8), (45 : UInt8), (48 : UInt8),
            (49 : UInt8), (45 : UInt8), (48 : UInt8), (49 : UInt8), (10 : UInt8), (105 : UInt8), (110 : UInt8), (32 : UInt8), (49 : UInt8), (50 : UInt8), (46 : UInt8),
            (53 : UInt8), (48 : UInt8), (32 : UInt8), (116 : UInt8), (114 : UInt8), (117 : UInt8), (101 : UInt8), (10 : UInt8)]))
      fun y1 =>
      aGd (decide ((0 : Nat) + (3 : Nat) ≤ (3 : Nat)))
        (onSome
          (F9 N
            ((Prod.fst y0, Prod.fst (Prod.snd y0), Prod.snd (Prod.snd y0)), (0 : Int), Prod.fst (Prod.fst y1), Prod.fst (Prod.snd (Prod.fst y1)),
              Prod.snd (Prod.snd (Prod.fst y1))))
          fun y2 =>
          onSome
            (F11 N
              ((Prod.fst y0, Prod.fst (Prod.snd y0), Prod.snd (Prod.snd y0)), (0 : Int),
                [(100 : UInt8), (97 : UInt8), (116 : UInt8), (101 : UInt8), (32 : UInt8), (50 : UInt8), (48 : UInt8), (48 : UInt8), (48 : UInt8), (45 : UInt8), (48 : UInt8),
                  (49 : UInt8), (45 : UInt8), (48 : UInt8), (49 : UInt8), (10 : UInt8), (105 : UInt8), (110 : UInt8), (32 : UInt8), (49 : UInt8), (50 : UInt8), (46 : UInt8),
                  (53 : UInt8), (32 : UInt8), (116 : UInt8), (114 : UInt8), (117 : UInt8), (101 : UInt8), (10 : UInt8)]))
            fun y3 =>
            aGd (decide ((0 : Nat) + (3 : Nat) ≤ (3 : Nat)))
              (aGd (decide ((2 : Nat) + (1 : Nat) ≤ (3 : Nat)))
                (onSome (F15 N ((Prod.fst y0, Prod.fst (Prod.snd y0), Prod.snd (Prod.snd y0)), (0 : Int), Prod.fst (Prod.fst y1), Prod.fst (Prod.snd (Prod.fst y1)), [PV.nilsl]))
                  fun y4 =>
                  aIf (Prod.snd (Prod.snd y1) == (0 : Int))
                    (aIf
                      (Prod.fst y2 ==
                        [(100 : UInt8), (97 : UInt8), (116 : UInt8), (101 : UInt8), (32 : UInt8), (50 : UInt8), (48 : UInt8), (48 : UInt8), (48 : UInt8), (45 : UInt8),
                          (48 : UInt8), (49 : UInt8), (45 : UInt8), (48 : UInt8), (49 : UInt8), (10 : UInt8), (105 : UInt8), (110 : UInt8), (32 : UInt8), (49 : UInt8),
                          (50 : UInt8), (46 : UInt8), (53 : UInt8), (48 : UInt8), (32 : UInt8), (116 : UInt8), (114 : UInt8), (117 : UInt8), (101 : UInt8), (10 : UInt8)])
                      (aIf (Prod.snd y2 == (0 : Int))
                        (aIf (Prod.fst (Prod.fst y1) == (36524 : Int))
                          (aIf (Int.ofNat (List.length (Prod.fst (Prod.snd (Prod.fst y1)))) == (2 : Int))
                            (onGet (Prod.fst (Prod.snd (Prod.fst y1))) (0 : Int) fun z5 =>
                              onSome (PV.cells z5)[(2 : Nat)]? fun y6 =>
                                onInt IntKind.i64 y6 fun n7 =>
                                  aIf (n7 == (1250 : Int))
                                    (aIf (Prod.fst (Prod.snd y3) == (1 : Int))
                                      (aIf (Prod.snd (Prod.snd y3) == (2 : Int))
                                        (aIf (Prod.fst y4 == (0 : Int)) (aIf (Prod.fst (Prod.snd y4) == (-1 : Int)) (some (Prod.snd (Prod.snd y4) == (4 : Int))) (some false))
                                          (some false))
                                        (some false))
                                      (some false))
                                    (some false))
                            (some false))
                          (some false))
                        (some false))
                      (some false))
                    (some false))))) := by kernel_rfl
def G8 (a : Unit) : Option (Bool) := some true
theorem K8 : F8 400 = G8 := funext fun _ => by kernel_rfl
noncomputable def C8 (N : Nat) : Callee := mkCallee A8 R8 G8
theorem S8 (N : Nat) : Cok 8 (C8 N) := by
  unfold C8
  rw [← K8]
  exact cok_of (l := (E8 400).calls) (O := O8 400) (cok_cons (S18 400) (cok_cons (S11 400) (cok_cons (S9 400) (cok_cons (S15 400) cok_nil)))) rfl Tryz.func8 rfl (by kernel_rfl) (by kernel_rfl)

-- function 71
def A71 : Cods ((Int) × (Int) × Int) := (codsOne (codAgg (codsCons (codInt .i64) (codsCons (codInt .i64) (codsOne (codInt .i64))))))
def R71 : Cod ((Int) × Int) := (codAgg (codsCons (codInt .i64) (codsOne (codInt .i64))))
noncomputable def E71 (N : Nat) : Env := ⟨Tryz.prog, []⟩
def O71 (N : Nat) : Opts := ⟨N, [], []⟩
noncomputable def F71 (N : Nat) (a : (Int) × (Int) × Int) : Option ((Int) × Int) := aTyped (E71 N) (O71 N) Tryz.f71 A71 R71 a
theorem F71_eq (N : Nat) (a0 : Int) (a1 : Int) (a2 : Int) : F71 N (a0, a1, a2) =
    aGd (decide ((0 : Nat) + (2 : Nat) ≤ (2 : Nat))) (some (a0, a1)) := by kernel_rfl
noncomputable def C71 (N : Nat) : Callee := mkCallee A71 R71 (F71 N)
theorem S71 (N : Nat) : Cok 71 (C71 N) := cok_of (l := (E71 N).calls) (O := O71 N) cok_nil rfl Tryz.func71 rfl (by kernel_rfl) (by kernel_rfl)

-- function 76
def A76 : Cods (((Int) × Int) × List PV) := (codsCons (codAgg (codsCons (codInt .i64) (codsOne (codInt .i64)))) (codsOne (codSl 2)))
def R76 : Cod (Bool) := codBool
noncomputable def E76 (N : Nat) : Env := ⟨Tryz.prog, []⟩
def O76 (N : Nat) : Opts := ⟨N, [], []⟩
noncomputable def F76 (N : Nat) (a : ((Int) × Int) × List PV) : Option (Bool) := aTyped (E76 N) (O76 N) Tryz.f76 A76 R76 a
theorem F76_eq (N : Nat) (a0 : Int × Int) (a1 : List PV) : F76 N (a0, a1) =
    aIf (Prod.fst a0 == (6 : Int)) (aIf (decide ((0 : Int) ≤ Prod.snd a0)) (some (decide (Prod.snd a0 < Int.ofNat (List.length a1)))) (some false))
  (aIf (decide ((1 : Int) ≤ Prod.fst a0)) (aIf (decide (Prod.fst a0 ≤ (5 : Int))) (some (Prod.snd a0 == (0 : Int))) (some false)) (some false)) := by kernel_rfl
noncomputable def C76 (N : Nat) : Callee := mkCallee A76 R76 (F76 N)
theorem S76 (N : Nat) : Cok 76 (C76 N) := cok_of (l := (E76 N).calls) (O := O76 N) cok_nil rfl Tryz.func76 rfl (by kernel_rfl) (by kernel_rfl)

-- function 100
def A100 : Cods (((Int) × Int) × List PV) := (codsCons (codAgg (codsCons (codInt .i64) (codsOne (codInt .i64)))) (codsOne (codSl 2)))
def R100 : Cod ((Int) × Int) := (codTup (codsCons (codInt .i64) (codsOne (codInt .i64))))
noncomputable def E100 (N : Nat) : Env := ⟨Tryz.prog, [(76, C76 N)]⟩
def O100 (N : Nat) : Opts := ⟨N, [], []⟩
noncomputable def F100 (N : Nat) (a : ((Int) × Int) × List PV) : Option ((Int) × Int) := aTyped (E100 N) (O100 N) Tryz.f100 A100 R100 a
theorem F100_eq (N : Nat) (a0 : Int × Int) (a1 : List PV) : F100 N (a0, a1) =
    onSome (F76 N ((Prod.fst a0, Prod.snd a0), a1)) fun y0 =>
  aIf (!y0) (some ((0 : Int), (-1 : Int)))
    (aIf (Prod.fst a0 == (1 : Int)) (some ((0 : Int), (1 : Int)))
      (aIf (Prod.fst a0 == (2 : Int)) (some ((-1000000000000 : Int), (1000000000000 : Int)))
        (aIf (Prod.fst a0 == (3 : Int)) (some ((-1000000000000000 : Int), (1000000000000000 : Int)))
          (aIf (Prod.fst a0 == (4 : Int)) (some ((-1000000000 : Int), (1000000000 : Int)))
            (aIf (Prod.fst a0 == (5 : Int)) (some ((0 : Int), (109572 : Int)))
              (onGet a1 (Prod.snd a0) fun z1 =>
                onSome (PV.cells z1)[(1 : Nat)]? fun y2 => onSl (1 : Nat) y2 fun l3 => some ((0 : Int), IntKind.wrap IntKind.i64 (Int.ofNat (List.length l3) - (1 : Int))))))))) := by kernel_rfl
noncomputable def C100 (N : Nat) : Callee := mkCallee A100 R100 (F100 N)
theorem S100 (N : Nat) : Cok 100 (C100 N) := cok_of (l := (E100 N).calls) (O := O100 N) (cok_cons (S76 N) cok_nil) rfl Tryz.func100 rfl (by kernel_rfl) (by kernel_rfl)

-- function 72
def A72 : Cods ((Int) × ((Int) × Int) × List PV) := (codsCons (codInt .i64) (codsCons (codAgg (codsCons (codInt .i64) (codsOne (codInt .i64)))) (codsOne (codSl 2))))
def R72 : Cod (Bool) := codBool
noncomputable def E72 (N : Nat) : Env := ⟨Tryz.prog, [(100, C100 N)]⟩
def O72 (N : Nat) : Opts := ⟨N, [], []⟩
noncomputable def F72 (N : Nat) (a : (Int) × ((Int) × Int) × List PV) : Option (Bool) := aTyped (E72 N) (O72 N) Tryz.f72 A72 R72 a
theorem F72_eq (N : Nat) (a0 : Int) (a1 : Int × Int) (a2 : List PV) : F72 N (a0, a1, a2) =
    onSome (F100 N ((Prod.fst a1, Prod.snd a1), a2)) fun y0 => aIf (decide (Prod.fst y0 ≤ a0)) (some (decide (a0 ≤ Prod.snd y0))) (some false) := by kernel_rfl
noncomputable def C72 (N : Nat) : Callee := mkCallee A72 R72 (F72 N)
theorem S72 (N : Nat) : Cok 72 (C72 N) := cok_of (l := (E72 N).calls) (O := O72 N) (cok_cons (S100 N) cok_nil) rfl Tryz.func72 rfl (by kernel_rfl) (by kernel_rfl)

-- function 44
def A44 : Cods (((List PV) × (List PV) × List PV) × (List PV) × List PV) := (codsCons (codAgg (codsCons (codSl 2) (codsCons (codSl 6) (codsOne (codSl 5))))) (codsCons (codSl 3) (codsOne (codSl 3))))
def R44 : Cod ((Int) × Int) := (codTup (codsCons (codInt .i64) (codsOne (codInt .i64))))
noncomputable def E44 (N : Nat) : Env := ⟨Tryz.prog, [(71, C71 N), (72, C72 N)]⟩
def O44 (N : Nat) : Opts := ⟨N, [(6, ⟨[1, 2, 3, 8], [], [], 1⟩)], []⟩
noncomputable def F44 (N : Nat) (a : ((List PV) × (List PV) × List PV) × (List PV) × List PV) : Option ((Int) × Int) := aTyped (E44 N) (O44 N) Tryz.f44 A44 R44 a
noncomputable def L44_6 (N : Nat) (n : Nat) (x0 : List PV) (x1 : List PV) (x2 : Int) (x3 : List PV) (x4 : List PV) (x5 : List PV) : Option (Int × Int) :=
  atLoop (E44 N) (O44 N) Tryz.f44 [(1 : Nat), (1 : Nat), (1 : Nat), (0 : Nat), (1 : Nat), (0 : Nat)] [] n
  {
    tmps :=
      Tm.of (nat_lit 56)
        [((1 : Nat), AV.p (PV.sl (3 : Nat) x0)), ((2 : Nat), AV.p (PV.sl (3 : Nat) x1)), ((3 : Nat), AV.box (0 : Nat) (0 : Nat)), ((8 : Nat), AV.p (PV.int IntKind.i64 x2))],
    heap := [Blk.box [AV.p (PV.sl (2 : Nat) x3), AV.p (PV.sl (6 : Nat) x4), AV.p (PV.sl (5 : Nat) x5)]] }
  fun x => Cod.dec R44 x some
theorem L44_6_eq (N : Nat) (n : Nat) (x0 : List PV) (x1 : List PV) (x2 : Int) (x3 : List PV) (x4 : List PV) (x5 : List PV) : L44_6 N (n + 1) x0 x1 x2 x3 x4 x5 =
    aIf (decide (x2 < Int.ofNat (List.length x1)))
  (onGet x1 x2 fun z0 =>
    onCons (List.take (3 : Nat) (List.drop (0 : Nat) (PV.cells z0))) fun h1 t2 =>
      onInt IntKind.i64 h1 fun n3 =>
        onCons t2 fun h4 t5 =>
          onInt IntKind.i64 h4 fun n6 =>
            onCons t5 fun h7 t8 =>
              onInt IntKind.i64 h7 fun n9 =>
                onNil t8
                  (onSome (F71 N (n3, n6, n9)) fun y10 =>
                    onGet x0 x2 fun z11 =>
                      onCons (List.take (2 : Nat) (List.drop (1 : Nat) (PV.cells z11))) fun h12 t13 =>
                        onInt IntKind.i64 h12 fun n14 =>
                          onCons t13 fun h15 t16 =>
                            onInt IntKind.i64 h15 fun n17 =>
                              onNil t16
                                (aIf (!(Prod.fst y10 == n14 && (Prod.snd y10 == n17 && true))) (some (x2, (8 : Int)))
                                  (onGet x1 x2 fun z18 =>
                                    onSome (PV.cells z18)[(2 : Nat)]? fun y19 =>
                                      onInt IntKind.i64 y19 fun n20 =>
                                        onGet x0 x2 fun z21 =>
                                          onCons (List.take (2 : Nat) (List.drop (1 : Nat) (PV.cells z21))) fun h22 t23 =>
                                            onInt IntKind.i64 h22 fun n24 =>
                                              onCons t23 fun h25 t26 =>
                                                onInt IntKind.i64 h25 fun n27 =>
                                                  onNil t26
                                                    (onSome (F72 N (n20, (n24, n27), x3)) fun y28 =>
                                                      aIf (!y28) (some (x2, (3 : Int))) (L44_6 N n x0 x1 (IntKind.wrap IntKind.i64 (x2 + (1 : Int))) x3 x4 x5))))))
  (some ((0 : Int), (0 : Int))) := by kernel_rfl
theorem L44_6_zero (N : Nat) (x0 : List PV) (x1 : List PV) (x2 : Int) (x3 : List PV) (x4 : List PV) (x5 : List PV) : L44_6 N 0 x0 x1 x2 x3 x4 x5 = none := by kernel_rfl
theorem F44_eq (N : Nat) (a0 : List PV × List PV × List PV) (a1 : List PV) (a2 : List PV) : F44 N (a0, a1, a2) =
    aIf (decide (Int.ofNat (List.length a2) < Int.ofNat (List.length a1))) (some (Int.ofNat (List.length a2), (5 : Int)))
  (aIf (decide (Int.ofNat (List.length a1) < Int.ofNat (List.length a2))) (some (Int.ofNat (List.length a1), (4 : Int)))
    (L44_6 N N a1 a2 (0 : Int) (Prod.fst a0) (Prod.fst (Prod.snd a0)) (Prod.snd (Prod.snd a0)))) := by kernel_rfl
noncomputable def C44 (N : Nat) : Callee := mkCallee A44 R44 (F44 N)
theorem S44 (N : Nat) : Cok 44 (C44 N) := cok_of (l := (E44 N).calls) (O := O44 N) (cok_cons (S71 N) (cok_cons (S72 N) cok_nil)) rfl Tryz.func44 rfl (by kernel_rfl) (by kernel_rfl)

-- function 33
def A33 : Cods (((List PV) × (List PV) × List PV) × Int) := (codsCons (codAgg (codsCons (codSl 2) (codsCons (codSl 6) (codsOne (codSl 5))))) (codsOne (codInt .i64)))
def R33 : Cod ((Int) × Int) := (codTup (codsCons (codInt .i64) (codsOne (codInt .i64))))
noncomputable def E33 (N : Nat) : Env := ⟨Tryz.prog, []⟩
def O33 (N : Nat) : Opts := ⟨N, [], []⟩
noncomputable def F33 (N : Nat) (a : ((List PV) × (List PV) × List PV) × Int) : Option ((Int) × Int) := aTyped (E33 N) (O33 N) Tryz.f33 A33 R33 a
theorem F33_eq (N : Nat) (a0 : List PV × List PV × List PV) (a1 : Int) : F33 N (a0, a1) =
    onGet (Prod.snd (Prod.snd a0)) a1 fun z0 =>
  onSome (PV.cells z0)[(1 : Nat)]? fun y1 =>
    onInt IntKind.i64 y1 fun n2 =>
      aIf (decide (n2 < (0 : Int))) (some ((-1 : Int), (0 : Int)))
        (aIf (decide (Int.ofNat (List.length (Prod.snd (Prod.snd a0))) ≤ n2)) (some ((-1 : Int), (0 : Int))) (some (n2, (8 : Int)))) := by kernel_rfl
noncomputable def C33 (N : Nat) : Callee := mkCallee A33 R33 (F33 N)
theorem S33 (N : Nat) : Cok 33 (C33 N) := cok_of (l := (E33 N).calls) (O := O33 N) cok_nil rfl Tryz.func33 rfl (by kernel_rfl) (by kernel_rfl)

-- function 21
def A21 : Cods (((List PV) × (List PV) × List PV) × (Int) × (Int) × (List PV) × List PV) := (codsCons (codAgg (codsCons (codSl 2) (codsCons (codSl 6) (codsOne (codSl 5))))) (codsCons (codInt .i64) (codsOne (codAgg (codsCons (codInt .i64) (codsCons (codSl 3) (codsOne (codSl 1))))))))
def R21 : Cod ((Int) × (Int) × Int) := (codTup (codsCons (codInt .i64) (codsCons (codInt .i64) (codsOne (codInt .i64)))))
noncomputable def E21 (N : Nat) : Env := ⟨Tryz.prog, [(44, C44 N), (33, C33 N)]⟩
def O21 (N : Nat) : Opts := ⟨N, [(12, ⟨[3, 5, 11, 13], [], [], 2⟩)], []⟩
noncomputable def F21 (N : Nat) (a : ((List PV) × (List PV) × List PV) × (Int) × (Int) × (List PV) × List PV) : Option ((Int) × (Int) × Int) := aTyped (E21 N) (O21 N) Tryz.f21 A21 R21 a
noncomputable def L21_12 (N : Nat) (n : Nat) (x0 : Int) (x1 : Int) (x2 : List PV) (x3 : List PV) (x4 : List PV) (x5 : Int) (x6 : List PV) (x7 : List PV) : Option (Int × Int × Int) :=
  atLoop (E21 N) (O21 N) Tryz.f21 [(1 : Nat), (1 : Nat), (1 : Nat), (1 : Nat), (1 : Nat), (1 : Nat), (1 : Nat), (0 : Nat), (1 : Nat), (0 : Nat)] [] n
  {
    tmps :=
      Tm.of (nat_lit 90)
        [((3 : Nat), AV.box (0 : Nat) (0 : Nat)), ((5 : Nat), AV.box (1 : Nat) (0 : Nat)), ((11 : Nat), AV.p (PV.int IntKind.i64 x0)), ((13 : Nat), AV.p (PV.int IntKind.i64 x1))],
    heap :=
      [Blk.box [AV.p (PV.sl (2 : Nat) x2), AV.p (PV.sl (6 : Nat) x3), AV.p (PV.sl (5 : Nat) x4)],
        Blk.box [AV.p (PV.int IntKind.i64 x5), AV.p (PV.sl (3 : Nat) x6), AV.p (PV.sl (1 : Nat) x7)]] }
  fun x => Cod.dec R21 x some
theorem L21_12_eq (N : Nat) (n : Nat) (x0 : Int) (x1 : Int) (x2 : List PV) (x3 : List PV) (x4 : List PV) (x5 : Int) (x6 : List PV) (x7 : List PV) : L21_12 N (n + 1) x0 x1 x2 x3 x4 x5 x6 x7 =
    aIf (decide (x1 < Int.ofNat (List.length x7)))
  (onGet x4 x0 fun z5 =>
    onSome (PV.cells z5)[(2 : Nat)]? fun y6 =>
      onSl (3 : Nat) y6 fun l7 =>
        onGet x7 x1 fun z8 =>
          onSl (3 : Nat) z8 fun l9 =>
            onSome (F44 N ((x2, x3, x4), l7, l9)) fun y10 =>
              aIf (Prod.snd y10 != (0 : Int)) (some (x1, Prod.fst y10, Prod.snd y10)) (L21_12 N n x0 (IntKind.wrap IntKind.i64 (x1 + (1 : Int))) x2 x3 x4 x5 x6 x7))
  (some ((0 : Int), (0 : Int), (0 : Int))) := by kernel_rfl
theorem L21_12_zero (N : Nat) (x0 : Int) (x1 : Int) (x2 : List PV) (x3 : List PV) (x4 : List PV) (x5 : Int) (x6 : List PV) (x7 : List PV) : L21_12 N 0 x0 x1 x2 x3 x4 x5 x6 x7 = none := by kernel_rfl
theorem F21_eq (N : Nat) (a0 : List PV × List PV × List PV) (a1 : Int) (a2 : Int) (a3 : List PV) (a4 : List PV) : F21 N (a0, a1, a2, a3, a4) =
    aIf (decide (a1 < (0 : Int))) (some ((-1 : Int), (-1 : Int), (6 : Int)))
  (aIf (decide (Int.ofNat (List.length (Prod.snd (Prod.snd a0))) ≤ a1)) (some ((-1 : Int), (-1 : Int), (6 : Int)))
    (aIf (decide (a2 < (0 : Int))) (some ((-1 : Int), (-1 : Int), (3 : Int)))
      (aIf (decide ((109572 : Int) < a2)) (some ((-1 : Int), (-1 : Int), (3 : Int)))
        (onGet (Prod.snd (Prod.snd a0)) a1 fun z0 =>
          onSome (PV.cells z0)[(2 : Nat)]? fun y1 =>
            onSl (3 : Nat) y1 fun l2 =>
              onSome (F44 N ((Prod.fst a0, Prod.fst (Prod.snd a0), Prod.snd (Prod.snd a0)), l2, a3)) fun y3 =>
                aIf (Prod.snd y3 != (0 : Int)) (some ((-1 : Int), Prod.fst y3, Prod.snd y3))
                  (onSome (F33 N ((Prod.fst a0, Prod.fst (Prod.snd a0), Prod.snd (Prod.snd a0)), a1)) fun y4 =>
                    aIf (decide (Prod.snd y4 < Int.ofNat (List.length a4))) (some (Prod.snd y4, (-1 : Int), (4 : Int)))
                      (L21_12 N N (Prod.fst y4) (0 : Int) (Prod.fst a0) (Prod.fst (Prod.snd a0)) (Prod.snd (Prod.snd a0)) a2 a3 a4)))))) := by kernel_rfl
noncomputable def C21 (N : Nat) : Callee := mkCallee A21 R21 (F21 N)
theorem S21 (N : Nat) : Cok 21 (C21 N) := cok_of (l := (E21 N).calls) (O := O21 N) (cok_cons (S44 N) (cok_cons (S33 N) cok_nil)) rfl Tryz.func21 rfl (by kernel_rfl) (by kernel_rfl)

-- function 45
def A45 : Cods (Int) := (codsOne (codInt .i64))
def R45 : Cod (Bool) := codBool
noncomputable def E45 (N : Nat) : Env := ⟨Tryz.prog, []⟩
def O45 (N : Nat) : Opts := ⟨N, [], []⟩
noncomputable def F45 (N : Nat) (a : Int) : Option (Bool) := aTyped (E45 N) (O45 N) Tryz.f45 A45 R45 a
theorem F45_eq (N : Nat) (a0 : Int) : F45 N a0 =
    aIf (decide ((0 : Int) ≤ a0)) (some (decide (a0 ≤ (109572 : Int)))) (some false) := by kernel_rfl
noncomputable def C45 (N : Nat) : Callee := mkCallee A45 R45 (F45 N)
theorem S45 (N : Nat) : Cok 45 (C45 N) := cok_of (l := (E45 N).calls) (O := O45 N) cok_nil rfl Tryz.func45 rfl (by kernel_rfl) (by kernel_rfl)

-- function 101
def A101 : Cods (Int) := (codsOne (codInt .i64))
def R101 : Cod (Bool) := codBool
noncomputable def E101 (N : Nat) : Env := ⟨Tryz.prog, []⟩
def O101 (N : Nat) : Opts := ⟨N, [], []⟩
noncomputable def F101 (N : Nat) (a : Int) : Option (Bool) := aTyped (E101 N) (O101 N) Tryz.f101 A101 R101 a
theorem F101_eq (N : Nat) (a0 : Int) : F101 N a0 =
    aIf (Int.tmod a0 (4 : Int) == (0 : Int)) (aIf (Int.tmod a0 (100 : Int) != (0 : Int)) (some true) (some (Int.tmod a0 (400 : Int) == (0 : Int)))) (some false) := by kernel_rfl
noncomputable def C101 (N : Nat) : Callee := mkCallee A101 R101 (F101 N)
theorem S101 (N : Nat) : Cok 101 (C101 N) := cok_of (l := (E101 N).calls) (O := O101 N) cok_nil rfl Tryz.func101 rfl (by kernel_rfl) (by kernel_rfl)

-- function 73
def A73 : Cods (Int) := (codsOne (codInt .i64))
def R73 : Cod (Int) := (codInt .i64)
noncomputable def E73 (N : Nat) : Env := ⟨Tryz.prog, [(101, C101 N)]⟩
def O73 (N : Nat) : Opts := ⟨N, [], []⟩
noncomputable def F73 (N : Nat) (a : Int) : Option (Int) := aTyped (E73 N) (O73 N) Tryz.f73 A73 R73 a
theorem F73_eq (N : Nat) (a0 : Int) : F73 N a0 =
    onSome (F101 N a0) fun y0 => aIf y0 (some (366 : Int)) (some (365 : Int)) := by kernel_rfl
noncomputable def C73 (N : Nat) : Callee := mkCallee A73 R73 (F73 N)
theorem S73 (N : Nat) : Cok 73 (C73 N) := cok_of (l := (E73 N).calls) (O := O73 N) (cok_cons (S101 N) cok_nil) rfl Tryz.func73 rfl (by kernel_rfl) (by kernel_rfl)

-- function 74
def A74 : Cods ((Int) × Int) := (codsCons (codInt .i64) (codsOne (codInt .i64)))
def R74 : Cod (Int) := (codInt .i64)
noncomputable def E74 (N : Nat) : Env := ⟨Tryz.prog, [(101, C101 N)]⟩
def O74 (N : Nat) : Opts := ⟨N, [], []⟩
noncomputable def F74 (N : Nat) (a : (Int) × Int) : Option (Int) := aTyped (E74 N) (O74 N) Tryz.f74 A74 R74 a
theorem F74_eq (N : Nat) (a0 : Int) (a1 : Int) : F74 N (a0, a1) =
    aIf (a1 == (2 : Int)) (onSome (F101 N a0) fun y0 => aIf y0 (some (29 : Int)) (some (28 : Int)))
  (aIf (a1 == (4 : Int))
    (aIf (a1 == (4 : Int)) (some (30 : Int))
      (aIf (a1 == (1 : Int)) (aIf (a1 == (1 : Int)) (some (31 : Int)) (some (0 : Int)))
        (aIf (a1 == (3 : Int)) (aIf (a1 == (3 : Int)) (some (31 : Int)) (some (0 : Int)))
          (aIf (a1 == (5 : Int)) (aIf (a1 == (5 : Int)) (some (31 : Int)) (some (0 : Int)))
            (aIf (a1 == (7 : Int)) (aIf (a1 == (7 : Int)) (some (31 : Int)) (some (0 : Int)))
              (aIf (a1 == (8 : Int)) (aIf (a1 == (8 : Int)) (some (31 : Int)) (some (0 : Int)))
                (aIf (a1 == (10 : Int)) (aIf (a1 == (10 : Int)) (some (31 : Int)) (some (0 : Int))) (aIf (a1 == (12 : Int)) (some (31 : Int)) (some (0 : Int))))))))))
    (aIf (a1 == (6 : Int))
      (aIf (a1 == (6 : Int)) (some (30 : Int))
        (aIf (a1 == (1 : Int)) (aIf (a1 == (1 : Int)) (some (31 : Int)) (some (0 : Int)))
          (aIf (a1 == (3 : Int)) (aIf (a1 == (3 : Int)) (some (31 : Int)) (some (0 : Int)))
            (aIf (a1 == (5 : Int)) (aIf (a1 == (5 : Int)) (some (31 : Int)) (some (0 : Int)))
              (aIf (a1 == (7 : Int)) (aIf (a1 == (7 : Int)) (some (31 : Int)) (some (0 : Int)))
                (aIf (a1 == (8 : Int)) (aIf (a1 == (8 : Int)) (some (31 : Int)) (some (0 : Int)))
                  (aIf (a1 == (10 : Int)) (aIf (a1 == (10 : Int)) (some (31 : Int)) (some (0 : Int))) (aIf (a1 == (12 : Int)) (some (31 : Int)) (some (0 : Int))))))))))
      (aIf (a1 == (9 : Int))
        (aIf (a1 == (9 : Int)) (some (30 : Int))
          (aIf (a1 == (1 : Int)) (aIf (a1 == (1 : Int)) (some (31 : Int)) (some (0 : Int)))
            (aIf (a1 == (3 : Int)) (aIf (a1 == (3 : Int)) (some (31 : Int)) (some (0 : Int)))
              (aIf (a1 == (5 : Int)) (aIf (a1 == (5 : Int)) (some (31 : Int)) (some (0 : Int)))
                (aIf (a1 == (7 : Int)) (aIf (a1 == (7 : Int)) (some (31 : Int)) (some (0 : Int)))
                  (aIf (a1 == (8 : Int)) (aIf (a1 == (8 : Int)) (some (31 : Int)) (some (0 : Int)))
                    (aIf (a1 == (10 : Int)) (aIf (a1 == (10 : Int)) (some (31 : Int)) (some (0 : Int))) (aIf (a1 == (12 : Int)) (some (31 : Int)) (some (0 : Int))))))))))
        (aIf (a1 == (11 : Int)) (some (30 : Int))
          (aIf (a1 == (1 : Int)) (aIf (a1 == (1 : Int)) (some (31 : Int)) (some (0 : Int)))
            (aIf (a1 == (3 : Int)) (aIf (a1 == (3 : Int)) (some (31 : Int)) (some (0 : Int)))
              (aIf (a1 == (5 : Int)) (aIf (a1 == (5 : Int)) (some (31 : Int)) (some (0 : Int)))
                (aIf (a1 == (7 : Int)) (aIf (a1 == (7 : Int)) (some (31 : Int)) (some (0 : Int)))
                  (aIf (a1 == (8 : Int)) (aIf (a1 == (8 : Int)) (some (31 : Int)) (some (0 : Int)))
                    (aIf (a1 == (10 : Int)) (aIf (a1 == (10 : Int)) (some (31 : Int)) (some (0 : Int))) (aIf (a1 == (12 : Int)) (some (31 : Int)) (some (0 : Int))))))))))))) := by kernel_rfl
noncomputable def C74 (N : Nat) : Callee := mkCallee A74 R74 (F74 N)
theorem S74 (N : Nat) : Cok 74 (C74 N) := cok_of (l := (E74 N).calls) (O := O74 N) (cok_cons (S101 N) cok_nil) rfl Tryz.func74 rfl (by kernel_rfl) (by kernel_rfl)

-- function 46
def A46 : Cods (Int) := (codsOne (codInt .i64))
def R46 : Cod ((Int) × (Int) × Int) := (codTup (codsCons (codInt .i64) (codsCons (codInt .i64) (codsOne (codInt .i64)))))
noncomputable def E46 (N : Nat) : Env := ⟨Tryz.prog, [(45, C45 N), (73, C73 N), (74, C74 N)]⟩
def O46 (N : Nat) : Opts := ⟨N, [(4, ⟨[0, 5, 6], [], [], 0⟩), (7, ⟨[0, 5, 6], [], [], 0⟩)], []⟩
noncomputable def F46 (N : Nat) (a : Int) : Option ((Int) × (Int) × Int) := aTyped (E46 N) (O46 N) Tryz.f46 A46 R46 a
noncomputable def L46_4 (N : Nat) (n : Nat) (x0 : Int) (x1 : Int) (x2 : Int) : Option (Int × Int × Int) :=
  atLoop (E46 N) (O46 N) Tryz.f46 [(1 : Nat), (1 : Nat), (1 : Nat), (0 : Nat), (0 : Nat)] [] n
  { tmps := Tm.of (nat_lit 36) [((0 : Nat), AV.p (PV.int IntKind.i64 x0)), ((5 : Nat), AV.p (PV.int IntKind.i64 x1)), ((6 : Nat), AV.p (PV.int IntKind.i64 x2))], heap := [] }
  fun x => Cod.dec R46 x some
noncomputable def L46_7 (N : Nat) (n : Nat) (x0 : Int) (x1 : Int) (x2 : Int) : Option (Int × Int × Int) :=
  atLoop (E46 N) (O46 N) Tryz.f46 [(1 : Nat), (1 : Nat), (1 : Nat), (1 : Nat), (0 : Nat), (0 : Nat)] [] n
  { tmps := Tm.of (nat_lit 36) [((0 : Nat), AV.p (PV.int IntKind.i64 x0)), ((5 : Nat), AV.p (PV.int IntKind.i64 x1)), ((6 : Nat), AV.p (PV.int IntKind.i64 x2))], heap := [] }
  fun x => Cod.dec R46 x some
theorem L46_4_eq (N : Nat) (n : Nat) (x0 : Int) (x1 : Int) (x2 : Int) : L46_4 N (n + 1) x0 x1 x2 =
    onSome (F73 N x1) fun y1 =>
  aIf (decide (y1 ≤ x0)) (onSome (F73 N x1) fun y2 => L46_4 N n (IntKind.wrap IntKind.i64 (x0 - y2)) (IntKind.wrap IntKind.i64 (x1 + (1 : Int))) x2) (L46_7 N N x0 x1 x2) := by kernel_rfl
theorem L46_4_zero (N : Nat) (x0 : Int) (x1 : Int) (x2 : Int) : L46_4 N 0 x0 x1 x2 = none := by kernel_rfl
theorem L46_7_eq (N : Nat) (n : Nat) (x0 : Int) (x1 : Int) (x2 : Int) : L46_7 N (n + 1) x0 x1 x2 =
    onSome (F74 N (x1, x2)) fun y3 =>
  aIf (decide (y3 ≤ x0)) (onSome (F74 N (x1, x2)) fun y4 => L46_7 N n (IntKind.wrap IntKind.i64 (x0 - y4)) x1 (IntKind.wrap IntKind.i64 (x2 + (1 : Int))))
    (some (x1, x2, IntKind.wrap IntKind.i64 (x0 + (1 : Int)))) := by kernel_rfl
theorem L46_7_zero (N : Nat) (x0 : Int) (x1 : Int) (x2 : Int) : L46_7 N 0 x0 x1 x2 = none := by kernel_rfl
theorem F46_eq (N : Nat) (a0 : Int) : F46 N a0 =
    onSome (F45 N a0) fun y0 => aIf (!y0) (some ((0 : Int), (0 : Int), (0 : Int))) (L46_4 N N a0 (1900 : Int) (1 : Int)) := by kernel_rfl
noncomputable def C46 (N : Nat) : Callee := mkCallee A46 R46 (F46 N)
theorem S46 (N : Nat) : Cok 46 (C46 N) := cok_of (l := (E46 N).calls) (O := O46 N) (cok_cons (S45 N) (cok_cons (S73 N) (cok_cons (S74 N) cok_nil))) rfl Tryz.func46 rfl (by kernel_rfl) (by kernel_rfl)

-- function 75
def A75 : Cods (Int) := (codsOne (codInt .i64))
def R75 : Cod (List UInt8) := codStr
noncomputable def E75 (N : Nat) : Env := ⟨Tryz.prog, [(102, C102 N)]⟩
def O75 (N : Nat) : Opts := ⟨N, [], []⟩
noncomputable def F75 (N : Nat) (a : Int) : Option (List UInt8) := aTyped (E75 N) (O75 N) Tryz.f75 A75 R75 a
theorem F75_eq (N : Nat) (a0 : Int) : F75 N a0 =
    aIf (decide (a0 < (0 : Int)))
  (onSome (F102 N (IntKind.wrap IntKind.u64 (IntKind.wrap IntKind.u64 (IntKind.wrap IntKind.i64 ((0 : Int) - IntKind.wrap IntKind.i64 (a0 + (1 : Int)))) + (1 : Int)))) fun y0 =>
    aGd (decide ((1 : Nat) + List.length y0 ≤ (9223372036854775807 : Nat))) (some ((45 : UInt8) :: List.append [] y0)))
  (onSome (F102 N (IntKind.wrap IntKind.u64 a0)) fun y1 => some y1) := by kernel_rfl
noncomputable def C75 (N : Nat) : Callee := mkCallee A75 R75 (F75 N)
theorem S75 (N : Nat) : Cok 75 (C75 N) := cok_of (l := (E75 N).calls) (O := O75 N) (cok_cons (S102 N) cok_nil) rfl Tryz.func75 rfl (by kernel_rfl) (by kernel_rfl)

-- function 47
def A47 : Cods ((Int) × Int) := (codsCons (codInt .i64) (codsOne (codInt .i64)))
def R47 : Cod (List UInt8) := codStr
noncomputable def E47 (N : Nat) : Env := ⟨Tryz.prog, [(75, C75 N)]⟩
def O47 (N : Nat) : Opts := ⟨N, [(2, ⟨[1, 5], [], [], 0⟩)], []⟩
noncomputable def F47 (N : Nat) (a : (Int) × Int) : Option (List UInt8) := aTyped (E47 N) (O47 N) Tryz.f47 A47 R47 a
noncomputable def L47_2 (N : Nat) (n : Nat) (x0 : Int) (x1 : List UInt8) : Option (List UInt8) :=
  atLoop (E47 N) (O47 N) Tryz.f47 [(1 : Nat), (1 : Nat), (0 : Nat), (0 : Nat)] [] n
  { tmps := Tm.of (nat_lit 15) [((1 : Nat), AV.p (PV.int IntKind.i64 x0)), ((5 : Nat), AV.p (PV.str x1))], heap := [] } fun x => Cod.dec R47 x some
theorem L47_2_eq (N : Nat) (n : Nat) (x0 : Int) (x1 : List UInt8) : L47_2 N (n + 1) x0 x1 =
    aIf (decide (Int.ofNat (List.length x1) < x0)) (aGd (decide ((1 : Nat) + List.length x1 ≤ (9223372036854775807 : Nat))) (L47_2 N n x0 ((48 : UInt8) :: List.append [] x1)))
  (some x1) := by kernel_rfl
theorem L47_2_zero (N : Nat) (x0 : Int) (x1 : List UInt8) : L47_2 N 0 x0 x1 = none := by kernel_rfl
theorem F47_eq (N : Nat) (a0 : Int) (a1 : Int) : F47 N (a0, a1) =
    onSome (F75 N a0) fun y0 => L47_2 N N a1 y0 := by kernel_rfl
noncomputable def C47 (N : Nat) : Callee := mkCallee A47 R47 (F47 N)
theorem S47 (N : Nat) : Cok 47 (C47 N) := cok_of (l := (E47 N).calls) (O := O47 N) (cok_cons (S75 N) cok_nil) rfl Tryz.func47 rfl (by kernel_rfl) (by kernel_rfl)

-- function 22
def A22 : Cods (Int) := (codsOne (codInt .i64))
def R22 : Cod (List UInt8) := codStr
noncomputable def E22 (N : Nat) : Env := ⟨Tryz.prog, [(45, C45 N), (46, C46 N), (47, C47 N)]⟩
def O22 (N : Nat) : Opts := ⟨N, [], []⟩
noncomputable def F22 (N : Nat) (a : Int) : Option (List UInt8) := aTyped (E22 N) (O22 N) Tryz.f22 A22 R22 a
theorem F22_eq (N : Nat) (a0 : Int) : F22 N a0 =
    onSome (F45 N a0) fun y0 =>
  aIf (!y0) (some [])
    (onSome (F46 N a0) fun y1 =>
      onSome (F47 N (Prod.fst y1, (4 : Int))) fun y2 =>
        aGd (decide (List.length y2 + (1 : Nat) ≤ (9223372036854775807 : Nat)))
          (onSome (F47 N (Prod.fst (Prod.snd y1), (2 : Int))) fun y3 =>
            aGd (decide (List.length (y2 ++ [(45 : UInt8)]) + List.length y3 ≤ (9223372036854775807 : Nat)))
              (aGd (decide (List.length (y2 ++ [(45 : UInt8)] ++ y3) + (1 : Nat) ≤ (9223372036854775807 : Nat)))
                (onSome (F47 N (Prod.snd (Prod.snd y1), (2 : Int))) fun y4 =>
                  aGd (decide (List.length (y2 ++ [(45 : UInt8)] ++ y3 ++ [(45 : UInt8)]) + List.length y4 ≤ (9223372036854775807 : Nat)))
                    (some (y2 ++ [(45 : UInt8)] ++ y3 ++ [(45 : UInt8)] ++ y4)))))) := by kernel_rfl
noncomputable def C22 (N : Nat) : Callee := mkCallee A22 R22 (F22 N)
theorem S22 (N : Nat) : Cok 22 (C22 N) := cok_of (l := (E22 N).calls) (O := O22 N) (cok_cons (S45 N) (cok_cons (S46 N) (cok_cons (S47 N) cok_nil))) rfl Tryz.func22 rfl (by kernel_rfl) (by kernel_rfl)

-- function 77
def A77 : Cods (((Int) × (Int) × Int) × List PV) := (codsCons (codAgg (codsCons (codInt .i64) (codsCons (codInt .i64) (codsOne (codInt .i64))))) (codsOne (codSl 2)))
def R77 : Cod (Bool) := codBool
noncomputable def E77 (N : Nat) : Env := ⟨Tryz.prog, [(71, C71 N), (76, C76 N), (72, C72 N)]⟩
def O77 (N : Nat) : Opts := ⟨N, [], []⟩
noncomputable def F77 (N : Nat) (a : ((Int) × (Int) × Int) × List PV) : Option (Bool) := aTyped (E77 N) (O77 N) Tryz.f77 A77 R77 a
theorem F77_eq (N : Nat) (a0 : Int × Int × Int) (a1 : List PV) : F77 N (a0, a1) =
    onSome (F71 N (Prod.fst a0, Prod.fst (Prod.snd a0), Prod.snd (Prod.snd a0))) fun y0 =>
  onSome (F76 N ((Prod.fst y0, Prod.snd y0), a1)) fun y1 =>
    aIf y1
      (onSome (F71 N (Prod.fst a0, Prod.fst (Prod.snd a0), Prod.snd (Prod.snd a0))) fun y2 =>
        onSome (F72 N (Prod.snd (Prod.snd a0), (Prod.fst y2, Prod.snd y2), a1)) fun y3 => some y3)
      (some false) := by kernel_rfl
noncomputable def C77 (N : Nat) : Callee := mkCallee A77 R77 (F77 N)
theorem S77 (N : Nat) : Cok 77 (C77 N) := cok_of (l := (E77 N).calls) (O := O77 N) (cok_cons (S71 N) (cok_cons (S76 N) (cok_cons (S72 N) cok_nil))) rfl Tryz.func77 rfl (by kernel_rfl) (by kernel_rfl)

-- function 103
def A103 : Cods (Int) := (codsOne (codInt .i64))
def R103 : Cod (Int) := (codInt .i64)
noncomputable def E103 (N : Nat) : Env := ⟨Tryz.prog, []⟩
def O103 (N : Nat) : Opts := ⟨N, [], []⟩
noncomputable def F103 (N : Nat) (a : Int) : Option (Int) := aTyped (E103 N) (O103 N) Tryz.f103 A103 R103 a
theorem F103_eq (N : Nat) (a0 : Int) : F103 N a0 =
    some (min (max a0 (0 : Int)) (9 : Int)) := by kernel_rfl
noncomputable def C103 (N : Nat) : Callee := mkCallee A103 R103 (F103 N)
theorem S103 (N : Nat) : Cok 103 (C103 N) := cok_of (l := (E103 N).calls) (O := O103 N) cok_nil rfl Tryz.func103 rfl (by kernel_rfl) (by kernel_rfl)

-- function 104
def A104 : Cods (List UInt8) := (codsOne codStr)
def R104 : Cod ((List UInt8) × Bool) := (codTup (codsCons codStr (codsOne codBool)))
noncomputable def E104 (N : Nat) : Env := ⟨Tryz.prog, []⟩
def O104 (N : Nat) : Opts := ⟨N, [], []⟩
noncomputable def F104 (N : Nat) (a : List UInt8) : Option ((List UInt8) × Bool) := aTyped (E104 N) (O104 N) Tryz.f104 A104 R104 a
theorem F104_eq (N : Nat) (a0 : List UInt8) : F104 N a0 =
    aIf (decide ((0 : Int) < Int.ofNat (List.length a0)))
  (onGet a0 (0 : Int) fun z0 =>
    aIf (Int.ofNat (UInt8.toNat z0) == (45 : Int)) (aGd (decide ((1 : Int) ≤ Int.ofNat (List.length a0))) (some (List.drop (1 : Nat) (List.take (List.length a0) a0), true)))
      (some (a0, false)))
  (some (a0, false)) := by kernel_rfl
noncomputable def C104 (N : Nat) : Callee := mkCallee A104 R104 (F104 N)
theorem S104 (N : Nat) : Cok 104 (C104 N) := cok_of (l := (E104 N).calls) (O := O104 N) cok_nil rfl Tryz.func104 rfl (by kernel_rfl) (by kernel_rfl)

-- function 78
def A78 : Cods ((Int) × Int) := (codsCons (codInt .i64) (codsOne (codInt .i64)))
def R78 : Cod (List UInt8) := codStr
noncomputable def E78 (N : Nat) : Env := ⟨Tryz.prog, [(103, C103 N), (75, C75 N), (104, C104 N)]⟩
def O78 (N : Nat) : Opts := ⟨N, [(5, ⟨[5, 6, 7], [], [], 0⟩)], []⟩
noncomputable def F78 (N : Nat) (a : (Int) × Int) : Option (List UInt8) := aTyped (E78 N) (O78 N) Tryz.f78 A78 R78 a
noncomputable def L78_5 (N : Nat) (n : Nat) (x0 : Int) (x1 : List UInt8) (x2 : Bool) : Option (List UInt8) :=
  atLoop (E78 N) (O78 N) Tryz.f78 [(1 : Nat), (1 : Nat), (1 : Nat), (1 : Nat), (0 : Nat), (0 : Nat)] [] n
  { tmps := Tm.of (nat_lit 44) [((5 : Nat), AV.p (PV.int IntKind.i64 x0)), ((6 : Nat), AV.p (PV.str x1)), ((7 : Nat), AV.p (PV.bool x2))], heap := [] } fun x => Cod.dec R78 x some
theorem L78_5_eq (N : Nat) (n : Nat) (x0 : Int) (x1 : List UInt8) (x2 : Bool) : L78_5 N (n + 1) x0 x1 x2 =
    aIf (decide (Int.ofNat (List.length x1) ≤ x0)) (aGd (decide ((1 : Nat) + List.length x1 ≤ (9223372036854775807 : Nat))) (L78_5 N n x0 ((48 : UInt8) :: List.append [] x1) x2))
  (aGd (decide ((0 : Int) ≤ IntKind.wrap IntKind.i64 (Int.ofNat (List.length x1) - x0)))
    (aGd (decide (IntKind.wrap IntKind.i64 (Int.ofNat (List.length x1) - x0) ≤ Int.ofNat (List.length x1)))
      (aGd
        (decide
          (List.length (List.drop (0 : Nat) (List.take (Int.toNat (IntKind.wrap IntKind.i64 (Int.ofNat (List.length x1) - x0))) x1)) + (1 : Nat) ≤ (9223372036854775807 : Nat)))
        (aGd (decide ((0 : Int) ≤ IntKind.wrap IntKind.i64 (Int.ofNat (List.length x1) - x0)))
          (aGd (decide (IntKind.wrap IntKind.i64 (Int.ofNat (List.length x1) - x0) ≤ Int.ofNat (List.length x1)))
            (aGd
              (decide
                (List.length (List.drop (0 : Nat) (List.take (Int.toNat (IntKind.wrap IntKind.i64 (Int.ofNat (List.length x1) - x0))) x1) ++ [(46 : UInt8)]) +
                    List.length (List.drop (Int.toNat (IntKind.wrap IntKind.i64 (Int.ofNat (List.length x1) - x0))) (List.take (List.length x1) x1)) ≤
                  (9223372036854775807 : Nat)))
              (aIf x2
                (aGd
                  (decide
                    ((1 : Nat) +
                        List.length
                          (List.drop (0 : Nat) (List.take (Int.toNat (IntKind.wrap IntKind.i64 (Int.ofNat (List.length x1) - x0))) x1) ++ [(46 : UInt8)] ++
                            List.drop (Int.toNat (IntKind.wrap IntKind.i64 (Int.ofNat (List.length x1) - x0))) (List.take (List.length x1) x1)) ≤
                      (9223372036854775807 : Nat)))
                  (some
                    ((45 : UInt8) ::
                      List.append []
                        (List.drop (0 : Nat) (List.take (Int.toNat (IntKind.wrap IntKind.i64 (Int.ofNat (List.length x1) - x0))) x1) ++ [(46 : UInt8)] ++
                          List.drop (Int.toNat (IntKind.wrap IntKind.i64 (Int.ofNat (List.length x1) - x0))) (List.take (List.length x1) x1)))))
                (some
                  (List.drop (0 : Nat) (List.take (Int.toNat (IntKind.wrap IntKind.i64 (Int.ofNat (List.length x1) - x0))) x1) ++ [(46 : UInt8)] ++
                    List.drop (Int.toNat (IntKind.wrap IntKind.i64 (Int.ofNat (List.length x1) - x0))) (List.take (List.length x1) x1)))))))))) := by kernel_rfl
theorem L78_5_zero (N : Nat) (x0 : Int) (x1 : List UInt8) (x2 : Bool) : L78_5 N 0 x0 x1 x2 = none := by kernel_rfl
theorem F78_eq (N : Nat) (a0 : Int) (a1 : Int) : F78 N (a0, a1) =
    onSome (F103 N a1) fun y0 =>
  aIf (y0 == (0 : Int)) (onSome (F75 N a0) fun y1 => some y1) (onSome (F75 N a0) fun y2 => onSome (F104 N y2) fun y3 => L78_5 N N y0 (Prod.fst y3) (Prod.snd y3)) := by kernel_rfl
noncomputable def C78 (N : Nat) : Callee := mkCallee A78 R78 (F78 N)
theorem S78 (N : Nat) : Cok 78 (C78 N) := cok_of (l := (E78 N).calls) (O := O78 N) (cok_cons (S103 N) (cok_cons (S75 N) (cok_cons (S104 N) cok_nil))) rfl Tryz.func78 rfl (by kernel_rfl) (by kernel_rfl)

-- function 48
def A48 : Cods (((Int) × (Int) × Int) × List PV) := (codsCons (codAgg (codsCons (codInt .i64) (codsCons (codInt .i64) (codsOne (codInt .i64))))) (codsOne (codSl 2)))
def R48 : Cod ((List UInt8) × Int) := (codTup (codsCons codStr (codsOne (codInt .i64))))
noncomputable def E48 (N : Nat) : Env := ⟨Tryz.prog, [(71, C71 N), (76, C76 N), (77, C77 N), (75, C75 N), (78, C78 N), (22, C22 N)]⟩
def O48 (N : Nat) : Opts := ⟨N, [], []⟩
noncomputable def F48 (N : Nat) (a : ((Int) × (Int) × Int) × List PV) : Option ((List UInt8) × Int) := aTyped (E48 N) (O48 N) Tryz.f48 A48 R48 a
theorem F48_eq (N : Nat) (a0 : Int × Int × Int) (a1 : List PV) : F48 N (a0, a1) =
    onSome (F71 N (Prod.fst a0, Prod.fst (Prod.snd a0), Prod.snd (Prod.snd a0))) fun y0 =>
  onSome (F76 N ((Prod.fst y0, Prod.snd y0), a1)) fun y1 =>
    aIf (!y1) (some ([], (8 : Int)))
      (onSome (F77 N ((Prod.fst a0, Prod.fst (Prod.snd a0), Prod.snd (Prod.snd a0)), a1)) fun y2 =>
        aIf (!y2) (some ([], (3 : Int)))
          (aIf (Prod.fst a0 == (1 : Int))
            (aIf (Prod.snd (Prod.snd a0) == (0 : Int)) (some ([(102 : UInt8), (97 : UInt8), (108 : UInt8), (115 : UInt8), (101 : UInt8)], (0 : Int)))
              (some ([(116 : UInt8), (114 : UInt8), (117 : UInt8), (101 : UInt8)], (0 : Int))))
            (aIf (Prod.fst a0 == (2 : Int)) (onSome (F75 N (Prod.snd (Prod.snd a0))) fun y3 => some (y3, (0 : Int)))
              (aIf (Prod.fst a0 == (3 : Int)) (onSome (F78 N (Prod.snd (Prod.snd a0), (2 : Int))) fun y4 => some (y4, (0 : Int)))
                (aIf (Prod.fst a0 == (4 : Int))
                  (onSome (F78 N (Prod.snd (Prod.snd a0), (4 : Int))) fun y5 =>
                    aGd (decide (List.length y5 + (1 : Nat) ≤ (9223372036854775807 : Nat))) (some (y5 ++ [(37 : UInt8)], (0 : Int))))
                  (aIf (Prod.fst a0 == (5 : Int)) (onSome (F22 N (Prod.snd (Prod.snd a0))) fun y6 => some (y6, (0 : Int)))
                    (onGet a1 (Prod.fst (Prod.snd a0)) fun z7 =>
                      onSome (PV.cells z7)[(1 : Nat)]? fun y8 =>
                        onSl (1 : Nat) y8 fun l9 => onGet l9 (Prod.snd (Prod.snd a0)) fun z10 => onStr z10 fun u11 => some (u11, (0 : Int))))))))) := by kernel_rfl
noncomputable def C48 (N : Nat) : Callee := mkCallee A48 R48 (F48 N)
theorem S48 (N : Nat) : Cok 48 (C48 N) := cok_of (l := (E48 N).calls) (O := O48 N) (cok_cons (S71 N) (cok_cons (S76 N) (cok_cons (S77 N) (cok_cons (S75 N) (cok_cons (S78 N) (cok_cons (S22 N) cok_nil)))))) rfl Tryz.func48 rfl (by kernel_rfl) (by kernel_rfl)

-- function 23
def A23 : Cods (((List PV) × (List PV) × List PV) × (List UInt8) × List PV) := (codsCons (codAgg (codsCons (codSl 2) (codsCons (codSl 6) (codsOne (codSl 5))))) (codsCons codStr (codsOne (codSl 3))))
def R23 : Cod (List UInt8) := codStr
noncomputable def E23 (N : Nat) : Env := ⟨Tryz.prog, [(48, C48 N)]⟩
def O23 (N : Nat) : Opts := ⟨N, [(3, ⟨[2, 3, 7, 8], [], [], 1⟩)], []⟩
noncomputable def F23 (N : Nat) (a : ((List PV) × (List PV) × List PV) × (List UInt8) × List PV) : Option (List UInt8) := aTyped (E23 N) (O23 N) Tryz.f23 A23 R23 a
noncomputable def L23_3 (N : Nat) (n : Nat) (x0 : List PV) (x1 : List UInt8) (x2 : Int) (x3 : List PV) (x4 : List PV) (x5 : List PV) : Option (List UInt8) :=
  atLoop (E23 N) (O23 N) Tryz.f23 [(1 : Nat), (1 : Nat), (0 : Nat), (1 : Nat), (0 : Nat)] [] n
  {
    tmps :=
      Tm.of (nat_lit 34)
        [((2 : Nat), AV.p (PV.sl (3 : Nat) x0)), ((3 : Nat), AV.box (0 : Nat) (0 : Nat)), ((7 : Nat), AV.p (PV.str x1)), ((8 : Nat), AV.p (PV.int IntKind.i64 x2))],
    heap := [Blk.box [AV.p (PV.sl (2 : Nat) x3), AV.p (PV.sl (6 : Nat) x4), AV.p (PV.sl (5 : Nat) x5)]] }
  fun x => Cod.dec R23 x some
theorem L23_3_eq (N : Nat) (n : Nat) (x0 : List PV) (x1 : List UInt8) (x2 : Int) (x3 : List PV) (x4 : List PV) (x5 : List PV) : L23_3 N (n + 1) x0 x1 x2 x3 x4 x5 =
    aIf (decide (x2 < Int.ofNat (List.length x0)))
  (onGet x0 x2 fun z0 =>
    onCons (List.take (3 : Nat) (List.drop (0 : Nat) (PV.cells z0))) fun h1 t2 =>
      onInt IntKind.i64 h1 fun n3 =>
        onCons t2 fun h4 t5 =>
          onInt IntKind.i64 h4 fun n6 =>
            onCons t5 fun h7 t8 =>
              onInt IntKind.i64 h7 fun n9 =>
                onNil t8
                  (onSome (F48 N ((n3, n6, n9), x3)) fun y10 =>
                    aGd (decide (List.length x1 + (1 : Nat) ≤ (9223372036854775807 : Nat)))
                      (aGd (decide (List.length (x1 ++ [(32 : UInt8)]) + List.length (Prod.fst y10) ≤ (9223372036854775807 : Nat)))
                        (L23_3 N n x0 (x1 ++ [(32 : UInt8)] ++ Prod.fst y10) (IntKind.wrap IntKind.i64 (x2 + (1 : Int))) x3 x4 x5))))
  (aGd (decide (List.length x1 + (1 : Nat) ≤ (9223372036854775807 : Nat))) (some (x1 ++ [(10 : UInt8)]))) := by kernel_rfl
theorem L23_3_zero (N : Nat) (x0 : List PV) (x1 : List UInt8) (x2 : Int) (x3 : List PV) (x4 : List PV) (x5 : List PV) : L23_3 N 0 x0 x1 x2 x3 x4 x5 = none := by kernel_rfl
theorem F23_eq (N : Nat) (a0 : List PV × List PV × List PV) (a1 : List UInt8) (a2 : List PV) : F23 N (a0, a1, a2) =
    L23_3 N N a2 a1 (0 : Int) (Prod.fst a0) (Prod.fst (Prod.snd a0)) (Prod.snd (Prod.snd a0)) := by kernel_rfl
noncomputable def C23 (N : Nat) : Callee := mkCallee A23 R23 (F23 N)
theorem S23 (N : Nat) : Cok 23 (C23 N) := cok_of (l := (E23 N).calls) (O := O23 N) (cok_cons (S48 N) cok_nil) rfl Tryz.func23 rfl (by kernel_rfl) (by kernel_rfl)

-- function 10
def A10 : Cods (((List PV) × (List PV) × List PV) × (Int) × (Int) × (List PV) × List PV) := (codsCons (codAgg (codsCons (codSl 2) (codsCons (codSl 6) (codsOne (codSl 5))))) (codsCons (codInt .i64) (codsOne (codAgg (codsCons (codInt .i64) (codsCons (codSl 3) (codsOne (codSl 1))))))))
def R10 : Cod ((List UInt8) × Int) := (codTup (codsCons codStr (codsOne (codInt .i64))))
noncomputable def E10 (N : Nat) : Env := ⟨Tryz.prog, [(21, C21 N), (22, C22 N), (23, C23 N)]⟩
def O10 (N : Nat) : Opts := ⟨N, [(6, ⟨[3, 5, 11, 12], [], [], 2⟩)], []⟩
noncomputable def F10 (N : Nat) (a : ((List PV) × (List PV) × List PV) × (Int) × (Int) × (List PV) × List PV) : Option ((List UInt8) × Int) := aTyped (E10 N) (O10 N) Tryz.f10 A10 R10 a
noncomputable def L10_6 (N : Nat) (n : Nat) (x0 : List UInt8) (x1 : Int) (x2 : List PV) (x3 : List PV) (x4 : List PV) (x5 : Int) (x6 : List PV) (x7 : List PV) : Option (List UInt8 × Int) :=
  atLoop (E10 N) (O10 N) Tryz.f10 [(1 : Nat), (1 : Nat), (1 : Nat), (1 : Nat), (0 : Nat), (1 : Nat), (0 : Nat)] [] n
  {
    tmps :=
      Tm.of (nat_lit 51)
        [((3 : Nat), AV.box (0 : Nat) (0 : Nat)), ((5 : Nat), AV.box (1 : Nat) (0 : Nat)), ((11 : Nat), AV.p (PV.str x0)), ((12 : Nat), AV.p (PV.int IntKind.i64 x1))],
    heap :=
      [Blk.box [AV.p (PV.sl (2 : Nat) x2), AV.p (PV.sl (6 : Nat) x3), AV.p (PV.sl (5 : Nat) x4)],
        Blk.box [AV.p (PV.int IntKind.i64 x5), AV.p (PV.sl (3 : Nat) x6), AV.p (PV.sl (1 : Nat) x7)]] }
  fun x => Cod.dec R10 x some
theorem L10_6_eq (N : Nat) (n : Nat) (x0 : List UInt8) (x1 : Int) (x2 : List PV) (x3 : List PV) (x4 : List PV) (x5 : Int) (x6 : List PV) (x7 : List PV) : L10_6 N (n + 1) x0 x1 x2 x3 x4 x5 x6 x7 =
    aIf (decide (x1 < Int.ofNat (List.length x7)))
  (onGet x7 x1 fun z3 =>
    onSl (3 : Nat) z3 fun l4 =>
      onSome (F23 N ((x2, x3, x4), [(109 : UInt8), (101 : UInt8), (109 : UInt8), (98 : UInt8), (101 : UInt8), (114 : UInt8)], l4)) fun y5 =>
        aGd (decide (List.length x0 + List.length y5 ≤ (9223372036854775807 : Nat))) (L10_6 N n (x0 ++ y5) (IntKind.wrap IntKind.i64 (x1 + (1 : Int))) x2 x3 x4 x5 x6 x7))
  (some (x0, (0 : Int))) := by kernel_rfl
theorem L10_6_zero (N : Nat) (x0 : List UInt8) (x1 : Int) (x2 : List PV) (x3 : List PV) (x4 : List PV) (x5 : Int) (x6 : List PV) (x7 : List PV) : L10_6 N 0 x0 x1 x2 x3 x4 x5 x6 x7 = none := by kernel_rfl
theorem F10_eq (N : Nat) (a0 : List PV × List PV × List PV) (a1 : Int) (a2 : Int) (a3 : List PV) (a4 : List PV) : F10 N (a0, a1, a2, a3, a4) =
    onSome (F21 N ((Prod.fst a0, Prod.fst (Prod.snd a0), Prod.snd (Prod.snd a0)), a1, a2, a3, a4)) fun y0 =>
  aIf (Prod.snd (Prod.snd y0) != (0 : Int)) (some ([], Prod.snd (Prod.snd y0)))
    (onSome (F22 N a2) fun y1 =>
      aGd (decide ((5 : Nat) + List.length y1 ≤ (9223372036854775807 : Nat)))
        (aGd (decide (List.length ((100 : UInt8) :: (97 : UInt8) :: (116 : UInt8) :: (101 : UInt8) :: (32 : UInt8) :: List.append [] y1) + (1 : Nat) ≤ (9223372036854775807 : Nat)))
          (onSome (F23 N ((Prod.fst a0, Prod.fst (Prod.snd a0), Prod.snd (Prod.snd a0)), [(105 : UInt8), (110 : UInt8)], a3)) fun y2 =>
            aGd
              (decide
                (List.length ((100 : UInt8) :: (97 : UInt8) :: (116 : UInt8) :: (101 : UInt8) :: (32 : UInt8) :: List.append (List.append [] y1) [(10 : UInt8)]) + List.length y2 ≤
                  (9223372036854775807 : Nat)))
              (L10_6 N N ((100 : UInt8) :: (97 : UInt8) :: (116 : UInt8) :: (101 : UInt8) :: (32 : UInt8) :: List.append (List.append (List.append [] y1) [(10 : UInt8)]) y2)
                (0 : Int) (Prod.fst a0) (Prod.fst (Prod.snd a0)) (Prod.snd (Prod.snd a0)) a2 a3 a4)))) := by kernel_rfl
noncomputable def C10 (N : Nat) : Callee := mkCallee A10 R10 (F10 N)
theorem S10 (N : Nat) : Cok 10 (C10 N) := cok_of (l := (E10 N).calls) (O := O10 N) (cok_cons (S21 N) (cok_cons (S22 N) (cok_cons (S23 N) cok_nil))) rfl Tryz.func10 rfl (by kernel_rfl) (by kernel_rfl)

-- function 3
def A3 : Cods (((List PV) × (List PV) × List PV) × (Int) × (Int) × (List PV) × List PV) := (codsCons (codAgg (codsCons (codSl 2) (codsCons (codSl 6) (codsOne (codSl 5))))) (codsCons (codInt .i64) (codsOne (codAgg (codsCons (codInt .i64) (codsCons (codSl 3) (codsOne (codSl 1))))))))
def R3 : Cod (Bool) := codBool
noncomputable def E3 (N : Nat) : Env := ⟨Tryz.prog, [(6, C6 N), (7, C7 N), (8, C8 N), (9, C9 N), (10, C10 N)]⟩
def O3 (N : Nat) : Opts := ⟨N, [], []⟩
noncomputable def F3 (N : Nat) (a : ((List PV) × (List PV) × List PV) × (Int) × (Int) × (List PV) × List PV) : Option (Bool) := aTyped (E3 N) (O3 N) Tryz.f3 A3 R3 a
theorem F3_eq (N : Nat) (a0 : List PV × List PV × List PV) (a1 : Int) (a2 : Int) (a3 : List PV) (a4 : List PV) : F3 N (a0, a1, a2, a3, a4) =
    onSome (F6 N (Prod.fst a0, Prod.fst (Prod.snd a0), Prod.snd (Prod.snd a0))) fun y0 =>
  aIf (!y0) (some true)
    (onSome (F7 N (a2, a3, a4)) fun y1 =>
      aIf (!y1) (some true)
        (onSome (F9 N ((Prod.fst a0, Prod.fst (Prod.snd a0), Prod.snd (Prod.snd a0)), a1, a2, a3, a4)) fun y2 =>
          onSome (F10 N ((Prod.fst a0, Prod.fst (Prod.snd a0), Prod.snd (Prod.snd a0)), a1, a2, a3, a4)) fun y3 =>
            aIf (Prod.fst y2 == Prod.fst y3) (aIf (Prod.snd y2 == Prod.snd y3) (some true) (some false)) (some false))) := by kernel_rfl
noncomputable def C3 (N : Nat) : Callee := mkCallee A3 R3 (F3 N)
theorem S3 (N : Nat) : Cok 3 (C3 N) := cok_of (l := (E3 N).calls) (O := O3 N) (cok_cons (S6 N) (cok_cons (S7 N) (cok_cons (S8 N) (cok_cons (S9 N) (cok_cons (S10 N) cok_nil))))) rfl Tryz.func3 rfl (by kernel_rfl) (by kernel_rfl)

-- function 30
def A30 : Cods (List UInt8) := (codsOne codStr)
def R30 : Cod ((List PV) × Int) := (codTup (codsCons (codSl 1) (codsOne (codInt .i64))))
noncomputable def E30 (N : Nat) : Env := ⟨Tryz.prog, []⟩
def O30 (N : Nat) : Opts := ⟨N, [(6, ⟨[0, 4, 5, 6], [], [], 1⟩)], []⟩
noncomputable def F30 (N : Nat) (a : List UInt8) : Option ((List PV) × Int) := aTyped (E30 N) (O30 N) Tryz.f30 A30 R30 a
noncomputable def L30_6 (N : Nat) (n : Nat) (x0 : List UInt8) (x1 : Int) (x2 : Int) (x3 : List PV) : Option (List PV × Int) :=
  atLoop (E30 N) (O30 N) Tryz.f30 [(1 : Nat), (1 : Nat), (1 : Nat), (1 : Nat), (0 : Nat), (1 : Nat), (0 : Nat)] [] n
  { tmps := Tm.of (nat_lit 51) [((0 : Nat), AV.p (PV.str x0)), ((4 : Nat), AV.own (0 : Nat)), ((5 : Nat), AV.p (PV.int IntKind.i64 x1)), ((6 : Nat), AV.p (PV.int IntKind.i64 x2))],
    heap := [Blk.row (9 : Nat) (1 : Nat) x3] }
  fun x => Cod.dec R30 x some
theorem L30_6_eq (N : Nat) (n : Nat) (x0 : List UInt8) (x1 : Int) (x2 : Int) (x3 : List PV) : L30_6 N (n + 1) x0 x1 x2 x3 =
    aIf (decide (x2 < Int.ofNat (List.length x0)))
  (onGet x0 x2 fun z0 =>
    aIf (decide (Int.ofNat (UInt8.toNat z0) < (32 : Int)))
      (aIf (Int.ofNat (UInt8.toNat z0) != (9 : Int))
        (aIf (Int.ofNat (UInt8.toNat z0) != (10 : Int)) (some ([], (2 : Int)))
          (aIf (decide ((126 : Int) < Int.ofNat (UInt8.toNat z0))) (some ([], (2 : Int)))
            (aIf (Int.ofNat (UInt8.toNat z0) == (10 : Int))
              (aGd (decide ((0 : Int) ≤ x2))
                (aGd (decide (x2 ≤ Int.ofNat (List.length x0)))
                  (aGd (decide ((0 : Int) ≤ x1))
                    (aGd (decide (x1 ≤ Int.ofNat (Int.toNat x2)))
                      (aGd (decide ((List.length x3 + (1 : Nat)) * (17 : Nat) ≤ (140737488355328 : Nat)))
                        (L30_6 N n x0 (IntKind.wrap IntKind.i64 (x2 + (1 : Int))) (IntKind.wrap IntKind.i64 (x2 + (1 : Int)))
                          (x3 ++ [PV.str (List.drop (Int.toNat x1) (List.take (Int.toNat x2) x0))])))))))
              (L30_6 N n x0 x1 (IntKind.wrap IntKind.i64 (x2 + (1 : Int))) x3))))
        (aIf (decide ((126 : Int) < Int.ofNat (UInt8.toNat z0))) (some ([], (2 : Int)))
          (aIf (Int.ofNat (UInt8.toNat z0) == (10 : Int))
            (aGd (decide ((0 : Int) ≤ x2))
              (aGd (decide (x2 ≤ Int.ofNat (List.length x0)))
                (aGd (decide ((0 : Int) ≤ x1))
                  (aGd (decide (x1 ≤ Int.ofNat (Int.toNat x2)))
                    (aGd (decide ((List.length x3 + (1 : Nat)) * (17 : Nat) ≤ (140737488355328 : Nat)))
                      (L30_6 N n x0 (IntKind.wrap IntKind.i64 (x2 + (1 : Int))) (IntKind.wrap IntKind.i64 (x2 + (1 : Int)))
                        (x3 ++ [PV.str (List.drop (Int.toNat x1) (List.take (Int.toNat x2) x0))])))))))
            (L30_6 N n x0 x1 (IntKind.wrap IntKind.i64 (x2 + (1 : Int))) x3))))
      (aIf (decide ((126 : Int) < Int.ofNat (UInt8.toNat z0))) (some ([], (2 : Int)))
        (aIf (Int.ofNat (UInt8.toNat z0) == (10 : Int))
          (aGd (decide ((0 : Int) ≤ x2))
            (aGd (decide (x2 ≤ Int.ofNat (List.length x0)))
              (aGd (decide ((0 : Int) ≤ x1))
                (aGd (decide (x1 ≤ Int.ofNat (Int.toNat x2)))
                  (aGd (decide ((List.length x3 + (1 : Nat)) * (17 : Nat) ≤ (140737488355328 : Nat)))
                    (L30_6 N n x0 (IntKind.wrap IntKind.i64 (x2 + (1 : Int))) (IntKind.wrap IntKind.i64 (x2 + (1 : Int)))
                      (x3 ++ [PV.str (List.drop (Int.toNat x1) (List.take (Int.toNat x2) x0))])))))))
          (L30_6 N n x0 x1 (IntKind.wrap IntKind.i64 (x2 + (1 : Int))) x3))))
  (aIf (decide (x1 < Int.ofNat (List.length x0))) (some ([], (2 : Int))) (some (x3, (0 : Int)))) := by kernel_rfl
theorem L30_6_zero (N : Nat) (x0 : List UInt8) (x1 : Int) (x2 : Int) (x3 : List PV) : L30_6 N 0 x0 x1 x2 x3 = none := by kernel_rfl
theorem F30_eq (N : Nat) (a0 : List UInt8) : F30 N a0 =
    aIf (decide ((65536 : Int) < Int.ofNat (List.length a0))) (some ([], (4 : Int))) (L30_6 N N a0 (0 : Int) (0 : Int) []) := by kernel_rfl
noncomputable def C30 (N : Nat) : Callee := mkCallee A30 R30 (F30 N)
theorem S30 (N : Nat) : Cok 30 (C30 N) := cok_of (l := (E30 N).calls) (O := O30 N) cok_nil rfl Tryz.func30 rfl (by kernel_rfl) (by kernel_rfl)

-- function 55
def A55 : Cods (List UInt8) := (codsOne codStr)
def R55 : Cod (Int) := (codInt .i64)
noncomputable def E55 (N : Nat) : Env := ⟨Tryz.prog, []⟩
def O55 (N : Nat) : Opts := ⟨N, [(3, ⟨[0, 3, 4], [], [], 0⟩)], []⟩
noncomputable def F55 (N : Nat) (a : List UInt8) : Option (Int) := aTyped (E55 N) (O55 N) Tryz.f55 A55 R55 a
noncomputable def L55_3 (N : Nat) (n : Nat) (x0 : List UInt8) (x1 : Int) (x2 : Int) : Option Int :=
  atLoop (E55 N) (O55 N) Tryz.f55 [(1 : Nat), (1 : Nat), (0 : Nat), (1 : Nat), (0 : Nat)] [] n
  { tmps := Tm.of (nat_lit 30) [((0 : Nat), AV.p (PV.str x0)), ((3 : Nat), AV.p (PV.int IntKind.i64 x1)), ((4 : Nat), AV.p (PV.int IntKind.i64 x2))], heap := [] } fun x =>
  Cod.dec R55 x some
theorem L55_3_eq (N : Nat) (n : Nat) (x0 : List UInt8) (x1 : Int) (x2 : Int) : L55_3 N (n + 1) x0 x1 x2 =
    aIf (decide (x2 < Int.ofNat (List.length x0)))
  (onGet x0 x2 fun z0 =>
    aIf (decide (Int.ofNat (UInt8.toNat z0) < (48 : Int))) (some (-1 : Int))
      (onGet x0 x2 fun z1 =>
        aIf (decide ((57 : Int) < Int.ofNat (UInt8.toNat z1))) (some (-1 : Int))
          (onGet x0 x2 fun z2 =>
            L55_3 N n x0
              (IntKind.wrap IntKind.i64 (IntKind.wrap IntKind.i64 ((10 : Int) * x1) + IntKind.wrap IntKind.i64 (IntKind.wrap IntKind.u8 (Int.ofNat (UInt8.toNat z2) - (48 : Int)))))
              (IntKind.wrap IntKind.i64 (x2 + (1 : Int))))))
  (some x1) := by kernel_rfl
theorem L55_3_zero (N : Nat) (x0 : List UInt8) (x1 : Int) (x2 : Int) : L55_3 N 0 x0 x1 x2 = none := by kernel_rfl
theorem F55_eq (N : Nat) (a0 : List UInt8) : F55 N a0 =
    L55_3 N N a0 (0 : Int) (0 : Int) := by kernel_rfl
noncomputable def C55 (N : Nat) : Callee := mkCallee A55 R55 (F55 N)
theorem S55 (N : Nat) : Cok 55 (C55 N) := cok_of (l := (E55 N).calls) (O := O55 N) cok_nil rfl Tryz.func55 rfl (by kernel_rfl) (by kernel_rfl)

-- function 56
def A56 : Cods ((Int) × (Int) × Int) := (codsCons (codInt .i64) (codsCons (codInt .i64) (codsOne (codInt .i64))))
def R56 : Cod ((Int) × Int) := (codTup (codsCons (codInt .i64) (codsOne (codInt .i64))))
noncomputable def E56 (N : Nat) : Env := ⟨Tryz.prog, [(74, C74 N), (73, C73 N)]⟩
def O56 (N : Nat) : Opts := ⟨N, [(5, ⟨[0, 1, 8, 9], [], [], 0⟩), (9, ⟨[0, 1, 8, 10], [], [], 0⟩)], []⟩
noncomputable def F56 (N : Nat) (a : (Int) × (Int) × Int) : Option ((Int) × Int) := aTyped (E56 N) (O56 N) Tryz.f56 A56 R56 a
noncomputable def L56_5 (N : Nat) (n : Nat) (x0 : Int) (x1 : Int) (x2 : Int) (x3 : Int) : Option (Int × Int) :=
  atLoop (E56 N) (O56 N) Tryz.f56 [(1 : Nat), (1 : Nat), (1 : Nat), (0 : Nat), (1 : Nat), (0 : Nat)] [] n
  {
    tmps :=
      Tm.of (nat_lit 50)
        [((0 : Nat), AV.p (PV.int IntKind.i64 x0)), ((1 : Nat), AV.p (PV.int IntKind.i64 x1)), ((8 : Nat), AV.p (PV.int IntKind.i64 x2)),
          ((9 : Nat), AV.p (PV.int IntKind.i64 x3))],
    heap := [] }
  fun x => Cod.dec R56 x some
noncomputable def L56_9 (N : Nat) (n : Nat) (x0 : Int) (x1 : Int) (x2 : Int) (x3 : Int) : Option (Int × Int) :=
  atLoop (E56 N) (O56 N) Tryz.f56 [(1 : Nat), (1 : Nat), (1 : Nat), (1 : Nat), (0 : Nat), (1 : Nat), (0 : Nat)] [] n
  {
    tmps :=
      Tm.of (nat_lit 50)
        [((0 : Nat), AV.p (PV.int IntKind.i64 x0)), ((1 : Nat), AV.p (PV.int IntKind.i64 x1)), ((8 : Nat), AV.p (PV.int IntKind.i64 x2)),
          ((10 : Nat), AV.p (PV.int IntKind.i64 x3))],
    heap := [] }
  fun x => Cod.dec R56 x some
theorem L56_5_eq (N : Nat) (n : Nat) (x0 : Int) (x1 : Int) (x2 : Int) (x3 : Int) : L56_5 N (n + 1) x0 x1 x2 x3 =
    aIf (decide (x3 < x0)) (onSome (F73 N x3) fun y1 => L56_5 N n x0 x1 (IntKind.wrap IntKind.i64 (x2 + y1)) (IntKind.wrap IntKind.i64 (x3 + (1 : Int)))) (L56_9 N N x0 x1 x2 (1 : Int)) := by kernel_rfl
theorem L56_5_zero (N : Nat) (x0 : Int) (x1 : Int) (x2 : Int) (x3 : Int) : L56_5 N 0 x0 x1 x2 x3 = none := by kernel_rfl
theorem L56_9_eq (N : Nat) (n : Nat) (x0 : Int) (x1 : Int) (x2 : Int) (x3 : Int) : L56_9 N (n + 1) x0 x1 x2 x3 =
    aIf (decide (x3 < x1)) (onSome (F74 N (x0, x3)) fun y2 => L56_9 N n x0 x1 (IntKind.wrap IntKind.i64 (x2 + y2)) (IntKind.wrap IntKind.i64 (x3 + (1 : Int)))) (some (x2, (0 : Int))) := by kernel_rfl
theorem L56_9_zero (N : Nat) (x0 : Int) (x1 : Int) (x2 : Int) (x3 : Int) : L56_9 N 0 x0 x1 x2 x3 = none := by kernel_rfl
theorem F56_eq (N : Nat) (a0 : Int) (a1 : Int) (a2 : Int) : F56 N (a0, a1, a2) =
    aIf (decide (a0 < (1900 : Int))) (some ((0 : Int), (3 : Int)))
  (aIf (decide ((2199 : Int) < a0)) (some ((0 : Int), (3 : Int)))
    (aIf (decide (a2 < (1 : Int))) (some ((0 : Int), (3 : Int)))
      (onSome (F74 N (a0, a1)) fun y0 => aIf (decide (y0 < a2)) (some ((0 : Int), (3 : Int))) (L56_5 N N a0 a1 (IntKind.wrap IntKind.i64 (a2 - (1 : Int))) (1900 : Int))))) := by kernel_rfl
noncomputable def C56 (N : Nat) : Callee := mkCallee A56 R56 (F56 N)
theorem S56 (N : Nat) : Cok 56 (C56 N) := cok_of (l := (E56 N).calls) (O := O56 N) (cok_cons (S74 N) (cok_cons (S73 N) cok_nil)) rfl Tryz.func56 rfl (by kernel_rfl) (by kernel_rfl)

-- function 31
def A31 : Cods (List UInt8) := (codsOne codStr)
def R31 : Cod ((Int) × Int) := (codTup (codsCons (codInt .i64) (codsOne (codInt .i64))))
noncomputable def E31 (N : Nat) : Env := ⟨Tryz.prog, [(55, C55 N), (56, C56 N)]⟩
def O31 (N : Nat) : Opts := ⟨N, [], []⟩
noncomputable def F31 (N : Nat) (a : List UInt8) : Option ((Int) × Int) := aTyped (E31 N) (O31 N) Tryz.f31 A31 R31 a
theorem F31_eq (N : Nat) (a0 : List UInt8) : F31 N a0 =
    aIf (Int.ofNat (List.length a0) != (10 : Int)) (some ((0 : Int), (2 : Int)))
  (onGet a0 (4 : Int) fun z0 =>
    aIf (Int.ofNat (UInt8.toNat z0) != (45 : Int)) (some ((0 : Int), (2 : Int)))
      (onGet a0 (7 : Int) fun z1 =>
        aIf (Int.ofNat (UInt8.toNat z1) != (45 : Int)) (some ((0 : Int), (2 : Int)))
          (aGd (decide ((4 : Int) ≤ Int.ofNat (List.length a0)))
            (onSome (F55 N (List.drop (0 : Nat) (List.take (4 : Nat) a0))) fun y2 =>
              aIf (decide (y2 < (0 : Int))) (some ((0 : Int), (2 : Int)))
                (aGd (decide ((7 : Int) ≤ Int.ofNat (List.length a0)))
                  (onSome (F55 N (List.drop (5 : Nat) (List.take (7 : Nat) a0))) fun y3 =>
                    aIf (decide (y3 < (0 : Int))) (some ((0 : Int), (2 : Int)))
                      (aGd (decide ((8 : Int) ≤ Int.ofNat (List.length a0)))
                        (onSome (F55 N (List.drop (8 : Nat) (List.take (List.length a0) a0))) fun y4 =>
                          aIf (decide (y4 < (0 : Int))) (some ((0 : Int), (2 : Int)))
                            (aGd (decide ((4 : Int) ≤ Int.ofNat (List.length a0)))
                              (onSome (F55 N (List.drop (0 : Nat) (List.take (4 : Nat) a0))) fun y5 =>
                                aGd (decide ((7 : Int) ≤ Int.ofNat (List.length a0)))
                                  (onSome (F55 N (List.drop (5 : Nat) (List.take (7 : Nat) a0))) fun y6 =>
                                    aGd (decide ((8 : Int) ≤ Int.ofNat (List.length a0)))
                                      (onSome (F55 N (List.drop (8 : Nat) (List.take (List.length a0) a0))) fun y7 =>
                                        onSome (F56 N (y5, y6, y7)) fun y8 => some (Prod.fst y8, Prod.snd y8))))))))))))) := by kernel_rfl
noncomputable def C31 (N : Nat) : Callee := mkCallee A31 R31 (F31 N)
theorem S31 (N : Nat) : Cok 31 (C31 N) := cok_of (l := (E31 N).calls) (O := O31 N) (cok_cons (S55 N) (cok_cons (S56 N) cok_nil)) rfl Tryz.func31 rfl (by kernel_rfl) (by kernel_rfl)

-- function 57
def A57 : Cods (List UInt8) := (codsOne codStr)
def R57 : Cod (List PV) := (codSl 1)
noncomputable def E57 (N : Nat) : Env := ⟨Tryz.prog, []⟩
def O57 (N : Nat) : Opts := ⟨N, [(4, ⟨[0, 3, 4, 5], [(3, 9, 1)], [], 1⟩)], []⟩
noncomputable def F57 (N : Nat) (a : List UInt8) : Option (List PV) := aTyped (E57 N) (O57 N) Tryz.f57 A57 R57 a
noncomputable def L57_4 (N : Nat) (n : Nat) (x0 : List UInt8) (x1 : Int) (x2 : Int) (x3 : List PV) : Option (List PV) :=
  atLoop (E57 N) (O57 N) Tryz.f57 [(1 : Nat), (1 : Nat), (1 : Nat), (0 : Nat), (1 : Nat), (0 : Nat)] [] n
  { tmps := Tm.of (nat_lit 31) [((0 : Nat), AV.p (PV.str x0)), ((3 : Nat), AV.own (0 : Nat)), ((4 : Nat), AV.p (PV.int IntKind.i64 x1)), ((5 : Nat), AV.p (PV.int IntKind.i64 x2))],
    heap := [Blk.row (9 : Nat) (1 : Nat) x3] }
  fun x => Cod.dec R57 x some
theorem L57_4_eq (N : Nat) (n : Nat) (x0 : List UInt8) (x1 : Int) (x2 : Int) (x3 : List PV) : L57_4 N (n + 1) x0 x1 x2 x3 =
    aIf (decide (x2 < Int.ofNat (List.length x0)))
  (onGet x0 x2 fun z0 =>
    aIf (Int.ofNat (UInt8.toNat z0) == (32 : Int))
      (aGd (decide ((0 : Int) ≤ x2))
        (aGd (decide (x2 ≤ Int.ofNat (List.length x0)))
          (aGd (decide ((0 : Int) ≤ x1))
            (aGd (decide (x1 ≤ Int.ofNat (Int.toNat x2)))
              (aGd (decide ((List.length x3 + (1 : Nat)) * (17 : Nat) ≤ (140737488355328 : Nat)))
                (aGd
                  (keptUnder (1 : Nat)
                      [((0 : Nat), AV.p (PV.str x0)), ((3 : Nat), AV.own (0 : Nat)), ((4 : Nat), AV.p (PV.int IntKind.i64 (IntKind.wrap IntKind.i64 (x2 + (1 : Int))))),
                        ((5 : Nat), AV.p (PV.int IntKind.i64 (IntKind.wrap IntKind.i64 (x2 + (1 : Int)))))] &&
                    underH (1 : Nat) (List.take (1 : Nat) [Blk.row (9 : Nat) (1 : Nat) (x3 ++ [PV.str (List.drop (Int.toNat x1) (List.take (Int.toNat x2) x0))])]))
                  (L57_4 N n x0 (IntKind.wrap IntKind.i64 (x2 + (1 : Int))) (IntKind.wrap IntKind.i64 (x2 + (1 : Int)))
                    (x3 ++ [PV.str (List.drop (Int.toNat x1) (List.take (Int.toNat x2) x0))]))))))))
      (aGd
        (keptUnder (1 : Nat)
            [((0 : Nat), AV.p (PV.str x0)), ((3 : Nat), AV.own (0 : Nat)), ((4 : Nat), AV.p (PV.int IntKind.i64 x1)),
              ((5 : Nat), AV.p (PV.int IntKind.i64 (IntKind.wrap IntKind.i64 (x2 + (1 : Int)))))] &&
          underH (1 : Nat) (List.take (1 : Nat) [Blk.row (9 : Nat) (1 : Nat) x3]))
        (L57_4 N n x0 x1 (IntKind.wrap IntKind.i64 (x2 + (1 : Int))) x3)))
  (aGd (decide ((0 : Int) ≤ x1))
    (aGd (decide (x1 ≤ Int.ofNat (List.length x0)))
      (aGd (decide ((List.length x3 + (1 : Nat)) * (17 : Nat) ≤ (140737488355328 : Nat))) (some (x3 ++ [PV.str (List.drop (Int.toNat x1) (List.take (List.length x0) x0))]))))) := by kernel_rfl
theorem L57_4_zero (N : Nat) (x0 : List UInt8) (x1 : Int) (x2 : Int) (x3 : List PV) : L57_4 N 0 x0 x1 x2 x3 = none := by kernel_rfl
theorem F57_eq (N : Nat) (a0 : List UInt8) : F57 N a0 =
    aGd
  (keptUnder (1 : Nat)
      [((0 : Nat), AV.p (PV.str a0)), ((3 : Nat), AV.own (0 : Nat)), ((4 : Nat), AV.p (PV.int IntKind.i64 (0 : Int))), ((5 : Nat), AV.p (PV.int IntKind.i64 (0 : Int)))] &&
    underH (1 : Nat) (List.take (1 : Nat) [Blk.row (9 : Nat) (1 : Nat) []]))
  (L57_4 N N a0 (0 : Int) (0 : Int) []) := by kernel_rfl
noncomputable def C57 (N : Nat) : Callee := mkCallee A57 R57 (F57 N)
theorem S57 (N : Nat) : Cok 57 (C57 N) := cok_of (l := (E57 N).calls) (O := O57 N) cok_nil rfl Tryz.func57 rfl (by kernel_rfl) (by kernel_rfl)

-- function 138
def A138 : Cods (List UInt8) := (codsOne codStr)
def R138 : Cod (Bool) := codBool
noncomputable def E138 (N : Nat) : Env := ⟨Tryz.prog, []⟩
def O138 (N : Nat) : Opts := ⟨N, [(2, ⟨[0, 3], [], [], 0⟩)], []⟩
noncomputable def F138 (N : Nat) (a : List UInt8) : Option (Bool) := aTyped (E138 N) (O138 N) Tryz.f138 A138 R138 a
noncomputable def L138_2 (N : Nat) (n : Nat) (x0 : List UInt8) (x1 : Int) : Option Bool :=
  atLoop (E138 N) (O138 N) Tryz.f138 [(1 : Nat), (0 : Nat), (1 : Nat), (0 : Nat)] [] n
  { tmps := Tm.of (nat_lit 23) [((0 : Nat), AV.p (PV.str x0)), ((3 : Nat), AV.p (PV.int IntKind.i64 x1))], heap := [] } fun x => Cod.dec R138 x some
theorem L138_2_eq (N : Nat) (n : Nat) (x0 : List UInt8) (x1 : Int) : L138_2 N (n + 1) x0 x1 =
    aIf (decide (x1 < Int.ofNat (List.length x0)))
  (onGet x0 x1 fun z0 =>
    aIf (decide (Int.ofNat (UInt8.toNat z0) < (48 : Int))) (some false)
      (onGet x0 x1 fun z1 => aIf (decide ((57 : Int) < Int.ofNat (UInt8.toNat z1))) (some false) (L138_2 N n x0 (IntKind.wrap IntKind.i64 (x1 + (1 : Int))))))
  (some (decide ((0 : Int) < Int.ofNat (List.length x0)))) := by kernel_rfl
theorem L138_2_zero (N : Nat) (x0 : List UInt8) (x1 : Int) : L138_2 N 0 x0 x1 = none := by kernel_rfl
theorem F138_eq (N : Nat) (a0 : List UInt8) : F138 N a0 =
    L138_2 N N a0 (0 : Int) := by kernel_rfl
noncomputable def C138 (N : Nat) : Callee := mkCallee A138 R138 (F138 N)
theorem S138 (N : Nat) : Cok 138 (C138 N) := cok_of (l := (E138 N).calls) (O := O138 N) cok_nil rfl Tryz.func138 rfl (by kernel_rfl) (by kernel_rfl)

-- function 139
def A139 : Cods ((List UInt8) × Bool) := (codsCons codStr (codsOne codBool))
def R139 : Cod ((Int) × Int) := (codTup (codsCons (codInt .i64) (codsOne (codInt .i64))))
noncomputable def E139 (N : Nat) : Env := ⟨Tryz.prog, []⟩
def O139 (N : Nat) : Opts := ⟨N, [(5, ⟨[0, 1, 6, 7], [], [], 0⟩)], []⟩
noncomputable def F139 (N : Nat) (a : (List UInt8) × Bool) : Option ((Int) × Int) := aTyped (E139 N) (O139 N) Tryz.f139 A139 R139 a
noncomputable def L139_5 (N : Nat) (n : Nat) (x0 : List UInt8) (x1 : Bool) (x2 : Int) (x3 : Int) : Option (Int × Int) :=
  atLoop (E139 N) (O139 N) Tryz.f139 [(1 : Nat), (1 : Nat), (1 : Nat), (0 : Nat), (1 : Nat), (0 : Nat)] [] n
  {
    tmps :=
      Tm.of (nat_lit 33) [((0 : Nat), AV.p (PV.str x0)), ((1 : Nat), AV.p (PV.bool x1)), ((6 : Nat), AV.p (PV.int IntKind.u64 x2)), ((7 : Nat), AV.p (PV.int IntKind.i64 x3))],
    heap := [] }
  fun x => Cod.dec R139 x some
theorem L139_5_eq (N : Nat) (n : Nat) (x0 : List UInt8) (x1 : Bool) (x2 : Int) (x3 : Int) : L139_5 N (n + 1) x0 x1 x2 x3 =
    aIf (decide (x3 < Int.ofNat (List.length x0)))
  (onGet x0 x3 fun z0 =>
    L139_5 N n x0 x1
      (IntKind.wrap IntKind.u64 (IntKind.wrap IntKind.u64 ((10 : Int) * x2) + IntKind.wrap IntKind.u64 (IntKind.wrap IntKind.u8 (Int.ofNat (UInt8.toNat z0) - (48 : Int)))))
      (IntKind.wrap IntKind.i64 (x3 + (1 : Int))))
  (aIf (decide ((4611686018427387904 : Int) < x2)) (some ((0 : Int), (3 : Int)))
    (aIf x1 (some (IntKind.wrap IntKind.i64 ((0 : Int) - IntKind.wrap IntKind.i64 x2), (0 : Int))) (some (IntKind.wrap IntKind.i64 x2, (0 : Int))))) := by kernel_rfl
theorem L139_5_zero (N : Nat) (x0 : List UInt8) (x1 : Bool) (x2 : Int) (x3 : Int) : L139_5 N 0 x0 x1 x2 x3 = none := by kernel_rfl
theorem F139_eq (N : Nat) (a0 : List UInt8) (a1 : Bool) : F139 N (a0, a1) =
    aIf (decide ((19 : Int) < Int.ofNat (List.length a0))) (some ((0 : Int), (3 : Int))) (L139_5 N N a0 a1 (0 : Int) (0 : Int)) := by kernel_rfl
noncomputable def C139 (N : Nat) : Callee := mkCallee A139 R139 (F139 N)
theorem S139 (N : Nat) : Cok 139 (C139 N) := cok_of (l := (E139 N).calls) (O := O139 N) cok_nil rfl Tryz.func139 rfl (by kernel_rfl) (by kernel_rfl)

-- function 111
def A111 : Cods (List UInt8) := (codsOne codStr)
def R111 : Cod ((Int) × Int) := (codTup (codsCons (codInt .i64) (codsOne (codInt .i64))))
noncomputable def E111 (N : Nat) : Env := ⟨Tryz.prog, [(104, C104 N), (138, C138 N), (139, C139 N)]⟩
def O111 (N : Nat) : Opts := ⟨N, [], []⟩
noncomputable def F111 (N : Nat) (a : List UInt8) : Option ((Int) × Int) := aTyped (E111 N) (O111 N) Tryz.f111 A111 R111 a
theorem F111_eq (N : Nat) (a0 : List UInt8) : F111 N a0 =
    onSome (F104 N a0) fun y0 =>
  onSome (F138 N (Prod.fst y0)) fun y1 =>
    aIf (!y1) (some ((0 : Int), (2 : Int)))
      (aIf (decide ((1 : Int) < Int.ofNat (List.length (Prod.fst y0))))
        (onGet (Prod.fst y0) (0 : Int) fun z2 =>
          aIf (Int.ofNat (UInt8.toNat z2) == (48 : Int)) (some ((0 : Int), (2 : Int)))
            (aIf (Prod.snd y0)
              (aIf (Prod.fst y0 == [(48 : UInt8)]) (some ((0 : Int), (2 : Int))) (onSome (F139 N (Prod.fst y0, Prod.snd y0)) fun y3 => some (Prod.fst y3, Prod.snd y3)))
              (onSome (F139 N (Prod.fst y0, Prod.snd y0)) fun y4 => some (Prod.fst y4, Prod.snd y4))))
        (aIf (Prod.snd y0)
          (aIf (Prod.fst y0 == [(48 : UInt8)]) (some ((0 : Int), (2 : Int))) (onSome (F139 N (Prod.fst y0, Prod.snd y0)) fun y5 => some (Prod.fst y5, Prod.snd y5)))
          (onSome (F139 N (Prod.fst y0, Prod.snd y0)) fun y6 => some (Prod.fst y6, Prod.snd y6)))) := by kernel_rfl
noncomputable def C111 (N : Nat) : Callee := mkCallee A111 R111 (F111 N)
theorem S111 (N : Nat) : Cok 111 (C111 N) := cok_of (l := (E111 N).calls) (O := O111 N) (cok_cons (S104 N) (cok_cons (S138 N) (cok_cons (S139 N) cok_nil))) rfl Tryz.func111 rfl (by kernel_rfl) (by kernel_rfl)

-- function 112
def A112 : Cods ((List UInt8) × Int) := (codsCons codStr (codsOne (codInt .i64)))
def R112 : Cod ((Int) × Int) := (codTup (codsCons (codInt .i64) (codsOne (codInt .i64))))
noncomputable def E112 (N : Nat) : Env := ⟨Tryz.prog, [(103, C103 N), (111, C111 N), (104, C104 N), (138, C138 N), (139, C139 N)]⟩
def O112 (N : Nat) : Opts := ⟨N, [(9, ⟨[7, 8], [], [], 0⟩)], []⟩
noncomputable def F112 (N : Nat) (a : (List UInt8) × Int) : Option ((Int) × Int) := aTyped (E112 N) (O112 N) Tryz.f112 A112 R112 a
noncomputable def L112_9 (N : Nat) (n : Nat) (x0 : List UInt8) (x1 : Bool) : Option (Int × Int) :=
  atLoop (E112 N) (O112 N) Tryz.f112 [(1 : Nat), (1 : Nat), (1 : Nat), (1 : Nat), (1 : Nat), (1 : Nat), (1 : Nat), (0 : Nat), (0 : Nat)] [] n
  { tmps := Tm.of (nat_lit 88) [((7 : Nat), AV.p (PV.str x0)), ((8 : Nat), AV.p (PV.bool x1))], heap := [] } fun x => Cod.dec R112 x some
theorem L112_9_eq (N : Nat) (n : Nat) (x0 : List UInt8) (x1 : Bool) : L112_9 N (n + 1) x0 x1 =
    aIf (decide ((1 : Int) < Int.ofNat (List.length x0)))
  (onGet x0 (0 : Int) fun z7 =>
    aIf (Int.ofNat (UInt8.toNat z7) == (48 : Int)) (aGd (decide ((1 : Int) ≤ Int.ofNat (List.length x0))) (L112_9 N n (List.drop (1 : Nat) (List.take (List.length x0) x0)) x1))
      (aIf x1 (aIf (x0 == [(48 : UInt8)]) (some ((0 : Int), (2 : Int))) (onSome (F139 N (x0, x1)) fun y8 => some (Prod.fst y8, Prod.snd y8)))
        (onSome (F139 N (x0, x1)) fun y9 => some (Prod.fst y9, Prod.snd y9))))
  (aIf x1 (aIf (x0 == [(48 : UInt8)]) (some ((0 : Int), (2 : Int))) (onSome (F139 N (x0, x1)) fun y10 => some (Prod.fst y10, Prod.snd y10)))
    (onSome (F139 N (x0, x1)) fun y11 => some (Prod.fst y11, Prod.snd y11))) := by kernel_rfl
theorem L112_9_zero (N : Nat) (x0 : List UInt8) (x1 : Bool) : L112_9 N 0 x0 x1 = none := by kernel_rfl
theorem F112_eq (N : Nat) (a0 : List UInt8) (a1 : Int) : F112 N (a0, a1) =
    onSome (F103 N a1) fun y0 =>
  aIf (y0 == (0 : Int)) (onSome (F111 N a0) fun y1 => some (Prod.fst y1, Prod.snd y1))
    (onSome (F104 N a0) fun y2 =>
      aIf (decide (IntKind.wrap IntKind.i64 (IntKind.wrap IntKind.i64 (Int.ofNat (List.length (Prod.fst y2)) - y0) - (1 : Int)) < (1 : Int))) (some ((0 : Int), (2 : Int)))
        (onGet (Prod.fst y2) (IntKind.wrap IntKind.i64 (IntKind.wrap IntKind.i64 (Int.ofNat (List.length (Prod.fst y2)) - y0) - (1 : Int))) fun z3 =>
          aIf (Int.ofNat (UInt8.toNat z3) != (46 : Int)) (some ((0 : Int), (2 : Int)))
            (aGd (decide ((0 : Int) ≤ IntKind.wrap IntKind.i64 (IntKind.wrap IntKind.i64 (Int.ofNat (List.length (Prod.fst y2)) - y0) - (1 : Int))))
              (aGd (decide (IntKind.wrap IntKind.i64 (IntKind.wrap IntKind.i64 (Int.ofNat (List.length (Prod.fst y2)) - y0) - (1 : Int)) ≤ Int.ofNat (List.length (Prod.fst y2))))
                (onSome
                  (F138 N
                    (List.drop (0 : Nat)
                      (List.take (Int.toNat (IntKind.wrap IntKind.i64 (IntKind.wrap IntKind.i64 (Int.ofNat (List.length (Prod.fst y2)) - y0) - (1 : Int)))) (Prod.fst y2))))
                  fun y4 =>
                  aIf (!y4) (some ((0 : Int), (2 : Int)))
                    (aGd
                      (decide
                        ((0 : Int) ≤
                          IntKind.wrap IntKind.i64 (IntKind.wrap IntKind.i64 (IntKind.wrap IntKind.i64 (Int.ofNat (List.length (Prod.fst y2)) - y0) - (1 : Int)) + (1 : Int))))
                      (aGd
                        (decide
                          (IntKind.wrap IntKind.i64 (IntKind.wrap IntKind.i64 (IntKind.wrap IntKind.i64 (Int.ofNat (List.length (Prod.fst y2)) - y0) - (1 : Int)) + (1 : Int)) ≤
                            Int.ofNat (List.length (Prod.fst y2))))
                        (onSome
                          (F138 N
                            (List.drop
                              (Int.toNat
                                (IntKind.wrap IntKind.i64
                                  (IntKind.wrap IntKind.i64 (IntKind.wrap IntKind.i64 (Int.ofNat (List.length (Prod.fst y2)) - y0) - (1 : Int)) + (1 : Int))))
                              (List.take (List.length (Prod.fst y2)) (Prod.fst y2))))
                          fun y5 =>
                          aIf (!y5) (some ((0 : Int), (2 : Int)))
                            (aIf (decide ((1 : Int) < IntKind.wrap IntKind.i64 (IntKind.wrap IntKind.i64 (Int.ofNat (List.length (Prod.fst y2)) - y0) - (1 : Int))))
                              (onGet (Prod.fst y2) (0 : Int) fun z6 =>
                                aIf (Int.ofNat (UInt8.toNat z6) == (48 : Int)) (some ((0 : Int), (2 : Int)))
                                  (aGd (decide ((0 : Int) ≤ IntKind.wrap IntKind.i64 (IntKind.wrap IntKind.i64 (Int.ofNat (List.length (Prod.fst y2)) - y0) - (1 : Int))))
                                    (aGd
                                      (decide
                                        (IntKind.wrap IntKind.i64 (IntKind.wrap IntKind.i64 (Int.ofNat (List.length (Prod.fst y2)) - y0) - (1 : Int)) ≤
                                          Int.ofNat (List.length (Prod.fst y2))))
                                      (aGd
                                        (decide
                                          ((0 : Int) ≤
                                            IntKind.wrap IntKind.i64
                                              (IntKind.wrap IntKind.i64 (IntKind.wrap IntKind.i64 (Int.ofNat (List.length (Prod.fst y2)) - y0) - (1 : Int)) + (1 : Int))))
                                        (aGd
                                          (decide
                                            (IntKind.wrap IntKind.i64
                                                (IntKind.wrap IntKind.i64 (IntKind.wrap IntKind.i64 (Int.ofNat (List.length (Prod.fst y2)) - y0) - (1 : Int)) + (1 : Int)) ≤
                                              Int.ofNat (List.length (Prod.fst y2))))
                                          (aGd
                                            (decide
                                              (List.length
                                                    (List.drop (0 : Nat)
                                                      (List.take
                                                        (Int.toNat (IntKind.wrap IntKind.i64 (IntKind.wrap IntKind.i64 (Int.ofNat (List.length (Prod.fst y2)) - y0) - (1 : Int))))
                                                        (Prod.fst y2))) +
                                                  List.length
                                                    (List.drop
                                                      (Int.toNat
                                                        (IntKind.wrap IntKind.i64
                                                          (IntKind.wrap IntKind.i64 (IntKind.wrap IntKind.i64 (Int.ofNat (List.length (Prod.fst y2)) - y0) - (1 : Int)) +
                                                            (1 : Int))))
                                                      (List.take (List.length (Prod.fst y2)) (Prod.fst y2))) ≤
                                                (9223372036854775807 : Nat)))
                                            (L112_9 N N
                                              (List.drop (0 : Nat)
                                                  (List.take
                                                    (Int.toNat (IntKind.wrap IntKind.i64 (IntKind.wrap IntKind.i64 (Int.ofNat (List.length (Prod.fst y2)) - y0) - (1 : Int))))
                                                    (Prod.fst y2)) ++
                                                List.drop
                                                  (Int.toNat
                                                    (IntKind.wrap IntKind.i64
                                                      (IntKind.wrap IntKind.i64 (IntKind.wrap IntKind.i64 (Int.ofNat (List.length (Prod.fst y2)) - y0) - (1 : Int)) + (1 : Int))))
                                                  (List.take (List.length (Prod.fst y2)) (Prod.fst y2)))
                                              (Prod.snd y2))))))))
                              (aGd (decide ((0 : Int) ≤ IntKind.wrap IntKind.i64 (IntKind.wrap IntKind.i64 (Int.ofNat (List.length (Prod.fst y2)) - y0) - (1 : Int))))
                                (aGd
                                  (decide
                                    (IntKind.wrap IntKind.i64 (IntKind.wrap IntKind.i64 (Int.ofNat (List.length (Prod.fst y2)) - y0) - (1 : Int)) ≤
                                      Int.ofNat (List.length (Prod.fst y2))))
                                  (aGd
                                    (decide
                                      ((0 : Int) ≤
                                        IntKind.wrap IntKind.i64
                                          (IntKind.wrap IntKind.i64 (IntKind.wrap IntKind.i64 (Int.ofNat (List.length (Prod.fst y2)) - y0) - (1 : Int)) + (1 : Int))))
                                    (aGd
                                      (decide
                                        (IntKind.wrap IntKind.i64
                                            (IntKind.wrap IntKind.i64 (IntKind.wrap IntKind.i64 (Int.ofNat (List.length (Prod.fst y2)) - y0) - (1 : Int)) + (1 : Int)) ≤
                                          Int.ofNat (List.length (Prod.fst y2))))
                                      (aGd
                                        (decide
                                          (List.length
                                                (List.drop (0 : Nat)
                                                  (List.take
                                                    (Int.toNat (IntKind.wrap IntKind.i64 (IntKind.wrap IntKind.i64 (Int.ofNat (List.length (Prod.fst y2)) - y0) - (1 : Int))))
                                                    (Prod.fst y2))) +
                                              List.length
                                                (List.drop
                                                  (Int.toNat
                                                    (IntKind.wrap IntKind.i64
                                                      (IntKind.wrap IntKind.i64 (IntKind.wrap IntKind.i64 (Int.ofNat (List.length (Prod.fst y2)) - y0) - (1 : Int)) + (1 : Int))))
                                                  (List.take (List.length (Prod.fst y2)) (Prod.fst y2))) ≤
                                            (9223372036854775807 : Nat)))
                                        (L112_9 N N
                                          (List.drop (0 : Nat)
                                              (List.take (Int.toNat (IntKind.wrap IntKind.i64 (IntKind.wrap IntKind.i64 (Int.ofNat (List.length (Prod.fst y2)) - y0) - (1 : Int))))
                                                (Prod.fst y2)) ++
                                            List.drop
                                              (Int.toNat
                                                (IntKind.wrap IntKind.i64
                                                  (IntKind.wrap IntKind.i64 (IntKind.wrap IntKind.i64 (Int.ofNat (List.length (Prod.fst y2)) - y0) - (1 : Int)) + (1 : Int))))
                                              (List.take (List.length (Prod.fst y2)) (Prod.fst y2)))
                                          (Prod.snd y2)))))))))))))))) := by kernel_rfl
noncomputable def C112 (N : Nat) : Callee := mkCallee A112 R112 (F112 N)
theorem S112 (N : Nat) : Cok 112 (C112 N) := cok_of (l := (E112 N).calls) (O := O112 N) (cok_cons (S103 N) (cok_cons (S111 N) (cok_cons (S104 N) (cok_cons (S138 N) (cok_cons (S139 N) cok_nil))))) rfl Tryz.func112 rfl (by kernel_rfl) (by kernel_rfl)

-- function 84
def A84 : Cods ((List UInt8) × Int) := (codsCons codStr (codsOne (codInt .i64)))
def R84 : Cod ((Int) × Int) := (codTup (codsCons (codInt .i64) (codsOne (codInt .i64))))
noncomputable def E84 (N : Nat) : Env := ⟨Tryz.prog, [(111, C111 N), (112, C112 N), (31, C31 N)]⟩
def O84 (N : Nat) : Opts := ⟨N, [], []⟩
noncomputable def F84 (N : Nat) (a : (List UInt8) × Int) : Option ((Int) × Int) := aTyped (E84 N) (O84 N) Tryz.f84 A84 R84 a
theorem F84_eq (N : Nat) (a0 : List UInt8) (a1 : Int) : F84 N (a0, a1) =
    aIf (a1 == (2 : Int)) (onSome (F111 N a0) fun y0 => some (Prod.fst y0, Prod.snd y0))
  (aIf (a1 == (3 : Int)) (onSome (F112 N (a0, (2 : Int))) fun y1 => some (Prod.fst y1, Prod.snd y1))
    (aIf (a1 == (4 : Int))
      (aIf (a0 == []) (some ((0 : Int), (2 : Int)))
        (onGet a0 (IntKind.wrap IntKind.i64 (Int.ofNat (List.length a0) - (1 : Int))) fun z2 =>
          aIf (Int.ofNat (UInt8.toNat z2) != (37 : Int)) (some ((0 : Int), (2 : Int)))
            (aGd (decide ((0 : Int) ≤ IntKind.wrap IntKind.i64 (Int.ofNat (List.length a0) - (1 : Int))))
              (aGd (decide (IntKind.wrap IntKind.i64 (Int.ofNat (List.length a0) - (1 : Int)) ≤ Int.ofNat (List.length a0)))
                (onSome (F112 N (List.drop (0 : Nat) (List.take (Int.toNat (IntKind.wrap IntKind.i64 (Int.ofNat (List.length a0) - (1 : Int)))) a0), (4 : Int))) fun y3 =>
                  some (Prod.fst y3, Prod.snd y3))))))
      (aIf (a1 == (5 : Int)) (onSome (F31 N a0) fun y4 => some (Prod.fst y4, Prod.snd y4))
        (aIf (a0 == [(116 : UInt8), (114 : UInt8), (117 : UInt8), (101 : UInt8)]) (some ((1 : Int), (0 : Int)))
          (aIf (a0 == [(102 : UInt8), (97 : UInt8), (108 : UInt8), (115 : UInt8), (101 : UInt8)]) (some ((0 : Int), (0 : Int))) (some ((0 : Int), (2 : Int)))))))) := by kernel_rfl
noncomputable def C84 (N : Nat) : Callee := mkCallee A84 R84 (F84 N)
theorem S84 (N : Nat) : Cok 84 (C84 N) := cok_of (l := (E84 N).calls) (O := O84 N) (cok_cons (S111 N) (cok_cons (S112 N) (cok_cons (S31 N) cok_nil))) rfl Tryz.func84 rfl (by kernel_rfl) (by kernel_rfl)

-- function 58
def A58 : Cods ((List UInt8) × ((Int) × Int) × List PV) := (codsCons codStr (codsCons (codAgg (codsCons (codInt .i64) (codsOne (codInt .i64)))) (codsOne (codSl 2))))
def R58 : Cod (((Int) × (Int) × Int) × Int) := (codTup (codsCons (codAgg (codsCons (codInt .i64) (codsCons (codInt .i64) (codsOne (codInt .i64))))) (codsOne (codInt .i64))))
noncomputable def E58 (N : Nat) : Env := ⟨Tryz.prog, [(76, C76 N), (84, C84 N), (72, C72 N)]⟩
def O58 (N : Nat) : Opts := ⟨N, [(6, ⟨[0, 4, 6, 8, 9], [], [], 2⟩)], []⟩
noncomputable def F58 (N : Nat) (a : (List UInt8) × ((Int) × Int) × List PV) : Option (((Int) × (Int) × Int) × Int) := aTyped (E58 N) (O58 N) Tryz.f58 A58 R58 a
noncomputable def L58_6 (N : Nat) (n : Nat) (x0 : List UInt8) (x1 : List PV) (x2 : Int) (x3 : Int) (x4 : Int) (x5 : Int) (x6 : Int) (x7 : Int) : Option ((Int × Int × Int) × Int) :=
  atLoop (E58 N) (O58 N) Tryz.f58 [(1 : Nat), (1 : Nat), (0 : Nat), (1 : Nat), (0 : Nat), (1 : Nat), (0 : Nat), (1 : Nat), (0 : Nat)] [] n
  {
    tmps :=
      Tm.of (nat_lit 69)
        [((0 : Nat), AV.p (PV.str x0)), ((4 : Nat), AV.box (0 : Nat) (0 : Nat)), ((6 : Nat), AV.box (1 : Nat) (0 : Nat)), ((8 : Nat), AV.p (PV.sl (1 : Nat) x1)),
          ((9 : Nat), AV.p (PV.int IntKind.i64 x2))],
    heap :=
      [Blk.box [AV.p (PV.int IntKind.i64 x3), AV.p (PV.int IntKind.i64 x4)], Blk.box [AV.p (PV.int IntKind.i64 x5), AV.p (PV.int IntKind.i64 x6), AV.p (PV.int IntKind.i64 x7)]] }
  fun x => Cod.dec R58 x some
theorem L58_6_eq (N : Nat) (n : Nat) (x0 : List UInt8) (x1 : List PV) (x2 : Int) (x3 : Int) (x4 : Int) (x5 : Int) (x6 : Int) (x7 : Int) : L58_6 N (n + 1) x0 x1 x2 x3 x4 x5 x6 x7 =
    aIf (decide (x2 < Int.ofNat (List.length x1)))
  (onGet x1 x2 fun z6 =>
    onStr z6 fun u7 =>
      aIf (u7 == x0) (aGd (decide ((0 : Nat) + (3 : Nat) ≤ (3 : Nat))) (some ((x3, x4, x2), (0 : Int))))
        (L58_6 N n x0 x1 (IntKind.wrap IntKind.i64 (x2 + (1 : Int))) x3 x4 x5 x6 x7))
  (aGd (decide ((0 : Nat) + (3 : Nat) ≤ (3 : Nat))) (some (((0 : Int), (0 : Int), (0 : Int)), (6 : Int)))) := by kernel_rfl
theorem L58_6_zero (N : Nat) (x0 : List UInt8) (x1 : List PV) (x2 : Int) (x3 : Int) (x4 : Int) (x5 : Int) (x6 : Int) (x7 : Int) : L58_6 N 0 x0 x1 x2 x3 x4 x5 x6 x7 = none := by kernel_rfl
theorem F58_eq (N : Nat) (a0 : List UInt8) (a1 : Int × Int) (a2 : List PV) : F58 N (a0, a1, a2) =
    onSome (F76 N ((Prod.fst a1, Prod.snd a1), a2)) fun y0 =>
  aIf (!y0) (aGd (decide ((0 : Nat) + (3 : Nat) ≤ (3 : Nat))) (some (((0 : Int), (0 : Int), (0 : Int)), (8 : Int))))
    (aIf (Prod.fst a1 == (6 : Int))
      (onGet a2 (Prod.snd a1) fun z1 =>
        onSome (PV.cells z1)[(1 : Nat)]? fun y2 => onSl (1 : Nat) y2 fun l3 => L58_6 N N a0 l3 (0 : Int) (Prod.fst a1) (Prod.snd a1) (0 : Int) (0 : Int) (0 : Int))
      (onSome (F84 N (a0, Prod.fst a1)) fun y4 =>
        aIf (Prod.snd y4 == (0 : Int))
          (onSome (F72 N (Prod.fst y4, (Prod.fst a1, Prod.snd a1), a2)) fun y5 =>
            aIf (!y5) (aGd (decide ((0 : Nat) + (3 : Nat) ≤ (3 : Nat))) (some (((0 : Int), (0 : Int), (0 : Int)), (3 : Int))))
              (aIf (Prod.snd y4 != (0 : Int)) (aGd (decide ((0 : Nat) + (3 : Nat) ≤ (3 : Nat))) (some (((0 : Int), (0 : Int), (0 : Int)), Prod.snd y4)))
                (aGd (decide ((0 : Nat) + (3 : Nat) ≤ (3 : Nat))) (some ((Prod.fst a1, (0 : Int), Prod.fst y4), (0 : Int))))))
          (aIf (Prod.snd y4 != (0 : Int)) (aGd (decide ((0 : Nat) + (3 : Nat) ≤ (3 : Nat))) (some (((0 : Int), (0 : Int), (0 : Int)), Prod.snd y4)))
            (aGd (decide ((0 : Nat) + (3 : Nat) ≤ (3 : Nat))) (some ((Prod.fst a1, (0 : Int), Prod.fst y4), (0 : Int))))))) := by kernel_rfl
noncomputable def C58 (N : Nat) : Callee := mkCallee A58 R58 (F58 N)
theorem S58 (N : Nat) : Cok 58 (C58 N) := cok_of (l := (E58 N).calls) (O := O58 N) (cok_cons (S76 N) (cok_cons (S84 N) (cok_cons (S72 N) cok_nil))) rfl Tryz.func58 rfl (by kernel_rfl) (by kernel_rfl)

-- function 32
def A32 : Cods (((List PV) × (List PV) × List PV) × (List UInt8) × (List UInt8) × List PV) := (codsCons (codAgg (codsCons (codSl 2) (codsCons (codSl 6) (codsOne (codSl 5))))) (codsCons codStr (codsCons codStr (codsOne (codSl 3)))))
def R32 : Cod ((List PV) × Int) := (codTup (codsCons (codSl 3) (codsOne (codInt .i64))))
noncomputable def E32 (N : Nat) : Env := ⟨Tryz.prog, [(57, C57 N), (58, C58 N)]⟩
def O32 (N : Nat) : Opts := ⟨N, [(5, ⟨[3, 4, 10, 11], [], [], 1⟩), (15, ⟨[3, 4, 10, 12, 13], [(12, 59, 3)], [], 2⟩)], []⟩
noncomputable def F32 (N : Nat) (a : ((List PV) × (List PV) × List PV) × (List UInt8) × (List UInt8) × List PV) : Option ((List PV) × Int) := aTyped (E32 N) (O32 N) Tryz.f32 A32 R32 a
noncomputable def L32_5 (N : Nat) (n : Nat) (x0 : List PV) (x1 : List PV) (x2 : Int) (x3 : List PV) (x4 : List PV) (x5 : List PV) : Option (List PV × Int) :=
  atLoop (E32 N) (O32 N) Tryz.f32 [(1 : Nat), (1 : Nat), (1 : Nat), (0 : Nat), (1 : Nat), (0 : Nat)] [] n
  {
    tmps :=
      Tm.of (nat_lit 76)
        [((3 : Nat), AV.p (PV.sl (3 : Nat) x0)), ((4 : Nat), AV.box (0 : Nat) (0 : Nat)), ((10 : Nat), AV.p (PV.sl (1 : Nat) x1)), ((11 : Nat), AV.p (PV.int IntKind.i64 x2))],
    heap := [Blk.box [AV.p (PV.sl (2 : Nat) x3), AV.p (PV.sl (6 : Nat) x4), AV.p (PV.sl (5 : Nat) x5)]] }
  fun x => Cod.dec R32 x some
noncomputable def L32_15 (N : Nat) (n : Nat) (x0 : List PV) (x1 : List PV) (x2 : Int) (x3 : List PV) (x4 : List PV) (x5 : List PV) (x6 : List PV) : Option (List PV × Int) :=
  atLoop (E32 N) (O32 N) Tryz.f32 [(1 : Nat), (1 : Nat), (1 : Nat), (1 : Nat), (1 : Nat), (1 : Nat), (1 : Nat), (0 : Nat), (1 : Nat), (0 : Nat)] [] n
  {
    tmps :=
      Tm.of (nat_lit 76)
        [((3 : Nat), AV.p (PV.sl (3 : Nat) x0)), ((4 : Nat), AV.box (0 : Nat) (0 : Nat)), ((10 : Nat), AV.p (PV.sl (1 : Nat) x1)), ((12 : Nat), AV.own (1 : Nat)),
          ((13 : Nat), AV.p (PV.int IntKind.i64 x2))],
    heap := [Blk.box [AV.p (PV.sl (2 : Nat) x3), AV.p (PV.sl (6 : Nat) x4), AV.p (PV.sl (5 : Nat) x5)], Blk.row (59 : Nat) (3 : Nat) x6] }
  fun x => Cod.dec R32 x some
theorem L32_5_eq (N : Nat) (n : Nat) (x0 : List PV) (x1 : List PV) (x2 : Int) (x3 : List PV) (x4 : List PV) (x5 : List PV) : L32_5 N (n + 1) x0 x1 x2 x3 x4 x5 =
    aIf (decide (x2 < Int.ofNat (List.length x1)))
  (onGet x1 x2 fun z3 => onStr z3 fun u4 => aIf (u4 == []) (some ([], (2 : Int))) (L32_5 N n x0 x1 (IntKind.wrap IntKind.i64 (x2 + (1 : Int))) x3 x4 x5))
  (aIf (decide (IntKind.wrap IntKind.i64 (Int.ofNat (List.length x1) - (1 : Int)) < Int.ofNat (List.length x0))) (some ([], (5 : Int)))
    (aIf (decide (Int.ofNat (List.length x0) < IntKind.wrap IntKind.i64 (Int.ofNat (List.length x1) - (1 : Int)))) (some ([], (4 : Int)))
      (aGd
        (keptUnder (2 : Nat)
            [((3 : Nat), AV.p (PV.sl (3 : Nat) x0)), ((4 : Nat), AV.box (0 : Nat) (0 : Nat)), ((10 : Nat), AV.p (PV.sl (1 : Nat) x1)), ((12 : Nat), AV.own (1 : Nat)),
              ((13 : Nat), AV.p (PV.int IntKind.i64 (0 : Int)))] &&
          underH (2 : Nat) (List.take (2 : Nat) [Blk.box [AV.p (PV.sl (2 : Nat) x3), AV.p (PV.sl (6 : Nat) x4), AV.p (PV.sl (5 : Nat) x5)], Blk.row (59 : Nat) (3 : Nat) []]))
        (L32_15 N N x0 x1 (0 : Int) x3 x4 x5 [])))) := by kernel_rfl
theorem L32_5_zero (N : Nat) (x0 : List PV) (x1 : List PV) (x2 : Int) (x3 : List PV) (x4 : List PV) (x5 : List PV) : L32_5 N 0 x0 x1 x2 x3 x4 x5 = none := by kernel_rfl
theorem L32_15_eq (N : Nat) (n : Nat) (x0 : List PV) (x1 : List PV) (x2 : Int) (x3 : List PV) (x4 : List PV) (x5 : List PV) (x6 : List PV) : L32_15 N (n + 1) x0 x1 x2 x3 x4 x5 x6 =
    aIf (decide (x2 < Int.ofNat (List.length x0)))
  (onGet x1 (IntKind.wrap IntKind.i64 (x2 + (1 : Int))) fun z5 =>
    onStr z5 fun u6 =>
      onGet x0 x2 fun z7 =>
        onCons (List.take (2 : Nat) (List.drop (1 : Nat) (PV.cells z7))) fun h8 t9 =>
          onInt IntKind.i64 h8 fun n10 =>
            onCons t9 fun h11 t12 =>
              onInt IntKind.i64 h11 fun n13 =>
                onNil t12
                  (onSome (F58 N (u6, (n10, n13), x3)) fun y14 =>
                    aGd (decide ((0 : Nat) + (3 : Nat) ≤ (3 : Nat)))
                      (aIf (Prod.snd y14 != (0 : Int)) (some ([], Prod.snd y14))
                        (aGd (decide ((List.length x6 + (1 : Nat)) * (25 : Nat) ≤ (140737488355328 : Nat)))
                          (aGd
                            (keptUnder (2 : Nat)
                                [((3 : Nat), AV.p (PV.sl (3 : Nat) x0)), ((4 : Nat), AV.box (0 : Nat) (0 : Nat)), ((10 : Nat), AV.p (PV.sl (1 : Nat) x1)),
                                  ((12 : Nat), AV.own (1 : Nat)), ((13 : Nat), AV.p (PV.int IntKind.i64 (IntKind.wrap IntKind.i64 (x2 + (1 : Int)))))] &&
                              underH (2 : Nat)
                                (List.take (2 : Nat)
                                  [Blk.box [AV.p (PV.sl (2 : Nat) x3), AV.p (PV.sl (6 : Nat) x4), AV.p (PV.sl (5 : Nat) x5)],
                                    Blk.row (59 : Nat) (3 : Nat)
                                      (x6 ++
                                        [PV.agg
                                            [PV.int IntKind.i64 (Prod.fst (Prod.fst y14)), PV.int IntKind.i64 (Prod.fst (Prod.snd (Prod.fst y14))),
                                              PV.int IntKind.i64 (Prod.snd (Prod.snd (Prod.fst y14)))]]),
                                    Blk.box
                                      [AV.p (PV.int IntKind.i64 (Prod.fst (Prod.fst y14))), AV.p (PV.int IntKind.i64 (Prod.fst (Prod.snd (Prod.fst y14)))),
                                        AV.p (PV.int IntKind.i64 (Prod.snd (Prod.snd (Prod.fst y14))))]]))
                            (L32_15 N n x0 x1 (IntKind.wrap IntKind.i64 (x2 + (1 : Int))) x3 x4 x5
                              (x6 ++
                                [PV.agg
                                    [PV.int IntKind.i64 (Prod.fst (Prod.fst y14)), PV.int IntKind.i64 (Prod.fst (Prod.snd (Prod.fst y14))),
                                      PV.int IntKind.i64 (Prod.snd (Prod.snd (Prod.fst y14)))]])))))))
  (some (x6, (0 : Int))) := by kernel_rfl
theorem L32_15_zero (N : Nat) (x0 : List PV) (x1 : List PV) (x2 : Int) (x3 : List PV) (x4 : List PV) (x5 : List PV) (x6 : List PV) : L32_15 N 0 x0 x1 x2 x3 x4 x5 x6 = none := by kernel_rfl
theorem F32_eq (N : Nat) (a0 : List PV × List PV × List PV) (a1 : List UInt8) (a2 : List UInt8) (a3 : List PV) : F32 N (a0, a1, a2, a3) =
    onSome (F57 N a1) fun y0 =>
  onGet y0 (0 : Int) fun z1 => onStr z1 fun u2 => aIf (!u2 == a2) (some ([], (2 : Int))) (L32_5 N N a3 y0 (1 : Int) (Prod.fst a0) (Prod.fst (Prod.snd a0)) (Prod.snd (Prod.snd a0))) := by kernel_rfl
noncomputable def C32 (N : Nat) : Callee := mkCallee A32 R32 (F32 N)
theorem S32 (N : Nat) : Cok 32 (C32 N) := cok_of (l := (E32 N).calls) (O := O32 N) (cok_cons (S57 N) (cok_cons (S58 N) cok_nil)) rfl Tryz.func32 rfl (by kernel_rfl) (by kernel_rfl)

-- function 12
def A12 : Cods (((List PV) × (List PV) × List PV) × (Int) × List UInt8) := (codsCons (codAgg (codsCons (codSl 2) (codsCons (codSl 6) (codsOne (codSl 5))))) (codsCons (codInt .i64) (codsOne codStr)))
def R12 : Cod (((Int) × (List PV) × List PV) × (Int) × Int) := (codTup (codsCons (codAgg (codsCons (codInt .i64) (codsCons (codSl 3) (codsOne (codSl 1))))) (codsCons (codInt .i64) (codsOne (codInt .i64)))))
noncomputable def E12 (N : Nat) : Env := ⟨Tryz.prog, [(30, C30 N), (31, C31 N), (32, C32 N), (33, C33 N)]⟩
def O12 (N : Nat) : Opts := ⟨N, [(21, ⟨[3, 6, 9, 15, 16, 17, 18], [], [(2, 2, 27, 1)], 4⟩)], []⟩
noncomputable def F12 (N : Nat) (a : ((List PV) × (List PV) × List PV) × (Int) × List UInt8) : Option (((Int) × (List PV) × List PV) × (Int) × Int) := aTyped (E12 N) (O12 N) Tryz.f12 A12 R12 a
noncomputable def L12_21 (N : Nat) (n : Nat) (x0 : List PV) (x1 : Int) (x2 : Int) (x3 : Int) (x4 : List PV) (x5 : List PV) (x6 : List PV) (x7 : Int) (x8 : Int) (x9 : List PV) (x10 : List PV) : Option ((Int × List PV × List PV) × Int × Int) :=
  atLoop (E12 N) (O12 N) Tryz.f12
  [(1 : Nat), (1 : Nat), (1 : Nat), (1 : Nat), (1 : Nat), (1 : Nat), (1 : Nat), (1 : Nat), (1 : Nat), (1 : Nat), (1 : Nat), (1 : Nat), (1 : Nat), (0 : Nat), (1 : Nat), (0 : Nat)]
  [] n
  {
    tmps :=
      Tm.of (nat_lit 139)
        [((3 : Nat), AV.box (0 : Nat) (0 : Nat)), ((6 : Nat), AV.box (1 : Nat) (0 : Nat)), ((9 : Nat), AV.p (PV.sl (1 : Nat) x0)), ((15 : Nat), AV.box (2 : Nat) (0 : Nat)),
          ((16 : Nat), AV.p (PV.int IntKind.i64 x1)), ((17 : Nat), AV.p (PV.int IntKind.i64 x2)), ((18 : Nat), AV.p (PV.int IntKind.i64 x3))],
    heap :=
      [Blk.box [AV.p (PV.sl (2 : Nat) x4), AV.p (PV.sl (6 : Nat) x5), AV.p (PV.sl (5 : Nat) x6)], Blk.box [AV.p (PV.int IntKind.i64 x7), AV.p PV.nilsl, AV.p PV.nilsl],
        Blk.box [AV.p (PV.int IntKind.i64 x8), AV.p (PV.sl (3 : Nat) x9), AV.own (3 : Nat)], Blk.row (27 : Nat) (1 : Nat) x10] }
  fun x => Cod.dec R12 x some
theorem L12_21_eq (N : Nat) (n : Nat) (x0 : List PV) (x1 : Int) (x2 : Int) (x3 : Int) (x4 : List PV) (x5 : List PV) (x6 : List PV) (x7 : Int) (x8 : Int) (x9 : List PV) (x10 : List PV) : L12_21 N (n + 1) x0 x1 x2 x3 x4 x5 x6 x7 x8 x9 x10 =
    aIf (decide (x3 < Int.ofNat (List.length x0)))
  (aIf (decide (x2 ≤ IntKind.wrap IntKind.i64 (x3 - (2 : Int)))) (aGd (decide ((0 : Nat) + (3 : Nat) ≤ (3 : Nat))) (some (((0 : Int), [], []), x3, (4 : Int))))
    (onGet x0 x3 fun z15 =>
      onStr z15 fun u16 =>
        onGet x6 x1 fun z17 =>
          onSome (PV.cells z17)[(2 : Nat)]? fun y18 =>
            onSl (3 : Nat) y18 fun l19 =>
              onSome (F32 N ((x4, x5, x6), u16, [(109 : UInt8), (101 : UInt8), (109 : UInt8), (98 : UInt8), (101 : UInt8), (114 : UInt8)], l19)) fun y20 =>
                aIf (Prod.snd y20 != (0 : Int)) (aGd (decide ((0 : Nat) + (3 : Nat) ≤ (3 : Nat))) (some (((0 : Int), [], []), x3, Prod.snd y20)))
                  (aGd (decide ((List.length x10 + (1 : Nat)) * (25 : Nat) ≤ (140737488355328 : Nat)))
                    (aGd (decide ((2 : Nat) + (1 : Nat) ≤ (3 : Nat)))
                      (L12_21 N n x0 x1 x2 (IntKind.wrap IntKind.i64 (x3 + (1 : Int))) x4 x5 x6 x7 x8 x9 (x10 ++ [PV.sl (3 : Nat) (Prod.fst y20)]))))))
  (aGd (decide ((0 : Nat) + (3 : Nat) ≤ (3 : Nat))) (some ((x8, x9, x10), (0 : Int), (0 : Int)))) := by kernel_rfl
theorem L12_21_zero (N : Nat) (x0 : List PV) (x1 : Int) (x2 : Int) (x3 : Int) (x4 : List PV) (x5 : List PV) (x6 : List PV) (x7 : Int) (x8 : Int) (x9 : List PV) (x10 : List PV) : L12_21 N 0 x0 x1 x2 x3 x4 x5 x6 x7 x8 x9 x10 = none := by kernel_rfl
theorem F12_eq (N : Nat) (a0 : List PV × List PV × List PV) (a1 : Int) (a2 : List UInt8) : F12 N (a0, a1, a2) =
    aIf (decide (a1 < (0 : Int))) (aGd (decide ((0 : Nat) + (3 : Nat) ≤ (3 : Nat))) (some (((0 : Int), [], []), (0 : Int), (6 : Int))))
  (aIf (decide (Int.ofNat (List.length (Prod.snd (Prod.snd a0))) ≤ a1)) (aGd (decide ((0 : Nat) + (3 : Nat) ≤ (3 : Nat))) (some (((0 : Int), [], []), (0 : Int), (6 : Int))))
    (onSome (F30 N a2) fun y0 =>
      aIf (Prod.snd y0 != (0 : Int)) (aGd (decide ((0 : Nat) + (3 : Nat) ≤ (3 : Nat))) (some (((0 : Int), [], []), (0 : Int), Prod.snd y0)))
        (aIf (Int.ofNat (List.length (Prod.fst y0)) == (0 : Int)) (aGd (decide ((0 : Nat) + (3 : Nat) ≤ (3 : Nat))) (some (((0 : Int), [], []), (0 : Int), (5 : Int))))
          (onGet (Prod.fst y0) (0 : Int) fun z1 =>
            onStr z1 fun u2 =>
              aIf (decide (Int.ofNat (List.length u2) < (5 : Int))) (aGd (decide ((0 : Nat) + (3 : Nat) ≤ (3 : Nat))) (some (((0 : Int), [], []), (0 : Int), (2 : Int))))
                (onGet (Prod.fst y0) (0 : Int) fun z3 =>
                  onStr z3 fun u4 =>
                    aGd (decide ((5 : Int) ≤ Int.ofNat (List.length u4)))
                      (aIf (!List.drop (0 : Nat) (List.take (5 : Nat) u4) == [(100 : UInt8), (97 : UInt8), (116 : UInt8), (101 : UInt8), (32 : UInt8)])
                        (aGd (decide ((0 : Nat) + (3 : Nat) ≤ (3 : Nat))) (some (((0 : Int), [], []), (0 : Int), (2 : Int))))
                        (onGet (Prod.fst y0) (0 : Int) fun z5 =>
                          onStr z5 fun u6 =>
                            aGd (decide ((5 : Int) ≤ Int.ofNat (List.length u6)))
                              (onSome (F31 N (List.drop (5 : Nat) (List.take (List.length u6) u6))) fun y7 =>
                                aIf (Prod.snd y7 != (0 : Int)) (aGd (decide ((0 : Nat) + (3 : Nat) ≤ (3 : Nat))) (some (((0 : Int), [], []), (0 : Int), Prod.snd y7)))
                                  (aIf (Int.ofNat (List.length (Prod.fst y0)) == (1 : Int))
                                    (aGd (decide ((0 : Nat) + (3 : Nat) ≤ (3 : Nat))) (some (((0 : Int), [], []), (1 : Int), (5 : Int))))
                                    (onGet (Prod.fst y0) (1 : Int) fun z8 =>
                                      onStr z8 fun u9 =>
                                        onGet (Prod.snd (Prod.snd a0)) a1 fun z10 =>
                                          onSome (PV.cells z10)[(2 : Nat)]? fun y11 =>
                                            onSl (3 : Nat) y11 fun l12 =>
                                              onSome (F32 N ((Prod.fst a0, Prod.fst (Prod.snd a0), Prod.snd (Prod.snd a0)), u9, [(105 : UInt8), (110 : UInt8)], l12)) fun y13 =>
                                                aIf (Prod.snd y13 != (0 : Int))
                                                  (aGd (decide ((0 : Nat) + (3 : Nat) ≤ (3 : Nat))) (some (((0 : Int), [], []), (1 : Int), Prod.snd y13)))
                                                  (aGd (decide ((0 : Nat) + (3 : Nat) ≤ (3 : Nat)))
                                                    (onSome (F33 N ((Prod.fst a0, Prod.fst (Prod.snd a0), Prod.snd (Prod.snd a0)), a1)) fun y14 =>
                                                      L12_21 N N (Prod.fst y0) (Prod.fst y14) (Prod.snd y14) (2 : Int) (Prod.fst a0) (Prod.fst (Prod.snd a0))
                                                        (Prod.snd (Prod.snd a0)) (0 : Int) (Prod.fst y7) (Prod.fst y13) [])))))))))))) := by kernel_rfl
noncomputable def C12 (N : Nat) : Callee := mkCallee A12 R12 (F12 N)
theorem S12 (N : Nat) : Cok 12 (C12 N) := cok_of (l := (E12 N).calls) (O := O12 N) (cok_cons (S30 N) (cok_cons (S31 N) (cok_cons (S32 N) (cok_cons (S33 N) cok_nil)))) rfl Tryz.func12 rfl (by kernel_rfl) (by kernel_rfl)

-- function 34
def A34 : Cods ((List PV) × List PV) := (codsCons (codSl 3) (codsOne (codSl 3)))
def R34 : Cod (Bool) := codBool
noncomputable def E34 (N : Nat) : Env := ⟨Tryz.prog, []⟩
def O34 (N : Nat) : Opts := ⟨N, [(4, ⟨[0, 1, 5], [], [], 0⟩)], []⟩
noncomputable def F34 (N : Nat) (a : (List PV) × List PV) : Option (Bool) := aTyped (E34 N) (O34 N) Tryz.f34 A34 R34 a
noncomputable def L34_4 (N : Nat) (n : Nat) (x0 : List PV) (x1 : List PV) (x2 : Int) : Option Bool :=
  atLoop (E34 N) (O34 N) Tryz.f34 [(1 : Nat), (1 : Nat), (0 : Nat), (1 : Nat), (0 : Nat)] [] n
  { tmps := Tm.of (nat_lit 32) [((0 : Nat), AV.p (PV.sl (3 : Nat) x0)), ((1 : Nat), AV.p (PV.sl (3 : Nat) x1)), ((5 : Nat), AV.p (PV.int IntKind.i64 x2))], heap := [] } fun x =>
  Cod.dec R34 x some
theorem L34_4_eq (N : Nat) (n : Nat) (x0 : List PV) (x1 : List PV) (x2 : Int) : L34_4 N (n + 1) x0 x1 x2 =
    aIf (decide (x2 < Int.ofNat (List.length x0)))
  (aIf (decide (x2 < Int.ofNat (List.length x1)))
    (onGet x0 x2 fun z0 =>
      onCons (List.take (3 : Nat) (List.drop (0 : Nat) (PV.cells z0))) fun h1 t2 =>
        onInt IntKind.i64 h1 fun n3 =>
          onCons t2 fun h4 t5 =>
            onInt IntKind.i64 h4 fun n6 =>
              onCons t5 fun h7 t8 =>
                onInt IntKind.i64 h7 fun n9 =>
                  onNil t8
                    (onGet x1 x2 fun z10 =>
                      onCons (List.take (3 : Nat) (List.drop (0 : Nat) (PV.cells z10))) fun h11 t12 =>
                        onInt IntKind.i64 h11 fun n13 =>
                          onCons t12 fun h14 t15 =>
                            onInt IntKind.i64 h14 fun n16 =>
                              onCons t15 fun h17 t18 =>
                                onInt IntKind.i64 h17 fun n19 =>
                                  onNil t18 (aIf (!(n3 == n13 && (n6 == n16 && (n9 == n19 && true)))) (some false) (L34_4 N n x0 x1 (IntKind.wrap IntKind.i64 (x2 + (1 : Int)))))))
    (some true))
  (some true) := by kernel_rfl
theorem L34_4_zero (N : Nat) (x0 : List PV) (x1 : List PV) (x2 : Int) : L34_4 N 0 x0 x1 x2 = none := by kernel_rfl
theorem F34_eq (N : Nat) (a0 : List PV) (a1 : List PV) : F34 N (a0, a1) =
    aIf (Int.ofNat (List.length a0) != Int.ofNat (List.length a1)) (some false) (L34_4 N N a0 a1 (0 : Int)) := by kernel_rfl
noncomputable def C34 (N : Nat) : Callee := mkCallee A34 R34 (F34 N)
theorem S34 (N : Nat) : Cok 34 (C34 N) := cok_of (l := (E34 N).calls) (O := O34 N) cok_nil rfl Tryz.func34 rfl (by kernel_rfl) (by kernel_rfl)

-- function 35
def A35 : Cods ((List PV) × List PV) := (codsCons (codSl 1) (codsOne (codSl 1)))
def R35 : Cod (Bool) := codBool
noncomputable def E35 (N : Nat) : Env := ⟨Tryz.prog, [(34, C34 N)]⟩
def O35 (N : Nat) : Opts := ⟨N, [(4, ⟨[0, 1, 5], [], [], 0⟩)], []⟩
noncomputable def F35 (N : Nat) (a : (List PV) × List PV) : Option (Bool) := aTyped (E35 N) (O35 N) Tryz.f35 A35 R35 a
noncomputable def L35_4 (N : Nat) (n : Nat) (x0 : List PV) (x1 : List PV) (x2 : Int) : Option Bool :=
  atLoop (E35 N) (O35 N) Tryz.f35 [(1 : Nat), (1 : Nat), (0 : Nat), (1 : Nat), (0 : Nat)] [] n
  { tmps := Tm.of (nat_lit 33) [((0 : Nat), AV.p (PV.sl (1 : Nat) x0)), ((1 : Nat), AV.p (PV.sl (1 : Nat) x1)), ((5 : Nat), AV.p (PV.int IntKind.i64 x2))], heap := [] } fun x =>
  Cod.dec R35 x some
theorem L35_4_eq (N : Nat) (n : Nat) (x0 : List PV) (x1 : List PV) (x2 : Int) : L35_4 N (n + 1) x0 x1 x2 =
    aIf (decide (x2 < Int.ofNat (List.length x0)))
  (aIf (decide (x2 < Int.ofNat (List.length x1)))
    (onGet x0 x2 fun z0 =>
      onSl (3 : Nat) z0 fun l1 =>
        onGet x1 x2 fun z2 => onSl (3 : Nat) z2 fun l3 => onSome (F34 N (l1, l3)) fun y4 => aIf (!y4) (some false) (L35_4 N n x0 x1 (IntKind.wrap IntKind.i64 (x2 + (1 : Int)))))
    (some true))
  (some true) := by kernel_rfl
theorem L35_4_zero (N : Nat) (x0 : List PV) (x1 : List PV) (x2 : Int) : L35_4 N 0 x0 x1 x2 = none := by kernel_rfl
theorem F35_eq (N : Nat) (a0 : List PV) (a1 : List PV) : F35 N (a0, a1) =
    aIf (Int.ofNat (List.length a0) != Int.ofNat (List.length a1)) (some false) (L35_4 N N a0 a1 (0 : Int)) := by kernel_rfl
noncomputable def C35 (N : Nat) : Callee := mkCallee A35 R35 (F35 N)
theorem S35 (N : Nat) : Cok 35 (C35 N) := cok_of (l := (E35 N).calls) (O := O35 N) (cok_cons (S34 N) cok_nil) rfl Tryz.func35 rfl (by kernel_rfl) (by kernel_rfl)

-- function 13
def A13 : Cods (((Int) × (List PV) × List PV) × (Int) × (List PV) × List PV) := (codsCons (codAgg (codsCons (codInt .i64) (codsCons (codSl 3) (codsOne (codSl 1))))) (codsOne (codAgg (codsCons (codInt .i64) (codsCons (codSl 3) (codsOne (codSl 1)))))))
def R13 : Cod (Bool) := codBool
noncomputable def E13 (N : Nat) : Env := ⟨Tryz.prog, [(34, C34 N), (35, C35 N)]⟩
def O13 (N : Nat) : Opts := ⟨N, [], []⟩
noncomputable def F13 (N : Nat) (a : ((Int) × (List PV) × List PV) × (Int) × (List PV) × List PV) : Option (Bool) := aTyped (E13 N) (O13 N) Tryz.f13 A13 R13 a
theorem F13_eq (N : Nat) (a0 : Int × List PV × List PV) (a1 : Int) (a2 : List PV) (a3 : List PV) : F13 N (a0, a1, a2, a3) =
    aIf (Prod.fst a0 == a1) (onSome (F34 N (Prod.fst (Prod.snd a0), a2)) fun y0 => aIf y0 (onSome (F35 N (Prod.snd (Prod.snd a0), a3)) fun y1 => some y1) (some false)) (some false) := by kernel_rfl
noncomputable def C13 (N : Nat) : Callee := mkCallee A13 R13 (F13 N)
theorem S13 (N : Nat) : Cok 13 (C13 N) := cok_of (l := (E13 N).calls) (O := O13 N) (cok_cons (S34 N) (cok_cons (S35 N) cok_nil)) rfl Tryz.func13 rfl (by kernel_rfl) (by kernel_rfl)

-- function 4
def A4 : Cods (((List PV) × (List PV) × List PV) × (Int) × List UInt8) := (codsCons (codAgg (codsCons (codSl 2) (codsCons (codSl 6) (codsOne (codSl 5))))) (codsCons (codInt .i64) (codsOne codStr)))
def R4 : Cod (Bool) := codBool
noncomputable def E4 (N : Nat) : Env := ⟨Tryz.prog, [(6, C6 N), (8, C8 N), (11, C11 N), (12, C12 N), (13, C13 N)]⟩
def O4 (N : Nat) : Opts := ⟨N, [], []⟩
noncomputable def F4 (N : Nat) (a : ((List PV) × (List PV) × List PV) × (Int) × List UInt8) : Option (Bool) := aTyped (E4 N) (O4 N) Tryz.f4 A4 R4 a
theorem F4_eq (N : Nat) (a0 : List PV × List PV × List PV) (a1 : Int) (a2 : List UInt8) : F4 N (a0, a1, a2) =
    onSome (F6 N (Prod.fst a0, Prod.fst (Prod.snd a0), Prod.snd (Prod.snd a0))) fun y0 =>
  aIf (!y0) (some true)
    (aIf (decide ((2000 : Int) < Int.ofNat (List.length a2))) (some true)
      (onSome (F11 N ((Prod.fst a0, Prod.fst (Prod.snd a0), Prod.snd (Prod.snd a0)), a1, a2)) fun y1 =>
        aGd (decide ((0 : Nat) + (3 : Nat) ≤ (3 : Nat)))
          (onSome (F12 N ((Prod.fst a0, Prod.fst (Prod.snd a0), Prod.snd (Prod.snd a0)), a1, a2)) fun y2 =>
            aGd (decide ((0 : Nat) + (3 : Nat) ≤ (3 : Nat)))
              (onSome
                (F13 N
                  ((Prod.fst (Prod.fst y1), Prod.fst (Prod.snd (Prod.fst y1)), Prod.snd (Prod.snd (Prod.fst y1))), Prod.fst (Prod.fst y2), Prod.fst (Prod.snd (Prod.fst y2)),
                    Prod.snd (Prod.snd (Prod.fst y2))))
                fun y3 =>
                aIf y3 (aIf (Prod.fst (Prod.snd y1) == Prod.fst (Prod.snd y2)) (aIf (Prod.snd (Prod.snd y1) == Prod.snd (Prod.snd y2)) (some true) (some false)) (some false))
                  (some false))))) := by kernel_rfl
noncomputable def C4 (N : Nat) : Callee := mkCallee A4 R4 (F4 N)
theorem S4 (N : Nat) : Cok 4 (C4 N) := cok_of (l := (E4 N).calls) (O := O4 N) (cok_cons (S6 N) (cok_cons (S8 N) (cok_cons (S11 N) (cok_cons (S12 N) (cok_cons (S13 N) cok_nil))))) rfl Tryz.func4 rfl (by kernel_rfl) (by kernel_rfl)

end Go.Proofs.YtflpiekacionaaaGreatDoor
