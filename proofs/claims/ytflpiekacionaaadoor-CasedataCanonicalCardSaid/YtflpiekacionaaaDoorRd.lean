/- The pure reading of the program's functions (printed by a program of mine; each line is proved by the kernel's evaluation). -/
import Derived.Test.YtflpiekacionaaaDoorExs
import Derived.Test.YtflpiekacionaaaDoorProg
set_option linter.unusedSimpArgs false
set_option linter.unusedVariables false
set_option maxRecDepth 100000
namespace Go.Proofs.YtflpiekacionaaaDoor
open Go.RowKit

-- function 52
def A52 : Cods ((List UInt8) × (Int) × (List PV) × (List PV) × List PV) := (codsOne (codAgg (codsCons codStr (codsCons (codInt .i64) (codsCons (codSl 3) (codsCons (codSl 3) (codsOne (codSl 9))))))))
def R52 : Cod (Bool) := codBool
noncomputable def E52 (N : Nat) : Env := ⟨Tryd.prog, []⟩
def O52 (N : Nat) : Opts := ⟨N, [(4, ⟨[1, 3], [], [], 1⟩), (9, ⟨[1, 4], [], [], 1⟩), (14, ⟨[1, 5], [], [], 1⟩)], []⟩
noncomputable def F52 (N : Nat) (a : (List UInt8) × (Int) × (List PV) × (List PV) × List PV) : Option (Bool) := aTyped (E52 N) (O52 N) Tryd.f52 A52 R52 a
noncomputable def L52_4 (N : Nat) (n : Nat) (x0 : Int) (x1 : List UInt8) (x2 : Int) (x3 : List PV) (x4 : List PV) (x5 : List PV) : Option Bool :=
  atLoop (E52 N) (O52 N) Tryd.f52 [(1 : Nat), (1 : Nat), (0 : Nat), (1 : Nat), (0 : Nat)] [] n
  { tmps := Tm.of (nat_lit 93) [((1 : Nat), AV.box (0 : Nat) (0 : Nat)), ((3 : Nat), AV.p (PV.int IntKind.i64 x0))],
    heap := [Blk.box [AV.p (PV.str x1), AV.p (PV.int IntKind.i64 x2), AV.p (PV.sl (3 : Nat) x3), AV.p (PV.sl (3 : Nat) x4), AV.p (PV.sl (9 : Nat) x5)]] }
  fun x => Cod.dec R52 x some
noncomputable def L52_9 (N : Nat) (n : Nat) (x0 : Int) (x1 : List UInt8) (x2 : Int) (x3 : List PV) (x4 : List PV) (x5 : List PV) : Option Bool :=
  atLoop (E52 N) (O52 N) Tryd.f52 [(1 : Nat), (1 : Nat), (1 : Nat), (0 : Nat), (1 : Nat), (0 : Nat)] [] n
  { tmps := Tm.of (nat_lit 93) [((1 : Nat), AV.box (0 : Nat) (0 : Nat)), ((4 : Nat), AV.p (PV.int IntKind.i64 x0))],
    heap := [Blk.box [AV.p (PV.str x1), AV.p (PV.int IntKind.i64 x2), AV.p (PV.sl (3 : Nat) x3), AV.p (PV.sl (3 : Nat) x4), AV.p (PV.sl (9 : Nat) x5)]] }
  fun x => Cod.dec R52 x some
noncomputable def L52_14 (N : Nat) (n : Nat) (x0 : Int) (x1 : List UInt8) (x2 : Int) (x3 : List PV) (x4 : List PV) (x5 : List PV) : Option Bool :=
  atLoop (E52 N) (O52 N) Tryd.f52 [(1 : Nat), (1 : Nat), (1 : Nat), (1 : Nat), (0 : Nat), (1 : Nat), (0 : Nat)] [] n
  { tmps := Tm.of (nat_lit 93) [((1 : Nat), AV.box (0 : Nat) (0 : Nat)), ((5 : Nat), AV.p (PV.int IntKind.i64 x0))],
    heap := [Blk.box [AV.p (PV.str x1), AV.p (PV.int IntKind.i64 x2), AV.p (PV.sl (3 : Nat) x3), AV.p (PV.sl (3 : Nat) x4), AV.p (PV.sl (9 : Nat) x5)]] }
  fun x => Cod.dec R52 x some
theorem L52_4_eq (N : Nat) (n : Nat) (x0 : Int) (x1 : List UInt8) (x2 : Int) (x3 : List PV) (x4 : List PV) (x5 : List PV) : L52_4 N (n + 1) x0 x1 x2 x3 x4 x5 =
    aIf (decide (x0 < Int.ofNat (List.length x3)))
  (onGet x3 x0 fun z0 =>
    onSome (PV.cells z0)[(0 : Nat)]? fun y1 =>
      onStr y1 fun u2 => aIf (decide ((80 : Int) < Int.ofNat (List.length u2))) (some false) (L52_4 N n (IntKind.wrap IntKind.i64 (x0 + (1 : Int))) x1 x2 x3 x4 x5))
  (L52_9 N N (0 : Int) x1 x2 x3 x4 x5) := by kernel_rfl
theorem L52_4_zero (N : Nat) (x0 : Int) (x1 : List UInt8) (x2 : Int) (x3 : List PV) (x4 : List PV) (x5 : List PV) : L52_4 N 0 x0 x1 x2 x3 x4 x5 = none := by kernel_rfl
theorem L52_9_eq (N : Nat) (n : Nat) (x0 : Int) (x1 : List UInt8) (x2 : Int) (x3 : List PV) (x4 : List PV) (x5 : List PV) : L52_9 N (n + 1) x0 x1 x2 x3 x4 x5 =
    aIf (decide (x0 < Int.ofNat (List.length x4)))
  (onGet x4 x0 fun z3 =>
    onSome (PV.cells z3)[(0 : Nat)]? fun y4 =>
      onStr y4 fun u5 => aIf (decide ((80 : Int) < Int.ofNat (List.length u5))) (some false) (L52_9 N n (IntKind.wrap IntKind.i64 (x0 + (1 : Int))) x1 x2 x3 x4 x5))
  (L52_14 N N (0 : Int) x1 x2 x3 x4 x5) := by kernel_rfl
theorem L52_9_zero (N : Nat) (x0 : Int) (x1 : List UInt8) (x2 : Int) (x3 : List PV) (x4 : List PV) (x5 : List PV) : L52_9 N 0 x0 x1 x2 x3 x4 x5 = none := by kernel_rfl
theorem L52_14_eq (N : Nat) (n : Nat) (x0 : Int) (x1 : List UInt8) (x2 : Int) (x3 : List PV) (x4 : List PV) (x5 : List PV) : L52_14 N (n + 1) x0 x1 x2 x3 x4 x5 =
    aIf (decide (x0 < Int.ofNat (List.length x5)))
  (onGet x5 x0 fun z6 =>
    onCons (List.take (9 : Nat) (List.drop (0 : Nat) (PV.cells z6))) fun h7 t8 =>
      onStr h7 fun u9 =>
        onCons t8 fun h10 t11 =>
          onInt IntKind.i64 h10 fun n12 =>
            onCons t11 fun h13 t14 =>
              onInt IntKind.i64 h13 fun n15 =>
                onCons t14 fun h16 t17 =>
                  onInt IntKind.i64 h16 fun n18 =>
                    onCons t17 fun h19 t20 =>
                      onInt IntKind.i64 h19 fun n21 =>
                        onCons t20 fun h22 t23 =>
                          onInt IntKind.i64 h22 fun n24 =>
                            onCons t23 fun h25 t26 =>
                              onSl (2 : Nat) h25 fun l27 =>
                                onCons t26 fun h28 t29 =>
                                  onSl (2 : Nat) h28 fun l30 =>
                                    onCons t29 fun h31 t32 =>
                                      onStr h31 fun u33 =>
                                        onNil t32
                                          (aGd (decide ((0 : Nat) + (9 : Nat) ≤ (9 : Nat)))
                                            (aIf (decide ((80 : Int) < Int.ofNat (List.length u9))) (some false)
                                              (aIf (decide ((80 : Int) < Int.ofNat (List.length u33))) (some false)
                                                (aIf (decide ((50 : Int) < Int.ofNat (List.length l27))) (some false)
                                                  (aIf (decide ((50 : Int) < Int.ofNat (List.length l30))) (some false)
                                                    (L52_14 N n (IntKind.wrap IntKind.i64 (x0 + (1 : Int))) x1 x2 x3 x4 x5)))))))
  (some true) := by kernel_rfl
theorem L52_14_zero (N : Nat) (x0 : Int) (x1 : List UInt8) (x2 : Int) (x3 : List PV) (x4 : List PV) (x5 : List PV) : L52_14 N 0 x0 x1 x2 x3 x4 x5 = none := by kernel_rfl
theorem F52_eq (N : Nat) (a0 : List UInt8) (a1 : Int) (a2 : List PV) (a3 : List PV) (a4 : List PV) : F52 N (a0, a1, a2, a3, a4) =
    aIf (decide ((80 : Int) < Int.ofNat (List.length a0))) (some false)
  (aIf (decide ((14 : Int) < Int.ofNat (List.length a2))) (some false)
    (aIf (decide ((14 : Int) < Int.ofNat (List.length a3))) (some false)
      (aIf (decide ((60 : Int) < Int.ofNat (List.length a4))) (some false) (L52_4 N N (0 : Int) a0 a1 a2 a3 a4)))) := by kernel_rfl
noncomputable def C52 (N : Nat) : Callee := mkCallee A52 R52 (F52 N)
theorem S52 (N : Nat) : Cok 52 (C52 N) := cok_of (l := (E52 N).calls) (O := O52 N) cok_nil rfl Tryd.func52 rfl (by kernel_rfl) (by kernel_rfl)

-- function 21
def A21 : Cods ((List PV) × (List PV) × List PV) := (codsOne (codAgg (codsCons (codSl 2) (codsCons (codSl 6) (codsOne (codSl 5))))))
def R21 : Cod (Bool) := codBool
noncomputable def E21 (N : Nat) : Env := ⟨Tryd.prog, [(52, C52 N)]⟩
def O21 (N : Nat) : Opts := ⟨N, [(6, ⟨[1, 3, 4, 5], [], [], 1⟩), (11, ⟨[1, 3, 4, 5, 6], [], [], 1⟩), (16, ⟨[1, 3, 4, 7], [], [], 1⟩), (22, ⟨[1, 4, 8], [], [], 1⟩)], []⟩
noncomputable def F21 (N : Nat) (a : (List PV) × (List PV) × List PV) : Option (Bool) := aTyped (E21 N) (O21 N) Tryd.f21 A21 R21 a
noncomputable def L21_6 (N : Nat) (n : Nat) (x0 : Int) (x1 : Int) (x2 : Int) (x3 : List PV) (x4 : List PV) (x5 : List PV) : Option Bool :=
  atLoop (E21 N) (O21 N) Tryd.f21 [(1 : Nat), (1 : Nat), (1 : Nat), (1 : Nat), (0 : Nat), (1 : Nat), (0 : Nat)] [] n
  {
    tmps :=
      Tm.of (nat_lit 127)
        [((1 : Nat), AV.box (0 : Nat) (0 : Nat)), ((3 : Nat), AV.p (PV.int IntKind.i64 x0)), ((4 : Nat), AV.p (PV.int IntKind.i64 x1)), ((5 : Nat), AV.p (PV.int IntKind.i64 x2))],
    heap := [Blk.box [AV.p (PV.sl (2 : Nat) x3), AV.p (PV.sl (6 : Nat) x4), AV.p (PV.sl (5 : Nat) x5)]] }
  fun x => Cod.dec R21 x some
noncomputable def L21_11 (N : Nat) (n : Nat) (m0 : Nat) (x0 : Int) (x1 : Int) (x2 : Int) (x3 : Int) (x4 : List PV) (x5 : List PV) (x6 : List PV) : Option Bool :=
  atLoop (E21 N) (O21 N) Tryd.f21
  [(1 : Nat), (1 : Nat), (1 : Nat), (1 : Nat), (0 : Nat), (1 : Nat), (0 : Nat), (0 : Nat), (1 : Nat), (0 : Nat), (0 : Nat), (1 : Nat), (1 : Nat), (0 : Nat)] [m0] n
  {
    tmps :=
      Tm.of (nat_lit 127)
        [((1 : Nat), AV.box (0 : Nat) (0 : Nat)), ((3 : Nat), AV.p (PV.int IntKind.i64 x0)), ((4 : Nat), AV.p (PV.int IntKind.i64 x1)), ((5 : Nat), AV.p (PV.int IntKind.i64 x2)),
          ((6 : Nat), AV.p (PV.int IntKind.i64 x3))],
    heap := [Blk.box [AV.p (PV.sl (2 : Nat) x4), AV.p (PV.sl (6 : Nat) x5), AV.p (PV.sl (5 : Nat) x6)]] }
  fun x => Cod.dec R21 x some
noncomputable def L21_16 (N : Nat) (n : Nat) (x0 : Int) (x1 : Int) (x2 : Int) (x3 : List PV) (x4 : List PV) (x5 : List PV) : Option Bool :=
  atLoop (E21 N) (O21 N) Tryd.f21 [(1 : Nat), (1 : Nat), (1 : Nat), (1 : Nat), (1 : Nat), (0 : Nat), (1 : Nat), (0 : Nat)] [] n
  {
    tmps :=
      Tm.of (nat_lit 127)
        [((1 : Nat), AV.box (0 : Nat) (0 : Nat)), ((3 : Nat), AV.p (PV.int IntKind.i64 x0)), ((4 : Nat), AV.p (PV.int IntKind.i64 x1)), ((7 : Nat), AV.p (PV.int IntKind.i64 x2))],
    heap := [Blk.box [AV.p (PV.sl (2 : Nat) x3), AV.p (PV.sl (6 : Nat) x4), AV.p (PV.sl (5 : Nat) x5)]] }
  fun x => Cod.dec R21 x some
noncomputable def L21_22 (N : Nat) (n : Nat) (x0 : Int) (x1 : Int) (x2 : List PV) (x3 : List PV) (x4 : List PV) : Option Bool :=
  atLoop (E21 N) (O21 N) Tryd.f21 [(1 : Nat), (1 : Nat), (1 : Nat), (1 : Nat), (1 : Nat), (1 : Nat), (0 : Nat), (1 : Nat), (0 : Nat)] [] n
  { tmps := Tm.of (nat_lit 127) [((1 : Nat), AV.box (0 : Nat) (0 : Nat)), ((4 : Nat), AV.p (PV.int IntKind.i64 x0)), ((8 : Nat), AV.p (PV.int IntKind.i64 x1))],
    heap := [Blk.box [AV.p (PV.sl (2 : Nat) x2), AV.p (PV.sl (6 : Nat) x3), AV.p (PV.sl (5 : Nat) x4)]] }
  fun x => Cod.dec R21 x some
theorem L21_6_eq (N : Nat) (n : Nat) (x0 : Int) (x1 : Int) (x2 : Int) (x3 : List PV) (x4 : List PV) (x5 : List PV) : L21_6 N (n + 1) x0 x1 x2 x3 x4 x5 =
    aIf (decide (x2 < Int.ofNat (List.length x3)))
  (onGet x3 x2 fun z0 =>
    onSome (PV.cells z0)[(0 : Nat)]? fun y1 =>
      onStr y1 fun u2 =>
        aIf (decide ((80 : Int) < Int.ofNat (List.length u2))) (some false)
          (onGet x3 x2 fun z3 =>
            onSome (PV.cells z3)[(1 : Nat)]? fun y4 =>
              onSl (1 : Nat) y4 fun l5 => aIf (decide ((20 : Int) < Int.ofNat (List.length l5))) (some false) (L21_11 N N n x0 x1 x2 (0 : Int) x3 x4 x5)))
  (L21_16 N N x0 x1 (0 : Int) x3 x4 x5) := by kernel_rfl
theorem L21_6_zero (N : Nat) (x0 : Int) (x1 : Int) (x2 : Int) (x3 : List PV) (x4 : List PV) (x5 : List PV) : L21_6 N 0 x0 x1 x2 x3 x4 x5 = none := by kernel_rfl
theorem L21_11_eq (N : Nat) (n : Nat) (m0 : Nat) (x0 : Int) (x1 : Int) (x2 : Int) (x3 : Int) (x4 : List PV) (x5 : List PV) (x6 : List PV) : L21_11 N (n + 1) m0 x0 x1 x2 x3 x4 x5 x6 =
    onGet x4 x2 fun z6 =>
  onSome (PV.cells z6)[(1 : Nat)]? fun y7 =>
    onSl (1 : Nat) y7 fun l8 =>
      aIf (decide (x3 < Int.ofNat (List.length l8)))
        (onGet x4 x2 fun z9 =>
          onSome (PV.cells z9)[(1 : Nat)]? fun y10 =>
            onSl (1 : Nat) y10 fun l11 =>
              onGet l11 x3 fun z12 =>
                onStr z12 fun u13 =>
                  aIf (decide ((80 : Int) < Int.ofNat (List.length u13))) (some false) (L21_11 N n m0 x0 x1 x2 (IntKind.wrap IntKind.i64 (x3 + (1 : Int))) x4 x5 x6))
        (L21_6 N m0 x0 x1 (IntKind.wrap IntKind.i64 (x2 + (1 : Int))) x4 x5 x6) := by kernel_rfl
theorem L21_11_zero (N : Nat) (m0 : Nat) (x0 : Int) (x1 : Int) (x2 : Int) (x3 : Int) (x4 : List PV) (x5 : List PV) (x6 : List PV) : L21_11 N 0 m0 x0 x1 x2 x3 x4 x5 x6 = none := by kernel_rfl
theorem L21_16_eq (N : Nat) (n : Nat) (x0 : Int) (x1 : Int) (x2 : Int) (x3 : List PV) (x4 : List PV) (x5 : List PV) : L21_16 N (n + 1) x0 x1 x2 x3 x4 x5 =
    aIf (decide (x2 < Int.ofNat (List.length x4)))
  (onGet x4 x2 fun z14 =>
    onSome (PV.cells z14)[(5 : Nat)]? fun y15 =>
      onSl (5 : Nat) y15 fun l16 =>
        onGet x4 x2 fun z17 =>
          onSome (PV.cells z17)[(0 : Nat)]? fun y18 =>
            onStr y18 fun u19 =>
              aIf (decide ((80 : Int) < Int.ofNat (List.length u19))) (some false)
                (aIf (decide ((150 : Int) < IntKind.wrap IntKind.i64 (x0 + Int.ofNat (List.length l16)))) (some false)
                  (L21_16 N n (IntKind.wrap IntKind.i64 (x0 + Int.ofNat (List.length l16))) x1 (IntKind.wrap IntKind.i64 (x2 + (1 : Int))) x3 x4 x5)))
  (L21_22 N N x1 (0 : Int) x3 x4 x5) := by kernel_rfl
theorem L21_16_zero (N : Nat) (x0 : Int) (x1 : Int) (x2 : Int) (x3 : List PV) (x4 : List PV) (x5 : List PV) : L21_16 N 0 x0 x1 x2 x3 x4 x5 = none := by kernel_rfl
theorem L21_22_eq (N : Nat) (n : Nat) (x0 : Int) (x1 : Int) (x2 : List PV) (x3 : List PV) (x4 : List PV) : L21_22 N (n + 1) x0 x1 x2 x3 x4 =
    aIf (decide (x1 < Int.ofNat (List.length x4)))
  (onGet x4 x1 fun z20 =>
    onSome (PV.cells z20)[(4 : Nat)]? fun y21 =>
      onSl (9 : Nat) y21 fun l22 =>
        aIf (decide ((60 : Int) < IntKind.wrap IntKind.i64 (x0 + Int.ofNat (List.length l22)))) (some false)
          (onGet x4 x1 fun z23 =>
            onCons (List.take (5 : Nat) (List.drop (0 : Nat) (PV.cells z23))) fun h24 t25 =>
              onStr h24 fun u26 =>
                onCons t25 fun h27 t28 =>
                  onInt IntKind.i64 h27 fun n29 =>
                    onCons t28 fun h30 t31 =>
                      onSl (3 : Nat) h30 fun l32 =>
                        onCons t31 fun h33 t34 =>
                          onSl (3 : Nat) h33 fun l35 =>
                            onCons t34 fun h36 t37 =>
                              onSl (9 : Nat) h36 fun l38 =>
                                onNil t37
                                  (onSome (F52 N (u26, n29, l32, l35, l38)) fun y39 =>
                                    aIf (!y39) (some false)
                                      (L21_22 N n (IntKind.wrap IntKind.i64 (x0 + Int.ofNat (List.length l22))) (IntKind.wrap IntKind.i64 (x1 + (1 : Int))) x2 x3 x4))))
  (some true) := by kernel_rfl
theorem L21_22_zero (N : Nat) (x0 : Int) (x1 : Int) (x2 : List PV) (x3 : List PV) (x4 : List PV) : L21_22 N 0 x0 x1 x2 x3 x4 = none := by kernel_rfl
theorem F21_eq (N : Nat) (a0 : List PV) (a1 : List PV) (a2 : List PV) : F21 N (a0, a1, a2) =
    aIf (decide ((9 : Int) < Int.ofNat (List.length a0))) (some false)
  (aIf (decide ((9 : Int) < Int.ofNat (List.length a1))) (some false)
    (aIf (decide ((5 : Int) < Int.ofNat (List.length a2))) (some false) (L21_6 N N (0 : Int) (0 : Int) (0 : Int) a0 a1 a2))) := by kernel_rfl
noncomputable def C21 (N : Nat) : Callee := mkCallee A21 R21 (F21 N)
theorem S21 (N : Nat) : Cok 21 (C21 N) := cok_of (l := (E21 N).calls) (O := O21 N) (cok_cons (S52 N) cok_nil) rfl Tryd.func21 rfl (by kernel_rfl) (by kernel_rfl)

-- function 22
def A22 : Cods ((Int) × (List PV) × List PV) := (codsOne (codAgg (codsCons (codInt .i64) (codsCons (codSl 3) (codsOne (codSl 1))))))
def R22 : Cod (Bool) := codBool
noncomputable def E22 (N : Nat) : Env := ⟨Tryd.prog, []⟩
def O22 (N : Nat) : Opts := ⟨N, [(4, ⟨[1, 3], [], [], 1⟩)], []⟩
noncomputable def F22 (N : Nat) (a : (Int) × (List PV) × List PV) : Option (Bool) := aTyped (E22 N) (O22 N) Tryd.f22 A22 R22 a
noncomputable def L22_4 (N : Nat) (n : Nat) (x0 : Int) (x1 : Int) (x2 : List PV) (x3 : List PV) : Option Bool :=
  atLoop (E22 N) (O22 N) Tryd.f22 [(1 : Nat), (1 : Nat), (0 : Nat), (1 : Nat), (0 : Nat)] [] n
  { tmps := Tm.of (nat_lit 28) [((1 : Nat), AV.box (0 : Nat) (0 : Nat)), ((3 : Nat), AV.p (PV.int IntKind.i64 x0))],
    heap := [Blk.box [AV.p (PV.int IntKind.i64 x1), AV.p (PV.sl (3 : Nat) x2), AV.p (PV.sl (1 : Nat) x3)]] }
  fun x => Cod.dec R22 x some
theorem L22_4_eq (N : Nat) (n : Nat) (x0 : Int) (x1 : Int) (x2 : List PV) (x3 : List PV) : L22_4 N (n + 1) x0 x1 x2 x3 =
    aIf (decide (x0 < Int.ofNat (List.length x3)))
  (onGet x3 x0 fun z0 =>
    onSl (3 : Nat) z0 fun l1 => aIf (decide ((14 : Int) < Int.ofNat (List.length l1))) (some false) (L22_4 N n (IntKind.wrap IntKind.i64 (x0 + (1 : Int))) x1 x2 x3))
  (some true) := by kernel_rfl
theorem L22_4_zero (N : Nat) (x0 : Int) (x1 : Int) (x2 : List PV) (x3 : List PV) : L22_4 N 0 x0 x1 x2 x3 = none := by kernel_rfl
theorem F22_eq (N : Nat) (a0 : Int) (a1 : List PV) (a2 : List PV) : F22 N (a0, a1, a2) =
    aIf (decide ((14 : Int) < Int.ofNat (List.length a1))) (some false) (aIf (decide ((10 : Int) < Int.ofNat (List.length a2))) (some false) (L22_4 N N (0 : Int) a0 a1 a2)) := by kernel_rfl
noncomputable def C22 (N : Nat) : Callee := mkCallee A22 R22 (F22 N)
theorem S22 (N : Nat) : Cok 22 (C22 N) := cok_of (l := (E22 N).calls) (O := O22 N) cok_nil rfl Tryd.func22 rfl (by kernel_rfl) (by kernel_rfl)

-- function 53
def A53 : Cods (Unit) := codsNil
def R53 : Cod ((List PV) × (List PV) × List PV) := (codAgg (codsCons (codSl 2) (codsCons (codSl 6) (codsOne (codSl 5)))))
noncomputable def E53 (N : Nat) : Env := ⟨Tryd.prog, []⟩
def O53 (N : Nat) : Opts := ⟨N, [], []⟩
noncomputable def F53 (N : Nat) (a : Unit) : Option ((List PV) × (List PV) × List PV) := aTyped (E53 N) (O53 N) Tryd.f53 A53 R53 a
theorem F53_eq (N : Nat)  : F53 N () =
    some
  ([], [],
    [PV.agg
        [PV.str [(115 : UInt8)], PV.int IntKind.i64 (-1 : Int),
          PV.sl (3 : Nat)
            [PV.agg [PV.str [(97 : UInt8)], PV.int IntKind.i64 (3 : Int), PV.int IntKind.i64 (0 : Int)],
              PV.agg [PV.str [(98 : UInt8)], PV.int IntKind.i64 (1 : Int), PV.int IntKind.i64 (0 : Int)]],
          PV.nilsl, PV.nilsl]]) := by kernel_rfl
noncomputable def C53 (N : Nat) : Callee := mkCallee A53 R53 (F53 N)
theorem S53 (N : Nat) : Cok 53 (C53 N) := cok_of (l := (E53 N).calls) (O := O53 N) cok_nil rfl Tryd.func53 rfl (by kernel_rfl) (by kernel_rfl)

-- function 48
def A48 : Cods (List UInt8) := (codsOne codStr)
def R48 : Cod ((List PV) × Int) := (codTup (codsCons (codSl 1) (codsOne (codInt .i64))))
noncomputable def E48 (N : Nat) : Env := ⟨Tryd.prog, []⟩
def O48 (N : Nat) : Opts := ⟨N, [(6, ⟨[0, 4, 5, 12], [(4, 9, 1)], [], 2⟩)], []⟩
noncomputable def F48 (N : Nat) (a : List UInt8) : Option ((List PV) × Int) := aTyped (E48 N) (O48 N) Tryd.f48 A48 R48 a
noncomputable def L48_6 (N : Nat) (n : Nat) (x0 : List UInt8) (x1 : Int) (x2 : List UInt8) (x3 : Nat) (x4 : List PV) : Option (List PV × Int) :=
  atLoop (E48 N) (O48 N) Tryd.f48 [(1 : Nat), (1 : Nat), (1 : Nat), (1 : Nat), (0 : Nat), (1 : Nat), (0 : Nat)] [] n
  { tmps := Tm.of (nat_lit 43) [((0 : Nat), AV.p (PV.str x0)), ((4 : Nat), AV.own (1 : Nat)), ((5 : Nat), AV.p (PV.int IntKind.i64 x1)), ((12 : Nat), AV.it (0 : Nat))],
    heap := [Blk.iter x2 x3, Blk.row (9 : Nat) (1 : Nat) x4] }
  fun x => Cod.dec R48 x some
theorem L48_6_eq (N : Nat) (n : Nat) (x0 : List UInt8) (x1 : Int) (x2 : List UInt8) (x3 : Nat) (x4 : List PV) : L48_6 N (n + 1) x0 x1 x2 x3 x4 =
    aIf (decide (x3 < List.length x2))
  (aIf (Int.ofNat (Prod.fst (Utf8.decode { data := List.toArray x2 } x3)) == (10 : Int))
    (aGd (decide (Int.ofNat x3 ≤ Int.ofNat (List.length x0)))
      (aGd (decide ((0 : Int) ≤ x1))
        (aGd (decide (x1 ≤ Int.ofNat (Int.toNat (Int.ofNat x3))))
          (aGd (decide ((List.length x4 + (1 : Nat)) * (17 : Nat) ≤ (140737488355328 : Nat)))
            (aGd
              (keptUnder (2 : Nat)
                  [((0 : Nat), AV.p (PV.str x0)), ((4 : Nat), AV.own (1 : Nat)), ((5 : Nat), AV.p (PV.int IntKind.i64 (IntKind.wrap IntKind.i64 (Int.ofNat x3 + (1 : Int))))),
                    ((12 : Nat), AV.it (0 : Nat))] &&
                underH (2 : Nat)
                  (List.take (2 : Nat)
                    [Blk.iter x2 (x3 + Prod.snd (Utf8.decode { data := List.toArray x2 } x3)),
                      Blk.row (9 : Nat) (1 : Nat) (x4 ++ [PV.str (List.drop (Int.toNat x1) (List.take (Int.toNat (Int.ofNat x3)) x0))])]))
              (L48_6 N n x0 (IntKind.wrap IntKind.i64 (Int.ofNat x3 + (1 : Int))) x2 (x3 + Prod.snd (Utf8.decode { data := List.toArray x2 } x3))
                (x4 ++ [PV.str (List.drop (Int.toNat x1) (List.take (Int.toNat (Int.ofNat x3)) x0))])))))))
    (aIf (Int.ofNat (Prod.fst (Utf8.decode { data := List.toArray x2 } x3)) != (9 : Int))
      (aIf (decide (Int.ofNat (Prod.fst (Utf8.decode { data := List.toArray x2 } x3)) < (32 : Int))) (some ([], (2 : Int)))
        (aIf (decide ((126 : Int) < Int.ofNat (Prod.fst (Utf8.decode { data := List.toArray x2 } x3)))) (some ([], (2 : Int)))
          (aGd
            (keptUnder (2 : Nat) [((0 : Nat), AV.p (PV.str x0)), ((4 : Nat), AV.own (1 : Nat)), ((5 : Nat), AV.p (PV.int IntKind.i64 x1)), ((12 : Nat), AV.it (0 : Nat))] &&
              underH (2 : Nat) (List.take (2 : Nat) [Blk.iter x2 (x3 + Prod.snd (Utf8.decode { data := List.toArray x2 } x3)), Blk.row (9 : Nat) (1 : Nat) x4]))
            (L48_6 N n x0 x1 x2 (x3 + Prod.snd (Utf8.decode { data := List.toArray x2 } x3)) x4))))
      (aGd
        (keptUnder (2 : Nat) [((0 : Nat), AV.p (PV.str x0)), ((4 : Nat), AV.own (1 : Nat)), ((5 : Nat), AV.p (PV.int IntKind.i64 x1)), ((12 : Nat), AV.it (0 : Nat))] &&
          underH (2 : Nat) (List.take (2 : Nat) [Blk.iter x2 (x3 + Prod.snd (Utf8.decode { data := List.toArray x2 } x3)), Blk.row (9 : Nat) (1 : Nat) x4]))
        (L48_6 N n x0 x1 x2 (x3 + Prod.snd (Utf8.decode { data := List.toArray x2 } x3)) x4))))
  (aIf (x1 != Int.ofNat (List.length x0)) (some ([], (2 : Int))) (some (x4, (0 : Int)))) := by kernel_rfl
theorem L48_6_zero (N : Nat) (x0 : List UInt8) (x1 : Int) (x2 : List UInt8) (x3 : Nat) (x4 : List PV) : L48_6 N 0 x0 x1 x2 x3 x4 = none := by kernel_rfl
theorem F48_eq (N : Nat) (a0 : List UInt8) : F48 N a0 =
    aIf (decide ((65536 : Int) < Int.ofNat (List.length a0))) (some ([], (4 : Int)))
  (aGd
    (keptUnder (2 : Nat) [((0 : Nat), AV.p (PV.str a0)), ((4 : Nat), AV.own (1 : Nat)), ((5 : Nat), AV.p (PV.int IntKind.i64 (0 : Int))), ((12 : Nat), AV.it (0 : Nat))] &&
      underH (2 : Nat) (List.take (2 : Nat) [Blk.iter a0 (0 : Nat), Blk.row (9 : Nat) (1 : Nat) []]))
    (L48_6 N N a0 (0 : Int) a0 (0 : Nat) [])) := by kernel_rfl
noncomputable def C48 (N : Nat) : Callee := mkCallee A48 R48 (F48 N)
theorem S48 (N : Nat) : Cok 48 (C48 N) := cok_of (l := (E48 N).calls) (O := O48 N) cok_nil rfl Tryd.func48 rfl (by kernel_rfl) (by kernel_rfl)

-- function 109
def A109 : Cods ((List UInt8) × List UInt8) := (codsCons codStr (codsOne codStr))
def R109 : Cod (Bool) := codBool
noncomputable def E109 (N : Nat) : Env := ⟨Tryd.prog, []⟩
def O109 (N : Nat) : Opts := ⟨N, [], []⟩
noncomputable def F109 (N : Nat) (a : (List UInt8) × List UInt8) : Option (Bool) := aTyped (E109 N) (O109 N) Tryd.f109 A109 R109 a
theorem F109_eq (N : Nat) (a0 : List UInt8) (a1 : List UInt8) : F109 N (a0, a1) =
    aIf (decide (Int.ofNat (List.length a1) ≤ Int.ofNat (List.length a0)))
  (aGd (decide (Int.ofNat (List.length a1) ≤ Int.ofNat (List.length a0))) (some (List.drop (0 : Nat) (List.take (Int.toNat (Int.ofNat (List.length a1))) a0) == a1))) (some false) := by kernel_rfl
noncomputable def C109 (N : Nat) : Callee := mkCallee A109 R109 (F109 N)
theorem S109 (N : Nat) : Cok 109 (C109 N) := cok_of (l := (E109 N).calls) (O := O109 N) cok_nil rfl Tryd.func109 rfl (by kernel_rfl) (by kernel_rfl)

-- function 87
def A87 : Cods ((List UInt8) × List UInt8) := (codsCons codStr (codsOne codStr))
def R87 : Cod ((List UInt8) × Bool) := (codTup (codsCons codStr (codsOne codBool)))
noncomputable def E87 (N : Nat) : Env := ⟨Tryd.prog, [(109, C109 N)]⟩
def O87 (N : Nat) : Opts := ⟨N, [], []⟩
noncomputable def F87 (N : Nat) (a : (List UInt8) × List UInt8) : Option ((List UInt8) × Bool) := aTyped (E87 N) (O87 N) Tryd.f87 A87 R87 a
theorem F87_eq (N : Nat) (a0 : List UInt8) (a1 : List UInt8) : F87 N (a0, a1) =
    onSome (F109 N (a0, a1)) fun y0 =>
  aIf (!y0) (some (a0, false))
    (aGd (decide (Int.ofNat (List.length a1) ≤ Int.ofNat (List.length a0))) (some (List.drop (Int.toNat (Int.ofNat (List.length a1))) (List.take (List.length a0) a0), true))) := by kernel_rfl
noncomputable def C87 (N : Nat) : Callee := mkCallee A87 R87 (F87 N)
theorem S87 (N : Nat) : Cok 87 (C87 N) := cok_of (l := (E87 N).calls) (O := O87 N) (cok_cons (S109 N) cok_nil) rfl Tryd.func87 rfl (by kernel_rfl) (by kernel_rfl)

-- function 59
def A59 : Cods ((List UInt8) × List UInt8) := (codsCons codStr (codsOne codStr))
def R59 : Cod ((List UInt8) × Bool) := (codTup (codsCons codStr (codsOne codBool)))
noncomputable def E59 (N : Nat) : Env := ⟨Tryd.prog, [(87, C87 N)]⟩
def O59 (N : Nat) : Opts := ⟨N, [], []⟩
noncomputable def F59 (N : Nat) (a : (List UInt8) × List UInt8) : Option ((List UInt8) × Bool) := aTyped (E59 N) (O59 N) Tryd.f59 A59 R59 a
theorem F59_eq (N : Nat) (a0 : List UInt8) (a1 : List UInt8) : F59 N (a0, a1) =
    onSome (F87 N (a0, a1)) fun y0 => some (Prod.fst y0, Prod.snd y0) := by kernel_rfl
noncomputable def C59 (N : Nat) : Callee := mkCallee A59 R59 (F59 N)
theorem S59 (N : Nat) : Cok 59 (C59 N) := cok_of (l := (E59 N).calls) (O := O59 N) (cok_cons (S87 N) cok_nil) rfl Tryd.func59 rfl (by kernel_rfl) (by kernel_rfl)

-- function 88
def A88 : Cods (List UInt8) := (codsOne codStr)
def R88 : Cod ((Int) × Bool) := (codTup (codsCons (codInt .i64) (codsOne codBool)))
noncomputable def E88 (N : Nat) : Env := ⟨Tryd.prog, []⟩
def O88 (N : Nat) : Opts := ⟨N, [(3, ⟨[0, 4, 7, 8], [], [], 0⟩)], []⟩
noncomputable def F88 (N : Nat) (a : List UInt8) : Option ((Int) × Bool) := aTyped (E88 N) (O88 N) Tryd.f88 A88 R88 a
noncomputable def L88_3 (N : Nat) (n : Nat) (x0 : List UInt8) (x1 : Int) (x2 : Int) (x3 : Int) : Option (Int × Bool) :=
  atLoop (E88 N) (O88 N) Tryd.f88 [(1 : Nat), (1 : Nat), (0 : Nat), (1 : Nat), (0 : Nat)] [] n
  {
    tmps :=
      Tm.of (nat_lit 31)
        [((0 : Nat), AV.p (PV.str x0)), ((4 : Nat), AV.p (PV.int IntKind.i64 x1)), ((7 : Nat), AV.p (PV.int IntKind.i64 x2)), ((8 : Nat), AV.p (PV.int IntKind.i64 x3))],
    heap := [] }
  fun x => Cod.dec R88 x some
theorem L88_3_eq (N : Nat) (n : Nat) (x0 : List UInt8) (x1 : Int) (x2 : Int) (x3 : Int) : L88_3 N (n + 1) x0 x1 x2 x3 =
    aIf (decide (x3 < x2))
  (onGet x0 x3 fun z0 =>
    aIf (decide (Int.ofNat (UInt8.toNat z0) < (48 : Int))) (some ((0 : Int), false))
      (onGet x0 x3 fun z1 =>
        aIf (decide ((57 : Int) < Int.ofNat (UInt8.toNat z1))) (some ((0 : Int), false))
          (onGet x0 x3 fun z2 =>
            L88_3 N n x0
              (IntKind.wrap IntKind.i64 (IntKind.wrap IntKind.i64 ((10 : Int) * x1) + IntKind.wrap IntKind.i64 (IntKind.wrap IntKind.u8 (Int.ofNat (UInt8.toNat z2) - (48 : Int)))))
              x2 (IntKind.wrap IntKind.i64 (x3 + (1 : Int))))))
  (some (x1, true)) := by kernel_rfl
theorem L88_3_zero (N : Nat) (x0 : List UInt8) (x1 : Int) (x2 : Int) (x3 : Int) : L88_3 N 0 x0 x1 x2 x3 = none := by kernel_rfl
theorem F88_eq (N : Nat) (a0 : List UInt8) : F88 N a0 =
    L88_3 N N a0 (0 : Int) (Int.ofNat (List.length a0)) (0 : Int) := by kernel_rfl
noncomputable def C88 (N : Nat) : Callee := mkCallee A88 R88 (F88 N)
theorem S88 (N : Nat) : Cok 88 (C88 N) := cok_of (l := (E88 N).calls) (O := O88 N) cok_nil rfl Tryd.func88 rfl (by kernel_rfl) (by kernel_rfl)

-- function 125
def A125 : Cods (Int) := (codsOne (codInt .i64))
def R125 : Cod (Bool) := codBool
noncomputable def E125 (N : Nat) : Env := ⟨Tryd.prog, []⟩
def O125 (N : Nat) : Opts := ⟨N, [], []⟩
noncomputable def F125 (N : Nat) (a : Int) : Option (Bool) := aTyped (E125 N) (O125 N) Tryd.f125 A125 R125 a
theorem F125_eq (N : Nat) (a0 : Int) : F125 N a0 =
    aIf (Int.tmod a0 (4 : Int) == (0 : Int)) (aIf (Int.tmod a0 (100 : Int) != (0 : Int)) (some true) (some (Int.tmod a0 (400 : Int) == (0 : Int)))) (some false) := by kernel_rfl
noncomputable def C125 (N : Nat) : Callee := mkCallee A125 R125 (F125 N)
theorem S125 (N : Nat) : Cok 125 (C125 N) := cok_of (l := (E125 N).calls) (O := O125 N) cok_nil rfl Tryd.func125 rfl (by kernel_rfl) (by kernel_rfl)

-- function 110
def A110 : Cods ((Int) × Int) := (codsCons (codInt .i64) (codsOne (codInt .i64)))
def R110 : Cod (Int) := (codInt .i64)
noncomputable def E110 (N : Nat) : Env := ⟨Tryd.prog, [(125, C125 N)]⟩
def O110 (N : Nat) : Opts := ⟨N, [], []⟩
noncomputable def F110 (N : Nat) (a : (Int) × Int) : Option (Int) := aTyped (E110 N) (O110 N) Tryd.f110 A110 R110 a
theorem F110_eq (N : Nat) (a0 : Int) (a1 : Int) : F110 N (a0, a1) =
    aGd (decide ((0 : Nat) + (13 : Nat) ≤ (13 : Nat)))
  (aIf (decide (a1 < (1 : Int))) (some (0 : Int))
    (aIf (decide ((12 : Int) < a1)) (some (0 : Int))
      (aIf (a1 == (2 : Int))
        (onSome (F125 N a0) fun y0 =>
          aIf y0 (some (29 : Int))
            (aGd (decide ((0 : Int) ≤ a1))
              (aGd (decide (a1 < (13 : Int)))
                (onSome
                  [PV.int IntKind.i64 (0 : Int), PV.int IntKind.i64 (31 : Int), PV.int IntKind.i64 (28 : Int), PV.int IntKind.i64 (31 : Int), PV.int IntKind.i64 (30 : Int),
                      PV.int IntKind.i64 (31 : Int), PV.int IntKind.i64 (30 : Int), PV.int IntKind.i64 (31 : Int), PV.int IntKind.i64 (31 : Int), PV.int IntKind.i64 (30 : Int),
                      PV.int IntKind.i64 (31 : Int), PV.int IntKind.i64 (30 : Int), PV.int IntKind.i64 (31 : Int)][(0 : Nat) + Int.toNat a1 * (1 : Nat)]?
                  fun y1 => onInt IntKind.i64 y1 fun n2 => some n2))))
        (aGd (decide ((0 : Int) ≤ a1))
          (aGd (decide (a1 < (13 : Int)))
            (onSome
              [PV.int IntKind.i64 (0 : Int), PV.int IntKind.i64 (31 : Int), PV.int IntKind.i64 (28 : Int), PV.int IntKind.i64 (31 : Int), PV.int IntKind.i64 (30 : Int),
                  PV.int IntKind.i64 (31 : Int), PV.int IntKind.i64 (30 : Int), PV.int IntKind.i64 (31 : Int), PV.int IntKind.i64 (31 : Int), PV.int IntKind.i64 (30 : Int),
                  PV.int IntKind.i64 (31 : Int), PV.int IntKind.i64 (30 : Int), PV.int IntKind.i64 (31 : Int)][(0 : Nat) + Int.toNat a1 * (1 : Nat)]?
              fun y3 => onInt IntKind.i64 y3 fun n4 => some n4)))))) := by kernel_rfl
noncomputable def C110 (N : Nat) : Callee := mkCallee A110 R110 (F110 N)
theorem S110 (N : Nat) : Cok 110 (C110 N) := cok_of (l := (E110 N).calls) (O := O110 N) (cok_cons (S125 N) cok_nil) rfl Tryd.func110 rfl (by kernel_rfl) (by kernel_rfl)

-- function 111
def A111 : Cods (Int) := (codsOne (codInt .i64))
def R111 : Cod (Int) := (codInt .i64)
noncomputable def E111 (N : Nat) : Env := ⟨Tryd.prog, [(125, C125 N)]⟩
def O111 (N : Nat) : Opts := ⟨N, [], []⟩
noncomputable def F111 (N : Nat) (a : Int) : Option (Int) := aTyped (E111 N) (O111 N) Tryd.f111 A111 R111 a
theorem F111_eq (N : Nat) (a0 : Int) : F111 N a0 =
    onSome (F125 N a0) fun y0 => aIf y0 (some (366 : Int)) (some (365 : Int)) := by kernel_rfl
noncomputable def C111 (N : Nat) : Callee := mkCallee A111 R111 (F111 N)
theorem S111 (N : Nat) : Cok 111 (C111 N) := cok_of (l := (E111 N).calls) (O := O111 N) (cok_cons (S125 N) cok_nil) rfl Tryd.func111 rfl (by kernel_rfl) (by kernel_rfl)

-- function 89
def A89 : Cods ((Int) × (Int) × Int) := (codsCons (codInt .i64) (codsCons (codInt .i64) (codsOne (codInt .i64))))
def R89 : Cod ((Int) × Int) := (codTup (codsCons (codInt .i64) (codsOne (codInt .i64))))
noncomputable def E89 (N : Nat) : Env := ⟨Tryd.prog, [(110, C110 N), (111, C111 N)]⟩
def O89 (N : Nat) : Opts := ⟨N, [(5, ⟨[0, 1, 8, 31, 32], [], [], 0⟩), (10, ⟨[0, 8, 42, 43], [], [], 0⟩)], []⟩
noncomputable def F89 (N : Nat) (a : (Int) × (Int) × Int) : Option ((Int) × Int) := aTyped (E89 N) (O89 N) Tryd.f89 A89 R89 a
noncomputable def L89_5 (N : Nat) (n : Nat) (x0 : Int) (x1 : Int) (x2 : Int) (x3 : Int) (x4 : Int) : Option (Int × Int) :=
  atLoop (E89 N) (O89 N) Tryd.f89 [(1 : Nat), (1 : Nat), (1 : Nat), (0 : Nat), (1 : Nat), (0 : Nat)] [] n
  {
    tmps :=
      Tm.of (nat_lit 54)
        [((0 : Nat), AV.p (PV.int IntKind.i64 x0)), ((1 : Nat), AV.p (PV.int IntKind.i64 x1)), ((8 : Nat), AV.p (PV.int IntKind.i64 x2)),
          ((31 : Nat), AV.p (PV.int IntKind.i64 x3)), ((32 : Nat), AV.p (PV.int IntKind.i64 x4))],
    heap := [] }
  fun x => Cod.dec R89 x some
noncomputable def L89_10 (N : Nat) (n : Nat) (x0 : Int) (x1 : Int) (x2 : Int) (x3 : Int) : Option (Int × Int) :=
  atLoop (E89 N) (O89 N) Tryd.f89 [(1 : Nat), (1 : Nat), (1 : Nat), (1 : Nat), (0 : Nat), (1 : Nat), (0 : Nat)] [] n
  {
    tmps :=
      Tm.of (nat_lit 54)
        [((0 : Nat), AV.p (PV.int IntKind.i64 x0)), ((8 : Nat), AV.p (PV.int IntKind.i64 x1)), ((42 : Nat), AV.p (PV.int IntKind.i64 x2)),
          ((43 : Nat), AV.p (PV.int IntKind.i64 x3))],
    heap := [] }
  fun x => Cod.dec R89 x some
theorem L89_5_eq (N : Nat) (n : Nat) (x0 : Int) (x1 : Int) (x2 : Int) (x3 : Int) (x4 : Int) : L89_5 N (n + 1) x0 x1 x2 x3 x4 =
    aIf (decide (x4 < x3))
  (onSome (F111 N (IntKind.wrap IntKind.i64 ((1900 : Int) + x4))) fun y1 => L89_5 N n x0 x1 (IntKind.wrap IntKind.i64 (x2 + y1)) x3 (IntKind.wrap IntKind.i64 (x4 + (1 : Int))))
  (L89_10 N N x0 x2 (IntKind.wrap IntKind.i64 (x1 - (1 : Int))) (0 : Int)) := by kernel_rfl
theorem L89_5_zero (N : Nat) (x0 : Int) (x1 : Int) (x2 : Int) (x3 : Int) (x4 : Int) : L89_5 N 0 x0 x1 x2 x3 x4 = none := by kernel_rfl
theorem L89_10_eq (N : Nat) (n : Nat) (x0 : Int) (x1 : Int) (x2 : Int) (x3 : Int) : L89_10 N (n + 1) x0 x1 x2 x3 =
    aIf (decide (x3 < x2))
  (onSome (F110 N (x0, IntKind.wrap IntKind.i64 (x3 + (1 : Int)))) fun y2 => L89_10 N n x0 (IntKind.wrap IntKind.i64 (x1 + y2)) x2 (IntKind.wrap IntKind.i64 (x3 + (1 : Int))))
  (some (x1, (0 : Int))) := by kernel_rfl
theorem L89_10_zero (N : Nat) (x0 : Int) (x1 : Int) (x2 : Int) (x3 : Int) : L89_10 N 0 x0 x1 x2 x3 = none := by kernel_rfl
theorem F89_eq (N : Nat) (a0 : Int) (a1 : Int) (a2 : Int) : F89 N (a0, a1, a2) =
    aIf (decide (a0 < (1900 : Int))) (some ((0 : Int), (3 : Int)))
  (aIf (decide ((2199 : Int) < a0)) (some ((0 : Int), (3 : Int)))
    (aIf (decide (a2 < (1 : Int))) (some ((0 : Int), (3 : Int)))
      (onSome (F110 N (a0, a1)) fun y0 =>
        aIf (decide (y0 < a2)) (some ((0 : Int), (3 : Int)))
          (L89_5 N N a0 a1 (IntKind.wrap IntKind.i64 (a2 - (1 : Int))) (IntKind.wrap IntKind.i64 (a0 - (1900 : Int))) (0 : Int))))) := by kernel_rfl
noncomputable def C89 (N : Nat) : Callee := mkCallee A89 R89 (F89 N)
theorem S89 (N : Nat) : Cok 89 (C89 N) := cok_of (l := (E89 N).calls) (O := O89 N) (cok_cons (S110 N) (cok_cons (S111 N) cok_nil)) rfl Tryd.func89 rfl (by kernel_rfl) (by kernel_rfl)

-- function 60
def A60 : Cods (List UInt8) := (codsOne codStr)
def R60 : Cod ((Int) × Int) := (codTup (codsCons (codInt .i64) (codsOne (codInt .i64))))
noncomputable def E60 (N : Nat) : Env := ⟨Tryd.prog, [(88, C88 N), (89, C89 N)]⟩
def O60 (N : Nat) : Opts := ⟨N, [], []⟩
noncomputable def F60 (N : Nat) (a : List UInt8) : Option ((Int) × Int) := aTyped (E60 N) (O60 N) Tryd.f60 A60 R60 a
theorem F60_eq (N : Nat) (a0 : List UInt8) : F60 N a0 =
    aIf (Int.ofNat (List.length a0) != (10 : Int)) (some ((0 : Int), (2 : Int)))
  (onGet a0 (4 : Int) fun z0 =>
    aIf (Int.ofNat (UInt8.toNat z0) != (45 : Int)) (some ((0 : Int), (2 : Int)))
      (onGet a0 (7 : Int) fun z1 =>
        aIf (Int.ofNat (UInt8.toNat z1) != (45 : Int)) (some ((0 : Int), (2 : Int)))
          (aGd (decide ((4 : Int) ≤ Int.ofNat (List.length a0)))
            (onSome (F88 N (List.drop (0 : Nat) (List.take (4 : Nat) a0))) fun y2 =>
              aGd (decide ((7 : Int) ≤ Int.ofNat (List.length a0)))
                (onSome (F88 N (List.drop (5 : Nat) (List.take (7 : Nat) a0))) fun y3 =>
                  aGd (decide ((8 : Int) ≤ Int.ofNat (List.length a0)))
                    (onSome (F88 N (List.drop (8 : Nat) (List.take (List.length a0) a0))) fun y4 =>
                      aIf (!Prod.snd y2) (some ((0 : Int), (2 : Int)))
                        (aIf (!Prod.snd y3) (some ((0 : Int), (2 : Int)))
                          (aIf (!Prod.snd y4) (some ((0 : Int), (2 : Int)))
                            (onSome (F89 N (Prod.fst y2, Prod.fst y3, Prod.fst y4)) fun y5 => some (Prod.fst y5, Prod.snd y5)))))))))) := by kernel_rfl
noncomputable def C60 (N : Nat) : Callee := mkCallee A60 R60 (F60 N)
theorem S60 (N : Nat) : Cok 60 (C60 N) := cok_of (l := (E60 N).calls) (O := O60 N) (cok_cons (S88 N) (cok_cons (S89 N) cok_nil)) rfl Tryd.func60 rfl (by kernel_rfl) (by kernel_rfl)

-- function 120
def A120 : Cods (List UInt8) := (codsOne codStr)
def R120 : Cod (Int) := (codInt .i64)
noncomputable def E120 (N : Nat) : Env := ⟨Tryd.prog, []⟩
def O120 (N : Nat) : Opts := ⟨N, [(2, ⟨[2, 4], [], [], 1⟩)], []⟩
noncomputable def F120 (N : Nat) (a : List UInt8) : Option (Int) := aTyped (E120 N) (O120 N) Tryd.f120 A120 R120 a
noncomputable def L120_2 (N : Nat) (n : Nat) (x0 : Int) (x1 : List UInt8) (x2 : Nat) : Option Int :=
  atLoop (E120 N) (O120 N) Tryd.f120 [(1 : Nat), (0 : Nat), (1 : Nat), (0 : Nat)] [] n
  { tmps := Tm.of (nat_lit 10) [((2 : Nat), AV.p (PV.int IntKind.i64 x0)), ((4 : Nat), AV.it (0 : Nat))], heap := [Blk.iter x1 x2] } fun x => Cod.dec R120 x some
theorem L120_2_eq (N : Nat) (n : Nat) (x0 : Int) (x1 : List UInt8) (x2 : Nat) : L120_2 N (n + 1) x0 x1 x2 =
    aIf (decide (x2 < List.length x1)) (L120_2 N n (IntKind.wrap IntKind.i64 (x0 + (1 : Int))) x1 (x2 + Prod.snd (Utf8.decode { data := List.toArray x1 } x2))) (some x0) := by kernel_rfl
theorem L120_2_zero (N : Nat) (x0 : Int) (x1 : List UInt8) (x2 : Nat) : L120_2 N 0 x0 x1 x2 = none := by kernel_rfl
theorem F120_eq (N : Nat) (a0 : List UInt8) : F120 N a0 =
    L120_2 N N (0 : Int) a0 (0 : Nat) := by kernel_rfl
noncomputable def C120 (N : Nat) : Callee := mkCallee A120 R120 (F120 N)
theorem S120 (N : Nat) : Cok 120 (C120 N) := cok_of (l := (E120 N).calls) (O := O120 N) cok_nil rfl Tryd.func120 rfl (by kernel_rfl) (by kernel_rfl)

-- function 138
def A138 : Cods (List UInt8) := (codsOne codStr)
def R138 : Cod ((Int) × Int) := (codTup (codsCons (codInt .i32) (codsOne (codInt .i64))))
noncomputable def E138 (N : Nat) : Env := ⟨Tryd.prog, []⟩
def O138 (N : Nat) : Opts := ⟨N, [], []⟩
noncomputable def F138 (N : Nat) (a : List UInt8) : Option ((Int) × Int) := aTyped (E138 N) (O138 N) Tryd.f138 A138 R138 a
theorem F138_eq (N : Nat) (a0 : List UInt8) : F138 N a0 =
    aIf (decide (Int.ofNat (List.length a0) < (1 : Int))) (some ((65533 : Int), (0 : Int))) (onGet a0 (0 : Int) fun z0 => none) := by kernel_rfl
noncomputable def C138 (N : Nat) : Callee := mkCallee A138 R138 (F138 N)
theorem S138 (N : Nat) : Cok 138 (C138 N) := cok_of (l := (E138 N).calls) (O := O138 N) cok_nil rfl Tryd.func138 rfl (by kernel_rfl) (by kernel_rfl)

-- function 121
def A121 : Cods (List UInt8) := (codsOne codStr)
def R121 : Cod ((Int) × Int) := (codTup (codsCons (codInt .i32) (codsOne (codInt .i64))))
noncomputable def E121 (N : Nat) : Env := ⟨Tryd.prog, [(138, C138 N)]⟩
def O121 (N : Nat) : Opts := ⟨N, [], []⟩
noncomputable def F121 (N : Nat) (a : List UInt8) : Option ((Int) × Int) := aTyped (E121 N) (O121 N) Tryd.f121 A121 R121 a
theorem F121_eq (N : Nat) (a0 : List UInt8) : F121 N a0 =
    aIf (!a0 == [])
  (onGet a0 (0 : Int) fun z0 =>
    aIf (decide (Int.ofNat (UInt8.toNat z0) < (128 : Int))) (onGet a0 (0 : Int) fun z1 => some (IntKind.wrap IntKind.i32 (Int.ofNat (UInt8.toNat z1)), (1 : Int)))
      (onSome (F138 N a0) fun y2 => some (Prod.fst y2, Prod.snd y2)))
  (onSome (F138 N a0) fun y3 => some (Prod.fst y3, Prod.snd y3)) := by kernel_rfl
noncomputable def C121 (N : Nat) : Callee := mkCallee A121 R121 (F121 N)
theorem S121 (N : Nat) : Cok 121 (C121 N) := cok_of (l := (E121 N).calls) (O := O121 N) (cok_cons (S138 N) cok_nil) rfl Tryd.func121 rfl (by kernel_rfl) (by kernel_rfl)

-- function 104
def A104 : Cods ((List UInt8) × Int) := (codsCons codStr (codsOne (codInt .i64)))
def R104 : Cod (List PV) := (codSl 1)
noncomputable def E104 (N : Nat) : Env := ⟨Tryd.prog, [(120, C120 N), (121, C121 N)]⟩
def O104 (N : Nat) : Opts := ⟨N, [(6, ⟨[0, 1, 6, 7], [], [], 1⟩)], []⟩
noncomputable def F104 (N : Nat) (a : (List UInt8) × Int) : Option (List PV) := aTyped (E104 N) (O104 N) Tryd.f104 A104 R104 a
noncomputable def L104_6 (N : Nat) (n : Nat) (x0 : List UInt8) (x1 : Int) (x2 : Int) (x3 : List PV) : Option (List PV) :=
  atLoop (E104 N) (O104 N) Tryd.f104 [(1 : Nat), (1 : Nat), (1 : Nat), (1 : Nat), (0 : Nat), (1 : Nat), (0 : Nat)] [] n
  { tmps := Tm.of (nat_lit 50) [((0 : Nat), AV.p (PV.str x0)), ((1 : Nat), AV.p (PV.int IntKind.i64 x1)), ((6 : Nat), AV.own (0 : Nat)), ((7 : Nat), AV.p (PV.int IntKind.i64 x2))],
    heap := [Blk.row (9 : Nat) (1 : Nat) x3] }
  fun x => Cod.dec R104 x some
theorem L104_6_eq (N : Nat) (n : Nat) (x0 : List UInt8) (x1 : Int) (x2 : Int) (x3 : List PV) : L104_6 N (n + 1) x0 x1 x2 x3 =
    aIf (decide (x2 < IntKind.wrap IntKind.i64 (x1 - (1 : Int))))
  (onSome (F121 N x0) fun y1 =>
    aGd (decide ((0 : Int) ≤ Prod.snd y1))
      (aGd (decide (Prod.snd y1 ≤ Int.ofNat (List.length x0)))
        (aGd (decide ((0 : Int) ≤ x2))
          (aGd (decide (x2 < Int.ofNat (List.length x3)))
            (aGd (decide ((0 : Nat) + (1 : Nat) ≤ (1 : Nat)))
              (onGet x3 (Int.ofNat (Int.toNat x2)) fun z2 =>
                aGd (decide ((0 : Int) ≤ Prod.snd y1))
                  (aGd (decide (Prod.snd y1 ≤ Int.ofNat (List.length x0)))
                    (L104_6 N n (List.drop (Int.toNat (Prod.snd y1)) (List.take (List.length x0) x0)) x1 (IntKind.wrap IntKind.i64 (x2 + (1 : Int)))
                      (List.set x3 (Int.toNat x2) (setCells z2 (0 : Nat) [PV.str (List.drop (0 : Nat) (List.take (Int.toNat (Prod.snd y1)) x0))]))))))))))
  (aIf (decide ((0 : Int) < x1))
    (aGd (decide ((0 : Int) ≤ IntKind.wrap IntKind.i64 (x1 - (1 : Int))))
      (aGd (decide (IntKind.wrap IntKind.i64 (x1 - (1 : Int)) < Int.ofNat (List.length x3)))
        (aGd (decide ((0 : Nat) + (1 : Nat) ≤ (1 : Nat)))
          (onGet x3 (Int.ofNat (Int.toNat (IntKind.wrap IntKind.i64 (x1 - (1 : Int))))) fun z3 =>
            some (List.set x3 (Int.toNat (IntKind.wrap IntKind.i64 (x1 - (1 : Int)))) (setCells z3 (0 : Nat) [PV.str x0]))))))
    (some x3)) := by kernel_rfl
theorem L104_6_zero (N : Nat) (x0 : List UInt8) (x1 : Int) (x2 : Int) (x3 : List PV) : L104_6 N 0 x0 x1 x2 x3 = none := by kernel_rfl
theorem F104_eq (N : Nat) (a0 : List UInt8) (a1 : Int) : F104 N (a0, a1) =
    onSome (F120 N a0) fun y0 =>
  aIf (decide (a1 < (0 : Int)))
    (aGd (decide ((0 : Int) ≤ y0)) (aGd (decide (y0 * (17 : Int) ≤ (140737488355328 : Int))) (L104_6 N N a0 y0 (0 : Int) (List.replicate (Int.toNat y0) (PV.str [])))))
    (aIf (decide (y0 < a1))
      (aGd (decide ((0 : Int) ≤ y0)) (aGd (decide (y0 * (17 : Int) ≤ (140737488355328 : Int))) (L104_6 N N a0 y0 (0 : Int) (List.replicate (Int.toNat y0) (PV.str [])))))
      (aGd (decide ((0 : Int) ≤ a1)) (aGd (decide (a1 * (17 : Int) ≤ (140737488355328 : Int))) (L104_6 N N a0 a1 (0 : Int) (List.replicate (Int.toNat a1) (PV.str [])))))) := by kernel_rfl
noncomputable def C104 (N : Nat) : Callee := mkCallee A104 R104 (F104 N)
theorem S104 (N : Nat) : Cok 104 (C104 N) := cok_of (l := (E104 N).calls) (O := O104 N) (cok_cons (S120 N) (cok_cons (S121 N) cok_nil)) rfl Tryd.func104 rfl (by kernel_rfl) (by kernel_rfl)

-- function 80
def A80 : Cods ((List UInt8) × (List UInt8) × (Int) × Int) := (codsCons codStr (codsCons codStr (codsCons (codInt .i64) (codsOne (codInt .i64)))))
def R80 : Cod (List PV) := (codSl 1)
noncomputable def E80 (N : Nat) : Env := ⟨Tryd.prog, [(104, C104 N), (105, C105 N), (106, C106 N)]⟩
def O80 (N : Nat) : Opts := ⟨N, [(11, ⟨[0, 1, 2, 3, 9, 10], [], [], 1⟩)], []⟩
noncomputable def F80 (N : Nat) (a : (List UInt8) × (List UInt8) × (Int) × Int) : Option (List PV) := aTyped (E80 N) (O80 N) Tryd.f80 A80 R80 a
noncomputable def L80_11 (N : Nat) (n : Nat) (x0 : List UInt8) (x1 : List UInt8) (x2 : Int) (x3 : Int) (x4 : Int) (x5 : List PV) : Option (List PV) :=
  atLoop (E80 N) (O80 N) Tryd.f80 [(1 : Nat), (1 : Nat), (1 : Nat), (1 : Nat), (1 : Nat), (1 : Nat), (1 : Nat), (1 : Nat), (0 : Nat), (0 : Nat)] [] n
  {
    tmps :=
      Tm.of (nat_lit 66)
        [((0 : Nat), AV.p (PV.str x0)), ((1 : Nat), AV.p (PV.str x1)), ((2 : Nat), AV.p (PV.int IntKind.i64 x2)), ((3 : Nat), AV.p (PV.int IntKind.i64 x3)),
          ((9 : Nat), AV.own (0 : Nat)), ((10 : Nat), AV.p (PV.int IntKind.i64 x4))],
    heap := [Blk.row (9 : Nat) (1 : Nat) x5] }
  fun x => Cod.dec R80 x some
theorem L80_11_eq (N : Nat) (n : Nat) (x0 : List UInt8) (x1 : List UInt8) (x2 : Int) (x3 : Int) (x4 : Int) (x5 : List PV) : L80_11 N (n + 1) x0 x1 x2 x3 x4 x5 =
    aIf (decide (x4 < x3))
  (onSome (F106 N (x0, x1)) fun y2 =>
    aIf (decide (y2 < (0 : Int)))
      (aGd (decide ((0 : Int) ≤ x4))
        (aGd (decide (x4 < Int.ofNat (List.length x5)))
          (aGd (decide ((0 : Nat) + (1 : Nat) ≤ (1 : Nat)))
            (onGet x5 (Int.ofNat (Int.toNat x4)) fun z3 =>
              aGd (decide ((0 : Int) ≤ IntKind.wrap IntKind.i64 (x4 + (1 : Int))))
                (aGd (decide (IntKind.wrap IntKind.i64 (x4 + (1 : Int)) ≤ Int.ofNat (List.length (List.set x5 (Int.toNat x4) (setCells z3 (0 : Nat) [PV.str x0])))))
                  (some
                    (List.drop (0 : Nat) (List.take (Int.toNat (IntKind.wrap IntKind.i64 (x4 + (1 : Int)))) (List.set x5 (Int.toNat x4) (setCells z3 (0 : Nat) [PV.str x0]))))))))))
      (aGd (decide ((0 : Int) ≤ IntKind.wrap IntKind.i64 (y2 + x2)))
        (aGd (decide (IntKind.wrap IntKind.i64 (y2 + x2) ≤ Int.ofNat (List.length x0)))
          (aGd (decide ((0 : Int) ≤ x4))
            (aGd (decide (x4 < Int.ofNat (List.length x5)))
              (aGd (decide ((0 : Nat) + (1 : Nat) ≤ (1 : Nat)))
                (onGet x5 (Int.ofNat (Int.toNat x4)) fun z4 =>
                  aGd (decide ((0 : Int) ≤ IntKind.wrap IntKind.i64 (y2 + Int.ofNat (List.length x1))))
                    (aGd (decide (IntKind.wrap IntKind.i64 (y2 + Int.ofNat (List.length x1)) ≤ Int.ofNat (List.length x0)))
                      (L80_11 N n (List.drop (Int.toNat (IntKind.wrap IntKind.i64 (y2 + Int.ofNat (List.length x1)))) (List.take (List.length x0) x0)) x1 x2 x3
                        (IntKind.wrap IntKind.i64 (x4 + (1 : Int)))
                        (List.set x5 (Int.toNat x4) (setCells z4 (0 : Nat) [PV.str (List.drop (0 : Nat) (List.take (Int.toNat (IntKind.wrap IntKind.i64 (y2 + x2))) x0))])))))))))))
  (aGd (decide ((0 : Int) ≤ x4))
    (aGd (decide (x4 < Int.ofNat (List.length x5)))
      (aGd (decide ((0 : Nat) + (1 : Nat) ≤ (1 : Nat)))
        (onGet x5 (Int.ofNat (Int.toNat x4)) fun z5 =>
          aGd (decide ((0 : Int) ≤ IntKind.wrap IntKind.i64 (x4 + (1 : Int))))
            (aGd (decide (IntKind.wrap IntKind.i64 (x4 + (1 : Int)) ≤ Int.ofNat (List.length (List.set x5 (Int.toNat x4) (setCells z5 (0 : Nat) [PV.str x0])))))
              (some (List.drop (0 : Nat) (List.take (Int.toNat (IntKind.wrap IntKind.i64 (x4 + (1 : Int)))) (List.set x5 (Int.toNat x4) (setCells z5 (0 : Nat) [PV.str x0])))))))))) := by kernel_rfl
theorem L80_11_zero (N : Nat) (x0 : List UInt8) (x1 : List UInt8) (x2 : Int) (x3 : Int) (x4 : Int) (x5 : List PV) : L80_11 N 0 x0 x1 x2 x3 x4 x5 = none := by kernel_rfl
theorem F80_eq (N : Nat) (a0 : List UInt8) (a1 : List UInt8) (a2 : Int) (a3 : Int) : F80 N (a0, a1, a2, a3) =
    aIf (a3 == (0 : Int)) (some [])
  (aIf (a1 == []) (onSome (F104 N (a0, a3)) fun y0 => some y0)
    (aIf (decide (a3 < (0 : Int)))
      (onSome (F105 N (a0, a1)) fun y1 =>
        aGd (decide ((0 : Int) ≤ min (IntKind.wrap IntKind.i64 (y1 + (1 : Int))) (IntKind.wrap IntKind.i64 (Int.ofNat (List.length a0) + (1 : Int)))))
          (aGd (decide (min (IntKind.wrap IntKind.i64 (y1 + (1 : Int))) (IntKind.wrap IntKind.i64 (Int.ofNat (List.length a0) + (1 : Int))) * (17 : Int) ≤ (140737488355328 : Int)))
            (L80_11 N N a0 a1 a2
              (IntKind.wrap IntKind.i64 (min (IntKind.wrap IntKind.i64 (y1 + (1 : Int))) (IntKind.wrap IntKind.i64 (Int.ofNat (List.length a0) + (1 : Int))) - (1 : Int))) (0 : Int)
              (List.replicate (Int.toNat (min (IntKind.wrap IntKind.i64 (y1 + (1 : Int))) (IntKind.wrap IntKind.i64 (Int.ofNat (List.length a0) + (1 : Int))))) (PV.str [])))))
      (aGd (decide ((0 : Int) ≤ min a3 (IntKind.wrap IntKind.i64 (Int.ofNat (List.length a0) + (1 : Int)))))
        (aGd (decide (min a3 (IntKind.wrap IntKind.i64 (Int.ofNat (List.length a0) + (1 : Int))) * (17 : Int) ≤ (140737488355328 : Int)))
          (L80_11 N N a0 a1 a2 (IntKind.wrap IntKind.i64 (min a3 (IntKind.wrap IntKind.i64 (Int.ofNat (List.length a0) + (1 : Int))) - (1 : Int))) (0 : Int)
            (List.replicate (Int.toNat (min a3 (IntKind.wrap IntKind.i64 (Int.ofNat (List.length a0) + (1 : Int))))) (PV.str []))))))) := by kernel_rfl
noncomputable def C80 (N : Nat) : Callee := mkCallee A80 R80 (F80 N)
theorem S80 (N : Nat) : Cok 80 (C80 N) := cok_of (l := (E80 N).calls) (O := O80 N) (cok_cons (S104 N) (cok_cons (S105 N) (cok_cons (S106 N) cok_nil))) rfl Tryd.func80 rfl (by kernel_rfl) (by kernel_rfl)

-- function 49
def A49 : Cods ((List UInt8) × List UInt8) := (codsCons codStr (codsOne codStr))
def R49 : Cod (List PV) := (codSl 1)
noncomputable def E49 (N : Nat) : Env := ⟨Tryd.prog, [(80, C80 N)]⟩
def O49 (N : Nat) : Opts := ⟨N, [], []⟩
noncomputable def F49 (N : Nat) (a : (List UInt8) × List UInt8) : Option (List PV) := aTyped (E49 N) (O49 N) Tryd.f49 A49 R49 a
theorem F49_eq (N : Nat) (a0 : List UInt8) (a1 : List UInt8) : F49 N (a0, a1) =
    onSome (F80 N (a0, a1, (0 : Int), (-1 : Int))) fun y0 => some y0 := by kernel_rfl
noncomputable def C49 (N : Nat) : Callee := mkCallee A49 R49 (F49 N)
theorem S49 (N : Nat) : Cok 49 (C49 N) := cok_of (l := (E49 N).calls) (O := O49 N) (cok_cons (S80 N) cok_nil) rfl Tryd.func49 rfl (by kernel_rfl) (by kernel_rfl)

-- function 81
def A81 : Cods ((List PV) × List UInt8) := (codsCons (codSl 1) (codsOne codStr))
def R81 : Cod (Int) := (codInt .i64)
noncomputable def E81 (N : Nat) : Env := ⟨Tryd.prog, []⟩
def O81 (N : Nat) : Opts := ⟨N, [(2, ⟨[0, 1, 7, 8], [], [], 0⟩)], []⟩
noncomputable def F81 (N : Nat) (a : (List PV) × List UInt8) : Option (Int) := aTyped (E81 N) (O81 N) Tryd.f81 A81 R81 a
noncomputable def L81_2 (N : Nat) (n : Nat) (x0 : List PV) (x1 : List UInt8) (x2 : Int) (x3 : Int) : Option Int :=
  atLoop (E81 N) (O81 N) Tryd.f81 [(1 : Nat), (0 : Nat), (1 : Nat), (0 : Nat)] [] n
  {
    tmps :=
      Tm.of (nat_lit 19)
        [((0 : Nat), AV.p (PV.sl (1 : Nat) x0)), ((1 : Nat), AV.p (PV.str x1)), ((7 : Nat), AV.p (PV.int IntKind.i64 x2)), ((8 : Nat), AV.p (PV.int IntKind.i64 x3))],
    heap := [] }
  fun x => Cod.dec R81 x some
theorem L81_2_eq (N : Nat) (n : Nat) (x0 : List PV) (x1 : List UInt8) (x2 : Int) (x3 : Int) : L81_2 N (n + 1) x0 x1 x2 x3 =
    aIf (decide (x3 < x2)) (onGet x0 x3 fun z0 => onStr z0 fun u1 => aIf (x1 == u1) (some x3) (L81_2 N n x0 x1 x2 (IntKind.wrap IntKind.i64 (x3 + (1 : Int))))) (some (-1 : Int)) := by kernel_rfl
theorem L81_2_zero (N : Nat) (x0 : List PV) (x1 : List UInt8) (x2 : Int) (x3 : Int) : L81_2 N 0 x0 x1 x2 x3 = none := by kernel_rfl
theorem F81_eq (N : Nat) (a0 : List PV) (a1 : List UInt8) : F81 N (a0, a1) =
    L81_2 N N a0 a1 (Int.ofNat (List.length a0)) (0 : Int) := by kernel_rfl
noncomputable def C81 (N : Nat) : Callee := mkCallee A81 R81 (F81 N)
theorem S81 (N : Nat) : Cok 81 (C81 N) := cok_of (l := (E81 N).calls) (O := O81 N) cok_nil rfl Tryd.func81 rfl (by kernel_rfl) (by kernel_rfl)

-- function 90
def A90 : Cods ((List PV) × List UInt8) := (codsCons (codSl 1) (codsOne codStr))
def R90 : Cod (Bool) := codBool
noncomputable def E90 (N : Nat) : Env := ⟨Tryd.prog, [(81, C81 N)]⟩
def O90 (N : Nat) : Opts := ⟨N, [], []⟩
noncomputable def F90 (N : Nat) (a : (List PV) × List UInt8) : Option (Bool) := aTyped (E90 N) (O90 N) Tryd.f90 A90 R90 a
theorem F90_eq (N : Nat) (a0 : List PV) (a1 : List UInt8) : F90 N (a0, a1) =
    onSome (F81 N (a0, a1)) fun y0 => some (decide ((0 : Int) ≤ y0)) := by kernel_rfl
noncomputable def C90 (N : Nat) : Callee := mkCallee A90 R90 (F90 N)
theorem S90 (N : Nat) : Cok 90 (C90 N) := cok_of (l := (E90 N).calls) (O := O90 N) (cok_cons (S81 N) cok_nil) rfl Tryd.func90 rfl (by kernel_rfl) (by kernel_rfl)

-- function 107
def A107 : Cods (((Int) × Int) × List PV) := (codsCons (codAgg (codsCons (codInt .i64) (codsOne (codInt .i64)))) (codsOne (codSl 2)))
def R107 : Cod (Bool) := codBool
noncomputable def E107 (N : Nat) : Env := ⟨Tryd.prog, []⟩
def O107 (N : Nat) : Opts := ⟨N, [], []⟩
noncomputable def F107 (N : Nat) (a : ((Int) × Int) × List PV) : Option (Bool) := aTyped (E107 N) (O107 N) Tryd.f107 A107 R107 a
theorem F107_eq (N : Nat) (a0 : Int × Int) (a1 : List PV) : F107 N (a0, a1) =
    aIf (Prod.fst a0 == (1 : Int))
  (aIf (Prod.fst a0 == (1 : Int)) (some (Prod.snd a0 == (0 : Int)))
    (aIf (Prod.fst a0 == (6 : Int)) (aIf (decide ((0 : Int) ≤ Prod.snd a0)) (some (decide (Prod.snd a0 < Int.ofNat (List.length a1)))) (some false)) (some false)))
  (aIf (Prod.fst a0 == (2 : Int))
    (aIf (Prod.fst a0 == (2 : Int)) (some (Prod.snd a0 == (0 : Int)))
      (aIf (Prod.fst a0 == (6 : Int)) (aIf (decide ((0 : Int) ≤ Prod.snd a0)) (some (decide (Prod.snd a0 < Int.ofNat (List.length a1)))) (some false)) (some false)))
    (aIf (Prod.fst a0 == (3 : Int))
      (aIf (Prod.fst a0 == (3 : Int)) (some (Prod.snd a0 == (0 : Int)))
        (aIf (Prod.fst a0 == (6 : Int)) (aIf (decide ((0 : Int) ≤ Prod.snd a0)) (some (decide (Prod.snd a0 < Int.ofNat (List.length a1)))) (some false)) (some false)))
      (aIf (Prod.fst a0 == (4 : Int))
        (aIf (Prod.fst a0 == (4 : Int)) (some (Prod.snd a0 == (0 : Int)))
          (aIf (Prod.fst a0 == (6 : Int)) (aIf (decide ((0 : Int) ≤ Prod.snd a0)) (some (decide (Prod.snd a0 < Int.ofNat (List.length a1)))) (some false)) (some false)))
        (aIf (Prod.fst a0 == (5 : Int)) (some (Prod.snd a0 == (0 : Int)))
          (aIf (Prod.fst a0 == (6 : Int)) (aIf (decide ((0 : Int) ≤ Prod.snd a0)) (some (decide (Prod.snd a0 < Int.ofNat (List.length a1)))) (some false)) (some false)))))) := by kernel_rfl
noncomputable def C107 (N : Nat) : Callee := mkCallee A107 R107 (F107 N)
theorem S107 (N : Nat) : Cok 107 (C107 N) := cok_of (l := (E107 N).calls) (O := O107 N) cok_nil rfl Tryd.func107 rfl (by kernel_rfl) (by kernel_rfl)

-- function 82
def A82 : Cods (List UInt8) := (codsOne codStr)
def R82 : Cod (Bool) := codBool
noncomputable def E82 (N : Nat) : Env := ⟨Tryd.prog, []⟩
def O82 (N : Nat) : Opts := ⟨N, [(2, ⟨[0, 6], [], [], 1⟩)], []⟩
noncomputable def F82 (N : Nat) (a : List UInt8) : Option (Bool) := aTyped (E82 N) (O82 N) Tryd.f82 A82 R82 a
noncomputable def L82_2 (N : Nat) (n : Nat) (x0 : List UInt8) (x1 : List UInt8) (x2 : Nat) : Option Bool :=
  atLoop (E82 N) (O82 N) Tryd.f82 [(1 : Nat), (0 : Nat), (1 : Nat), (0 : Nat)] [] n
  { tmps := Tm.of (nat_lit 27) [((0 : Nat), AV.p (PV.str x0)), ((6 : Nat), AV.it (0 : Nat))], heap := [Blk.iter x1 x2] } fun x => Cod.dec R82 x some
theorem L82_2_eq (N : Nat) (n : Nat) (x0 : List UInt8) (x1 : List UInt8) (x2 : Nat) : L82_2 N (n + 1) x0 x1 x2 =
    aIf (decide (x2 < List.length x1))
  (aIf (decide (Int.ofNat (Prod.fst (Utf8.decode { data := List.toArray x1 } x2)) < (48 : Int))) (some false)
    (aIf (decide ((57 : Int) < Int.ofNat (Prod.fst (Utf8.decode { data := List.toArray x1 } x2)))) (some false)
      (L82_2 N n x0 x1 (x2 + Prod.snd (Utf8.decode { data := List.toArray x1 } x2)))))
  (aIf (x0 == [(48 : UInt8)]) (some true) (aIf (!x0 == []) (onGet x0 (0 : Int) fun z0 => some (Int.ofNat (UInt8.toNat z0) != (48 : Int))) (some false))) := by kernel_rfl
theorem L82_2_zero (N : Nat) (x0 : List UInt8) (x1 : List UInt8) (x2 : Nat) : L82_2 N 0 x0 x1 x2 = none := by kernel_rfl
theorem F82_eq (N : Nat) (a0 : List UInt8) : F82 N a0 =
    L82_2 N N a0 a0 (0 : Nat) := by kernel_rfl
noncomputable def C82 (N : Nat) : Callee := mkCallee A82 R82 (F82 N)
theorem S82 (N : Nat) : Cok 82 (C82 N) := cok_of (l := (E82 N).calls) (O := O82 N) cok_nil rfl Tryd.func82 rfl (by kernel_rfl) (by kernel_rfl)

-- function 83
def A83 : Cods ((List UInt8) × Bool) := (codsCons codStr (codsOne codBool))
def R83 : Cod ((Int) × Int) := (codTup (codsCons (codInt .i64) (codsOne (codInt .i64))))
noncomputable def E83 (N : Nat) : Env := ⟨Tryd.prog, []⟩
def O83 (N : Nat) : Opts := ⟨N, [(3, ⟨[1, 6, 11], [], [], 1⟩)], []⟩
noncomputable def F83 (N : Nat) (a : (List UInt8) × Bool) : Option ((Int) × Int) := aTyped (E83 N) (O83 N) Tryd.f83 A83 R83 a
noncomputable def L83_3 (N : Nat) (n : Nat) (x0 : Bool) (x1 : Int) (x2 : List UInt8) (x3 : Nat) : Option (Int × Int) :=
  atLoop (E83 N) (O83 N) Tryd.f83 [(1 : Nat), (1 : Nat), (0 : Nat), (1 : Nat), (0 : Nat)] [] n
  { tmps := Tm.of (nat_lit 31) [((1 : Nat), AV.p (PV.bool x0)), ((6 : Nat), AV.p (PV.int IntKind.i64 x1)), ((11 : Nat), AV.it (0 : Nat))], heap := [Blk.iter x2 x3] } fun x =>
  Cod.dec R83 x some
theorem L83_3_eq (N : Nat) (n : Nat) (x0 : Bool) (x1 : Int) (x2 : List UInt8) (x3 : Nat) : L83_3 N (n + 1) x0 x1 x2 x3 =
    aIf (decide (x3 < List.length x2))
  (aIf
    (decide
      (IntKind.wrap IntKind.i64
          (Int.tdiv
            (IntKind.wrap IntKind.i64
              ((4611686018427387904 : Int) - IntKind.wrap IntKind.i64 (IntKind.wrap IntKind.i32 (Int.ofNat (Prod.fst (Utf8.decode { data := List.toArray x2 } x3)) - (48 : Int)))))
            (10 : Int)) <
        x1))
    (some ((0 : Int), (3 : Int)))
    (L83_3 N n x0
      (IntKind.wrap IntKind.i64
        (IntKind.wrap IntKind.i64 (x1 * (10 : Int)) +
          IntKind.wrap IntKind.i64 (IntKind.wrap IntKind.i32 (Int.ofNat (Prod.fst (Utf8.decode { data := List.toArray x2 } x3)) - (48 : Int)))))
      x2 (x3 + Prod.snd (Utf8.decode { data := List.toArray x2 } x3))))
  (aIf x0 (some (IntKind.wrap IntKind.i64 ((0 : Int) - x1), (0 : Int))) (some (x1, (0 : Int)))) := by kernel_rfl
theorem L83_3_zero (N : Nat) (x0 : Bool) (x1 : Int) (x2 : List UInt8) (x3 : Nat) : L83_3 N 0 x0 x1 x2 x3 = none := by kernel_rfl
theorem F83_eq (N : Nat) (a0 : List UInt8) (a1 : Bool) : F83 N (a0, a1) =
    L83_3 N N a1 (0 : Int) a0 (0 : Nat) := by kernel_rfl
noncomputable def C83 (N : Nat) : Callee := mkCallee A83 R83 (F83 N)
theorem S83 (N : Nat) : Cok 83 (C83 N) := cok_of (l := (E83 N).calls) (O := O83 N) cok_nil rfl Tryd.func83 rfl (by kernel_rfl) (by kernel_rfl)

-- function 51
def A51 : Cods (List UInt8) := (codsOne codStr)
def R51 : Cod ((Int) × Int) := (codTup (codsCons (codInt .i64) (codsOne (codInt .i64))))
noncomputable def E51 (N : Nat) : Env := ⟨Tryd.prog, [(59, C59 N), (82, C82 N), (83, C83 N)]⟩
def O51 (N : Nat) : Opts := ⟨N, [], []⟩
noncomputable def F51 (N : Nat) (a : List UInt8) : Option ((Int) × Int) := aTyped (E51 N) (O51 N) Tryd.f51 A51 R51 a
theorem F51_eq (N : Nat) (a0 : List UInt8) : F51 N a0 =
    onSome (F59 N (a0, [(45 : UInt8)])) fun y0 =>
  onSome (F82 N (Prod.fst y0)) fun y1 =>
    aIf (!y1) (some ((0 : Int), (2 : Int)))
      (aIf (Prod.snd y0) (aIf (Prod.fst y0 == [(48 : UInt8)]) (some ((0 : Int), (2 : Int))) (onSome (F83 N (Prod.fst y0, Prod.snd y0)) fun y2 => some (Prod.fst y2, Prod.snd y2)))
        (onSome (F83 N (Prod.fst y0, Prod.snd y0)) fun y3 => some (Prod.fst y3, Prod.snd y3))) := by kernel_rfl
noncomputable def C51 (N : Nat) : Callee := mkCallee A51 R51 (F51 N)
theorem S51 (N : Nat) : Cok 51 (C51 N) := cok_of (l := (E51 N).calls) (O := O51 N) (cok_cons (S59 N) (cok_cons (S82 N) (cok_cons (S83 N) cok_nil))) rfl Tryd.func51 rfl (by kernel_rfl) (by kernel_rfl)

-- function 131
def A131 : Cods (Int) := (codsOne (codInt .i64))
def R131 : Cod (Int) := (codInt .i64)
noncomputable def E131 (N : Nat) : Env := ⟨Tryd.prog, []⟩
def O131 (N : Nat) : Opts := ⟨N, [], []⟩
noncomputable def F131 (N : Nat) (a : Int) : Option (Int) := aTyped (E131 N) (O131 N) Tryd.f131 A131 R131 a
theorem F131_eq (N : Nat) (a0 : Int) : F131 N a0 =
    some (max (0 : Int) (min a0 (9 : Int))) := by kernel_rfl
noncomputable def C131 (N : Nat) : Callee := mkCallee A131 R131 (F131 N)
theorem S131 (N : Nat) : Cok 131 (C131 N) := cok_of (l := (E131 N).calls) (O := O131 N) cok_nil rfl Tryd.func131 rfl (by kernel_rfl) (by kernel_rfl)

-- function 143
def A143 : Cods (List UInt8) := (codsOne codStr)
def R143 : Cod (Bool) := codBool
noncomputable def E143 (N : Nat) : Env := ⟨Tryd.prog, []⟩
def O143 (N : Nat) : Opts := ⟨N, [(2, ⟨[6], [], [], 1⟩)], []⟩
noncomputable def F143 (N : Nat) (a : List UInt8) : Option (Bool) := aTyped (E143 N) (O143 N) Tryd.f143 A143 R143 a
noncomputable def L143_2 (N : Nat) (n : Nat) (x0 : List UInt8) (x1 : Nat) : Option Bool :=
  atLoop (E143 N) (O143 N) Tryd.f143 [(1 : Nat), (0 : Nat), (1 : Nat), (0 : Nat)] [] n { tmps := Tm.of (nat_lit 16) [((6 : Nat), AV.it (0 : Nat))], heap := [Blk.iter x0 x1] }
  fun x => Cod.dec R143 x some
theorem L143_2_eq (N : Nat) (n : Nat) (x0 : List UInt8) (x1 : Nat) : L143_2 N (n + 1) x0 x1 =
    aIf (decide (x1 < List.length x0))
  (aIf (decide (Int.ofNat (Prod.fst (Utf8.decode { data := List.toArray x0 } x1)) < (48 : Int))) (some false)
    (aIf (decide ((57 : Int) < Int.ofNat (Prod.fst (Utf8.decode { data := List.toArray x0 } x1)))) (some false)
      (L143_2 N n x0 (x1 + Prod.snd (Utf8.decode { data := List.toArray x0 } x1)))))
  (some true) := by kernel_rfl
theorem L143_2_zero (N : Nat) (x0 : List UInt8) (x1 : Nat) : L143_2 N 0 x0 x1 = none := by kernel_rfl
theorem F143_eq (N : Nat) (a0 : List UInt8) : F143 N a0 =
    L143_2 N N a0 (0 : Nat) := by kernel_rfl
noncomputable def C143 (N : Nat) : Callee := mkCallee A143 R143 (F143 N)
theorem S143 (N : Nat) : Cok 143 (C143 N) := cok_of (l := (E143 N).calls) (O := O143 N) cok_nil rfl Tryd.func143 rfl (by kernel_rfl) (by kernel_rfl)

-- function 126
def A126 : Cods ((List UInt8) × Int) := (codsCons codStr (codsOne (codInt .i64)))
def R126 : Cod ((Int) × Int) := (codTup (codsCons (codInt .i64) (codsOne (codInt .i64))))
noncomputable def E126 (N : Nat) : Env := ⟨Tryd.prog, [(131, C131 N), (51, C51 N), (59, C59 N), (82, C82 N), (143, C143 N), (83, C83 N)]⟩
def O126 (N : Nat) : Opts := ⟨N, [], []⟩
noncomputable def F126 (N : Nat) (a : (List UInt8) × Int) : Option ((Int) × Int) := aTyped (E126 N) (O126 N) Tryd.f126 A126 R126 a
theorem F126_eq (N : Nat) (a0 : List UInt8) (a1 : Int) : F126 N (a0, a1) =
    onSome (F131 N a1) fun y0 =>
  aIf (y0 == (0 : Int)) (onSome (F51 N a0) fun y1 => some (Prod.fst y1, Prod.snd y1))
    (onSome (F59 N (a0, [(45 : UInt8)])) fun y2 =>
      aIf (decide (IntKind.wrap IntKind.i64 (IntKind.wrap IntKind.i64 (Int.ofNat (List.length (Prod.fst y2)) - y0) - (1 : Int)) < (1 : Int))) (some ((0 : Int), (2 : Int)))
        (onGet (Prod.fst y2) (IntKind.wrap IntKind.i64 (IntKind.wrap IntKind.i64 (Int.ofNat (List.length (Prod.fst y2)) - y0) - (1 : Int))) fun z3 =>
          aIf (Int.ofNat (UInt8.toNat z3) != (46 : Int)) (some ((0 : Int), (2 : Int)))
            (aGd (decide ((0 : Int) ≤ IntKind.wrap IntKind.i64 (IntKind.wrap IntKind.i64 (Int.ofNat (List.length (Prod.fst y2)) - y0) - (1 : Int))))
              (aGd (decide (IntKind.wrap IntKind.i64 (IntKind.wrap IntKind.i64 (Int.ofNat (List.length (Prod.fst y2)) - y0) - (1 : Int)) ≤ Int.ofNat (List.length (Prod.fst y2))))
                (onSome
                  (F82 N
                    (List.drop (0 : Nat)
                      (List.take (Int.toNat (IntKind.wrap IntKind.i64 (IntKind.wrap IntKind.i64 (Int.ofNat (List.length (Prod.fst y2)) - y0) - (1 : Int)))) (Prod.fst y2))))
                  fun y4 =>
                  aIf (!y4) (some ((0 : Int), (2 : Int)))
                    (aGd
                      (decide
                        ((0 : Int) ≤
                          IntKind.wrap IntKind.i64 (IntKind.wrap IntKind.i64 (IntKind.wrap IntKind.i64 (Int.ofNat (List.length (Prod.fst y2)) - y0) - (1 : Int)) + (1 : Int))))
                      (aGd
                        (decide
                          (IntKind.wrap IntKind.i64 (IntKind.wrap IntKind.i64 (IntKind.wrap IntKind.i64 (Int.ofNat (List.length (Prod.fst y2)) - y0) - (1 : Int)) + (1 : Int)) ≤
                            Int.ofNat (List.length (Prod.fst y2))))
                        (onSome
                          (F143 N
                            (List.drop
                              (Int.toNat
                                (IntKind.wrap IntKind.i64
                                  (IntKind.wrap IntKind.i64 (IntKind.wrap IntKind.i64 (Int.ofNat (List.length (Prod.fst y2)) - y0) - (1 : Int)) + (1 : Int))))
                              (List.take (List.length (Prod.fst y2)) (Prod.fst y2))))
                          fun y5 =>
                          aIf (!y5) (some ((0 : Int), (2 : Int)))
                            (aGd (decide ((0 : Int) ≤ IntKind.wrap IntKind.i64 (IntKind.wrap IntKind.i64 (Int.ofNat (List.length (Prod.fst y2)) - y0) - (1 : Int))))
                              (aGd
                                (decide
                                  (IntKind.wrap IntKind.i64 (IntKind.wrap IntKind.i64 (Int.ofNat (List.length (Prod.fst y2)) - y0) - (1 : Int)) ≤
                                    Int.ofNat (List.length (Prod.fst y2))))
                                (aGd
                                  (decide
                                    ((0 : Int) ≤
                                      IntKind.wrap IntKind.i64
                                        (IntKind.wrap IntKind.i64 (IntKind.wrap IntKind.i64 (Int.ofNat (List.length (Prod.fst y2)) - y0) - (1 : Int)) + (1 : Int))))
                                  (aGd
                                    (decide
                                      (IntKind.wrap IntKind.i64
                                          (IntKind.wrap IntKind.i64 (IntKind.wrap IntKind.i64 (Int.ofNat (List.length (Prod.fst y2)) - y0) - (1 : Int)) + (1 : Int)) ≤
                                        Int.ofNat (List.length (Prod.fst y2))))
                                    (aGd
                                      (decide
                                        (List.length
                                              (List.drop (0 : Nat)
                                                (List.take
                                                  (Int.toNat (IntKind.wrap IntKind.i64 (IntKind.wrap IntKind.i64 (Int.ofNat (List.length (Prod.fst y2)) - y0) - (1 : Int))))
                                                  (Prod.fst y2))) +
                                            List.length
                                              (List.drop
                                                (Int.toNat
                                                  (IntKind.wrap IntKind.i64
                                                    (IntKind.wrap IntKind.i64 (IntKind.wrap IntKind.i64 (Int.ofNat (List.length (Prod.fst y2)) - y0) - (1 : Int)) + (1 : Int))))
                                                (List.take (List.length (Prod.fst y2)) (Prod.fst y2))) ≤
                                          (9223372036854775807 : Nat)))
                                      (onSome
                                        (F83 N
                                          (List.drop (0 : Nat)
                                                (List.take
                                                  (Int.toNat (IntKind.wrap IntKind.i64 (IntKind.wrap IntKind.i64 (Int.ofNat (List.length (Prod.fst y2)) - y0) - (1 : Int))))
                                                  (Prod.fst y2)) ++
                                              List.drop
                                                (Int.toNat
                                                  (IntKind.wrap IntKind.i64
                                                    (IntKind.wrap IntKind.i64 (IntKind.wrap IntKind.i64 (Int.ofNat (List.length (Prod.fst y2)) - y0) - (1 : Int)) + (1 : Int))))
                                                (List.take (List.length (Prod.fst y2)) (Prod.fst y2)),
                                            Prod.snd y2))
                                        fun y6 =>
                                        aIf (Prod.snd y6 == (0 : Int))
                                          (aIf (Prod.fst y6 == (0 : Int)) (aIf (Prod.snd y2) (some ((0 : Int), (2 : Int))) (some (Prod.fst y6, Prod.snd y6)))
                                            (some (Prod.fst y6, Prod.snd y6)))
                                          (some (Prod.fst y6, Prod.snd y6)))))))))))))))) := by kernel_rfl
noncomputable def C126 (N : Nat) : Callee := mkCallee A126 R126 (F126 N)
theorem S126 (N : Nat) : Cok 126 (C126 N) := cok_of (l := (E126 N).calls) (O := O126 N) (cok_cons (S131 N) (cok_cons (S51 N) (cok_cons (S59 N) (cok_cons (S82 N) (cok_cons (S143 N) (cok_cons (S83 N) cok_nil)))))) rfl Tryd.func126 rfl (by kernel_rfl) (by kernel_rfl)

-- function 153
def A153 : Cods ((List UInt8) × List UInt8) := (codsCons codStr (codsOne codStr))
def R153 : Cod (Bool) := codBool
noncomputable def E153 (N : Nat) : Env := ⟨Tryd.prog, []⟩
def O153 (N : Nat) : Opts := ⟨N, [], []⟩
noncomputable def F153 (N : Nat) (a : (List UInt8) × List UInt8) : Option (Bool) := aTyped (E153 N) (O153 N) Tryd.f153 A153 R153 a
theorem F153_eq (N : Nat) (a0 : List UInt8) (a1 : List UInt8) : F153 N (a0, a1) =
    aIf (decide (Int.ofNat (List.length a1) ≤ Int.ofNat (List.length a0)))
  (aGd (decide ((0 : Int) ≤ IntKind.wrap IntKind.i64 (Int.ofNat (List.length a0) - Int.ofNat (List.length a1))))
    (aGd (decide (IntKind.wrap IntKind.i64 (Int.ofNat (List.length a0) - Int.ofNat (List.length a1)) ≤ Int.ofNat (List.length a0)))
      (some (List.drop (Int.toNat (IntKind.wrap IntKind.i64 (Int.ofNat (List.length a0) - Int.ofNat (List.length a1)))) (List.take (List.length a0) a0) == a1))))
  (some false) := by kernel_rfl
noncomputable def C153 (N : Nat) : Callee := mkCallee A153 R153 (F153 N)
theorem S153 (N : Nat) : Cok 153 (C153 N) := cok_of (l := (E153 N).calls) (O := O153 N) cok_nil rfl Tryd.func153 rfl (by kernel_rfl) (by kernel_rfl)

-- function 144
def A144 : Cods ((List UInt8) × List UInt8) := (codsCons codStr (codsOne codStr))
def R144 : Cod ((List UInt8) × Bool) := (codTup (codsCons codStr (codsOne codBool)))
noncomputable def E144 (N : Nat) : Env := ⟨Tryd.prog, [(153, C153 N)]⟩
def O144 (N : Nat) : Opts := ⟨N, [], []⟩
noncomputable def F144 (N : Nat) (a : (List UInt8) × List UInt8) : Option ((List UInt8) × Bool) := aTyped (E144 N) (O144 N) Tryd.f144 A144 R144 a
theorem F144_eq (N : Nat) (a0 : List UInt8) (a1 : List UInt8) : F144 N (a0, a1) =
    onSome (F153 N (a0, a1)) fun y0 =>
  aIf (!y0) (some (a0, false))
    (aGd (decide ((0 : Int) ≤ IntKind.wrap IntKind.i64 (Int.ofNat (List.length a0) - Int.ofNat (List.length a1))))
      (aGd (decide (IntKind.wrap IntKind.i64 (Int.ofNat (List.length a0) - Int.ofNat (List.length a1)) ≤ Int.ofNat (List.length a0)))
        (some (List.drop (0 : Nat) (List.take (Int.toNat (IntKind.wrap IntKind.i64 (Int.ofNat (List.length a0) - Int.ofNat (List.length a1)))) a0), true)))) := by kernel_rfl
noncomputable def C144 (N : Nat) : Callee := mkCallee A144 R144 (F144 N)
theorem S144 (N : Nat) : Cok 144 (C144 N) := cok_of (l := (E144 N).calls) (O := O144 N) (cok_cons (S153 N) cok_nil) rfl Tryd.func144 rfl (by kernel_rfl) (by kernel_rfl)

-- function 127
def A127 : Cods ((List UInt8) × List UInt8) := (codsCons codStr (codsOne codStr))
def R127 : Cod ((List UInt8) × Bool) := (codTup (codsCons codStr (codsOne codBool)))
noncomputable def E127 (N : Nat) : Env := ⟨Tryd.prog, [(144, C144 N)]⟩
def O127 (N : Nat) : Opts := ⟨N, [], []⟩
noncomputable def F127 (N : Nat) (a : (List UInt8) × List UInt8) : Option ((List UInt8) × Bool) := aTyped (E127 N) (O127 N) Tryd.f127 A127 R127 a
theorem F127_eq (N : Nat) (a0 : List UInt8) (a1 : List UInt8) : F127 N (a0, a1) =
    onSome (F144 N (a0, a1)) fun y0 => some (Prod.fst y0, Prod.snd y0) := by kernel_rfl
noncomputable def C127 (N : Nat) : Callee := mkCallee A127 R127 (F127 N)
theorem S127 (N : Nat) : Cok 127 (C127 N) := cok_of (l := (E127 N).calls) (O := O127 N) (cok_cons (S144 N) cok_nil) rfl Tryd.func127 rfl (by kernel_rfl) (by kernel_rfl)

-- function 112
def A112 : Cods ((List UInt8) × ((Int) × Int) × List PV) := (codsCons codStr (codsCons (codAgg (codsCons (codInt .i64) (codsOne (codInt .i64)))) (codsOne (codSl 2))))
def R112 : Cod ((Int) × Int) := (codTup (codsCons (codInt .i64) (codsOne (codInt .i64))))
noncomputable def E112 (N : Nat) : Env := ⟨Tryd.prog, [(51, C51 N), (126, C126 N), (127, C127 N), (60, C60 N), (81, C81 N)]⟩
def O112 (N : Nat) : Opts := ⟨N, [], []⟩
noncomputable def F112 (N : Nat) (a : (List UInt8) × ((Int) × Int) × List PV) : Option ((Int) × Int) := aTyped (E112 N) (O112 N) Tryd.f112 A112 R112 a
theorem F112_eq (N : Nat) (a0 : List UInt8) (a1 : Int × Int) (a2 : List PV) : F112 N (a0, a1, a2) =
    aIf (Prod.fst a1 == (1 : Int))
  (aIf (a0 == [(102 : UInt8), (97 : UInt8), (108 : UInt8), (115 : UInt8), (101 : UInt8)]) (some ((0 : Int), (0 : Int)))
    (aIf (a0 == [(116 : UInt8), (114 : UInt8), (117 : UInt8), (101 : UInt8)]) (some ((1 : Int), (0 : Int))) (some ((0 : Int), (2 : Int)))))
  (aIf (Prod.fst a1 == (2 : Int)) (onSome (F51 N a0) fun y0 => some (Prod.fst y0, Prod.snd y0))
    (aIf (Prod.fst a1 == (3 : Int)) (onSome (F126 N (a0, (2 : Int))) fun y1 => some (Prod.fst y1, Prod.snd y1))
      (aIf (Prod.fst a1 == (4 : Int))
        (onSome (F127 N (a0, [(37 : UInt8)])) fun y2 =>
          aIf (!Prod.snd y2) (some ((0 : Int), (2 : Int))) (onSome (F126 N (Prod.fst y2, (4 : Int))) fun y3 => some (Prod.fst y3, Prod.snd y3)))
        (aIf (Prod.fst a1 == (5 : Int)) (onSome (F60 N a0) fun y4 => some (Prod.fst y4, Prod.snd y4))
          (onGet a2 (Prod.snd a1) fun z5 =>
            onSome (PV.cells z5)[(1 : Nat)]? fun y6 =>
              onSl (1 : Nat) y6 fun l7 => onSome (F81 N (l7, a0)) fun y8 => aIf (decide (y8 < (0 : Int))) (some ((0 : Int), (6 : Int))) (some (y8, (0 : Int)))))))) := by kernel_rfl
noncomputable def C112 (N : Nat) : Callee := mkCallee A112 R112 (F112 N)
theorem S112 (N : Nat) : Cok 112 (C112 N) := cok_of (l := (E112 N).calls) (O := O112 N) (cok_cons (S51 N) (cok_cons (S126 N) (cok_cons (S127 N) (cok_cons (S60 N) (cok_cons (S81 N) cok_nil))))) rfl Tryd.func112 rfl (by kernel_rfl) (by kernel_rfl)

-- function 84
def A84 : Cods (((Int) × Int) × List PV) := (codsCons (codAgg (codsCons (codInt .i64) (codsOne (codInt .i64)))) (codsOne (codSl 2)))
def R84 : Cod ((Int) × Int) := (codTup (codsCons (codInt .i64) (codsOne (codInt .i64))))
noncomputable def E84 (N : Nat) : Env := ⟨Tryd.prog, [(107, C107 N)]⟩
def O84 (N : Nat) : Opts := ⟨N, [], []⟩
noncomputable def F84 (N : Nat) (a : ((Int) × Int) × List PV) : Option ((Int) × Int) := aTyped (E84 N) (O84 N) Tryd.f84 A84 R84 a
theorem F84_eq (N : Nat) (a0 : Int × Int) (a1 : List PV) : F84 N (a0, a1) =
    onSome (F107 N ((Prod.fst a0, Prod.snd a0), a1)) fun y0 =>
  aIf (!y0) (some ((0 : Int), (-1 : Int)))
    (aIf (Prod.fst a0 == (1 : Int)) (some ((0 : Int), (1 : Int)))
      (aIf (Prod.fst a0 == (2 : Int)) (some ((-1000000000000 : Int), (1000000000000 : Int)))
        (aIf (Prod.fst a0 == (3 : Int)) (some ((-1000000000000000 : Int), (1000000000000000 : Int)))
          (aIf (Prod.fst a0 == (4 : Int)) (some ((-1000000000 : Int), (1000000000 : Int)))
            (aIf (Prod.fst a0 == (5 : Int)) (some ((0 : Int), (109572 : Int)))
              (onGet a1 (Prod.snd a0) fun z1 =>
                onSome (PV.cells z1)[(1 : Nat)]? fun y2 => onSl (1 : Nat) y2 fun l3 => some ((0 : Int), IntKind.wrap IntKind.i64 (Int.ofNat (List.length l3) - (1 : Int))))))))) := by kernel_rfl
noncomputable def C84 (N : Nat) : Callee := mkCallee A84 R84 (F84 N)
theorem S84 (N : Nat) : Cok 84 (C84 N) := cok_of (l := (E84 N).calls) (O := O84 N) (cok_cons (S107 N) cok_nil) rfl Tryd.func84 rfl (by kernel_rfl) (by kernel_rfl)

-- function 113
def A113 : Cods ((Int) × ((Int) × Int) × List PV) := (codsCons (codInt .i64) (codsCons (codAgg (codsCons (codInt .i64) (codsOne (codInt .i64)))) (codsOne (codSl 2))))
def R113 : Cod (Bool) := codBool
noncomputable def E113 (N : Nat) : Env := ⟨Tryd.prog, [(84, C84 N)]⟩
def O113 (N : Nat) : Opts := ⟨N, [], []⟩
noncomputable def F113 (N : Nat) (a : (Int) × ((Int) × Int) × List PV) : Option (Bool) := aTyped (E113 N) (O113 N) Tryd.f113 A113 R113 a
theorem F113_eq (N : Nat) (a0 : Int) (a1 : Int × Int) (a2 : List PV) : F113 N (a0, a1, a2) =
    onSome (F84 N ((Prod.fst a1, Prod.snd a1), a2)) fun y0 => aIf (decide (Prod.fst y0 ≤ a0)) (some (decide (a0 ≤ Prod.snd y0))) (some false) := by kernel_rfl
noncomputable def C113 (N : Nat) : Callee := mkCallee A113 R113 (F113 N)
theorem S113 (N : Nat) : Cok 113 (C113 N) := cok_of (l := (E113 N).calls) (O := O113 N) (cok_cons (S84 N) cok_nil) rfl Tryd.func113 rfl (by kernel_rfl) (by kernel_rfl)

-- function 91
def A91 : Cods ((List UInt8) × ((Int) × Int) × List PV) := (codsCons codStr (codsCons (codAgg (codsCons (codInt .i64) (codsOne (codInt .i64)))) (codsOne (codSl 2))))
def R91 : Cod (((Int) × (Int) × Int) × Int) := (codTup (codsCons (codAgg (codsCons (codInt .i64) (codsCons (codInt .i64) (codsOne (codInt .i64))))) (codsOne (codInt .i64))))
noncomputable def E91 (N : Nat) : Env := ⟨Tryd.prog, [(107, C107 N), (112, C112 N), (113, C113 N)]⟩
def O91 (N : Nat) : Opts := ⟨N, [], []⟩
noncomputable def F91 (N : Nat) (a : (List UInt8) × ((Int) × Int) × List PV) : Option (((Int) × (Int) × Int) × Int) := aTyped (E91 N) (O91 N) Tryd.f91 A91 R91 a
theorem F91_eq (N : Nat) (a0 : List UInt8) (a1 : Int × Int) (a2 : List PV) : F91 N (a0, a1, a2) =
    onSome (F107 N ((Prod.fst a1, Prod.snd a1), a2)) fun y0 =>
  aIf (!y0) (aGd (decide ((0 : Nat) + (3 : Nat) ≤ (3 : Nat))) (some (((0 : Int), (0 : Int), (0 : Int)), (8 : Int))))
    (onSome (F112 N (a0, (Prod.fst a1, Prod.snd a1), a2)) fun y1 =>
      aIf (Prod.snd y1 != (0 : Int)) (aGd (decide ((0 : Nat) + (3 : Nat) ≤ (3 : Nat))) (some (((0 : Int), (0 : Int), (0 : Int)), Prod.snd y1)))
        (onSome (F113 N (Prod.fst y1, (Prod.fst a1, Prod.snd a1), a2)) fun y2 =>
          aIf (!y2) (aGd (decide ((0 : Nat) + (3 : Nat) ≤ (3 : Nat))) (some (((0 : Int), (0 : Int), (0 : Int)), (3 : Int))))
            (aGd (decide ((0 : Nat) + (3 : Nat) ≤ (3 : Nat))) (some ((Prod.fst a1, Prod.snd a1, Prod.fst y1), (0 : Int)))))) := by kernel_rfl
noncomputable def C91 (N : Nat) : Callee := mkCallee A91 R91 (F91 N)
theorem S91 (N : Nat) : Cok 91 (C91 N) := cok_of (l := (E91 N).calls) (O := O91 N) (cok_cons (S107 N) (cok_cons (S112 N) (cok_cons (S113 N) cok_nil))) rfl Tryd.func91 rfl (by kernel_rfl) (by kernel_rfl)

-- function 61
def A61 : Cods ((List UInt8) × (List UInt8) × (List PV) × List PV) := (codsCons codStr (codsCons codStr (codsCons (codSl 3) (codsOne (codSl 2)))))
def R61 : Cod ((List PV) × Int) := (codTup (codsCons (codSl 3) (codsOne (codInt .i64))))
noncomputable def E61 (N : Nat) : Env := ⟨Tryd.prog, [(49, C49 N), (90, C90 N), (91, C91 N)]⟩
def O61 (N : Nat) : Opts := ⟨N, [(11, ⟨[2, 3, 11, 42, 43, 44], [(11, 103, 3)], [], 1⟩)], []⟩
noncomputable def F61 (N : Nat) (a : (List UInt8) × (List UInt8) × (List PV) × List PV) : Option ((List PV) × Int) := aTyped (E61 N) (O61 N) Tryd.f61 A61 R61 a
noncomputable def L61_11 (N : Nat) (n : Nat) (x0 : List PV) (x1 : List PV) (x2 : List PV) (x3 : Int) (x4 : Int) (x5 : List PV) : Option (List PV × Int) :=
  atLoop (E61 N) (O61 N) Tryd.f61 [(1 : Nat), (1 : Nat), (1 : Nat), (1 : Nat), (1 : Nat), (1 : Nat), (0 : Nat), (1 : Nat), (0 : Nat)] [] n
  {
    tmps :=
      Tm.of (nat_lit 69)
        [((2 : Nat), AV.p (PV.sl (3 : Nat) x0)), ((3 : Nat), AV.p (PV.sl (2 : Nat) x1)), ((11 : Nat), AV.own (0 : Nat)), ((42 : Nat), AV.p (PV.sl (1 : Nat) x2)),
          ((43 : Nat), AV.p (PV.int IntKind.i64 x3)), ((44 : Nat), AV.p (PV.int IntKind.i64 x4))],
    heap := [Blk.row (103 : Nat) (3 : Nat) x5] }
  fun x => Cod.dec R61 x some
theorem L61_11_eq (N : Nat) (n : Nat) (x0 : List PV) (x1 : List PV) (x2 : List PV) (x3 : Int) (x4 : Int) (x5 : List PV) : L61_11 N (n + 1) x0 x1 x2 x3 x4 x5 =
    aIf (decide (x4 < x3))
  (onGet x2 x4 fun z4 =>
    onStr z4 fun u5 =>
      onGet x0 x4 fun z6 =>
        onCons (List.take (2 : Nat) (List.drop (1 : Nat) (PV.cells z6))) fun h7 t8 =>
          onInt IntKind.i64 h7 fun n9 =>
            onCons t8 fun h10 t11 =>
              onInt IntKind.i64 h10 fun n12 =>
                onNil t11
                  (onSome (F91 N (u5, (n9, n12), x1)) fun y13 =>
                    aGd (decide ((0 : Nat) + (3 : Nat) ≤ (3 : Nat)))
                      (aIf (Prod.snd y13 != (0 : Int)) (some ([], Prod.snd y13))
                        (aGd (decide ((List.length x5 + (1 : Nat)) * (25 : Nat) ≤ (140737488355328 : Nat)))
                          (aGd
                            (keptUnder (1 : Nat)
                                [((2 : Nat), AV.p (PV.sl (3 : Nat) x0)), ((3 : Nat), AV.p (PV.sl (2 : Nat) x1)), ((11 : Nat), AV.own (0 : Nat)),
                                  ((42 : Nat), AV.p (PV.sl (1 : Nat) x2)), ((43 : Nat), AV.p (PV.int IntKind.i64 x3)),
                                  ((44 : Nat), AV.p (PV.int IntKind.i64 (IntKind.wrap IntKind.i64 (x4 + (1 : Int)))))] &&
                              underH (1 : Nat)
                                (List.take (1 : Nat)
                                  [Blk.row (103 : Nat) (3 : Nat)
                                      (x5 ++
                                        [PV.agg
                                            [PV.int IntKind.i64 (Prod.fst (Prod.fst y13)), PV.int IntKind.i64 (Prod.fst (Prod.snd (Prod.fst y13))),
                                              PV.int IntKind.i64 (Prod.snd (Prod.snd (Prod.fst y13)))]]),
                                    Blk.box
                                      [AV.p (PV.int IntKind.i64 (Prod.fst (Prod.fst y13))), AV.p (PV.int IntKind.i64 (Prod.fst (Prod.snd (Prod.fst y13)))),
                                        AV.p (PV.int IntKind.i64 (Prod.snd (Prod.snd (Prod.fst y13))))]]))
                            (L61_11 N n x0 x1 x2 x3 (IntKind.wrap IntKind.i64 (x4 + (1 : Int)))
                              (x5 ++
                                [PV.agg
                                    [PV.int IntKind.i64 (Prod.fst (Prod.fst y13)), PV.int IntKind.i64 (Prod.fst (Prod.snd (Prod.fst y13))),
                                      PV.int IntKind.i64 (Prod.snd (Prod.snd (Prod.fst y13)))]])))))))
  (some (x5, (0 : Int))) := by kernel_rfl
theorem L61_11_zero (N : Nat) (x0 : List PV) (x1 : List PV) (x2 : List PV) (x3 : Int) (x4 : Int) (x5 : List PV) : L61_11 N 0 x0 x1 x2 x3 x4 x5 = none := by kernel_rfl
theorem F61_eq (N : Nat) (a0 : List UInt8) (a1 : List UInt8) (a2 : List PV) (a3 : List PV) : F61 N (a0, a1, a2, a3) =
    onSome (F49 N (a0, [(32 : UInt8)])) fun y0 =>
  onGet y0 (0 : Int) fun z1 =>
    onStr z1 fun u2 =>
      aIf (!u2 == a1) (some ([], (2 : Int)))
        (aGd (decide ((1 : Int) ≤ Int.ofNat (List.length y0)))
          (onSome (F90 N (List.drop (1 : Nat) (List.take (List.length y0) y0), [])) fun y3 =>
            aIf y3 (some ([], (2 : Int)))
              (aGd (decide ((1 : Int) ≤ Int.ofNat (List.length y0)))
                (aIf (decide (Int.ofNat (List.length (List.drop (1 : Nat) (List.take (List.length y0) y0))) < Int.ofNat (List.length a2))) (some ([], (5 : Int)))
                  (aIf (decide (Int.ofNat (List.length a2) < Int.ofNat (List.length (List.drop (1 : Nat) (List.take (List.length y0) y0))))) (some ([], (4 : Int)))
                    (aGd
                      (keptUnder (1 : Nat)
                          [((2 : Nat), AV.p (PV.sl (3 : Nat) a2)), ((3 : Nat), AV.p (PV.sl (2 : Nat) a3)), ((11 : Nat), AV.own (0 : Nat)),
                            ((42 : Nat), AV.p (PV.sl (1 : Nat) (List.drop (1 : Nat) (List.take (List.length y0) y0)))),
                            ((43 : Nat), AV.p (PV.int IntKind.i64 (Int.ofNat (List.length (List.drop (1 : Nat) (List.take (List.length y0) y0)))))),
                            ((44 : Nat), AV.p (PV.int IntKind.i64 (0 : Int)))] &&
                        underH (1 : Nat) (List.take (1 : Nat) [Blk.row (103 : Nat) (3 : Nat) []]))
                      (L61_11 N N a2 a3 (List.drop (1 : Nat) (List.take (List.length y0) y0)) (Int.ofNat (List.length (List.drop (1 : Nat) (List.take (List.length y0) y0))))
                        (0 : Int) []))))))) := by kernel_rfl
noncomputable def C61 (N : Nat) : Callee := mkCallee A61 R61 (F61 N)
theorem S61 (N : Nat) : Cok 61 (C61 N) := cok_of (l := (E61 N).calls) (O := O61 N) (cok_cons (S49 N) (cok_cons (S90 N) (cok_cons (S91 N) cok_nil))) rfl Tryd.func61 rfl (by kernel_rfl) (by kernel_rfl)

-- function 56
def A56 : Cods (((List PV) × (List PV) × List PV) × Int) := (codsCons (codAgg (codsCons (codSl 2) (codsCons (codSl 6) (codsOne (codSl 5))))) (codsOne (codInt .i64)))
def R56 : Cod (((List UInt8) × (Int) × (List PV) × (List PV) × List PV) × Bool) := (codTup (codsCons (codAgg (codsCons codStr (codsCons (codInt .i64) (codsCons (codSl 3) (codsCons (codSl 3) (codsOne (codSl 9))))))) (codsOne codBool)))
noncomputable def E56 (N : Nat) : Env := ⟨Tryd.prog, []⟩
def O56 (N : Nat) : Opts := ⟨N, [], []⟩
noncomputable def F56 (N : Nat) (a : ((List PV) × (List PV) × List PV) × Int) : Option (((List UInt8) × (Int) × (List PV) × (List PV) × List PV) × Bool) := aTyped (E56 N) (O56 N) Tryd.f56 A56 R56 a
theorem F56_eq (N : Nat) (a0 : List PV × List PV × List PV) (a1 : Int) : F56 N (a0, a1) =
    onGet (Prod.snd (Prod.snd a0)) a1 fun z0 =>
  onSome (PV.cells z0)[(1 : Nat)]? fun y1 =>
    onInt IntKind.i64 y1 fun n2 =>
      aIf (decide (n2 < (0 : Int))) (aGd (decide ((0 : Nat) + (5 : Nat) ≤ (5 : Nat))) (some (([], (0 : Int), [], [], []), false)))
        (aIf (decide (Int.ofNat (List.length (Prod.snd (Prod.snd a0))) ≤ n2)) (aGd (decide ((0 : Nat) + (5 : Nat) ≤ (5 : Nat))) (some (([], (0 : Int), [], [], []), false)))
          (onGet (Prod.snd (Prod.snd a0)) n2 fun z3 =>
            onCons (List.take (5 : Nat) (List.drop (0 : Nat) (PV.cells z3))) fun h4 t5 =>
              onStr h4 fun u6 =>
                onCons t5 fun h7 t8 =>
                  onInt IntKind.i64 h7 fun n9 =>
                    onCons t8 fun h10 t11 =>
                      onSl (3 : Nat) h10 fun l12 =>
                        onCons t11 fun h13 t14 =>
                          onSl (3 : Nat) h13 fun l15 =>
                            onCons t14 fun h16 t17 =>
                              onSl (9 : Nat) h16 fun l18 => onNil t17 (aGd (decide ((0 : Nat) + (5 : Nat) ≤ (5 : Nat))) (some ((u6, n9, l12, l15, l18), true))))) := by kernel_rfl
noncomputable def C56 (N : Nat) : Callee := mkCallee A56 R56 (F56 N)
theorem S56 (N : Nat) : Cok 56 (C56 N) := cok_of (l := (E56 N).calls) (O := O56 N) cok_nil rfl Tryd.func56 rfl (by kernel_rfl) (by kernel_rfl)

-- function 55
def A55 : Cods (((List PV) × (List PV) × List PV) × Int) := (codsCons (codAgg (codsCons (codSl 2) (codsCons (codSl 6) (codsOne (codSl 5))))) (codsOne (codInt .i64)))
def R55 : Cod (Int) := (codInt .i64)
noncomputable def E55 (N : Nat) : Env := ⟨Tryd.prog, [(56, C56 N)]⟩
def O55 (N : Nat) : Opts := ⟨N, [], []⟩
noncomputable def F55 (N : Nat) (a : ((List PV) × (List PV) × List PV) × Int) : Option (Int) := aTyped (E55 N) (O55 N) Tryd.f55 A55 R55 a
theorem F55_eq (N : Nat) (a0 : List PV × List PV × List PV) (a1 : Int) : F55 N (a0, a1) =
    onSome (F56 N ((Prod.fst a0, Prod.fst (Prod.snd a0), Prod.snd (Prod.snd a0)), a1)) fun y0 =>
  aGd (decide ((0 : Nat) + (5 : Nat) ≤ (5 : Nat))) (aIf (Prod.snd y0) (some (8 : Int)) (some (0 : Int))) := by kernel_rfl
noncomputable def C55 (N : Nat) : Callee := mkCallee A55 R55 (F55 N)
theorem S55 (N : Nat) : Cok 55 (C55 N) := cok_of (l := (E55 N).calls) (O := O55 N) (cok_cons (S56 N) cok_nil) rfl Tryd.func55 rfl (by kernel_rfl) (by kernel_rfl)

-- function 26
def A26 : Cods (((List PV) × (List PV) × List PV) × (Int) × List UInt8) := (codsCons (codAgg (codsCons (codSl 2) (codsCons (codSl 6) (codsOne (codSl 5))))) (codsCons (codInt .i64) (codsOne codStr)))
def R26 : Cod (((Int) × (List PV) × List PV) × (Int) × Int) := (codTup (codsCons (codAgg (codsCons (codInt .i64) (codsCons (codSl 3) (codsOne (codSl 1))))) (codsCons (codInt .i64) (codsOne (codInt .i64)))))
noncomputable def E26 (N : Nat) : Env := ⟨Tryd.prog, [(48, C48 N), (59, C59 N), (60, C60 N), (61, C61 N), (56, C56 N), (55, C55 N)]⟩
def O26 (N : Nat) : Opts := ⟨N, [(22, ⟨[1, 3, 6, 13, 14, 95, 96, 97], [], [(2, 2, 43, 1)], 5⟩)], []⟩
noncomputable def F26 (N : Nat) (a : ((List PV) × (List PV) × List PV) × (Int) × List UInt8) : Option (((Int) × (List PV) × List PV) × (Int) × Int) := aTyped (E26 N) (O26 N) Tryd.f26 A26 R26 a
noncomputable def L26_22 (N : Nat) (n : Nat) (x0 : Int) (x1 : List PV) (x2 : Int) (x3 : Int) (x4 : List PV) (x5 : List PV) (x6 : List PV) (x7 : Int) (x8 : Int) (x9 : List PV) (x10 : List UInt8) (x11 : Int) (x12 : List PV) (x13 : List PV) (x14 : List PV) (x15 : List PV) : Option ((Int × List PV × List PV) × Int × Int) :=
  atLoop (E26 N) (O26 N) Tryd.f26
  [(1 : Nat), (1 : Nat), (1 : Nat), (1 : Nat), (1 : Nat), (1 : Nat), (1 : Nat), (1 : Nat), (1 : Nat), (1 : Nat), (1 : Nat), (1 : Nat), (0 : Nat), (1 : Nat), (0 : Nat)] [] n
  {
    tmps :=
      Tm.of (nat_lit 133)
        [((1 : Nat), AV.p (PV.int IntKind.i64 x0)), ((3 : Nat), AV.box (0 : Nat) (0 : Nat)), ((6 : Nat), AV.box (1 : Nat) (0 : Nat)), ((13 : Nat), AV.box (2 : Nat) (0 : Nat)),
          ((14 : Nat), AV.box (3 : Nat) (0 : Nat)), ((95 : Nat), AV.p (PV.sl (1 : Nat) x1)), ((96 : Nat), AV.p (PV.int IntKind.i64 x2)),
          ((97 : Nat), AV.p (PV.int IntKind.i64 x3))],
    heap :=
      [Blk.box [AV.p (PV.sl (2 : Nat) x4), AV.p (PV.sl (6 : Nat) x5), AV.p (PV.sl (5 : Nat) x6)], Blk.box [AV.p (PV.int IntKind.i64 x7), AV.p PV.nilsl, AV.p PV.nilsl],
        Blk.box [AV.p (PV.int IntKind.i64 x8), AV.p (PV.sl (3 : Nat) x9), AV.own (4 : Nat)],
        Blk.box [AV.p (PV.str x10), AV.p (PV.int IntKind.i64 x11), AV.p (PV.sl (3 : Nat) x12), AV.p (PV.sl (3 : Nat) x13), AV.p (PV.sl (9 : Nat) x14)],
        Blk.row (43 : Nat) (1 : Nat) x15] }
  fun x => Cod.dec R26 x some
theorem L26_22_eq (N : Nat) (n : Nat) (x0 : Int) (x1 : List PV) (x2 : Int) (x3 : Int) (x4 : List PV) (x5 : List PV) (x6 : List PV) (x7 : Int) (x8 : Int) (x9 : List PV) (x10 : List UInt8) (x11 : Int) (x12 : List PV) (x13 : List PV) (x14 : List PV) (x15 : List PV) : L26_22 N (n + 1) x0 x1 x2 x3 x4 x5 x6 x7 x8 x9 x10 x11 x12 x13 x14 x15 =
    aIf (decide (x3 < x2))
  (onGet x1 x3 fun z12 =>
    onStr z12 fun u13 =>
      onSome (F55 N ((x4, x5, x6), x0)) fun y14 =>
        aIf (decide (y14 ≤ x3)) (aGd (decide ((0 : Nat) + (3 : Nat) ≤ (3 : Nat))) (some (((0 : Int), [], []), IntKind.wrap IntKind.i64 (x3 + (2 : Int)), (4 : Int))))
          (onSome (F61 N (u13, [(109 : UInt8), (101 : UInt8), (109 : UInt8), (98 : UInt8), (101 : UInt8), (114 : UInt8)], x12, x4)) fun y15 =>
            aIf (Prod.snd y15 != (0 : Int)) (aGd (decide ((0 : Nat) + (3 : Nat) ≤ (3 : Nat))) (some (((0 : Int), [], []), IntKind.wrap IntKind.i64 (x3 + (2 : Int)), Prod.snd y15)))
              (aGd (decide ((List.length x15 + (1 : Nat)) * (25 : Nat) ≤ (140737488355328 : Nat)))
                (aGd (decide ((2 : Nat) + (1 : Nat) ≤ (3 : Nat)))
                  (L26_22 N n x0 x1 x2 (IntKind.wrap IntKind.i64 (x3 + (1 : Int))) x4 x5 x6 x7 x8 x9 x10 x11 x12 x13 x14 (x15 ++ [PV.sl (3 : Nat) (Prod.fst y15)]))))))
  (aGd (decide ((0 : Nat) + (3 : Nat) ≤ (3 : Nat))) (some ((x8, x9, x15), (0 : Int), (0 : Int)))) := by kernel_rfl
theorem L26_22_zero (N : Nat) (x0 : Int) (x1 : List PV) (x2 : Int) (x3 : Int) (x4 : List PV) (x5 : List PV) (x6 : List PV) (x7 : Int) (x8 : Int) (x9 : List PV) (x10 : List UInt8) (x11 : Int) (x12 : List PV) (x13 : List PV) (x14 : List PV) (x15 : List PV) : L26_22 N 0 x0 x1 x2 x3 x4 x5 x6 x7 x8 x9 x10 x11 x12 x13 x14 x15 = none := by kernel_rfl
theorem F26_eq (N : Nat) (a0 : List PV × List PV × List PV) (a1 : Int) (a2 : List UInt8) : F26 N (a0, a1, a2) =
    aIf (decide (a1 < (0 : Int))) (aGd (decide ((0 : Nat) + (3 : Nat) ≤ (3 : Nat))) (some (((0 : Int), [], []), (0 : Int), (6 : Int))))
  (aIf (decide (Int.ofNat (List.length (Prod.snd (Prod.snd a0))) ≤ a1)) (aGd (decide ((0 : Nat) + (3 : Nat) ≤ (3 : Nat))) (some (((0 : Int), [], []), (0 : Int), (6 : Int))))
    (onSome (F48 N a2) fun y0 =>
      aIf (Prod.snd y0 != (0 : Int)) (aGd (decide ((0 : Nat) + (3 : Nat) ≤ (3 : Nat))) (some (((0 : Int), [], []), (0 : Int), Prod.snd y0)))
        (aIf (Int.ofNat (List.length (Prod.fst y0)) == (0 : Int)) (aGd (decide ((0 : Nat) + (3 : Nat) ≤ (3 : Nat))) (some (((0 : Int), [], []), (0 : Int), (5 : Int))))
          (onGet (Prod.fst y0) (0 : Int) fun z1 =>
            onStr z1 fun u2 =>
              onSome (F59 N (u2, [(100 : UInt8), (97 : UInt8), (116 : UInt8), (101 : UInt8), (32 : UInt8)])) fun y3 =>
                aIf (!Prod.snd y3) (aGd (decide ((0 : Nat) + (3 : Nat) ≤ (3 : Nat))) (some (((0 : Int), [], []), (0 : Int), (2 : Int))))
                  (aGd (decide ((0 : Nat) + (3 : Nat) ≤ (3 : Nat)))
                    (onSome (F60 N (Prod.fst y3)) fun y4 =>
                      aGd (decide ((0 : Nat) + (1 : Nat) ≤ (3 : Nat)))
                        (aIf (Prod.snd y4 != (0 : Int)) (aGd (decide ((0 : Nat) + (3 : Nat) ≤ (3 : Nat))) (some (((0 : Int), [], []), (0 : Int), Prod.snd y4)))
                          (aIf (Int.ofNat (List.length (Prod.fst y0)) == (1 : Int))
                            (aGd (decide ((0 : Nat) + (3 : Nat) ≤ (3 : Nat))) (some (((0 : Int), [], []), (1 : Int), (5 : Int))))
                            (onGet (Prod.fst y0) (1 : Int) fun z5 =>
                              onStr z5 fun u6 =>
                                onGet (Prod.snd (Prod.snd a0)) a1 fun z7 =>
                                  onSome (PV.cells z7)[(2 : Nat)]? fun y8 =>
                                    onSl (3 : Nat) y8 fun l9 =>
                                      onSome (F61 N (u6, [(105 : UInt8), (110 : UInt8)], l9, Prod.fst a0)) fun y10 =>
                                        aGd (decide ((1 : Nat) + (1 : Nat) ≤ (3 : Nat)))
                                          (aIf (Prod.snd y10 != (0 : Int)) (aGd (decide ((0 : Nat) + (3 : Nat) ≤ (3 : Nat))) (some (((0 : Int), [], []), (1 : Int), Prod.snd y10)))
                                            (onSome (F56 N ((Prod.fst a0, Prod.fst (Prod.snd a0), Prod.snd (Prod.snd a0)), a1)) fun y11 =>
                                              aGd (decide ((0 : Nat) + (5 : Nat) ≤ (5 : Nat)))
                                                (aGd (decide ((2 : Int) ≤ Int.ofNat (List.length (Prod.fst y0))))
                                                  (L26_22 N N a1 (List.drop (2 : Nat) (List.take (List.length (Prod.fst y0)) (Prod.fst y0)))
                                                    (Int.ofNat (List.length (List.drop (2 : Nat) (List.take (List.length (Prod.fst y0)) (Prod.fst y0))))) (0 : Int) (Prod.fst a0)
                                                    (Prod.fst (Prod.snd a0)) (Prod.snd (Prod.snd a0)) (0 : Int) (Prod.fst y4) (Prod.fst y10) (Prod.fst (Prod.fst y11))
                                                    (Prod.fst (Prod.snd (Prod.fst y11))) (Prod.fst (Prod.snd (Prod.snd (Prod.fst y11))))
                                                    (Prod.fst (Prod.snd (Prod.snd (Prod.snd (Prod.fst y11))))) (Prod.snd (Prod.snd (Prod.snd (Prod.snd (Prod.fst y11)))))
                                                    []))))))))))))) := by kernel_rfl
noncomputable def C26 (N : Nat) : Callee := mkCallee A26 R26 (F26 N)
theorem S26 (N : Nat) : Cok 26 (C26 N) := cok_of (l := (E26 N).calls) (O := O26 N) (cok_cons (S48 N) (cok_cons (S59 N) (cok_cons (S60 N) (cok_cons (S61 N) (cok_cons (S56 N) (cok_cons (S55 N) cok_nil)))))) rfl Tryd.func26 rfl (by kernel_rfl) (by kernel_rfl)

-- function 54
def A54 : Cods ((List PV) × (List PV) × List PV) := (codsCons (codSl 3) (codsCons (codSl 3) (codsOne (codSl 2))))
def R54 : Cod ((Int) × Int) := (codTup (codsCons (codInt .i64) (codsOne (codInt .i64))))
noncomputable def E54 (N : Nat) : Env := ⟨Tryd.prog, [(84, C84 N)]⟩
def O54 (N : Nat) : Opts := ⟨N, [(6, ⟨[1, 2, 27, 28, 29], [], [], 0⟩)], []⟩
noncomputable def F54 (N : Nat) (a : (List PV) × (List PV) × List PV) : Option ((Int) × Int) := aTyped (E54 N) (O54 N) Tryd.f54 A54 R54 a
noncomputable def L54_6 (N : Nat) (n : Nat) (x0 : List PV) (x1 : List PV) (x2 : List PV) (x3 : Int) (x4 : Int) : Option (Int × Int) :=
  atLoop (E54 N) (O54 N) Tryd.f54 [(1 : Nat), (1 : Nat), (1 : Nat), (0 : Nat), (1 : Nat), (0 : Nat)] [] n
  {
    tmps :=
      Tm.of (nat_lit 70)
        [((1 : Nat), AV.p (PV.sl (3 : Nat) x0)), ((2 : Nat), AV.p (PV.sl (2 : Nat) x1)), ((27 : Nat), AV.p (PV.sl (3 : Nat) x2)), ((28 : Nat), AV.p (PV.int IntKind.i64 x3)),
          ((29 : Nat), AV.p (PV.int IntKind.i64 x4))],
    heap := [] }
  fun x => Cod.dec R54 x some
theorem L54_6_eq (N : Nat) (n : Nat) (x0 : List PV) (x1 : List PV) (x2 : List PV) (x3 : Int) (x4 : Int) : L54_6 N (n + 1) x0 x1 x2 x3 x4 =
    aIf (decide (x4 < x3))
  (onGet x2 x4 fun z0 =>
    onCons (List.take (3 : Nat) (List.drop (0 : Nat) (PV.cells z0))) fun h1 t2 =>
      onInt IntKind.i64 h1 fun n3 =>
        onCons t2 fun h4 t5 =>
          onInt IntKind.i64 h4 fun n6 =>
            onCons t5 fun h7 t8 =>
              onInt IntKind.i64 h7 fun n9 =>
                onNil t8
                  (aGd (decide ((0 : Nat) + (3 : Nat) ≤ (3 : Nat)))
                    (onGet x0 x4 fun z10 =>
                      onCons (List.take (2 : Nat) (List.drop (1 : Nat) (PV.cells z10))) fun h11 t12 =>
                        onInt IntKind.i64 h11 fun n13 =>
                          onCons t12 fun h14 t15 =>
                            onInt IntKind.i64 h14 fun n16 =>
                              onNil t15
                                (aGd (decide ((0 : Nat) + (2 : Nat) ≤ (2 : Nat)))
                                  (onSome (F84 N ((n13, n16), x1)) fun y17 =>
                                    aIf (n3 != n13) (some (x4, (8 : Int)))
                                      (aIf (n6 != n16) (some (x4, (8 : Int)))
                                        (aIf (decide (n9 < Prod.fst y17)) (some (x4, (3 : Int)))
                                          (aIf (decide (Prod.snd y17 < n9)) (some (x4, (3 : Int))) (L54_6 N n x0 x1 x2 x3 (IntKind.wrap IntKind.i64 (x4 + (1 : Int))))))))))))
  (some ((0 : Int), (0 : Int))) := by kernel_rfl
theorem L54_6_zero (N : Nat) (x0 : List PV) (x1 : List PV) (x2 : List PV) (x3 : Int) (x4 : Int) : L54_6 N 0 x0 x1 x2 x3 x4 = none := by kernel_rfl
theorem F54_eq (N : Nat) (a0 : List PV) (a1 : List PV) (a2 : List PV) : F54 N (a0, a1, a2) =
    aIf (decide (Int.ofNat (List.length a0) < Int.ofNat (List.length a1))) (some (Int.ofNat (List.length a0), (5 : Int)))
  (aIf (decide (Int.ofNat (List.length a1) < Int.ofNat (List.length a0))) (some (Int.ofNat (List.length a1), (4 : Int)))
    (L54_6 N N a1 a2 a0 (Int.ofNat (List.length a0)) (0 : Int))) := by kernel_rfl
noncomputable def C54 (N : Nat) : Callee := mkCallee A54 R54 (F54 N)
theorem S54 (N : Nat) : Cok 54 (C54 N) := cok_of (l := (E54 N).calls) (O := O54 N) (cok_cons (S84 N) cok_nil) rfl Tryd.func54 rfl (by kernel_rfl) (by kernel_rfl)

-- function 24
def A24 : Cods (((List PV) × (List PV) × List PV) × (Int) × (Int) × (List PV) × List PV) := (codsCons (codAgg (codsCons (codSl 2) (codsCons (codSl 6) (codsOne (codSl 5))))) (codsCons (codInt .i64) (codsOne (codAgg (codsCons (codInt .i64) (codsCons (codSl 3) (codsOne (codSl 1))))))))
def R24 : Cod ((Int) × (Int) × Int) := (codTup (codsCons (codInt .i64) (codsCons (codInt .i64) (codsOne (codInt .i64)))))
noncomputable def E24 (N : Nat) : Env := ⟨Tryd.prog, [(54, C54 N), (55, C55 N), (56, C56 N)]⟩
def O24 (N : Nat) : Opts := ⟨N, [(13, ⟨[3, 12, 71, 72, 73], [], [], 3⟩)], []⟩
noncomputable def F24 (N : Nat) (a : ((List PV) × (List PV) × List PV) × (Int) × (Int) × (List PV) × List PV) : Option ((Int) × (Int) × Int) := aTyped (E24 N) (O24 N) Tryd.f24 A24 R24 a
noncomputable def L24_13 (N : Nat) (n : Nat) (x0 : List PV) (x1 : Int) (x2 : Int) (x3 : List PV) (x4 : List PV) (x5 : List PV) (x6 : Int) (x7 : List PV) (x8 : List PV) (x9 : List UInt8) (x10 : Int) (x11 : List PV) (x12 : List PV) (x13 : List PV) : Option (Int × Int × Int) :=
  atLoop (E24 N) (O24 N) Tryd.f24 [(1 : Nat), (1 : Nat), (1 : Nat), (1 : Nat), (1 : Nat), (0 : Nat), (1 : Nat), (0 : Nat)] [] n
  {
    tmps :=
      Tm.of (nat_lit 93)
        [((3 : Nat), AV.box (0 : Nat) (0 : Nat)), ((12 : Nat), AV.box (2 : Nat) (0 : Nat)), ((71 : Nat), AV.p (PV.sl (1 : Nat) x0)), ((72 : Nat), AV.p (PV.int IntKind.i64 x1)),
          ((73 : Nat), AV.p (PV.int IntKind.i64 x2))],
    heap :=
      [Blk.box [AV.p (PV.sl (2 : Nat) x3), AV.p (PV.sl (6 : Nat) x4), AV.p (PV.sl (5 : Nat) x5)],
        Blk.box [AV.p (PV.int IntKind.i64 x6), AV.p (PV.sl (3 : Nat) x7), AV.p (PV.sl (1 : Nat) x8)],
        Blk.box [AV.p (PV.str x9), AV.p (PV.int IntKind.i64 x10), AV.p (PV.sl (3 : Nat) x11), AV.p (PV.sl (3 : Nat) x12), AV.p (PV.sl (9 : Nat) x13)]] }
  fun x => Cod.dec R24 x some
theorem L24_13_eq (N : Nat) (n : Nat) (x0 : List PV) (x1 : Int) (x2 : Int) (x3 : List PV) (x4 : List PV) (x5 : List PV) (x6 : Int) (x7 : List PV) (x8 : List PV) (x9 : List UInt8) (x10 : Int) (x11 : List PV) (x12 : List PV) (x13 : List PV) : L24_13 N (n + 1) x0 x1 x2 x3 x4 x5 x6 x7 x8 x9 x10 x11 x12 x13 =
    aIf (decide (x2 < x1))
  (onGet x0 x2 fun z6 =>
    onSl (3 : Nat) z6 fun l7 =>
      onSome (F54 N (l7, x11, x3)) fun y8 =>
        aIf (Prod.snd y8 != (0 : Int)) (some (x2, Prod.fst y8, Prod.snd y8)) (L24_13 N n x0 x1 (IntKind.wrap IntKind.i64 (x2 + (1 : Int))) x3 x4 x5 x6 x7 x8 x9 x10 x11 x12 x13))
  (some ((0 : Int), (0 : Int), (0 : Int))) := by kernel_rfl
theorem L24_13_zero (N : Nat) (x0 : List PV) (x1 : Int) (x2 : Int) (x3 : List PV) (x4 : List PV) (x5 : List PV) (x6 : Int) (x7 : List PV) (x8 : List PV) (x9 : List UInt8) (x10 : Int) (x11 : List PV) (x12 : List PV) (x13 : List PV) : L24_13 N 0 x0 x1 x2 x3 x4 x5 x6 x7 x8 x9 x10 x11 x12 x13 = none := by kernel_rfl
theorem F24_eq (N : Nat) (a0 : List PV × List PV × List PV) (a1 : Int) (a2 : Int) (a3 : List PV) (a4 : List PV) : F24 N (a0, a1, a2, a3, a4) =
    aIf (decide (a1 < (0 : Int))) (some ((-1 : Int), (-1 : Int), (6 : Int)))
  (aIf (decide (Int.ofNat (List.length (Prod.snd (Prod.snd a0))) ≤ a1)) (some ((-1 : Int), (-1 : Int), (6 : Int)))
    (aIf (decide (a2 < (0 : Int))) (some ((-1 : Int), (-1 : Int), (3 : Int)))
      (aIf (decide ((109572 : Int) < a2)) (some ((-1 : Int), (-1 : Int), (3 : Int)))
        (onGet (Prod.snd (Prod.snd a0)) a1 fun z0 =>
          onSome (PV.cells z0)[(2 : Nat)]? fun y1 =>
            onSl (3 : Nat) y1 fun l2 =>
              onSome (F54 N (a3, l2, Prod.fst a0)) fun y3 =>
                aIf (Prod.snd y3 != (0 : Int)) (some ((-1 : Int), Prod.fst y3, Prod.snd y3))
                  (onSome (F55 N ((Prod.fst a0, Prod.fst (Prod.snd a0), Prod.snd (Prod.snd a0)), a1)) fun y4 =>
                    aIf (decide (y4 < Int.ofNat (List.length a4))) (some (y4, (-1 : Int), (4 : Int)))
                      (onSome (F56 N ((Prod.fst a0, Prod.fst (Prod.snd a0), Prod.snd (Prod.snd a0)), a1)) fun y5 =>
                        aGd (decide ((0 : Nat) + (5 : Nat) ≤ (5 : Nat)))
                          (L24_13 N N a4 (Int.ofNat (List.length a4)) (0 : Int) (Prod.fst a0) (Prod.fst (Prod.snd a0)) (Prod.snd (Prod.snd a0)) a2 a3 a4 (Prod.fst (Prod.fst y5))
                            (Prod.fst (Prod.snd (Prod.fst y5))) (Prod.fst (Prod.snd (Prod.snd (Prod.fst y5)))) (Prod.fst (Prod.snd (Prod.snd (Prod.snd (Prod.fst y5)))))
                            (Prod.snd (Prod.snd (Prod.snd (Prod.snd (Prod.fst y5)))))))))))) := by kernel_rfl
noncomputable def C24 (N : Nat) : Callee := mkCallee A24 R24 (F24 N)
theorem S24 (N : Nat) : Cok 24 (C24 N) := cok_of (l := (E24 N).calls) (O := O24 N) (cok_cons (S54 N) (cok_cons (S55 N) (cok_cons (S56 N) cok_nil))) rfl Tryd.func24 rfl (by kernel_rfl) (by kernel_rfl)

-- function 92
def A92 : Cods (Int) := (codsOne (codInt .i64))
def R92 : Cod (Bool) := codBool
noncomputable def E92 (N : Nat) : Env := ⟨Tryd.prog, []⟩
def O92 (N : Nat) : Opts := ⟨N, [], []⟩
noncomputable def F92 (N : Nat) (a : Int) : Option (Bool) := aTyped (E92 N) (O92 N) Tryd.f92 A92 R92 a
theorem F92_eq (N : Nat) (a0 : Int) : F92 N a0 =
    aIf (decide ((0 : Int) ≤ a0)) (some (decide (a0 ≤ (109572 : Int)))) (some false) := by kernel_rfl
noncomputable def C92 (N : Nat) : Callee := mkCallee A92 R92 (F92 N)
theorem S92 (N : Nat) : Cok 92 (C92 N) := cok_of (l := (E92 N).calls) (O := O92 N) cok_nil rfl Tryd.func92 rfl (by kernel_rfl) (by kernel_rfl)

-- function 93
def A93 : Cods (Int) := (codsOne (codInt .i64))
def R93 : Cod ((Int) × (Int) × Int) := (codTup (codsCons (codInt .i64) (codsCons (codInt .i64) (codsOne (codInt .i64)))))
noncomputable def E93 (N : Nat) : Env := ⟨Tryd.prog, [(92, C92 N), (111, C111 N), (110, C110 N)]⟩
def O93 (N : Nat) : Opts := ⟨N, [(4, ⟨[0, 5, 6], [], [], 0⟩), (7, ⟨[0, 5, 6], [], [], 0⟩)], []⟩
noncomputable def F93 (N : Nat) (a : Int) : Option ((Int) × (Int) × Int) := aTyped (E93 N) (O93 N) Tryd.f93 A93 R93 a
noncomputable def L93_4 (N : Nat) (n : Nat) (x0 : Int) (x1 : Int) (x2 : Int) : Option (Int × Int × Int) :=
  atLoop (E93 N) (O93 N) Tryd.f93 [(1 : Nat), (1 : Nat), (1 : Nat), (0 : Nat), (0 : Nat)] [] n
  { tmps := Tm.of (nat_lit 36) [((0 : Nat), AV.p (PV.int IntKind.i64 x0)), ((5 : Nat), AV.p (PV.int IntKind.i64 x1)), ((6 : Nat), AV.p (PV.int IntKind.i64 x2))], heap := [] }
  fun x => Cod.dec R93 x some
noncomputable def L93_7 (N : Nat) (n : Nat) (x0 : Int) (x1 : Int) (x2 : Int) : Option (Int × Int × Int) :=
  atLoop (E93 N) (O93 N) Tryd.f93 [(1 : Nat), (1 : Nat), (1 : Nat), (1 : Nat), (0 : Nat), (0 : Nat)] [] n
  { tmps := Tm.of (nat_lit 36) [((0 : Nat), AV.p (PV.int IntKind.i64 x0)), ((5 : Nat), AV.p (PV.int IntKind.i64 x1)), ((6 : Nat), AV.p (PV.int IntKind.i64 x2))], heap := [] }
  fun x => Cod.dec R93 x some
theorem L93_4_eq (N : Nat) (n : Nat) (x0 : Int) (x1 : Int) (x2 : Int) : L93_4 N (n + 1) x0 x1 x2 =
    onSome (F111 N x1) fun y1 =>
  aIf (decide (y1 ≤ x0)) (onSome (F111 N x1) fun y2 => L93_4 N n (IntKind.wrap IntKind.i64 (x0 - y2)) (IntKind.wrap IntKind.i64 (x1 + (1 : Int))) x2) (L93_7 N N x0 x1 x2) := by kernel_rfl
theorem L93_4_zero (N : Nat) (x0 : Int) (x1 : Int) (x2 : Int) : L93_4 N 0 x0 x1 x2 = none := by kernel_rfl
theorem L93_7_eq (N : Nat) (n : Nat) (x0 : Int) (x1 : Int) (x2 : Int) : L93_7 N (n + 1) x0 x1 x2 =
    onSome (F110 N (x1, x2)) fun y3 =>
  aIf (decide (y3 ≤ x0)) (onSome (F110 N (x1, x2)) fun y4 => L93_7 N n (IntKind.wrap IntKind.i64 (x0 - y4)) x1 (IntKind.wrap IntKind.i64 (x2 + (1 : Int))))
    (some (x1, x2, IntKind.wrap IntKind.i64 (x0 + (1 : Int)))) := by kernel_rfl
theorem L93_7_zero (N : Nat) (x0 : Int) (x1 : Int) (x2 : Int) : L93_7 N 0 x0 x1 x2 = none := by kernel_rfl
theorem F93_eq (N : Nat) (a0 : Int) : F93 N a0 =
    onSome (F92 N a0) fun y0 => aIf (!y0) (some ((0 : Int), (0 : Int), (0 : Int))) (L93_4 N N a0 (1900 : Int) (1 : Int)) := by kernel_rfl
noncomputable def C93 (N : Nat) : Callee := mkCallee A93 R93 (F93 N)
theorem S93 (N : Nat) : Cok 93 (C93 N) := cok_of (l := (E93 N).calls) (O := O93 N) (cok_cons (S92 N) (cok_cons (S111 N) (cok_cons (S110 N) cok_nil))) rfl Tryd.func93 rfl (by kernel_rfl) (by kernel_rfl)

-- function 44
def A44 : Cods (Int) := (codsOne (codInt .i64))
def R44 : Cod (List UInt8) := codStr
noncomputable def E44 (N : Nat) : Env := ⟨Tryd.prog, [(78, C78 N)]⟩
def O44 (N : Nat) : Opts := ⟨N, [], []⟩
noncomputable def F44 (N : Nat) (a : Int) : Option (List UInt8) := aTyped (E44 N) (O44 N) Tryd.f44 A44 R44 a
theorem F44_eq (N : Nat) (a0 : Int) : F44 N a0 =
    onSome (F78 N a0) fun y0 => some y0 := by kernel_rfl
noncomputable def C44 (N : Nat) : Callee := mkCallee A44 R44 (F44 N)
theorem S44 (N : Nat) : Cok 44 (C44 N) := cok_of (l := (E44 N).calls) (O := O44 N) (cok_cons (S78 N) cok_nil) rfl Tryd.func44 rfl (by kernel_rfl) (by kernel_rfl)

-- function 94
def A94 : Cods ((Int) × Int) := (codsCons (codInt .i64) (codsOne (codInt .i64)))
def R94 : Cod (List UInt8) := codStr
noncomputable def E94 (N : Nat) : Env := ⟨Tryd.prog, [(44, C44 N), (114, C114 N)]⟩
def O94 (N : Nat) : Opts := ⟨N, [], []⟩
noncomputable def F94 (N : Nat) (a : (Int) × Int) : Option (List UInt8) := aTyped (E94 N) (O94 N) Tryd.f94 A94 R94 a
theorem F94_eq (N : Nat) (a0 : Int) (a1 : Int) : F94 N (a0, a1) =
    onSome (F44 N a0) fun y0 =>
  onSome (F114 N ([(48 : UInt8)], max (0 : Int) (IntKind.wrap IntKind.i64 (a1 - Int.ofNat (List.length y0))))) fun y1 =>
    aGd (decide (List.length y1 + List.length y0 ≤ (9223372036854775807 : Nat))) (some (y1 ++ y0)) := by kernel_rfl
noncomputable def C94 (N : Nat) : Callee := mkCallee A94 R94 (F94 N)
theorem S94 (N : Nat) : Cok 94 (C94 N) := cok_of (l := (E94 N).calls) (O := O94 N) (cok_cons (S44 N) (cok_cons (S114 N) cok_nil)) rfl Tryd.func94 rfl (by kernel_rfl) (by kernel_rfl)

-- function 64
def A64 : Cods (Int) := (codsOne (codInt .i64))
def R64 : Cod (List UInt8) := codStr
noncomputable def E64 (N : Nat) : Env := ⟨Tryd.prog, [(92, C92 N), (93, C93 N), (94, C94 N)]⟩
def O64 (N : Nat) : Opts := ⟨N, [], []⟩
noncomputable def F64 (N : Nat) (a : Int) : Option (List UInt8) := aTyped (E64 N) (O64 N) Tryd.f64 A64 R64 a
theorem F64_eq (N : Nat) (a0 : Int) : F64 N a0 =
    onSome (F92 N a0) fun y0 =>
  aIf (!y0) (some [])
    (onSome (F93 N a0) fun y1 =>
      onSome (F94 N (Prod.fst y1, (4 : Int))) fun y2 =>
        aGd (decide (List.length y2 + (1 : Nat) ≤ (9223372036854775807 : Nat)))
          (onSome (F94 N (Prod.fst (Prod.snd y1), (2 : Int))) fun y3 =>
            aGd (decide (List.length (y2 ++ [(45 : UInt8)]) + List.length y3 ≤ (9223372036854775807 : Nat)))
              (aGd (decide (List.length (y2 ++ [(45 : UInt8)] ++ y3) + (1 : Nat) ≤ (9223372036854775807 : Nat)))
                (onSome (F94 N (Prod.snd (Prod.snd y1), (2 : Int))) fun y4 =>
                  aGd (decide (List.length (y2 ++ [(45 : UInt8)] ++ y3 ++ [(45 : UInt8)]) + List.length y4 ≤ (9223372036854775807 : Nat)))
                    (some (y2 ++ [(45 : UInt8)] ++ y3 ++ [(45 : UInt8)] ++ y4)))))) := by kernel_rfl
noncomputable def C64 (N : Nat) : Callee := mkCallee A64 R64 (F64 N)
theorem S64 (N : Nat) : Cok 64 (C64 N) := cok_of (l := (E64 N).calls) (O := O64 N) (cok_cons (S92 N) (cok_cons (S93 N) (cok_cons (S94 N) cok_nil))) rfl Tryd.func64 rfl (by kernel_rfl) (by kernel_rfl)

-- function 115
def A115 : Cods ((Int) × (Int) × Int) := (codsOne (codAgg (codsCons (codInt .i64) (codsCons (codInt .i64) (codsOne (codInt .i64))))))
def R115 : Cod ((Int) × Int) := (codAgg (codsCons (codInt .i64) (codsOne (codInt .i64))))
noncomputable def E115 (N : Nat) : Env := ⟨Tryd.prog, []⟩
def O115 (N : Nat) : Opts := ⟨N, [], []⟩
noncomputable def F115 (N : Nat) (a : (Int) × (Int) × Int) : Option ((Int) × Int) := aTyped (E115 N) (O115 N) Tryd.f115 A115 R115 a
theorem F115_eq (N : Nat) (a0 : Int) (a1 : Int) (a2 : Int) : F115 N (a0, a1, a2) =
    aGd (decide ((0 : Nat) + (2 : Nat) ≤ (2 : Nat))) (some (a0, a1)) := by kernel_rfl
noncomputable def C115 (N : Nat) : Callee := mkCallee A115 R115 (F115 N)
theorem S115 (N : Nat) : Cok 115 (C115 N) := cok_of (l := (E115 N).calls) (O := O115 N) cok_nil rfl Tryd.func115 rfl (by kernel_rfl) (by kernel_rfl)

-- function 116
def A116 : Cods (((Int) × (Int) × Int) × List PV) := (codsCons (codAgg (codsCons (codInt .i64) (codsCons (codInt .i64) (codsOne (codInt .i64))))) (codsOne (codSl 2)))
def R116 : Cod (Bool) := codBool
noncomputable def E116 (N : Nat) : Env := ⟨Tryd.prog, [(115, C115 N), (113, C113 N)]⟩
def O116 (N : Nat) : Opts := ⟨N, [], []⟩
noncomputable def F116 (N : Nat) (a : ((Int) × (Int) × Int) × List PV) : Option (Bool) := aTyped (E116 N) (O116 N) Tryd.f116 A116 R116 a
theorem F116_eq (N : Nat) (a0 : Int × Int × Int) (a1 : List PV) : F116 N (a0, a1) =
    onSome (F115 N (Prod.fst a0, Prod.fst (Prod.snd a0), Prod.snd (Prod.snd a0))) fun y0 => onSome (F113 N (Prod.snd (Prod.snd a0), (Prod.fst y0, Prod.snd y0), a1)) fun y1 => some y1 := by kernel_rfl
noncomputable def C116 (N : Nat) : Callee := mkCallee A116 R116 (F116 N)
theorem S116 (N : Nat) : Cok 116 (C116 N) := cok_of (l := (E116 N).calls) (O := O116 N) (cok_cons (S115 N) (cok_cons (S113 N) cok_nil)) rfl Tryd.func116 rfl (by kernel_rfl) (by kernel_rfl)

-- function 117
def A117 : Cods ((Int) × Int) := (codsCons (codInt .i64) (codsOne (codInt .i64)))
def R117 : Cod (List UInt8) := codStr
noncomputable def E117 (N : Nat) : Env := ⟨Tryd.prog, [(131, C131 N), (44, C44 N), (59, C59 N), (114, C114 N)]⟩
def O117 (N : Nat) : Opts := ⟨N, [], []⟩
noncomputable def F117 (N : Nat) (a : (Int) × Int) : Option (List UInt8) := aTyped (E117 N) (O117 N) Tryd.f117 A117 R117 a
theorem F117_eq (N : Nat) (a0 : Int) (a1 : Int) : F117 N (a0, a1) =
    onSome (F131 N a1) fun y0 =>
  aIf (y0 == (0 : Int)) (onSome (F44 N a0) fun y1 => some y1)
    (onSome (F44 N a0) fun y2 =>
      onSome (F59 N (y2, [(45 : UInt8)])) fun y3 =>
        aIf (decide ((0 : Int) < IntKind.wrap IntKind.i64 (IntKind.wrap IntKind.i64 (y0 + (1 : Int)) - Int.ofNat (List.length (Prod.fst y3)))))
          (onSome (F114 N ([(48 : UInt8)], IntKind.wrap IntKind.i64 (IntKind.wrap IntKind.i64 (y0 + (1 : Int)) - Int.ofNat (List.length (Prod.fst y3))))) fun y4 =>
            aGd (decide (List.length y4 + List.length (Prod.fst y3) ≤ (9223372036854775807 : Nat)))
              (aGd (decide ((0 : Int) ≤ IntKind.wrap IntKind.i64 (Int.ofNat (List.length (y4 ++ Prod.fst y3)) - y0)))
                (aGd (decide (IntKind.wrap IntKind.i64 (Int.ofNat (List.length (y4 ++ Prod.fst y3)) - y0) ≤ Int.ofNat (List.length (y4 ++ Prod.fst y3))))
                  (aGd
                    (decide
                      (List.length (List.drop (0 : Nat) (List.take (Int.toNat (IntKind.wrap IntKind.i64 (Int.ofNat (List.length (y4 ++ Prod.fst y3)) - y0))) (y4 ++ Prod.fst y3))) +
                          (1 : Nat) ≤
                        (9223372036854775807 : Nat)))
                    (aGd (decide ((0 : Int) ≤ IntKind.wrap IntKind.i64 (Int.ofNat (List.length (y4 ++ Prod.fst y3)) - y0)))
                      (aGd (decide (IntKind.wrap IntKind.i64 (Int.ofNat (List.length (y4 ++ Prod.fst y3)) - y0) ≤ Int.ofNat (List.length (y4 ++ Prod.fst y3))))
                        (aGd
                          (decide
                            (List.length
                                  (List.drop (0 : Nat) (List.take (Int.toNat (IntKind.wrap IntKind.i64 (Int.ofNat (List.length (y4 ++ Prod.fst y3)) - y0))) (y4 ++ Prod.fst y3)) ++
                                    [(46 : UInt8)]) +
                                List.length
                                  (List.drop (Int.toNat (IntKind.wrap IntKind.i64 (Int.ofNat (List.length (y4 ++ Prod.fst y3)) - y0)))
                                    (List.take (List.length (y4 ++ Prod.fst y3)) (y4 ++ Prod.fst y3))) ≤
                              (9223372036854775807 : Nat)))
                          (aIf (Prod.snd y3)
                            (aGd
                              (decide
                                ((1 : Nat) +
                                    List.length
                                      (List.drop (0 : Nat)
                                            (List.take (Int.toNat (IntKind.wrap IntKind.i64 (Int.ofNat (List.length (y4 ++ Prod.fst y3)) - y0))) (y4 ++ Prod.fst y3)) ++
                                          [(46 : UInt8)] ++
                                        List.drop (Int.toNat (IntKind.wrap IntKind.i64 (Int.ofNat (List.length (y4 ++ Prod.fst y3)) - y0)))
                                          (List.take (List.length (y4 ++ Prod.fst y3)) (y4 ++ Prod.fst y3))) ≤
                                  (9223372036854775807 : Nat)))
                              (some
                                ((45 : UInt8) ::
                                  List.append []
                                    (List.drop (0 : Nat)
                                          (List.take (Int.toNat (IntKind.wrap IntKind.i64 (Int.ofNat (List.length (y4 ++ Prod.fst y3)) - y0))) (y4 ++ Prod.fst y3)) ++
                                        [(46 : UInt8)] ++
                                      List.drop (Int.toNat (IntKind.wrap IntKind.i64 (Int.ofNat (List.length (y4 ++ Prod.fst y3)) - y0)))
                                        (List.take (List.length (y4 ++ Prod.fst y3)) (y4 ++ Prod.fst y3))))))
                            (some
                              (List.drop (0 : Nat) (List.take (Int.toNat (IntKind.wrap IntKind.i64 (Int.ofNat (List.length (y4 ++ Prod.fst y3)) - y0))) (y4 ++ Prod.fst y3)) ++
                                  [(46 : UInt8)] ++
                                List.drop (Int.toNat (IntKind.wrap IntKind.i64 (Int.ofNat (List.length (y4 ++ Prod.fst y3)) - y0)))
                                  (List.take (List.length (y4 ++ Prod.fst y3)) (y4 ++ Prod.fst y3))))))))))))
          (aGd (decide ((0 : Int) ≤ IntKind.wrap IntKind.i64 (Int.ofNat (List.length (Prod.fst y3)) - y0)))
            (aGd (decide (IntKind.wrap IntKind.i64 (Int.ofNat (List.length (Prod.fst y3)) - y0) ≤ Int.ofNat (List.length (Prod.fst y3))))
              (aGd
                (decide
                  (List.length (List.drop (0 : Nat) (List.take (Int.toNat (IntKind.wrap IntKind.i64 (Int.ofNat (List.length (Prod.fst y3)) - y0))) (Prod.fst y3))) + (1 : Nat) ≤
                    (9223372036854775807 : Nat)))
                (aGd (decide ((0 : Int) ≤ IntKind.wrap IntKind.i64 (Int.ofNat (List.length (Prod.fst y3)) - y0)))
                  (aGd (decide (IntKind.wrap IntKind.i64 (Int.ofNat (List.length (Prod.fst y3)) - y0) ≤ Int.ofNat (List.length (Prod.fst y3))))
                    (aGd
                      (decide
                        (List.length
                              (List.drop (0 : Nat) (List.take (Int.toNat (IntKind.wrap IntKind.i64 (Int.ofNat (List.length (Prod.fst y3)) - y0))) (Prod.fst y3)) ++
                                [(46 : UInt8)]) +
                            List.length
                              (List.drop (Int.toNat (IntKind.wrap IntKind.i64 (Int.ofNat (List.length (Prod.fst y3)) - y0)))
                                (List.take (List.length (Prod.fst y3)) (Prod.fst y3))) ≤
                          (9223372036854775807 : Nat)))
                      (aIf (Prod.snd y3)
                        (aGd
                          (decide
                            ((1 : Nat) +
                                List.length
                                  (List.drop (0 : Nat) (List.take (Int.toNat (IntKind.wrap IntKind.i64 (Int.ofNat (List.length (Prod.fst y3)) - y0))) (Prod.fst y3)) ++
                                      [(46 : UInt8)] ++
                                    List.drop (Int.toNat (IntKind.wrap IntKind.i64 (Int.ofNat (List.length (Prod.fst y3)) - y0)))
                                      (List.take (List.length (Prod.fst y3)) (Prod.fst y3))) ≤
                              (9223372036854775807 : Nat)))
                          (some
                            ((45 : UInt8) ::
                              List.append []
                                (List.drop (0 : Nat) (List.take (Int.toNat (IntKind.wrap IntKind.i64 (Int.ofNat (List.length (Prod.fst y3)) - y0))) (Prod.fst y3)) ++
                                    [(46 : UInt8)] ++
                                  List.drop (Int.toNat (IntKind.wrap IntKind.i64 (Int.ofNat (List.length (Prod.fst y3)) - y0)))
                                    (List.take (List.length (Prod.fst y3)) (Prod.fst y3))))))
                        (some
                          (List.drop (0 : Nat) (List.take (Int.toNat (IntKind.wrap IntKind.i64 (Int.ofNat (List.length (Prod.fst y3)) - y0))) (Prod.fst y3)) ++ [(46 : UInt8)] ++
                            List.drop (Int.toNat (IntKind.wrap IntKind.i64 (Int.ofNat (List.length (Prod.fst y3)) - y0)))
                              (List.take (List.length (Prod.fst y3)) (Prod.fst y3)))))))))))) := by kernel_rfl
noncomputable def C117 (N : Nat) : Callee := mkCallee A117 R117 (F117 N)
theorem S117 (N : Nat) : Cok 117 (C117 N) := cok_of (l := (E117 N).calls) (O := O117 N) (cok_cons (S131 N) (cok_cons (S44 N) (cok_cons (S59 N) (cok_cons (S114 N) cok_nil)))) rfl Tryd.func117 rfl (by kernel_rfl) (by kernel_rfl)

-- function 95
def A95 : Cods (((Int) × (Int) × Int) × List PV) := (codsCons (codAgg (codsCons (codInt .i64) (codsCons (codInt .i64) (codsOne (codInt .i64))))) (codsOne (codSl 2)))
def R95 : Cod ((List UInt8) × Int) := (codTup (codsCons codStr (codsOne (codInt .i64))))
noncomputable def E95 (N : Nat) : Env := ⟨Tryd.prog, [(115, C115 N), (107, C107 N), (116, C116 N), (44, C44 N), (117, C117 N), (64, C64 N)]⟩
def O95 (N : Nat) : Opts := ⟨N, [], []⟩
noncomputable def F95 (N : Nat) (a : ((Int) × (Int) × Int) × List PV) : Option ((List UInt8) × Int) := aTyped (E95 N) (O95 N) Tryd.f95 A95 R95 a
theorem F95_eq (N : Nat) (a0 : Int × Int × Int) (a1 : List PV) : F95 N (a0, a1) =
    onSome (F115 N (Prod.fst a0, Prod.fst (Prod.snd a0), Prod.snd (Prod.snd a0))) fun y0 =>
  onSome (F107 N ((Prod.fst y0, Prod.snd y0), a1)) fun y1 =>
    aIf (!y1) (some ([], (8 : Int)))
      (onSome (F116 N ((Prod.fst a0, Prod.fst (Prod.snd a0), Prod.snd (Prod.snd a0)), a1)) fun y2 =>
        aIf (!y2) (some ([], (3 : Int)))
          (aIf (Prod.fst a0 == (1 : Int))
            (aIf (Prod.snd (Prod.snd a0) == (1 : Int)) (some ([(116 : UInt8), (114 : UInt8), (117 : UInt8), (101 : UInt8)], (0 : Int)))
              (some ([(102 : UInt8), (97 : UInt8), (108 : UInt8), (115 : UInt8), (101 : UInt8)], (0 : Int))))
            (aIf (Prod.fst a0 == (2 : Int)) (onSome (F44 N (Prod.snd (Prod.snd a0))) fun y3 => some (y3, (0 : Int)))
              (aIf (Prod.fst a0 == (3 : Int)) (onSome (F117 N (Prod.snd (Prod.snd a0), (2 : Int))) fun y4 => some (y4, (0 : Int)))
                (aIf (Prod.fst a0 == (4 : Int))
                  (onSome (F117 N (Prod.snd (Prod.snd a0), (4 : Int))) fun y5 =>
                    aGd (decide (List.length y5 + (1 : Nat) ≤ (9223372036854775807 : Nat))) (some (y5 ++ [(37 : UInt8)], (0 : Int))))
                  (aIf (Prod.fst a0 == (5 : Int)) (onSome (F64 N (Prod.snd (Prod.snd a0))) fun y6 => some (y6, (0 : Int)))
                    (onGet a1 (Prod.fst (Prod.snd a0)) fun z7 =>
                      onSome (PV.cells z7)[(1 : Nat)]? fun y8 =>
                        onSl (1 : Nat) y8 fun l9 => onGet l9 (Prod.snd (Prod.snd a0)) fun z10 => onStr z10 fun u11 => some (u11, (0 : Int))))))))) := by kernel_rfl
noncomputable def C95 (N : Nat) : Callee := mkCallee A95 R95 (F95 N)
theorem S95 (N : Nat) : Cok 95 (C95 N) := cok_of (l := (E95 N).calls) (O := O95 N) (cok_cons (S115 N) (cok_cons (S107 N) (cok_cons (S116 N) (cok_cons (S44 N) (cok_cons (S117 N) (cok_cons (S64 N) cok_nil)))))) rfl Tryd.func95 rfl (by kernel_rfl) (by kernel_rfl)

-- function 65
def A65 : Cods ((List UInt8) × (List PV) × List PV) := (codsCons codStr (codsCons (codSl 3) (codsOne (codSl 2))))
def R65 : Cod (List UInt8) := codStr
noncomputable def E65 (N : Nat) : Env := ⟨Tryd.prog, [(95, C95 N)]⟩
def O65 (N : Nat) : Opts := ⟨N, [(2, ⟨[0, 2, 11, 12, 13], [], [], 0⟩)], []⟩
noncomputable def F65 (N : Nat) (a : (List UInt8) × (List PV) × List PV) : Option (List UInt8) := aTyped (E65 N) (O65 N) Tryd.f65 A65 R65 a
noncomputable def L65_2 (N : Nat) (n : Nat) (x0 : List UInt8) (x1 : List PV) (x2 : List PV) (x3 : Int) (x4 : Int) : Option (List UInt8) :=
  atLoop (E65 N) (O65 N) Tryd.f65 [(1 : Nat), (0 : Nat), (1 : Nat), (0 : Nat)] [] n
  {
    tmps :=
      Tm.of (nat_lit 30)
        [((0 : Nat), AV.p (PV.str x0)), ((2 : Nat), AV.p (PV.sl (2 : Nat) x1)), ((11 : Nat), AV.p (PV.sl (3 : Nat) x2)), ((12 : Nat), AV.p (PV.int IntKind.i64 x3)),
          ((13 : Nat), AV.p (PV.int IntKind.i64 x4))],
    heap := [] }
  fun x => Cod.dec R65 x some
theorem L65_2_eq (N : Nat) (n : Nat) (x0 : List UInt8) (x1 : List PV) (x2 : List PV) (x3 : Int) (x4 : Int) : L65_2 N (n + 1) x0 x1 x2 x3 x4 =
    aIf (decide (x4 < x3))
  (onGet x2 x4 fun z0 =>
    onCons (List.take (3 : Nat) (List.drop (0 : Nat) (PV.cells z0))) fun h1 t2 =>
      onInt IntKind.i64 h1 fun n3 =>
        onCons t2 fun h4 t5 =>
          onInt IntKind.i64 h4 fun n6 =>
            onCons t5 fun h7 t8 =>
              onInt IntKind.i64 h7 fun n9 =>
                onNil t8
                  (aGd (decide ((0 : Nat) + (3 : Nat) ≤ (3 : Nat)))
                    (onSome (F95 N ((n3, n6, n9), x1)) fun y10 =>
                      aGd (decide ((1 : Nat) + List.length (Prod.fst y10) ≤ (9223372036854775807 : Nat)))
                        (aGd (decide (List.length x0 + List.length ((32 : UInt8) :: List.append [] (Prod.fst y10)) ≤ (9223372036854775807 : Nat)))
                          (L65_2 N n (x0 ++ (32 : UInt8) :: List.append [] (Prod.fst y10)) x1 x2 x3 (IntKind.wrap IntKind.i64 (x4 + (1 : Int))))))))
  (aGd (decide (List.length x0 + (1 : Nat) ≤ (9223372036854775807 : Nat))) (some (x0 ++ [(10 : UInt8)]))) := by kernel_rfl
theorem L65_2_zero (N : Nat) (x0 : List UInt8) (x1 : List PV) (x2 : List PV) (x3 : Int) (x4 : Int) : L65_2 N 0 x0 x1 x2 x3 x4 = none := by kernel_rfl
theorem F65_eq (N : Nat) (a0 : List UInt8) (a1 : List PV) (a2 : List PV) : F65 N (a0, a1, a2) =
    L65_2 N N a0 a2 a1 (Int.ofNat (List.length a1)) (0 : Int) := by kernel_rfl
noncomputable def C65 (N : Nat) : Callee := mkCallee A65 R65 (F65 N)
theorem S65 (N : Nat) : Cok 65 (C65 N) := cok_of (l := (E65 N).calls) (O := O65 N) (cok_cons (S95 N) cok_nil) rfl Tryd.func65 rfl (by kernel_rfl) (by kernel_rfl)

-- function 28
def A28 : Cods (((List PV) × (List PV) × List PV) × (Int) × (Int) × (List PV) × List PV) := (codsCons (codAgg (codsCons (codSl 2) (codsCons (codSl 6) (codsOne (codSl 5))))) (codsCons (codInt .i64) (codsOne (codAgg (codsCons (codInt .i64) (codsCons (codSl 3) (codsOne (codSl 1))))))))
def R28 : Cod ((List UInt8) × Int) := (codTup (codsCons codStr (codsOne (codInt .i64))))
noncomputable def E28 (N : Nat) : Env := ⟨Tryd.prog, [(24, C24 N), (64, C64 N), (65, C65 N)]⟩
def O28 (N : Nat) : Opts := ⟨N, [(6, ⟨[3, 11, 37, 38, 39], [], [], 2⟩)], []⟩
noncomputable def F28 (N : Nat) (a : ((List PV) × (List PV) × List PV) × (Int) × (Int) × (List PV) × List PV) : Option ((List UInt8) × Int) := aTyped (E28 N) (O28 N) Tryd.f28 A28 R28 a
noncomputable def L28_6 (N : Nat) (n : Nat) (x0 : List UInt8) (x1 : List PV) (x2 : Int) (x3 : Int) (x4 : List PV) (x5 : List PV) (x6 : List PV) (x7 : Int) (x8 : List PV) (x9 : List PV) : Option (List UInt8 × Int) :=
  atLoop (E28 N) (O28 N) Tryd.f28 [(1 : Nat), (1 : Nat), (1 : Nat), (0 : Nat), (1 : Nat), (0 : Nat)] [] n
  {
    tmps :=
      Tm.of (nat_lit 51)
        [((3 : Nat), AV.box (0 : Nat) (0 : Nat)), ((11 : Nat), AV.p (PV.str x0)), ((37 : Nat), AV.p (PV.sl (1 : Nat) x1)), ((38 : Nat), AV.p (PV.int IntKind.i64 x2)),
          ((39 : Nat), AV.p (PV.int IntKind.i64 x3))],
    heap :=
      [Blk.box [AV.p (PV.sl (2 : Nat) x4), AV.p (PV.sl (6 : Nat) x5), AV.p (PV.sl (5 : Nat) x6)],
        Blk.box [AV.p (PV.int IntKind.i64 x7), AV.p (PV.sl (3 : Nat) x8), AV.p (PV.sl (1 : Nat) x9)]] }
  fun x => Cod.dec R28 x some
theorem L28_6_eq (N : Nat) (n : Nat) (x0 : List UInt8) (x1 : List PV) (x2 : Int) (x3 : Int) (x4 : List PV) (x5 : List PV) (x6 : List PV) (x7 : Int) (x8 : List PV) (x9 : List PV) : L28_6 N (n + 1) x0 x1 x2 x3 x4 x5 x6 x7 x8 x9 =
    aIf (decide (x3 < x2))
  (onGet x1 x3 fun z3 =>
    onSl (3 : Nat) z3 fun l4 =>
      onSome (F65 N ([(109 : UInt8), (101 : UInt8), (109 : UInt8), (98 : UInt8), (101 : UInt8), (114 : UInt8)], l4, x4)) fun y5 =>
        aGd (decide (List.length x0 + List.length y5 ≤ (9223372036854775807 : Nat))) (L28_6 N n (x0 ++ y5) x1 x2 (IntKind.wrap IntKind.i64 (x3 + (1 : Int))) x4 x5 x6 x7 x8 x9))
  (some (x0, (0 : Int))) := by kernel_rfl
theorem L28_6_zero (N : Nat) (x0 : List UInt8) (x1 : List PV) (x2 : Int) (x3 : Int) (x4 : List PV) (x5 : List PV) (x6 : List PV) (x7 : Int) (x8 : List PV) (x9 : List PV) : L28_6 N 0 x0 x1 x2 x3 x4 x5 x6 x7 x8 x9 = none := by kernel_rfl
theorem F28_eq (N : Nat) (a0 : List PV × List PV × List PV) (a1 : Int) (a2 : Int) (a3 : List PV) (a4 : List PV) : F28 N (a0, a1, a2, a3, a4) =
    onSome (F24 N ((Prod.fst a0, Prod.fst (Prod.snd a0), Prod.snd (Prod.snd a0)), a1, a2, a3, a4)) fun y0 =>
  aIf (Prod.snd (Prod.snd y0) != (0 : Int)) (some ([], Prod.snd (Prod.snd y0)))
    (onSome (F64 N a2) fun y1 =>
      aGd (decide ((5 : Nat) + List.length y1 ≤ (9223372036854775807 : Nat)))
        (aGd (decide (List.length ((100 : UInt8) :: (97 : UInt8) :: (116 : UInt8) :: (101 : UInt8) :: (32 : UInt8) :: List.append [] y1) + (1 : Nat) ≤ (9223372036854775807 : Nat)))
          (onSome (F65 N ([(105 : UInt8), (110 : UInt8)], a3, Prod.fst a0)) fun y2 =>
            aGd
              (decide
                (List.length ((100 : UInt8) :: (97 : UInt8) :: (116 : UInt8) :: (101 : UInt8) :: (32 : UInt8) :: List.append (List.append [] y1) [(10 : UInt8)]) + List.length y2 ≤
                  (9223372036854775807 : Nat)))
              (L28_6 N N ((100 : UInt8) :: (97 : UInt8) :: (116 : UInt8) :: (101 : UInt8) :: (32 : UInt8) :: List.append (List.append (List.append [] y1) [(10 : UInt8)]) y2) a4
                (Int.ofNat (List.length a4)) (0 : Int) (Prod.fst a0) (Prod.fst (Prod.snd a0)) (Prod.snd (Prod.snd a0)) a2 a3 a4)))) := by kernel_rfl
noncomputable def C28 (N : Nat) : Callee := mkCallee A28 R28 (F28 N)
theorem S28 (N : Nat) : Cok 28 (C28 N) := cok_of (l := (E28 N).calls) (O := O28 N) (cok_cons (S24 N) (cok_cons (S64 N) (cok_cons (S65 N) cok_nil))) rfl Tryd.func28 rfl (by kernel_rfl) (by kernel_rfl)

-- function 23
def A23 : Cods (Unit) := codsNil
def R23 : Cod (Bool) := codBool
noncomputable def E23 (N : Nat) : Env := ⟨Tryd.prog, [(53, C53 N), (26, C26 N), (28, C28 N), (24, C24 N)]⟩
def O23 (N : Nat) : Opts := ⟨N, [], []⟩
noncomputable def F23 (N : Nat) (a : Unit) : Option (Bool) := aTyped (E23 N) (O23 N) Tryd.f23 A23 R23 a
theorem F23_eq (N : Nat)  : F23 N () =
    onSome (F53 N PUnit.unit) fun y0 =>
  aGd (decide ((0 : Nat) + (3 : Nat) ≤ (3 : Nat)))
    (onSome
      (F26 N
        ((Prod.fst y0, Prod.fst (Prod.snd y0), Prod.snd (Prod.snd y0)), (0 : Int),
          [(100 : UInt8), (97 : UInt8), (116 : UInt8), (101 : UInt8), (32 : UInt8), (50 : UInt8), (48 : UInt8), (48 : UInt8), (48 : UInt8), (45 : UInt8), (48 : UInt8),
            (49 : UInt8), (45 : UInt8), (48 : UInt8), (49 : UInt8), (10 : UInt8), (105 : UInt8), (110 : UInt8), (32 : UInt8), (49 : UInt8), (50 : UInt8), (46 : UInt8),
            (53 : UInt8), (48 : UInt8), (32 : UInt8), (116 : UInt8), (114 : UInt8), (117 : UInt8), (101 : UInt8), (10 : UInt8)]))
      fun y1 =>
      aGd (decide ((0 : Nat) + (3 : Nat) ≤ (3 : Nat)))
        (onSome
          (F28 N
            ((Prod.fst y0, Prod.fst (Prod.snd y0), Prod.snd (Prod.snd y0)), (0 : Int), Prod.fst (Prod.fst y1), Prod.fst (Prod.snd (Prod.fst y1)),
              Prod.snd (Prod.snd (Prod.fst y1))))
          fun y2 =>
          onSome
            (F26 N
              ((Prod.fst y0, Prod.fst (Prod.snd y0), Prod.snd (Prod.snd y0)), (0 : Int),
                [(100 : UInt8), (97 : UInt8), (116 : UInt8), (101 : UInt8), (32 : UInt8), (50 : UInt8), (48 : UInt8), (48 : UInt8), (48 : UInt8), (45 : UInt8), (48 : UInt8),
                  (49 : UInt8), (45 : UInt8), (48 : UInt8), (49 : UInt8), (10 : UInt8), (105 : UInt8), (110 : UInt8), (32 : UInt8), (49 : UInt8), (50 : UInt8), (46 : UInt8),
                  (53 : UInt8), (32 : UInt8), (116 : UInt8), (114 : UInt8), (117 : UInt8), (101 : UInt8), (10 : UInt8)]))
            fun y3 =>
            aGd (decide ((0 : Nat) + (3 : Nat) ≤ (3 : Nat)))
              (aGd (decide ((2 : Nat) + (1 : Nat) ≤ (3 : Nat)))
                (onSome (F24 N ((Prod.fst y0, Prod.fst (Prod.snd y0), Prod.snd (Prod.snd y0)), (0 : Int), Prod.fst (Prod.fst y1), Prod.fst (Prod.snd (Prod.fst y1)), [PV.nilsl]))
                  fun y4 =>
                  aIf (Prod.snd (Prod.snd y1) == (0 : Int))
                    (aIf
                      (Prod.fst y2 ==
                        [(100 : UInt8), (97 : UInt8), (116 : UInt8), (101 : UInt8), (32 : UInt8), (50 : UInt8), (48 : UInt8), (48 : UInt8), (48 : UInt8), (45 : UInt8),
                          (48 : UInt8), (49 : UInt8), (45 : UInt8), (48 : UInt8), (49 : UInt8), (10 : UInt8), (105 : UInt8), (110 : UInt8), (32 : UInt8), (49 : UInt8),
                          (50 : UInt8), (46 : UInt8), (53 : UInt8), (48 : UInt8), (32 : UInt8), (116 : UInt8), (114 : UInt8), (117 : UInt8), (101 : UInt8), (10 : UInt8)])
                      (aIf (Prod.snd y2 == (0 : Int))
                        (aIf (Prod.fst (Prod.fst y1) == (36524 : Int))
                          (aIf (Int.ofNat (List.length (Prod.fst (Prod.snd (Prod.fst y1)))) == (2 : Int))
                            (onGet (Prod.fst (Prod.snd (Prod.fst y1))) (0 : Int) fun z5 =>
                              onSome (PV.cells z5)[(2 : Nat)]? fun y6 =>
                                onInt IntKind.i64 y6 fun n7 =>
                                  aIf (n7 == (1250 : Int))
                                    (aIf (Prod.fst (Prod.snd y3) == (1 : Int))
                                      (aIf (Prod.snd (Prod.snd y3) == (2 : Int))
                                        (aIf (Prod.fst y4 == (0 : Int)) (aIf (Prod.fst (Prod.snd y4) == (-1 : Int)) (some (Prod.snd (Prod.snd y4) == (4 : Int))) (some false))
                                          (some false))
                                        (some false))
                                      (some false))
                                    (some false))
                            (some false))
                          (some false))
                        (some false))
                      (some false))
                    (some false))))) := by kernel_rfl
def G23 (a : Unit) : Option (Bool) := some true
theorem K23 : F23 400 = G23 := funext fun _ => by kernel_rfl
noncomputable def C23 (N : Nat) : Callee := mkCallee A23 R23 G23
theorem S23 (N : Nat) : Cok 23 (C23 N) := by
  unfold C23
  rw [← K23]
  exact cok_of (l := (E23 400).calls) (O := O23 400) (cok_cons (S53 400) (cok_cons (S26 400) (cok_cons (S28 400) (cok_cons (S24 400) cok_nil)))) rfl Tryd.func23 rfl (by kernel_rfl) (by kernel_rfl)

-- function 85
def A85 : Cods ((Int) × (Int) × Int) := (codsOne (codAgg (codsCons (codInt .i64) (codsCons (codInt .i64) (codsOne (codInt .i64))))))
def R85 : Cod ((Int) × Int) := (codAgg (codsCons (codInt .i64) (codsOne (codInt .i64))))
noncomputable def E85 (N : Nat) : Env := ⟨Tryd.prog, []⟩
def O85 (N : Nat) : Opts := ⟨N, [], []⟩
noncomputable def F85 (N : Nat) (a : (Int) × (Int) × Int) : Option ((Int) × Int) := aTyped (E85 N) (O85 N) Tryd.f85 A85 R85 a
theorem F85_eq (N : Nat) (a0 : Int) (a1 : Int) (a2 : Int) : F85 N (a0, a1, a2) =
    aGd (decide ((0 : Nat) + (2 : Nat) ≤ (2 : Nat))) (some (a0, a1)) := by kernel_rfl
noncomputable def C85 (N : Nat) : Callee := mkCallee A85 R85 (F85 N)
theorem S85 (N : Nat) : Cok 85 (C85 N) := cok_of (l := (E85 N).calls) (O := O85 N) cok_nil rfl Tryd.func85 rfl (by kernel_rfl) (by kernel_rfl)

-- function 124
def A124 : Cods (((Int) × Int) × List PV) := (codsCons (codAgg (codsCons (codInt .i64) (codsOne (codInt .i64)))) (codsOne (codSl 2)))
def R124 : Cod (Bool) := codBool
noncomputable def E124 (N : Nat) : Env := ⟨Tryd.prog, []⟩
def O124 (N : Nat) : Opts := ⟨N, [], []⟩
noncomputable def F124 (N : Nat) (a : ((Int) × Int) × List PV) : Option (Bool) := aTyped (E124 N) (O124 N) Tryd.f124 A124 R124 a
theorem F124_eq (N : Nat) (a0 : Int × Int) (a1 : List PV) : F124 N (a0, a1) =
    aIf (Prod.fst a0 == (6 : Int)) (aIf (decide ((0 : Int) ≤ Prod.snd a0)) (some (decide (Prod.snd a0 < Int.ofNat (List.length a1)))) (some false))
  (aIf (decide ((1 : Int) ≤ Prod.fst a0)) (aIf (decide (Prod.fst a0 ≤ (5 : Int))) (some (Prod.snd a0 == (0 : Int))) (some false)) (some false)) := by kernel_rfl
noncomputable def C124 (N : Nat) : Callee := mkCallee A124 R124 (F124 N)
theorem S124 (N : Nat) : Cok 124 (C124 N) := cok_of (l := (E124 N).calls) (O := O124 N) cok_nil rfl Tryd.func124 rfl (by kernel_rfl) (by kernel_rfl)

-- function 108
def A108 : Cods (((Int) × Int) × List PV) := (codsCons (codAgg (codsCons (codInt .i64) (codsOne (codInt .i64)))) (codsOne (codSl 2)))
def R108 : Cod ((Int) × Int) := (codTup (codsCons (codInt .i64) (codsOne (codInt .i64))))
noncomputable def E108 (N : Nat) : Env := ⟨Tryd.prog, [(124, C124 N)]⟩
def O108 (N : Nat) : Opts := ⟨N, [], []⟩
noncomputable def F108 (N : Nat) (a : ((Int) × Int) × List PV) : Option ((Int) × Int) := aTyped (E108 N) (O108 N) Tryd.f108 A108 R108 a
theorem F108_eq (N : Nat) (a0 : Int × Int) (a1 : List PV) : F108 N (a0, a1) =
    onSome (F124 N ((Prod.fst a0, Prod.snd a0), a1)) fun y0 =>
  aIf (!y0) (some ((0 : Int), (-1 : Int)))
    (aIf (Prod.fst a0 == (1 : Int)) (some ((0 : Int), (1 : Int)))
      (aIf (Prod.fst a0 == (2 : Int)) (some ((-1000000000000 : Int), (1000000000000 : Int)))
        (aIf (Prod.fst a0 == (3 : Int)) (some ((-1000000000000000 : Int), (1000000000000000 : Int)))
          (aIf (Prod.fst a0 == (4 : Int)) (some ((-1000000000 : Int), (1000000000 : Int)))
            (aIf (Prod.fst a0 == (5 : Int)) (some ((0 : Int), (109572 : Int)))
              (onGet a1 (Prod.snd a0) fun z1 =>
                onSome (PV.cells z1)[(1 : Nat)]? fun y2 => onSl (1 : Nat) y2 fun l3 => some ((0 : Int), IntKind.wrap IntKind.i64 (Int.ofNat (List.length l3) - (1 : Int))))))))) := by kernel_rfl
noncomputable def C108 (N : Nat) : Callee := mkCallee A108 R108 (F108 N)
theorem S108 (N : Nat) : Cok 108 (C108 N) := cok_of (l := (E108 N).calls) (O := O108 N) (cok_cons (S124 N) cok_nil) rfl Tryd.func108 rfl (by kernel_rfl) (by kernel_rfl)

-- function 86
def A86 : Cods ((Int) × ((Int) × Int) × List PV) := (codsCons (codInt .i64) (codsCons (codAgg (codsCons (codInt .i64) (codsOne (codInt .i64)))) (codsOne (codSl 2))))
def R86 : Cod (Bool) := codBool
noncomputable def E86 (N : Nat) : Env := ⟨Tryd.prog, [(108, C108 N)]⟩
def O86 (N : Nat) : Opts := ⟨N, [], []⟩
noncomputable def F86 (N : Nat) (a : (Int) × ((Int) × Int) × List PV) : Option (Bool) := aTyped (E86 N) (O86 N) Tryd.f86 A86 R86 a
theorem F86_eq (N : Nat) (a0 : Int) (a1 : Int × Int) (a2 : List PV) : F86 N (a0, a1, a2) =
    onSome (F108 N ((Prod.fst a1, Prod.snd a1), a2)) fun y0 => aIf (decide (Prod.fst y0 ≤ a0)) (some (decide (a0 ≤ Prod.snd y0))) (some false) := by kernel_rfl
noncomputable def C86 (N : Nat) : Callee := mkCallee A86 R86 (F86 N)
theorem S86 (N : Nat) : Cok 86 (C86 N) := cok_of (l := (E86 N).calls) (O := O86 N) (cok_cons (S108 N) cok_nil) rfl Tryd.func86 rfl (by kernel_rfl) (by kernel_rfl)

-- function 57
def A57 : Cods (((List PV) × (List PV) × List PV) × (List PV) × List PV) := (codsCons (codAgg (codsCons (codSl 2) (codsCons (codSl 6) (codsOne (codSl 5))))) (codsCons (codSl 3) (codsOne (codSl 3))))
def R57 : Cod ((Int) × Int) := (codTup (codsCons (codInt .i64) (codsOne (codInt .i64))))
noncomputable def E57 (N : Nat) : Env := ⟨Tryd.prog, [(85, C85 N), (86, C86 N)]⟩
def O57 (N : Nat) : Opts := ⟨N, [(6, ⟨[1, 2, 3, 8], [], [], 1⟩)], []⟩
noncomputable def F57 (N : Nat) (a : ((List PV) × (List PV) × List PV) × (List PV) × List PV) : Option ((Int) × Int) := aTyped (E57 N) (O57 N) Tryd.f57 A57 R57 a
noncomputable def L57_6 (N : Nat) (n : Nat) (x0 : List PV) (x1 : List PV) (x2 : Int) (x3 : List PV) (x4 : List PV) (x5 : List PV) : Option (Int × Int) :=
  atLoop (E57 N) (O57 N) Tryd.f57 [(1 : Nat), (1 : Nat), (1 : Nat), (0 : Nat), (1 : Nat), (0 : Nat)] [] n
  {
    tmps :=
      Tm.of (nat_lit 56)
        [((1 : Nat), AV.p (PV.sl (3 : Nat) x0)), ((2 : Nat), AV.p (PV.sl (3 : Nat) x1)), ((3 : Nat), AV.box (0 : Nat) (0 : Nat)), ((8 : Nat), AV.p (PV.int IntKind.i64 x2))],
    heap := [Blk.box [AV.p (PV.sl (2 : Nat) x3), AV.p (PV.sl (6 : Nat) x4), AV.p (PV.sl (5 : Nat) x5)]] }
  fun x => Cod.dec R57 x some
theorem L57_6_eq (N : Nat) (n : Nat) (x0 : List PV) (x1 : List PV) (x2 : Int) (x3 : List PV) (x4 : List PV) (x5 : List PV) : L57_6 N (n + 1) x0 x1 x2 x3 x4 x5 =
    aIf (decide (x2 < Int.ofNat (List.length x1)))
  (onGet x1 x2 fun z0 =>
    onCons (List.take (3 : Nat) (List.drop (0 : Nat) (PV.cells z0))) fun h1 t2 =>
      onInt IntKind.i64 h1 fun n3 =>
        onCons t2 fun h4 t5 =>
          onInt IntKind.i64 h4 fun n6 =>
            onCons t5 fun h7 t8 =>
              onInt IntKind.i64 h7 fun n9 =>
                onNil t8
                  (onSome (F85 N (n3, n6, n9)) fun y10 =>
                    onGet x0 x2 fun z11 =>
                      onCons (List.take (2 : Nat) (List.drop (1 : Nat) (PV.cells z11))) fun h12 t13 =>
                        onInt IntKind.i64 h12 fun n14 =>
                          onCons t13 fun h15 t16 =>
                            onInt IntKind.i64 h15 fun n17 =>
                              onNil t16
                                (aIf (!(Prod.fst y10 == n14 && (Prod.snd y10 == n17 && true))) (some (x2, (8 : Int)))
                                  (onGet x1 x2 fun z18 =>
                                    onSome (PV.cells z18)[(2 : Nat)]? fun y19 =>
                                      onInt IntKind.i64 y19 fun n20 =>
                                        onGet x0 x2 fun z21 =>
                                          onCons (List.take (2 : Nat) (List.drop (1 : Nat) (PV.cells z21))) fun h22 t23 =>
                                            onInt IntKind.i64 h22 fun n24 =>
                                              onCons t23 fun h25 t26 =>
                                                onInt IntKind.i64 h25 fun n27 =>
                                                  onNil t26
                                                    (onSome (F86 N (n20, (n24, n27), x3)) fun y28 =>
                                                      aIf (!y28) (some (x2, (3 : Int))) (L57_6 N n x0 x1 (IntKind.wrap IntKind.i64 (x2 + (1 : Int))) x3 x4 x5))))))
  (some ((0 : Int), (0 : Int))) := by kernel_rfl
theorem L57_6_zero (N : Nat) (x0 : List PV) (x1 : List PV) (x2 : Int) (x3 : List PV) (x4 : List PV) (x5 : List PV) : L57_6 N 0 x0 x1 x2 x3 x4 x5 = none := by kernel_rfl
theorem F57_eq (N : Nat) (a0 : List PV × List PV × List PV) (a1 : List PV) (a2 : List PV) : F57 N (a0, a1, a2) =
    aIf (decide (Int.ofNat (List.length a2) < Int.ofNat (List.length a1))) (some (Int.ofNat (List.length a2), (5 : Int)))
  (aIf (decide (Int.ofNat (List.length a1) < Int.ofNat (List.length a2))) (some (Int.ofNat (List.length a1), (4 : Int)))
    (L57_6 N N a1 a2 (0 : Int) (Prod.fst a0) (Prod.fst (Prod.snd a0)) (Prod.snd (Prod.snd a0)))) := by kernel_rfl
noncomputable def C57 (N : Nat) : Callee := mkCallee A57 R57 (F57 N)
theorem S57 (N : Nat) : Cok 57 (C57 N) := cok_of (l := (E57 N).calls) (O := O57 N) (cok_cons (S85 N) (cok_cons (S86 N) cok_nil)) rfl Tryd.func57 rfl (by kernel_rfl) (by kernel_rfl)

-- function 58
def A58 : Cods (((List PV) × (List PV) × List PV) × Int) := (codsCons (codAgg (codsCons (codSl 2) (codsCons (codSl 6) (codsOne (codSl 5))))) (codsOne (codInt .i64)))
def R58 : Cod ((Int) × Int) := (codTup (codsCons (codInt .i64) (codsOne (codInt .i64))))
noncomputable def E58 (N : Nat) : Env := ⟨Tryd.prog, []⟩
def O58 (N : Nat) : Opts := ⟨N, [], []⟩
noncomputable def F58 (N : Nat) (a : ((List PV) × (List PV) × List PV) × Int) : Option ((Int) × Int) := aTyped (E58 N) (O58 N) Tryd.f58 A58 R58 a
theorem F58_eq (N : Nat) (a0 : List PV × List PV × List PV) (a1 : Int) : F58 N (a0, a1) =
    onGet (Prod.snd (Prod.snd a0)) a1 fun z0 =>
  onSome (PV.cells z0)[(1 : Nat)]? fun y1 =>
    onInt IntKind.i64 y1 fun n2 =>
      aIf (decide (n2 < (0 : Int))) (some ((-1 : Int), (0 : Int)))
        (aIf (decide (Int.ofNat (List.length (Prod.snd (Prod.snd a0))) ≤ n2)) (some ((-1 : Int), (0 : Int))) (some (n2, (8 : Int)))) := by kernel_rfl
noncomputable def C58 (N : Nat) : Callee := mkCallee A58 R58 (F58 N)
theorem S58 (N : Nat) : Cok 58 (C58 N) := cok_of (l := (E58 N).calls) (O := O58 N) cok_nil rfl Tryd.func58 rfl (by kernel_rfl) (by kernel_rfl)

-- function 25
def A25 : Cods (((List PV) × (List PV) × List PV) × (Int) × (Int) × (List PV) × List PV) := (codsCons (codAgg (codsCons (codSl 2) (codsCons (codSl 6) (codsOne (codSl 5))))) (codsCons (codInt .i64) (codsOne (codAgg (codsCons (codInt .i64) (codsCons (codSl 3) (codsOne (codSl 1))))))))
def R25 : Cod ((Int) × (Int) × Int) := (codTup (codsCons (codInt .i64) (codsCons (codInt .i64) (codsOne (codInt .i64)))))
noncomputable def E25 (N : Nat) : Env := ⟨Tryd.prog, [(57, C57 N), (58, C58 N)]⟩
def O25 (N : Nat) : Opts := ⟨N, [(12, ⟨[3, 5, 11, 13], [], [], 2⟩)], []⟩
noncomputable def F25 (N : Nat) (a : ((List PV) × (List PV) × List PV) × (Int) × (Int) × (List PV) × List PV) : Option ((Int) × (Int) × Int) := aTyped (E25 N) (O25 N) Tryd.f25 A25 R25 a
noncomputable def L25_12 (N : Nat) (n : Nat) (x0 : Int) (x1 : Int) (x2 : List PV) (x3 : List PV) (x4 : List PV) (x5 : Int) (x6 : List PV) (x7 : List PV) : Option (Int × Int × Int) :=
  atLoop (E25 N) (O25 N) Tryd.f25 [(1 : Nat), (1 : Nat), (1 : Nat), (1 : Nat), (1 : Nat), (1 : Nat), (1 : Nat), (0 : Nat), (1 : Nat), (0 : Nat)] [] n
  {
    tmps :=
      Tm.of (nat_lit 90)
        [((3 : Nat), AV.box (0 : Nat) (0 : Nat)), ((5 : Nat), AV.box (1 : Nat) (0 : Nat)), ((11 : Nat), AV.p (PV.int IntKind.i64 x0)), ((13 : Nat), AV.p (PV.int IntKind.i64 x1))],
    heap :=
      [Blk.box [AV.p (PV.sl (2 : Nat) x2), AV.p (PV.sl (6 : Nat) x3), AV.p (PV.sl (5 : Nat) x4)],
        Blk.box [AV.p (PV.int IntKind.i64 x5), AV.p (PV.sl (3 : Nat) x6), AV.p (PV.sl (1 : Nat) x7)]] }
  fun x => Cod.dec R25 x some
theorem L25_12_eq (N : Nat) (n : Nat) (x0 : Int) (x1 : Int) (x2 : List PV) (x3 : List PV) (x4 : List PV) (x5 : Int) (x6 : List PV) (x7 : List PV) : L25_12 N (n + 1) x0 x1 x2 x3 x4 x5 x6 x7 =
    aIf (decide (x1 < Int.ofNat (List.length x7)))
  (onGet x4 x0 fun z5 =>
    onSome (PV.cells z5)[(2 : Nat)]? fun y6 =>
      onSl (3 : Nat) y6 fun l7 =>
        onGet x7 x1 fun z8 =>
          onSl (3 : Nat) z8 fun l9 =>
            onSome (F57 N ((x2, x3, x4), l7, l9)) fun y10 =>
              aIf (Prod.snd y10 != (0 : Int)) (some (x1, Prod.fst y10, Prod.snd y10)) (L25_12 N n x0 (IntKind.wrap IntKind.i64 (x1 + (1 : Int))) x2 x3 x4 x5 x6 x7))
  (some ((0 : Int), (0 : Int), (0 : Int))) := by kernel_rfl
theorem L25_12_zero (N : Nat) (x0 : Int) (x1 : Int) (x2 : List PV) (x3 : List PV) (x4 : List PV) (x5 : Int) (x6 : List PV) (x7 : List PV) : L25_12 N 0 x0 x1 x2 x3 x4 x5 x6 x7 = none := by kernel_rfl
theorem F25_eq (N : Nat) (a0 : List PV × List PV × List PV) (a1 : Int) (a2 : Int) (a3 : List PV) (a4 : List PV) : F25 N (a0, a1, a2, a3, a4) =
    aIf (decide (a1 < (0 : Int))) (some ((-1 : Int), (-1 : Int), (6 : Int)))
  (aIf (decide (Int.ofNat (List.length (Prod.snd (Prod.snd a0))) ≤ a1)) (some ((-1 : Int), (-1 : Int), (6 : Int)))
    (aIf (decide (a2 < (0 : Int))) (some ((-1 : Int), (-1 : Int), (3 : Int)))
      (aIf (decide ((109572 : Int) < a2)) (some ((-1 : Int), (-1 : Int), (3 : Int)))
        (onGet (Prod.snd (Prod.snd a0)) a1 fun z0 =>
          onSome (PV.cells z0)[(2 : Nat)]? fun y1 =>
            onSl (3 : Nat) y1 fun l2 =>
              onSome (F57 N ((Prod.fst a0, Prod.fst (Prod.snd a0), Prod.snd (Prod.snd a0)), l2, a3)) fun y3 =>
                aIf (Prod.snd y3 != (0 : Int)) (some ((-1 : Int), Prod.fst y3, Prod.snd y3))
                  (onSome (F58 N ((Prod.fst a0, Prod.fst (Prod.snd a0), Prod.snd (Prod.snd a0)), a1)) fun y4 =>
                    aIf (decide (Prod.snd y4 < Int.ofNat (List.length a4))) (some (Prod.snd y4, (-1 : Int), (4 : Int)))
                      (L25_12 N N (Prod.fst y4) (0 : Int) (Prod.fst a0) (Prod.fst (Prod.snd a0)) (Prod.snd (Prod.snd a0)) a2 a3 a4)))))) := by kernel_rfl
noncomputable def C25 (N : Nat) : Callee := mkCallee A25 R25 (F25 N)
theorem S25 (N : Nat) : Cok 25 (C25 N) := cok_of (l := (E25 N).calls) (O := O25 N) (cok_cons (S57 N) (cok_cons (S58 N) cok_nil)) rfl Tryd.func25 rfl (by kernel_rfl) (by kernel_rfl)

-- function 9
def A9 : Cods (((List PV) × (List PV) × List PV) × (Int) × (Int) × (List PV) × List PV) := (codsCons (codAgg (codsCons (codSl 2) (codsCons (codSl 6) (codsOne (codSl 5))))) (codsCons (codInt .i64) (codsOne (codAgg (codsCons (codInt .i64) (codsCons (codSl 3) (codsOne (codSl 1))))))))
def R9 : Cod (Bool) := codBool
noncomputable def E9 (N : Nat) : Env := ⟨Tryd.prog, [(21, C21 N), (22, C22 N), (23, C23 N), (24, C24 N), (25, C25 N)]⟩
def O9 (N : Nat) : Opts := ⟨N, [], []⟩
noncomputable def F9 (N : Nat) (a : ((List PV) × (List PV) × List PV) × (Int) × (Int) × (List PV) × List PV) : Option (Bool) := aTyped (E9 N) (O9 N) Tryd.f9 A9 R9 a
theorem F9_eq (N : Nat) (a0 : List PV × List PV × List PV) (a1 : Int) (a2 : Int) (a3 : List PV) (a4 : List PV) : F9 N (a0, a1, a2, a3, a4) =
    onSome (F21 N (Prod.fst a0, Prod.fst (Prod.snd a0), Prod.snd (Prod.snd a0))) fun y0 =>
  aIf (!y0) (some true)
    (onSome (F22 N (a2, a3, a4)) fun y1 =>
      aIf (!y1) (some true)
        (onSome (F24 N ((Prod.fst a0, Prod.fst (Prod.snd a0), Prod.snd (Prod.snd a0)), a1, a2, a3, a4)) fun y2 =>
          onSome (F25 N ((Prod.fst a0, Prod.fst (Prod.snd a0), Prod.snd (Prod.snd a0)), a1, a2, a3, a4)) fun y3 =>
            aIf (Prod.fst y2 == Prod.fst y3)
              (aIf (Prod.fst (Prod.snd y2) == Prod.fst (Prod.snd y3)) (aIf (Prod.snd (Prod.snd y2) == Prod.snd (Prod.snd y3)) (some true) (some false)) (some false)) (some false))) := by kernel_rfl
noncomputable def C9 (N : Nat) : Callee := mkCallee A9 R9 (F9 N)
theorem S9 (N : Nat) : Cok 9 (C9 N) := cok_of (l := (E9 N).calls) (O := O9 N) (cok_cons (S21 N) (cok_cons (S22 N) (cok_cons (S23 N) (cok_cons (S24 N) (cok_cons (S25 N) cok_nil))))) rfl Tryd.func9 rfl (by kernel_rfl) (by kernel_rfl)

-- function 62
def A62 : Cods ((List PV) × List PV) := (codsCons (codSl 3) (codsOne (codSl 3)))
def R62 : Cod (Bool) := codBool
noncomputable def E62 (N : Nat) : Env := ⟨Tryd.prog, []⟩
def O62 (N : Nat) : Opts := ⟨N, [(4, ⟨[0, 1, 5], [], [], 0⟩)], []⟩
noncomputable def F62 (N : Nat) (a : (List PV) × List PV) : Option (Bool) := aTyped (E62 N) (O62 N) Tryd.f62 A62 R62 a
noncomputable def L62_4 (N : Nat) (n : Nat) (x0 : List PV) (x1 : List PV) (x2 : Int) : Option Bool :=
  atLoop (E62 N) (O62 N) Tryd.f62 [(1 : Nat), (1 : Nat), (0 : Nat), (1 : Nat), (0 : Nat)] [] n
  { tmps := Tm.of (nat_lit 32) [((0 : Nat), AV.p (PV.sl (3 : Nat) x0)), ((1 : Nat), AV.p (PV.sl (3 : Nat) x1)), ((5 : Nat), AV.p (PV.int IntKind.i64 x2))], heap := [] } fun x =>
  Cod.dec R62 x some
theorem L62_4_eq (N : Nat) (n : Nat) (x0 : List PV) (x1 : List PV) (x2 : Int) : L62_4 N (n + 1) x0 x1 x2 =
    aIf (decide (x2 < Int.ofNat (List.length x0)))
  (aIf (decide (x2 < Int.ofNat (List.length x1)))
    (onGet x0 x2 fun z0 =>
      onCons (List.take (3 : Nat) (List.drop (0 : Nat) (PV.cells z0))) fun h1 t2 =>
        onInt IntKind.i64 h1 fun n3 =>
          onCons t2 fun h4 t5 =>
            onInt IntKind.i64 h4 fun n6 =>
              onCons t5 fun h7 t8 =>
                onInt IntKind.i64 h7 fun n9 =>
                  onNil t8
                    (onGet x1 x2 fun z10 =>
                      onCons (List.take (3 : Nat) (List.drop (0 : Nat) (PV.cells z10))) fun h11 t12 =>
                        onInt IntKind.i64 h11 fun n13 =>
                          onCons t12 fun h14 t15 =>
                            onInt IntKind.i64 h14 fun n16 =>
                              onCons t15 fun h17 t18 =>
                                onInt IntKind.i64 h17 fun n19 =>
                                  onNil t18 (aIf (!(n3 == n13 && (n6 == n16 && (n9 == n19 && true)))) (some false) (L62_4 N n x0 x1 (IntKind.wrap IntKind.i64 (x2 + (1 : Int)))))))
    (some true))
  (some true) := by kernel_rfl
theorem L62_4_zero (N : Nat) (x0 : List PV) (x1 : List PV) (x2 : Int) : L62_4 N 0 x0 x1 x2 = none := by kernel_rfl
theorem F62_eq (N : Nat) (a0 : List PV) (a1 : List PV) : F62 N (a0, a1) =
    aIf (Int.ofNat (List.length a0) != Int.ofNat (List.length a1)) (some false) (L62_4 N N a0 a1 (0 : Int)) := by kernel_rfl
noncomputable def C62 (N : Nat) : Callee := mkCallee A62 R62 (F62 N)
theorem S62 (N : Nat) : Cok 62 (C62 N) := cok_of (l := (E62 N).calls) (O := O62 N) cok_nil rfl Tryd.func62 rfl (by kernel_rfl) (by kernel_rfl)

-- function 63
def A63 : Cods ((List PV) × List PV) := (codsCons (codSl 1) (codsOne (codSl 1)))
def R63 : Cod (Bool) := codBool
noncomputable def E63 (N : Nat) : Env := ⟨Tryd.prog, [(62, C62 N)]⟩
def O63 (N : Nat) : Opts := ⟨N, [(4, ⟨[0, 1, 5], [], [], 0⟩)], []⟩
noncomputable def F63 (N : Nat) (a : (List PV) × List PV) : Option (Bool) := aTyped (E63 N) (O63 N) Tryd.f63 A63 R63 a
noncomputable def L63_4 (N : Nat) (n : Nat) (x0 : List PV) (x1 : List PV) (x2 : Int) : Option Bool :=
  atLoop (E63 N) (O63 N) Tryd.f63 [(1 : Nat), (1 : Nat), (0 : Nat), (1 : Nat), (0 : Nat)] [] n
  { tmps := Tm.of (nat_lit 33) [((0 : Nat), AV.p (PV.sl (1 : Nat) x0)), ((1 : Nat), AV.p (PV.sl (1 : Nat) x1)), ((5 : Nat), AV.p (PV.int IntKind.i64 x2))], heap := [] } fun x =>
  Cod.dec R63 x some
theorem L63_4_eq (N : Nat) (n : Nat) (x0 : List PV) (x1 : List PV) (x2 : Int) : L63_4 N (n + 1) x0 x1 x2 =
    aIf (decide (x2 < Int.ofNat (List.length x0)))
  (aIf (decide (x2 < Int.ofNat (List.length x1)))
    (onGet x0 x2 fun z0 =>
      onSl (3 : Nat) z0 fun l1 =>
        onGet x1 x2 fun z2 => onSl (3 : Nat) z2 fun l3 => onSome (F62 N (l1, l3)) fun y4 => aIf (!y4) (some false) (L63_4 N n x0 x1 (IntKind.wrap IntKind.i64 (x2 + (1 : Int)))))
    (some true))
  (some true) := by kernel_rfl
theorem L63_4_zero (N : Nat) (x0 : List PV) (x1 : List PV) (x2 : Int) : L63_4 N 0 x0 x1 x2 = none := by kernel_rfl
theorem F63_eq (N : Nat) (a0 : List PV) (a1 : List PV) : F63 N (a0, a1) =
    aIf (Int.ofNat (List.length a0) != Int.ofNat (List.length a1)) (some false) (L63_4 N N a0 a1 (0 : Int)) := by kernel_rfl
noncomputable def C63 (N : Nat) : Callee := mkCallee A63 R63 (F63 N)
theorem S63 (N : Nat) : Cok 63 (C63 N) := cok_of (l := (E63 N).calls) (O := O63 N) (cok_cons (S62 N) cok_nil) rfl Tryd.func63 rfl (by kernel_rfl) (by kernel_rfl)

-- function 27
def A27 : Cods (((Int) × (List PV) × List PV) × (Int) × (List PV) × List PV) := (codsCons (codAgg (codsCons (codInt .i64) (codsCons (codSl 3) (codsOne (codSl 1))))) (codsOne (codAgg (codsCons (codInt .i64) (codsCons (codSl 3) (codsOne (codSl 1)))))))
def R27 : Cod (Bool) := codBool
noncomputable def E27 (N : Nat) : Env := ⟨Tryd.prog, [(62, C62 N), (63, C63 N)]⟩
def O27 (N : Nat) : Opts := ⟨N, [], []⟩
noncomputable def F27 (N : Nat) (a : ((Int) × (List PV) × List PV) × (Int) × (List PV) × List PV) : Option (Bool) := aTyped (E27 N) (O27 N) Tryd.f27 A27 R27 a
theorem F27_eq (N : Nat) (a0 : Int × List PV × List PV) (a1 : Int) (a2 : List PV) (a3 : List PV) : F27 N (a0, a1, a2, a3) =
    aIf (Prod.fst a0 == a1) (onSome (F62 N (Prod.fst (Prod.snd a0), a2)) fun y0 => aIf y0 (onSome (F63 N (Prod.snd (Prod.snd a0), a3)) fun y1 => some y1) (some false)) (some false) := by kernel_rfl
noncomputable def C27 (N : Nat) : Callee := mkCallee A27 R27 (F27 N)
theorem S27 (N : Nat) : Cok 27 (C27 N) := cok_of (l := (E27 N).calls) (O := O27 N) (cok_cons (S62 N) (cok_cons (S63 N) cok_nil)) rfl Tryd.func27 rfl (by kernel_rfl) (by kernel_rfl)

-- function 10
def A10 : Cods (((List PV) × (List PV) × List PV) × (Int) × List UInt8) := (codsCons (codAgg (codsCons (codSl 2) (codsCons (codSl 6) (codsOne (codSl 5))))) (codsCons (codInt .i64) (codsOne codStr)))
def R10 : Cod (Bool) := codBool
noncomputable def E10 (N : Nat) : Env := ⟨Tryd.prog, [(21, C21 N), (23, C23 N), (26, C26 N), (27, C27 N), (28, C28 N), (24, C24 N)]⟩
def O10 (N : Nat) : Opts := ⟨N, [], []⟩
noncomputable def F10 (N : Nat) (a : ((List PV) × (List PV) × List PV) × (Int) × List UInt8) : Option (Bool) := aTyped (E10 N) (O10 N) Tryd.f10 A10 R10 a
theorem F10_eq (N : Nat) (a0 : List PV × List PV × List PV) (a1 : Int) (a2 : List UInt8) : F10 N (a0, a1, a2) =
    onSome (F21 N (Prod.fst a0, Prod.fst (Prod.snd a0), Prod.snd (Prod.snd a0))) fun y0 =>
  aIf (!y0) (some true)
    (aIf (decide ((2000 : Int) < Int.ofNat (List.length a2))) (some true)
      (onSome (F26 N ((Prod.fst a0, Prod.fst (Prod.snd a0), Prod.snd (Prod.snd a0)), a1, a2)) fun y1 =>
        aGd (decide ((0 : Nat) + (3 : Nat) ≤ (3 : Nat)))
          (aIf (Prod.snd (Prod.snd y1) != (0 : Int))
            (onSome (F27 N ((Prod.fst (Prod.fst y1), Prod.fst (Prod.snd (Prod.fst y1)), Prod.snd (Prod.snd (Prod.fst y1))), (0 : Int), [], [])) fun y2 =>
              aIf y2 (aIf (decide ((0 : Int) ≤ Prod.fst (Prod.snd y1))) (some true) (some false)) (some false))
            (onSome
              (F28 N
                ((Prod.fst a0, Prod.fst (Prod.snd a0), Prod.snd (Prod.snd a0)), a1, Prod.fst (Prod.fst y1), Prod.fst (Prod.snd (Prod.fst y1)), Prod.snd (Prod.snd (Prod.fst y1))))
              fun y3 =>
              onSome
                (F24 N
                  ((Prod.fst a0, Prod.fst (Prod.snd a0), Prod.snd (Prod.snd a0)), a1, Prod.fst (Prod.fst y1), Prod.fst (Prod.snd (Prod.fst y1)), Prod.snd (Prod.snd (Prod.fst y1))))
                fun y4 =>
                aIf (Prod.snd y3 == (0 : Int)) (aIf (Prod.snd (Prod.snd y4) == (0 : Int)) (aIf (Prod.fst y3 == a2) (some true) (some false)) (some false)) (some false))))) := by kernel_rfl
noncomputable def C10 (N : Nat) : Callee := mkCallee A10 R10 (F10 N)
theorem S10 (N : Nat) : Cok 10 (C10 N) := cok_of (l := (E10 N).calls) (O := O10 N) (cok_cons (S21 N) (cok_cons (S23 N) (cok_cons (S26 N) (cok_cons (S27 N) (cok_cons (S28 N) (cok_cons (S24 N) cok_nil)))))) rfl Tryd.func10 rfl (by kernel_rfl) (by kernel_rfl)

-- function 66
def A66 : Cods ((List PV) × List PV) := (codsCons (codSl 3) (codsOne (codSl 3)))
def R66 : Cod (Bool) := codBool
noncomputable def E66 (N : Nat) : Env := ⟨Tryd.prog, []⟩
def O66 (N : Nat) : Opts := ⟨N, [(4, ⟨[0, 1, 12, 13], [], [], 0⟩)], []⟩
noncomputable def F66 (N : Nat) (a : (List PV) × List PV) : Option (Bool) := aTyped (E66 N) (O66 N) Tryd.f66 A66 R66 a
noncomputable def L66_4 (N : Nat) (n : Nat) (x0 : List PV) (x1 : List PV) (x2 : Int) (x3 : Int) : Option Bool :=
  atLoop (E66 N) (O66 N) Tryd.f66 [(1 : Nat), (1 : Nat), (0 : Nat), (1 : Nat), (0 : Nat)] [] n
  {
    tmps :=
      Tm.of (nat_lit 26)
        [((0 : Nat), AV.p (PV.sl (3 : Nat) x0)), ((1 : Nat), AV.p (PV.sl (3 : Nat) x1)), ((12 : Nat), AV.p (PV.int IntKind.i64 x2)), ((13 : Nat), AV.p (PV.int IntKind.i64 x3))],
    heap := [] }
  fun x => Cod.dec R66 x some
theorem L66_4_eq (N : Nat) (n : Nat) (x0 : List PV) (x1 : List PV) (x2 : Int) (x3 : Int) : L66_4 N (n + 1) x0 x1 x2 x3 =
    aIf (decide (x3 < x2))
  (onGet x0 x3 fun z0 =>
    onCons (List.take (3 : Nat) (List.drop (0 : Nat) (PV.cells z0))) fun h1 t2 =>
      onInt IntKind.i64 h1 fun n3 =>
        onCons t2 fun h4 t5 =>
          onInt IntKind.i64 h4 fun n6 =>
            onCons t5 fun h7 t8 =>
              onInt IntKind.i64 h7 fun n9 =>
                onNil t8
                  (onGet x1 x3 fun z10 =>
                    onCons (List.take (3 : Nat) (List.drop (0 : Nat) (PV.cells z10))) fun h11 t12 =>
                      onInt IntKind.i64 h11 fun n13 =>
                        onCons t12 fun h14 t15 =>
                          onInt IntKind.i64 h14 fun n16 =>
                            onCons t15 fun h17 t18 =>
                              onInt IntKind.i64 h17 fun n19 =>
                                onNil t18 (aIf (!(n3 == n13 && (n6 == n16 && (n9 == n19 && true)))) (some false) (L66_4 N n x0 x1 x2 (IntKind.wrap IntKind.i64 (x3 + (1 : Int)))))))
  (some true) := by kernel_rfl
theorem L66_4_zero (N : Nat) (x0 : List PV) (x1 : List PV) (x2 : Int) (x3 : Int) : L66_4 N 0 x0 x1 x2 x3 = none := by kernel_rfl
theorem F66_eq (N : Nat) (a0 : List PV) (a1 : List PV) : F66 N (a0, a1) =
    aIf (Int.ofNat (List.length a0) != Int.ofNat (List.length a1)) (some false) (L66_4 N N a0 a1 (Int.ofNat (List.length a0)) (0 : Int)) := by kernel_rfl
noncomputable def C66 (N : Nat) : Callee := mkCallee A66 R66 (F66 N)
theorem S66 (N : Nat) : Cok 66 (C66 N) := cok_of (l := (E66 N).calls) (O := O66 N) cok_nil rfl Tryd.func66 rfl (by kernel_rfl) (by kernel_rfl)

-- function 67
def A67 : Cods ((List PV) × (List PV) × Unit) := (codsCons (codSl 1) (codsCons (codSl 1) (codsOne (codFn 66))))
def R67 : Cod (Bool) := codBool
noncomputable def E67 (N : Nat) : Env := ⟨Tryd.prog, [(66, C66 N)]⟩
def O67 (N : Nat) : Opts := ⟨N, [(4, ⟨[1, 2, 15, 16, 17], [], [], 0⟩)], []⟩
noncomputable def F67 (N : Nat) (a : (List PV) × (List PV) × Unit) : Option (Bool) := aTyped (E67 N) (O67 N) Tryd.f67 A67 R67 a
noncomputable def L67_4 (N : Nat) (n : Nat) (x0 : List PV) (x1 : List PV) (x2 : Int) (x3 : Int) : Option Bool :=
  atLoop (E67 N) (O67 N) Tryd.f67 [(1 : Nat), (1 : Nat), (0 : Nat), (1 : Nat), (0 : Nat)] [] n
  {
    tmps :=
      Tm.of (nat_lit 32)
        [((1 : Nat), AV.p (PV.sl (1 : Nat) x0)), ((2 : Nat), AV.p (PV.fn (66 : Nat))), ((15 : Nat), AV.p (PV.sl (1 : Nat) x1)), ((16 : Nat), AV.p (PV.int IntKind.i64 x2)),
          ((17 : Nat), AV.p (PV.int IntKind.i64 x3))],
    heap := [] }
  fun x => Cod.dec R67 x some
theorem L67_4_eq (N : Nat) (n : Nat) (x0 : List PV) (x1 : List PV) (x2 : Int) (x3 : Int) : L67_4 N (n + 1) x0 x1 x2 x3 =
    aIf (decide (x3 < x2))
  (onGet x1 x3 fun z0 =>
    onSl (3 : Nat) z0 fun l1 =>
      onGet x0 x3 fun z2 => onSl (3 : Nat) z2 fun l3 => onSome (F66 N (l1, l3)) fun y4 => aIf (!y4) (some false) (L67_4 N n x0 x1 x2 (IntKind.wrap IntKind.i64 (x3 + (1 : Int)))))
  (some true) := by kernel_rfl
theorem L67_4_zero (N : Nat) (x0 : List PV) (x1 : List PV) (x2 : Int) (x3 : Int) : L67_4 N 0 x0 x1 x2 x3 = none := by kernel_rfl
theorem F67_eq (N : Nat) (a0 : List PV) (a1 : List PV) : F67 N (a0, a1, ()) =
    aIf (Int.ofNat (List.length a0) != Int.ofNat (List.length a1)) (some false) (L67_4 N N a1 a0 (Int.ofNat (List.length a0)) (0 : Int)) := by kernel_rfl
noncomputable def C67 (N : Nat) : Callee := mkCallee A67 R67 (F67 N)
theorem S67 (N : Nat) : Cok 67 (C67 N) := cok_of (l := (E67 N).calls) (O := O67 N) (cok_cons (S66 N) cok_nil) rfl Tryd.func67 rfl (by kernel_rfl) (by kernel_rfl)

-- function 29
def A29 : Cods (((Int) × (List PV) × List PV) × (Int) × (List PV) × List PV) := (codsCons (codAgg (codsCons (codInt .i64) (codsCons (codSl 3) (codsOne (codSl 1))))) (codsOne (codAgg (codsCons (codInt .i64) (codsCons (codSl 3) (codsOne (codSl 1)))))))
def R29 : Cod (Bool) := codBool
noncomputable def E29 (N : Nat) : Env := ⟨Tryd.prog, [(66, C66 N), (67, C67 N)]⟩
def O29 (N : Nat) : Opts := ⟨N, [], []⟩
noncomputable def F29 (N : Nat) (a : ((Int) × (List PV) × List PV) × (Int) × (List PV) × List PV) : Option (Bool) := aTyped (E29 N) (O29 N) Tryd.f29 A29 R29 a
theorem F29_eq (N : Nat) (a0 : Int × List PV × List PV) (a1 : Int) (a2 : List PV) (a3 : List PV) : F29 N (a0, a1, a2, a3) =
    aIf (Prod.fst a0 == a1) (onSome (F66 N (Prod.fst (Prod.snd a0), a2)) fun y0 => aIf y0 (onSome (F67 N (Prod.snd (Prod.snd a0), a3, PUnit.unit)) fun y1 => some y1) (some false))
  (some false) := by kernel_rfl
noncomputable def C29 (N : Nat) : Callee := mkCallee A29 R29 (F29 N)
theorem S29 (N : Nat) : Cok 29 (C29 N) := cok_of (l := (E29 N).calls) (O := O29 N) (cok_cons (S66 N) (cok_cons (S67 N) cok_nil)) rfl Tryd.func29 rfl (by kernel_rfl) (by kernel_rfl)

-- function 11
def A11 : Cods (((Int) × (List PV) × List PV) × (Int) × (List PV) × List PV) := (codsCons (codAgg (codsCons (codInt .i64) (codsCons (codSl 3) (codsOne (codSl 1))))) (codsOne (codAgg (codsCons (codInt .i64) (codsCons (codSl 3) (codsOne (codSl 1)))))))
def R11 : Cod (Bool) := codBool
noncomputable def E11 (N : Nat) : Env := ⟨Tryd.prog, [(22, C22 N), (23, C23 N), (29, C29 N), (27, C27 N)]⟩
def O11 (N : Nat) : Opts := ⟨N, [], []⟩
noncomputable def F11 (N : Nat) (a : ((Int) × (List PV) × List PV) × (Int) × (List PV) × List PV) : Option (Bool) := aTyped (E11 N) (O11 N) Tryd.f11 A11 R11 a
theorem F11_eq (N : Nat) (a0 : Int × List PV × List PV) (a1 : Int) (a2 : List PV) (a3 : List PV) : F11 N (a0, a1, a2, a3) =
    onSome (F22 N (Prod.fst a0, Prod.fst (Prod.snd a0), Prod.snd (Prod.snd a0))) fun y0 =>
  aIf (!y0) (some true)
    (onSome (F22 N (a1, a2, a3)) fun y1 =>
      aIf (!y1) (some true)
        (onSome (F29 N ((Prod.fst a0, Prod.fst (Prod.snd a0), Prod.snd (Prod.snd a0)), a1, a2, a3)) fun y2 =>
          onSome (F27 N ((Prod.fst a0, Prod.fst (Prod.snd a0), Prod.snd (Prod.snd a0)), a1, a2, a3)) fun y3 =>
            aIf (y2 == y3)
              (onSome (F29 N ((Prod.fst a0, Prod.fst (Prod.snd a0), Prod.snd (Prod.snd a0)), Prod.fst a0, Prod.fst (Prod.snd a0), Prod.snd (Prod.snd a0))) fun y4 =>
                aIf y4
                  (onSome (F29 N ((a1, a2, a3), Prod.fst a0, Prod.fst (Prod.snd a0), Prod.snd (Prod.snd a0))) fun y5 =>
                    onSome (F29 N ((Prod.fst a0, Prod.fst (Prod.snd a0), Prod.snd (Prod.snd a0)), a1, a2, a3)) fun y6 => aIf (y5 == y6) (some true) (some false))
                  (some false))
              (some false))) := by kernel_rfl
noncomputable def C11 (N : Nat) : Callee := mkCallee A11 R11 (F11 N)
theorem S11 (N : Nat) : Cok 11 (C11 N) := cok_of (l := (E11 N).calls) (O := O11 N) (cok_cons (S22 N) (cok_cons (S23 N) (cok_cons (S29 N) (cok_cons (S27 N) cok_nil)))) rfl Tryd.func11 rfl (by kernel_rfl) (by kernel_rfl)

end Go.Proofs.YtflpiekacionaaaDoor
