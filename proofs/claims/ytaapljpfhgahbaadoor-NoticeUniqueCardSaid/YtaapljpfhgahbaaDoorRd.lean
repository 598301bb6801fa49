/- The pure reading of the program's functions (printed by a program of mine; each line is proved by the kernel's evaluation). -/
import Derived.Test.YtaapljpfhgahbaaDoorExs
import Derived.Test.YtaapljpfhgahbaaDoorProg
set_option linter.unusedSimpArgs false
set_option linter.unusedVariables false
set_option maxRecDepth 100000
namespace Go.Proofs.YtaapljpfhgahbaaDoor
open Go.RowKit

-- function 114
def A114 : Cods ((List UInt8) × List UInt8) := (codsCons codStr (codsOne codStr))
def R114 : Cod (Bool) := codBool
noncomputable def E114 (N : Nat) : Env := ⟨Tryd.prog, []⟩
def O114 (N : Nat) : Opts := ⟨N, [], []⟩
noncomputable def F114 (N : Nat) (a : (List UInt8) × List UInt8) : Option (Bool) := aTyped (E114 N) (O114 N) Tryd.f114 A114 R114 a
theorem F114_eq (N : Nat) (a0 : List UInt8) (a1 : List UInt8) : F114 N (a0, a1) =
    aIf (decide (Int.ofNat (List.length a1) ≤ Int.ofNat (List.length a0)))
  (aGd (decide (Int.ofNat (List.length a1) ≤ Int.ofNat (List.length a0))) (some (List.drop (0 : Nat) (List.take (Int.toNat (Int.ofNat (List.length a1))) a0) == a1))) (some false) := by kernel_rfl
noncomputable def C114 (N : Nat) : Callee := mkCallee A114 R114 (F114 N)
theorem S114 (N : Nat) : Cok 114 (C114 N) := cok_of (l := (E114 N).calls) (O := O114 N) cok_nil rfl Tryd.func114 rfl (by kernel_rfl) (by kernel_rfl)

-- function 96
def A96 : Cods ((List UInt8) × List UInt8) := (codsCons codStr (codsOne codStr))
def R96 : Cod ((List UInt8) × Bool) := (codTup (codsCons codStr (codsOne codBool)))
noncomputable def E96 (N : Nat) : Env := ⟨Tryd.prog, [(114, C114 N)]⟩
def O96 (N : Nat) : Opts := ⟨N, [], []⟩
noncomputable def F96 (N : Nat) (a : (List UInt8) × List UInt8) : Option ((List UInt8) × Bool) := aTyped (E96 N) (O96 N) Tryd.f96 A96 R96 a
theorem F96_eq (N : Nat) (a0 : List UInt8) (a1 : List UInt8) : F96 N (a0, a1) =
    onSome (F114 N (a0, a1)) fun y0 =>
  aIf (!y0) (some (a0, false))
    (aGd (decide (Int.ofNat (List.length a1) ≤ Int.ofNat (List.length a0))) (some (List.drop (Int.toNat (Int.ofNat (List.length a1))) (List.take (List.length a0) a0), true))) := by kernel_rfl
noncomputable def C96 (N : Nat) : Callee := mkCallee A96 R96 (F96 N)
theorem S96 (N : Nat) : Cok 96 (C96 N) := cok_of (l := (E96 N).calls) (O := O96 N) (cok_cons (S114 N) cok_nil) rfl Tryd.func96 rfl (by kernel_rfl) (by kernel_rfl)

-- function 68
def A68 : Cods ((List UInt8) × List UInt8) := (codsCons codStr (codsOne codStr))
def R68 : Cod ((List UInt8) × Bool) := (codTup (codsCons codStr (codsOne codBool)))
noncomputable def E68 (N : Nat) : Env := ⟨Tryd.prog, [(96, C96 N)]⟩
def O68 (N : Nat) : Opts := ⟨N, [], []⟩
noncomputable def F68 (N : Nat) (a : (List UInt8) × List UInt8) : Option ((List UInt8) × Bool) := aTyped (E68 N) (O68 N) Tryd.f68 A68 R68 a
theorem F68_eq (N : Nat) (a0 : List UInt8) (a1 : List UInt8) : F68 N (a0, a1) =
    onSome (F96 N (a0, a1)) fun y0 => some (Prod.fst y0, Prod.snd y0) := by kernel_rfl
noncomputable def C68 (N : Nat) : Callee := mkCallee A68 R68 (F68 N)
theorem S68 (N : Nat) : Cok 68 (C68 N) := cok_of (l := (E68 N).calls) (O := O68 N) (cok_cons (S96 N) cok_nil) rfl Tryd.func68 rfl (by kernel_rfl) (by kernel_rfl)

-- function 89
def A89 : Cods (List UInt8) := (codsOne codStr)
def R89 : Cod (Bool) := codBool
noncomputable def E89 (N : Nat) : Env := ⟨Tryd.prog, []⟩
def O89 (N : Nat) : Opts := ⟨N, [(2, ⟨[0, 6], [], [], 1⟩)], []⟩
noncomputable def F89 (N : Nat) (a : List UInt8) : Option (Bool) := aTyped (E89 N) (O89 N) Tryd.f89 A89 R89 a
noncomputable def L89_2 (N : Nat) (n : Nat) (x0 : List UInt8) (x1 : List UInt8) (x2 : Nat) : Option Bool :=
  atLoop (E89 N) (O89 N) Tryd.f89 [(1 : Nat), (0 : Nat), (1 : Nat), (0 : Nat)] [] n
  {
    tmps :=
      [AV.p (PV.str x0), AV.top, AV.top, AV.top, AV.top, AV.top, AV.it (0 : Nat), AV.top, AV.top, AV.top, AV.top, AV.top, AV.top, AV.top, AV.top, AV.top, AV.top, AV.top, AV.top,
        AV.top, AV.top, AV.top, AV.top, AV.top, AV.top, AV.top, AV.top],
    heap := [Blk.iter x1 x2] }
  fun x => Cod.dec R89 x some
theorem L89_2_eq (N : Nat) (n : Nat) (x0 : List UInt8) (x1 : List UInt8) (x2 : Nat) : L89_2 N (n + 1) x0 x1 x2 =
    aIf (decide (x2 < List.length x1))
  (aIf (decide (Int.ofNat (Prod.fst (Utf8.decode { data := List.toArray x1 } x2)) < (48 : Int))) (some false)
    (aIf (decide ((57 : Int) < Int.ofNat (Prod.fst (Utf8.decode { data := List.toArray x1 } x2)))) (some false)
      (L89_2 N n x0 x1 (x2 + Prod.snd (Utf8.decode { data := List.toArray x1 } x2)))))
  (aIf (x0 == [(48 : UInt8)]) (some true) (aIf (!x0 == []) (onGet x0 (0 : Int) fun z0 => some (Int.ofNat (UInt8.toNat z0) != (48 : Int))) (some false))) := by kernel_rfl
theorem L89_2_zero (N : Nat) (x0 : List UInt8) (x1 : List UInt8) (x2 : Nat) : L89_2 N 0 x0 x1 x2 = none := by kernel_rfl
theorem F89_eq (N : Nat) (a0 : List UInt8) : F89 N a0 =
    L89_2 N N a0 a0 (0 : Nat) := by kernel_rfl
noncomputable def C89 (N : Nat) : Callee := mkCallee A89 R89 (F89 N)
theorem S89 (N : Nat) : Cok 89 (C89 N) := cok_of (l := (E89 N).calls) (O := O89 N) cok_nil rfl Tryd.func89 rfl (by kernel_rfl) (by kernel_rfl)

-- function 90
def A90 : Cods ((List UInt8) × Bool) := (codsCons codStr (codsOne codBool))
def R90 : Cod ((Int) × Int) := (codTup (codsCons (codInt .i64) (codsOne (codInt .i64))))
noncomputable def E90 (N : Nat) : Env := ⟨Tryd.prog, []⟩
def O90 (N : Nat) : Opts := ⟨N, [(3, ⟨[6, 1, 11], [], [], 1⟩)], []⟩
noncomputable def F90 (N : Nat) (a : (List UInt8) × Bool) : Option ((Int) × Int) := aTyped (E90 N) (O90 N) Tryd.f90 A90 R90 a
noncomputable def L90_3 (N : Nat) (n : Nat) (x0 : Bool) (x1 : Int) (x2 : List UInt8) (x3 : Nat) : Option (Int × Int) :=
  atLoop (E90 N) (O90 N) Tryd.f90 [(1 : Nat), (1 : Nat), (0 : Nat), (1 : Nat), (0 : Nat)] [] n
  {
    tmps :=
      [AV.top, AV.p (PV.bool x0), AV.top, AV.top, AV.top, AV.top, AV.p (PV.int IntKind.i64 x1), AV.top, AV.top, AV.top, AV.top, AV.it (0 : Nat), AV.top, AV.top, AV.top, AV.top,
        AV.top, AV.top, AV.top, AV.top, AV.top, AV.top, AV.top, AV.top, AV.top, AV.top, AV.top, AV.top, AV.top, AV.top, AV.top],
    heap := [Blk.iter x2 x3] }
  fun x => Cod.dec R90 x some
theorem L90_3_eq (N : Nat) (n : Nat) (x0 : Bool) (x1 : Int) (x2 : List UInt8) (x3 : Nat) : L90_3 N (n + 1) x0 x1 x2 x3 =
    aIf (decide (x3 < List.length x2))
  (aIf
    (decide
      (IntKind.wrap IntKind.i64
          (Int.tdiv
            (IntKind.wrap IntKind.i64
              ((4611686018427387904 : Int) - IntKind.wrap IntKind.i64 (IntKind.wrap IntKind.i32 (Int.ofNat (Prod.fst (Utf8.decode { data := List.toArray x2 } x3)) - (48 : Int)))))
            (10 : Int)) <
        x1))
    (some ((0 : Int), (3 : Int)))
    (L90_3 N n x0
      (IntKind.wrap IntKind.i64
        (IntKind.wrap IntKind.i64 (x1 * (10 : Int)) +
          IntKind.wrap IntKind.i64 (IntKind.wrap IntKind.i32 (Int.ofNat (Prod.fst (Utf8.decode { data := List.toArray x2 } x3)) - (48 : Int)))))
      x2 (x3 + Prod.snd (Utf8.decode { data := List.toArray x2 } x3))))
  (aIf x0 (some (IntKind.wrap IntKind.i64 ((0 : Int) - x1), (0 : Int))) (some (x1, (0 : Int)))) := by kernel_rfl
theorem L90_3_zero (N : Nat) (x0 : Bool) (x1 : Int) (x2 : List UInt8) (x3 : Nat) : L90_3 N 0 x0 x1 x2 x3 = none := by kernel_rfl
theorem F90_eq (N : Nat) (a0 : List UInt8) (a1 : Bool) : F90 N (a0, a1) =
    L90_3 N N a1 (0 : Int) a0 (0 : Nat) := by kernel_rfl
noncomputable def C90 (N : Nat) : Callee := mkCallee A90 R90 (F90 N)
theorem S90 (N : Nat) : Cok 90 (C90 N) := cok_of (l := (E90 N).calls) (O := O90 N) cok_nil rfl Tryd.func90 rfl (by kernel_rfl) (by kernel_rfl)

-- function 91
def A91 : Cods (List UInt8) := (codsOne codStr)
def R91 : Cod (Bool) := codBool
noncomputable def E91 (N : Nat) : Env := ⟨Tryd.prog, []⟩
def O91 (N : Nat) : Opts := ⟨N, [(2, ⟨[6], [], [], 1⟩)], []⟩
noncomputable def F91 (N : Nat) (a : List UInt8) : Option (Bool) := aTyped (E91 N) (O91 N) Tryd.f91 A91 R91 a
noncomputable def L91_2 (N : Nat) (n : Nat) (x0 : List UInt8) (x1 : Nat) : Option Bool :=
  atLoop (E91 N) (O91 N) Tryd.f91 [(1 : Nat), (0 : Nat), (1 : Nat), (0 : Nat)] [] n
  { tmps := [AV.top, AV.top, AV.top, AV.top, AV.top, AV.top, AV.it (0 : Nat), AV.top, AV.top, AV.top, AV.top, AV.top, AV.top, AV.top, AV.top, AV.top], heap := [Blk.iter x0 x1] }
  fun x => Cod.dec R91 x some
theorem L91_2_eq (N : Nat) (n : Nat) (x0 : List UInt8) (x1 : Nat) : L91_2 N (n + 1) x0 x1 =
    aIf (decide (x1 < List.length x0))
  (aIf (decide (Int.ofNat (Prod.fst (Utf8.decode { data := List.toArray x0 } x1)) < (48 : Int))) (some false)
    (aIf (decide ((57 : Int) < Int.ofNat (Prod.fst (Utf8.decode { data := List.toArray x0 } x1)))) (some false)
      (L91_2 N n x0 (x1 + Prod.snd (Utf8.decode { data := List.toArray x0 } x1)))))
  (some true) := by kernel_rfl
theorem L91_2_zero (N : Nat) (x0 : List UInt8) (x1 : Nat) : L91_2 N 0 x0 x1 = none := by kernel_rfl
theorem F91_eq (N : Nat) (a0 : List UInt8) : F91 N a0 =
    L91_2 N N a0 (0 : Nat) := by kernel_rfl
noncomputable def C91 (N : Nat) : Callee := mkCallee A91 R91 (F91 N)
theorem S91 (N : Nat) : Cok 91 (C91 N) := cok_of (l := (E91 N).calls) (O := O91 N) cok_nil rfl Tryd.func91 rfl (by kernel_rfl) (by kernel_rfl)

-- function 59
def A59 : Cods (List UInt8) := (codsOne codStr)
def R59 : Cod ((Int) × Int) := (codTup (codsCons (codInt .i64) (codsOne (codInt .i64))))
noncomputable def E59 (N : Nat) : Env := ⟨Tryd.prog, [(68, C68 N), (89, C89 N), (90, C90 N)]⟩
def O59 (N : Nat) : Opts := ⟨N, [], []⟩
noncomputable def F59 (N : Nat) (a : List UInt8) : Option ((Int) × Int) := aTyped (E59 N) (O59 N) Tryd.f59 A59 R59 a
theorem F59_eq (N : Nat) (a0 : List UInt8) : F59 N a0 =
    onSome (F68 N (a0, [(45 : UInt8)])) fun y0 =>
  onSome (F89 N (Prod.fst y0)) fun y1 =>
    aIf (!y1) (some ((0 : Int), (2 : Int)))
      (aIf (Prod.snd y0) (aIf (Prod.fst y0 == [(48 : UInt8)]) (some ((0 : Int), (2 : Int))) (onSome (F90 N (Prod.fst y0, Prod.snd y0)) fun y2 => some (Prod.fst y2, Prod.snd y2)))
        (onSome (F90 N (Prod.fst y0, Prod.snd y0)) fun y3 => some (Prod.fst y3, Prod.snd y3))) := by kernel_rfl
noncomputable def C59 (N : Nat) : Callee := mkCallee A59 R59 (F59 N)
theorem S59 (N : Nat) : Cok 59 (C59 N) := cok_of (l := (E59 N).calls) (O := O59 N) (cok_cons (S68 N) (cok_cons (S89 N) (cok_cons (S90 N) cok_nil))) rfl Tryd.func59 rfl (by kernel_rfl) (by kernel_rfl)

-- function 67
def A67 : Cods (Int) := (codsOne (codInt .i64))
def R67 : Cod (Int) := (codInt .i64)
noncomputable def E67 (N : Nat) : Env := ⟨Tryd.prog, []⟩
def O67 (N : Nat) : Opts := ⟨N, [], []⟩
noncomputable def F67 (N : Nat) (a : Int) : Option (Int) := aTyped (E67 N) (O67 N) Tryd.f67 A67 R67 a
theorem F67_eq (N : Nat) (a0 : Int) : F67 N a0 =
    some (max (0 : Int) (min a0 (9 : Int))) := by kernel_rfl
noncomputable def C67 (N : Nat) : Callee := mkCallee A67 R67 (F67 N)
theorem S67 (N : Nat) : Cok 67 (C67 N) := cok_of (l := (E67 N).calls) (O := O67 N) cok_nil rfl Tryd.func67 rfl (by kernel_rfl) (by kernel_rfl)

-- function 39
def A39 : Cods (Int) := (codsOne (codInt .i64))
def R39 : Cod (List UInt8) := codStr
noncomputable def E39 (N : Nat) : Env := ⟨Tryd.prog, [(66, C66 N)]⟩
def O39 (N : Nat) : Opts := ⟨N, [], []⟩
noncomputable def F39 (N : Nat) (a : Int) : Option (List UInt8) := aTyped (E39 N) (O39 N) Tryd.f39 A39 R39 a
theorem F39_eq (N : Nat) (a0 : Int) : F39 N a0 =
    onSome (F66 N a0) fun y0 => some y0 := by kernel_rfl
noncomputable def C39 (N : Nat) : Callee := mkCallee A39 R39 (F39 N)
theorem S39 (N : Nat) : Cok 39 (C39 N) := cok_of (l := (E39 N).calls) (O := O39 N) (cok_cons (S66 N) cok_nil) rfl Tryd.func39 rfl (by kernel_rfl) (by kernel_rfl)

-- function 40
def A40 : Cods ((Int) × Int) := (codsCons (codInt .i64) (codsOne (codInt .i64)))
def R40 : Cod (List UInt8) := codStr
noncomputable def E40 (N : Nat) : Env := ⟨Tryd.prog, [(67, C67 N), (39, C39 N), (68, C68 N), (69, C69 N)]⟩
def O40 (N : Nat) : Opts := ⟨N, [], []⟩
noncomputable def F40 (N : Nat) (a : (Int) × Int) : Option (List UInt8) := aTyped (E40 N) (O40 N) Tryd.f40 A40 R40 a
theorem F40_eq (N : Nat) (a0 : Int) (a1 : Int) : F40 N (a0, a1) =
    onSome (F67 N a1) fun y0 =>
  aIf (y0 == (0 : Int)) (onSome (F39 N a0) fun y1 => some y1)
    (onSome (F39 N a0) fun y2 =>
      onSome (F68 N (y2, [(45 : UInt8)])) fun y3 =>
        aIf (decide ((0 : Int) < IntKind.wrap IntKind.i64 (IntKind.wrap IntKind.i64 (y0 + (1 : Int)) - Int.ofNat (List.length (Prod.fst y3)))))
          (onSome (F69 N ([(48 : UInt8)], IntKind.wrap IntKind.i64 (IntKind.wrap IntKind.i64 (y0 + (1 : Int)) - Int.ofNat (List.length (Prod.fst y3))))) fun y4 =>
            aGd (decide (List.length y4 + List.length (Prod.fst y3) ≤ (9223372036854775807 : Nat)))
              (aGd (decide ((0 : Int) ≤ IntKind.wrap IntKind.i64 (Int.ofNat (List.length (y4 ++ Prod.fst y3)) - y0)))
                (aGd (decide (IntKind.wrap IntKind.i64 (Int.ofNat (List.length (y4 ++ Prod.fst y3)) - y0) ≤ Int.ofNat (List.length (y4 ++ Prod.fst y3))))
                  (aGd
                    (decide
                      (List.length (List.drop (0 : Nat) (List.take (Int.toNat (IntKind.wrap IntKind.i64 (Int.ofNat (List.length (y4 ++ Prod.fst y3)) - y0))) (y4 ++ Prod.fst y3))) +
                          (1 : Nat) ≤
                        (9223372036854775807 : Nat)))
                    (aGd (decide ((0 : Int) ≤ IntKind.wrap IntKind.i64 (Int.ofNat (List.length (y4 ++ Prod.fst y3)) - y0)))
                      (aGd (decide (IntKind.wrap IntKind.i64 (Int.ofNat (List.length (y4 ++ Prod.fst y3)) - y0) ≤ Int.ofNat (List.length (y4 ++ Prod.fst y3))))
                        (aGd
                          (decide
                            (List.length
                                  (List.drop (0 : Nat) (List.take (Int.toNat (IntKind.wrap IntKind.i64 (Int.ofNat (List.length (y4 ++ Prod.fst y3)) - y0))) (y4 ++ Prod.fst y3)) ++
                                    [(46 : UInt8)]) +
                                List.length
                                  (List.drop (Int.toNat (IntKind.wrap IntKind.i64 (Int.ofNat (List.length (y4 ++ Prod.fst y3)) - y0)))
                                    (List.take (List.length (y4 ++ Prod.fst y3)) (y4 ++ Prod.fst y3))) ≤
                              (9223372036854775807 : Nat)))
                          (aIf (Prod.snd y3)
                            (aGd
                              (decide
                                ((1 : Nat) +
                                    List.length
                                      (List.drop (0 : Nat)
                                            (List.take (Int.toNat (IntKind.wrap IntKind.i64 (Int.ofNat (List.length (y4 ++ Prod.fst y3)) - y0))) (y4 ++ Prod.fst y3)) ++
                                          [(46 : UInt8)] ++
                                        List.drop (Int.toNat (IntKind.wrap IntKind.i64 (Int.ofNat (List.length (y4 ++ Prod.fst y3)) - y0)))
                                          (List.take (List.length (y4 ++ Prod.fst y3)) (y4 ++ Prod.fst y3))) ≤
                                  (9223372036854775807 : Nat)))
                              (some
                                ((45 : UInt8) ::
                                  List.append []
                                    (List.drop (0 : Nat)
                                          (List.take (Int.toNat (IntKind.wrap IntKind.i64 (Int.ofNat (List.length (y4 ++ Prod.fst y3)) - y0))) (y4 ++ Prod.fst y3)) ++
                                        [(46 : UInt8)] ++
                                      List.drop (Int.toNat (IntKind.wrap IntKind.i64 (Int.ofNat (List.length (y4 ++ Prod.fst y3)) - y0)))
                                        (List.take (List.length (y4 ++ Prod.fst y3)) (y4 ++ Prod.fst y3))))))
                            (some
                              (List.drop (0 : Nat) (List.take (Int.toNat (IntKind.wrap IntKind.i64 (Int.ofNat (List.length (y4 ++ Prod.fst y3)) - y0))) (y4 ++ Prod.fst y3)) ++
                                  [(46 : UInt8)] ++
                                List.drop (Int.toNat (IntKind.wrap IntKind.i64 (Int.ofNat (List.length (y4 ++ Prod.fst y3)) - y0)))
                                  (List.take (List.length (y4 ++ Prod.fst y3)) (y4 ++ Prod.fst y3))))))))))))
          (aGd (decide ((0 : Int) ≤ IntKind.wrap IntKind.i64 (Int.ofNat (List.length (Prod.fst y3)) - y0)))
            (aGd (decide (IntKind.wrap IntKind.i64 (Int.ofNat (List.length (Prod.fst y3)) - y0) ≤ Int.ofNat (List.length (Prod.fst y3))))
              (aGd
                (decide
                  (List.length (List.drop (0 : Nat) (List.take (Int.toNat (IntKind.wrap IntKind.i64 (Int.ofNat (List.length (Prod.fst y3)) - y0))) (Prod.fst y3))) + (1 : Nat) ≤
                    (9223372036854775807 : Nat)))
                (aGd (decide ((0 : Int) ≤ IntKind.wrap IntKind.i64 (Int.ofNat (List.length (Prod.fst y3)) - y0)))
                  (aGd (decide (IntKind.wrap IntKind.i64 (Int.ofNat (List.length (Prod.fst y3)) - y0) ≤ Int.ofNat (List.length (Prod.fst y3))))
                    (aGd
                      (decide
                        (List.length
                              (List.drop (0 : Nat) (List.take (Int.toNat (IntKind.wrap IntKind.i64 (Int.ofNat (List.length (Prod.fst y3)) - y0))) (Prod.fst y3)) ++
                                [(46 : UInt8)]) +
                            List.length
                              (List.drop (Int.toNat (IntKind.wrap IntKind.i64 (Int.ofNat (List.length (Prod.fst y3)) - y0)))
                                (List.take (List.length (Prod.fst y3)) (Prod.fst y3))) ≤
                          (9223372036854775807 : Nat)))
                      (aIf (Prod.snd y3)
                        (aGd
                          (decide
                            ((1 : Nat) +
                                List.length
                                  (List.drop (0 : Nat) (List.take (Int.toNat (IntKind.wrap IntKind.i64 (Int.ofNat (List.length (Prod.fst y3)) - y0))) (Prod.fst y3)) ++
                                      [(46 : UInt8)] ++
                                    List.drop (Int.toNat (IntKind.wrap IntKind.i64 (Int.ofNat (List.length (Prod.fst y3)) - y0)))
                                      (List.take (List.length (Prod.fst y3)) (Prod.fst y3))) ≤
                              (9223372036854775807 : Nat)))
                          (some
                            ((45 : UInt8) ::
                              List.append []
                                (List.drop (0 : Nat) (List.take (Int.toNat (IntKind.wrap IntKind.i64 (Int.ofNat (List.length (Prod.fst y3)) - y0))) (Prod.fst y3)) ++
                                    [(46 : UInt8)] ++
                                  List.drop (Int.toNat (IntKind.wrap IntKind.i64 (Int.ofNat (List.length (Prod.fst y3)) - y0)))
                                    (List.take (List.length (Prod.fst y3)) (Prod.fst y3))))))
                        (some
                          (List.drop (0 : Nat) (List.take (Int.toNat (IntKind.wrap IntKind.i64 (Int.ofNat (List.length (Prod.fst y3)) - y0))) (Prod.fst y3)) ++ [(46 : UInt8)] ++
                            List.drop (Int.toNat (IntKind.wrap IntKind.i64 (Int.ofNat (List.length (Prod.fst y3)) - y0)))
                              (List.take (List.length (Prod.fst y3)) (Prod.fst y3)))))))))))) := by kernel_rfl
noncomputable def C40 (N : Nat) : Callee := mkCallee A40 R40 (F40 N)
theorem S40 (N : Nat) : Cok 40 (C40 N) := cok_of (l := (E40 N).calls) (O := O40 N) (cok_cons (S67 N) (cok_cons (S39 N) (cok_cons (S68 N) (cok_cons (S69 N) cok_nil)))) rfl Tryd.func40 rfl (by kernel_rfl) (by kernel_rfl)

-- function 61
def A61 : Cods ((List UInt8) × Int) := (codsCons codStr (codsOne (codInt .i64)))
def R61 : Cod ((Int) × Int) := (codTup (codsCons (codInt .i64) (codsOne (codInt .i64))))
noncomputable def E61 (N : Nat) : Env := ⟨Tryd.prog, [(67, C67 N), (59, C59 N), (68, C68 N), (89, C89 N), (91, C91 N), (90, C90 N)]⟩
def O61 (N : Nat) : Opts := ⟨N, [], []⟩
noncomputable def F61 (N : Nat) (a : (List UInt8) × Int) : Option ((Int) × Int) := aTyped (E61 N) (O61 N) Tryd.f61 A61 R61 a
theorem F61_eq (N : Nat) (a0 : List UInt8) (a1 : Int) : F61 N (a0, a1) =
    onSome (F67 N a1) fun y0 =>
  aIf (y0 == (0 : Int)) (onSome (F59 N a0) fun y1 => some (Prod.fst y1, Prod.snd y1))
    (onSome (F68 N (a0, [(45 : UInt8)])) fun y2 =>
      aIf (decide (IntKind.wrap IntKind.i64 (IntKind.wrap IntKind.i64 (Int.ofNat (List.length (Prod.fst y2)) - y0) - (1 : Int)) < (1 : Int))) (some ((0 : Int), (2 : Int)))
        (onGet (Prod.fst y2) (IntKind.wrap IntKind.i64 (IntKind.wrap IntKind.i64 (Int.ofNat (List.length (Prod.fst y2)) - y0) - (1 : Int))) fun z3 =>
          aIf (Int.ofNat (UInt8.toNat z3) != (46 : Int)) (some ((0 : Int), (2 : Int)))
            (aGd (decide ((0 : Int) ≤ IntKind.wrap IntKind.i64 (IntKind.wrap IntKind.i64 (Int.ofNat (List.length (Prod.fst y2)) - y0) - (1 : Int))))
              (aGd (decide (IntKind.wrap IntKind.i64 (IntKind.wrap IntKind.i64 (Int.ofNat (List.length (Prod.fst y2)) - y0) - (1 : Int)) ≤ Int.ofNat (List.length (Prod.fst y2))))
                (onSome
                  (F89 N
                    (List.drop (0 : Nat)
                      (List.take (Int.toNat (IntKind.wrap IntKind.i64 (IntKind.wrap IntKind.i64 (Int.ofNat (List.length (Prod.fst y2)) - y0) - (1 : Int)))) (Prod.fst y2))))
                  fun y4 =>
                  aIf (!y4) (some ((0 : Int), (2 : Int)))
                    (aGd
                      (decide
                        ((0 : Int) ≤
                          IntKind.wrap IntKind.i64 (IntKind.wrap IntKind.i64 (IntKind.wrap IntKind.i64 (Int.ofNat (List.length (Prod.fst y2)) - y0) - (1 : Int)) + (1 : Int))))
                      (aGd
                        (decide
                          (IntKind.wrap IntKind.i64 (IntKind.wrap IntKind.i64 (IntKind.wrap IntKind.i64 (Int.ofNat (List.length (Prod.fst y2)) - y0) - (1 : Int)) + (1 : Int)) ≤
                            Int.ofNat (List.length (Prod.fst y2))))
                        (onSome
                          (F91 N
                            (List.drop
                              (Int.toNat
                                (IntKind.wrap IntKind.i64
                                  (IntKind.wrap IntKind.i64 (IntKind.wrap IntKind.i64 (Int.ofNat (List.length (Prod.fst y2)) - y0) - (1 : Int)) + (1 : Int))))
                              (List.take (List.length (Prod.fst y2)) (Prod.fst y2))))
                          fun y5 =>
                          aIf (!y5) (some ((0 : Int), (2 : Int)))
                            (aGd (decide ((0 : Int) ≤ IntKind.wrap IntKind.i64 (IntKind.wrap IntKind.i64 (Int.ofNat (List.length (Prod.fst y2)) - y0) - (1 : Int))))
                              (aGd
                                (decide
                                  (IntKind.wrap IntKind.i64 (IntKind.wrap IntKind.i64 (Int.ofNat (List.length (Prod.fst y2)) - y0) - (1 : Int)) ≤
                                    Int.ofNat (List.length (Prod.fst y2))))
                                (aGd
                                  (decide
                                    ((0 : Int) ≤
                                      IntKind.wrap IntKind.i64
                                        (IntKind.wrap IntKind.i64 (IntKind.wrap IntKind.i64 (Int.ofNat (List.length (Prod.fst y2)) - y0) - (1 : Int)) + (1 : Int))))
                                  (aGd
                                    (decide
                                      (IntKind.wrap IntKind.i64
                                          (IntKind.wrap IntKind.i64 (IntKind.wrap IntKind.i64 (Int.ofNat (List.length (Prod.fst y2)) - y0) - (1 : Int)) + (1 : Int)) ≤
                                        Int.ofNat (List.length (Prod.fst y2))))
                                    (aGd
                                      (decide
                                        (List.length
                                              (List.drop (0 : Nat)
                                                (List.take
                                                  (Int.toNat (IntKind.wrap IntKind.i64 (IntKind.wrap IntKind.i64 (Int.ofNat (List.length (Prod.fst y2)) - y0) - (1 : Int))))
                                                  (Prod.fst y2))) +
                                            List.length
                                              (List.drop
                                                (Int.toNat
                                                  (IntKind.wrap IntKind.i64
                                                    (IntKind.wrap IntKind.i64 (IntKind.wrap IntKind.i64 (Int.ofNat (List.length (Prod.fst y2)) - y0) - (1 : Int)) + (1 : Int))))
                                                (List.take (List.length (Prod.fst y2)) (Prod.fst y2))) ≤
                                          (9223372036854775807 : Nat)))
                                      (onSome
                                        (F90 N
                                          (List.drop (0 : Nat)
                                                (List.take
                                                  (Int.toNat (IntKind.wrap IntKind.i64 (IntKind.wrap IntKind.i64 (Int.ofNat (List.length (Prod.fst y2)) - y0) - (1 : Int))))
                                                  (Prod.fst y2)) ++
                                              List.drop
                                                (Int.toNat
                                                  (IntKind.wrap IntKind.i64
                                                    (IntKind.wrap IntKind.i64 (IntKind.wrap IntKind.i64 (Int.ofNat (List.length (Prod.fst y2)) - y0) - (1 : Int)) + (1 : Int))))
                                                (List.take (List.length (Prod.fst y2)) (Prod.fst y2)),
                                            Prod.snd y2))
                                        fun y6 =>
                                        aIf (Prod.snd y6 == (0 : Int))
                                          (aIf (Prod.fst y6 == (0 : Int)) (aIf (Prod.snd y2) (some ((0 : Int), (2 : Int))) (some (Prod.fst y6, Prod.snd y6)))
                                            (some (Prod.fst y6, Prod.snd y6)))
                                          (some (Prod.fst y6, Prod.snd y6)))))))))))))))) := by kernel_rfl
noncomputable def C61 (N : Nat) : Callee := mkCallee A61 R61 (F61 N)
theorem S61 (N : Nat) : Cok 61 (C61 N) := cok_of (l := (E61 N).calls) (O := O61 N) (cok_cons (S67 N) (cok_cons (S59 N) (cok_cons (S68 N) (cok_cons (S89 N) (cok_cons (S91 N) (cok_cons (S90 N) cok_nil)))))) rfl Tryd.func61 rfl (by kernel_rfl) (by kernel_rfl)

-- function 74
def A74 : Cods (Int) := (codsOne (codInt .i64))
def R74 : Cod (Int) := (codInt .i64)
noncomputable def E74 (N : Nat) : Env := ⟨Tryd.prog, []⟩
def O74 (N : Nat) : Opts := ⟨N, [], []⟩
noncomputable def F74 (N : Nat) (a : Int) : Option (Int) := aTyped (E74 N) (O74 N) Tryd.f74 A74 R74 a
theorem F74_eq (N : Nat) (a0 : Int) : F74 N a0 =
    some (min (max a0 (0 : Int)) (9 : Int)) := by kernel_rfl
noncomputable def C74 (N : Nat) : Callee := mkCallee A74 R74 (F74 N)
theorem S74 (N : Nat) : Cok 74 (C74 N) := cok_of (l := (E74 N).calls) (O := O74 N) cok_nil rfl Tryd.func74 rfl (by kernel_rfl) (by kernel_rfl)

-- function 75
def A75 : Cods (List UInt8) := (codsOne codStr)
def R75 : Cod ((List UInt8) × Bool) := (codTup (codsCons codStr (codsOne codBool)))
noncomputable def E75 (N : Nat) : Env := ⟨Tryd.prog, []⟩
def O75 (N : Nat) : Opts := ⟨N, [], []⟩
noncomputable def F75 (N : Nat) (a : List UInt8) : Option ((List UInt8) × Bool) := aTyped (E75 N) (O75 N) Tryd.f75 A75 R75 a
theorem F75_eq (N : Nat) (a0 : List UInt8) : F75 N a0 =
    aIf (decide ((0 : Int) < Int.ofNat (List.length a0)))
  (onGet a0 (0 : Int) fun z0 =>
    aIf (Int.ofNat (UInt8.toNat z0) == (45 : Int)) (aGd (decide ((1 : Int) ≤ Int.ofNat (List.length a0))) (some (List.drop (1 : Nat) (List.take (List.length a0) a0), true)))
      (some (a0, false)))
  (some (a0, false)) := by kernel_rfl
noncomputable def C75 (N : Nat) : Callee := mkCallee A75 R75 (F75 N)
theorem S75 (N : Nat) : Cok 75 (C75 N) := cok_of (l := (E75 N).calls) (O := O75 N) cok_nil rfl Tryd.func75 rfl (by kernel_rfl) (by kernel_rfl)

-- function 92
def A92 : Cods (List UInt8) := (codsOne codStr)
def R92 : Cod (Bool) := codBool
noncomputable def E92 (N : Nat) : Env := ⟨Tryd.prog, []⟩
def O92 (N : Nat) : Opts := ⟨N, [(2, ⟨[3, 0], [], [], 0⟩)], []⟩
noncomputable def F92 (N : Nat) (a : List UInt8) : Option (Bool) := aTyped (E92 N) (O92 N) Tryd.f92 A92 R92 a
noncomputable def L92_2 (N : Nat) (n : Nat) (x0 : List UInt8) (x1 : Int) : Option Bool :=
  atLoop (E92 N) (O92 N) Tryd.f92 [(1 : Nat), (0 : Nat), (1 : Nat), (0 : Nat)] [] n
  {
    tmps :=
      [AV.p (PV.str x0), AV.top, AV.top, AV.p (PV.int IntKind.i64 x1), AV.top, AV.top, AV.top, AV.top, AV.top, AV.top, AV.top, AV.top, AV.top, AV.top, AV.top, AV.top, AV.top,
        AV.top, AV.top, AV.top, AV.top, AV.top, AV.top],
    heap := [] }
  fun x => Cod.dec R92 x some
theorem L92_2_eq (N : Nat) (n : Nat) (x0 : List UInt8) (x1 : Int) : L92_2 N (n + 1) x0 x1 =
    aIf (decide (x1 < Int.ofNat (List.length x0)))
  (onGet x0 x1 fun z0 =>
    aIf (decide (Int.ofNat (UInt8.toNat z0) < (48 : Int))) (some false)
      (onGet x0 x1 fun z1 => aIf (decide ((57 : Int) < Int.ofNat (UInt8.toNat z1))) (some false) (L92_2 N n x0 (IntKind.wrap IntKind.i64 (x1 + (1 : Int))))))
  (some (decide ((0 : Int) < Int.ofNat (List.length x0)))) := by kernel_rfl
theorem L92_2_zero (N : Nat) (x0 : List UInt8) (x1 : Int) : L92_2 N 0 x0 x1 = none := by kernel_rfl
theorem F92_eq (N : Nat) (a0 : List UInt8) : F92 N a0 =
    L92_2 N N a0 (0 : Int) := by kernel_rfl
noncomputable def C92 (N : Nat) : Callee := mkCallee A92 R92 (F92 N)
theorem S92 (N : Nat) : Cok 92 (C92 N) := cok_of (l := (E92 N).calls) (O := O92 N) cok_nil rfl Tryd.func92 rfl (by kernel_rfl) (by kernel_rfl)

-- function 93
def A93 : Cods ((List UInt8) × Bool) := (codsCons codStr (codsOne codBool))
def R93 : Cod ((Int) × Int) := (codTup (codsCons (codInt .i64) (codsOne (codInt .i64))))
noncomputable def E93 (N : Nat) : Env := ⟨Tryd.prog, []⟩
def O93 (N : Nat) : Opts := ⟨N, [(5, ⟨[7, 0, 6, 1], [], [], 0⟩)], []⟩
noncomputable def F93 (N : Nat) (a : (List UInt8) × Bool) : Option ((Int) × Int) := aTyped (E93 N) (O93 N) Tryd.f93 A93 R93 a
noncomputable def L93_5 (N : Nat) (n : Nat) (x0 : List UInt8) (x1 : Bool) (x2 : Int) (x3 : Int) : Option (Int × Int) :=
  atLoop (E93 N) (O93 N) Tryd.f93 [(1 : Nat), (1 : Nat), (1 : Nat), (0 : Nat), (1 : Nat), (0 : Nat)] [] n
  {
    tmps :=
      [AV.p (PV.str x0), AV.p (PV.bool x1), AV.top, AV.top, AV.top, AV.top, AV.p (PV.int IntKind.u64 x2), AV.p (PV.int IntKind.i64 x3), AV.top, AV.top, AV.top, AV.top, AV.top,
        AV.top, AV.top, AV.top, AV.top, AV.top, AV.top, AV.top, AV.top, AV.top, AV.top, AV.top, AV.top, AV.top, AV.top, AV.top, AV.top, AV.top, AV.top, AV.top, AV.top],
    heap := [] }
  fun x => Cod.dec R93 x some
theorem L93_5_eq (N : Nat) (n : Nat) (x0 : List UInt8) (x1 : Bool) (x2 : Int) (x3 : Int) : L93_5 N (n + 1) x0 x1 x2 x3 =
    aIf (decide (x3 < Int.ofNat (List.length x0)))
  (onGet x0 x3 fun z0 =>
    L93_5 N n x0 x1
      (IntKind.wrap IntKind.u64 (IntKind.wrap IntKind.u64 ((10 : Int) * x2) + IntKind.wrap IntKind.u64 (IntKind.wrap IntKind.u8 (Int.ofNat (UInt8.toNat z0) - (48 : Int)))))
      (IntKind.wrap IntKind.i64 (x3 + (1 : Int))))
  (aIf (decide ((4611686018427387904 : Int) < x2)) (some ((0 : Int), (3 : Int)))
    (aIf x1 (some (IntKind.wrap IntKind.i64 ((0 : Int) - IntKind.wrap IntKind.i64 x2), (0 : Int))) (some (IntKind.wrap IntKind.i64 x2, (0 : Int))))) := by kernel_rfl
theorem L93_5_zero (N : Nat) (x0 : List UInt8) (x1 : Bool) (x2 : Int) (x3 : Int) : L93_5 N 0 x0 x1 x2 x3 = none := by kernel_rfl
theorem F93_eq (N : Nat) (a0 : List UInt8) (a1 : Bool) : F93 N (a0, a1) =
    aIf (decide ((19 : Int) < Int.ofNat (List.length a0))) (some ((0 : Int), (3 : Int))) (L93_5 N N a0 a1 (0 : Int) (0 : Int)) := by kernel_rfl
noncomputable def C93 (N : Nat) : Callee := mkCallee A93 R93 (F93 N)
theorem S93 (N : Nat) : Cok 93 (C93 N) := cok_of (l := (E93 N).calls) (O := O93 N) cok_nil rfl Tryd.func93 rfl (by kernel_rfl) (by kernel_rfl)

-- function 42
def A42 : Cods (Int) := (codsOne (codInt .i64))
def R42 : Cod (List UInt8) := codStr
noncomputable def E42 (N : Nat) : Env := ⟨Tryd.prog, [(73, C73 N)]⟩
def O42 (N : Nat) : Opts := ⟨N, [], []⟩
noncomputable def F42 (N : Nat) (a : Int) : Option (List UInt8) := aTyped (E42 N) (O42 N) Tryd.f42 A42 R42 a
theorem F42_eq (N : Nat) (a0 : Int) : F42 N a0 =
    aIf (decide (a0 < (0 : Int)))
  (onSome (F73 N (IntKind.wrap IntKind.u64 (IntKind.wrap IntKind.u64 (IntKind.wrap IntKind.i64 ((0 : Int) - IntKind.wrap IntKind.i64 (a0 + (1 : Int)))) + (1 : Int)))) fun y0 =>
    aGd (decide ((1 : Nat) + List.length y0 ≤ (9223372036854775807 : Nat))) (some ((45 : UInt8) :: List.append [] y0)))
  (onSome (F73 N (IntKind.wrap IntKind.u64 a0)) fun y1 => some y1) := by kernel_rfl
noncomputable def C42 (N : Nat) : Callee := mkCallee A42 R42 (F42 N)
theorem S42 (N : Nat) : Cok 42 (C42 N) := cok_of (l := (E42 N).calls) (O := O42 N) (cok_cons (S73 N) cok_nil) rfl Tryd.func42 rfl (by kernel_rfl) (by kernel_rfl)

-- function 43
def A43 : Cods ((Int) × Int) := (codsCons (codInt .i64) (codsOne (codInt .i64)))
def R43 : Cod (List UInt8) := codStr
noncomputable def E43 (N : Nat) : Env := ⟨Tryd.prog, [(74, C74 N), (42, C42 N), (75, C75 N)]⟩
def O43 (N : Nat) : Opts := ⟨N, [(5, ⟨[6, 7, 5], [], [], 0⟩)], []⟩
noncomputable def F43 (N : Nat) (a : (Int) × Int) : Option (List UInt8) := aTyped (E43 N) (O43 N) Tryd.f43 A43 R43 a
noncomputable def L43_5 (N : Nat) (n : Nat) (x0 : Int) (x1 : List UInt8) (x2 : Bool) : Option (List UInt8) :=
  atLoop (E43 N) (O43 N) Tryd.f43 [(1 : Nat), (1 : Nat), (1 : Nat), (1 : Nat), (0 : Nat), (0 : Nat)] [] n
  {
    tmps :=
      [AV.top, AV.top, AV.top, AV.top, AV.top, AV.p (PV.int IntKind.i64 x0), AV.p (PV.str x1), AV.p (PV.bool x2), AV.top, AV.top, AV.top, AV.top, AV.top, AV.top, AV.top, AV.top,
        AV.top, AV.top, AV.top, AV.top, AV.top, AV.top, AV.top, AV.top, AV.top, AV.top, AV.top, AV.top, AV.top, AV.top, AV.top, AV.top, AV.top, AV.top, AV.top, AV.top, AV.top,
        AV.top, AV.top, AV.top, AV.top, AV.top, AV.top, AV.top],
    heap := [] }
  fun x => Cod.dec R43 x some
theorem L43_5_eq (N : Nat) (n : Nat) (x0 : Int) (x1 : List UInt8) (x2 : Bool) : L43_5 N (n + 1) x0 x1 x2 =
    aIf (decide (Int.ofNat (List.length x1) ≤ x0)) (aGd (decide ((1 : Nat) + List.length x1 ≤ (9223372036854775807 : Nat))) (L43_5 N n x0 ((48 : UInt8) :: List.append [] x1) x2))
  (aGd (decide ((0 : Int) ≤ IntKind.wrap IntKind.i64 (Int.ofNat (List.length x1) - x0)))
    (aGd (decide (IntKind.wrap IntKind.i64 (Int.ofNat (List.length x1) - x0) ≤ Int.ofNat (List.length x1)))
      (aGd
        (decide
          (List.length (List.drop (0 : Nat) (List.take (Int.toNat (IntKind.wrap IntKind.i64 (Int.ofNat (List.length x1) - x0))) x1)) + (1 : Nat) ≤ (9223372036854775807 : Nat)))
        (aGd (decide ((0 : Int) ≤ IntKind.wrap IntKind.i64 (Int.ofNat (List.length x1) - x0)))
          (aGd (decide (IntKind.wrap IntKind.i64 (Int.ofNat (List.length x1) - x0) ≤ Int.ofNat (List.length x1)))
            (aGd
              (decide
                (List.length (List.drop (0 : Nat) (List.take (Int.toNat (IntKind.wrap IntKind.i64 (Int.ofNat (List.length x1) - x0))) x1) ++ [(46 : UInt8)]) +
                    List.length (List.drop (Int.toNat (IntKind.wrap IntKind.i64 (Int.ofNat (List.length x1) - x0))) (List.take (List.length x1) x1)) ≤
                  (9223372036854775807 : Nat)))
              (aIf x2
                (aGd
                  (decide
                    ((1 : Nat) +
                        List.length
                          (List.drop (0 : Nat) (List.take (Int.toNat (IntKind.wrap IntKind.i64 (Int.ofNat (List.length x1) - x0))) x1) ++ [(46 : UInt8)] ++
                            List.drop (Int.toNat (IntKind.wrap IntKind.i64 (Int.ofNat (List.length x1) - x0))) (List.take (List.length x1) x1)) ≤
                      (9223372036854775807 : Nat)))
                  (some
                    ((45 : UInt8) ::
                      List.append []
                        (List.drop (0 : Nat) (List.take (Int.toNat (IntKind.wrap IntKind.i64 (Int.ofNat (List.length x1) - x0))) x1) ++ [(46 : UInt8)] ++
                          List.drop (Int.toNat (IntKind.wrap IntKind.i64 (Int.ofNat (List.length x1) - x0))) (List.take (List.length x1) x1)))))
                (some
                  (List.drop (0 : Nat) (List.take (Int.toNat (IntKind.wrap IntKind.i64 (Int.ofNat (List.length x1) - x0))) x1) ++ [(46 : UInt8)] ++
                    List.drop (Int.toNat (IntKind.wrap IntKind.i64 (Int.ofNat (List.length x1) - x0))) (List.take (List.length x1) x1)))))))))) := by kernel_rfl
theorem L43_5_zero (N : Nat) (x0 : Int) (x1 : List UInt8) (x2 : Bool) : L43_5 N 0 x0 x1 x2 = none := by kernel_rfl
theorem F43_eq (N : Nat) (a0 : Int) (a1 : Int) : F43 N (a0, a1) =
    onSome (F74 N a1) fun y0 =>
  aIf (y0 == (0 : Int)) (onSome (F42 N a0) fun y1 => some y1) (onSome (F42 N a0) fun y2 => onSome (F75 N y2) fun y3 => L43_5 N N y0 (Prod.fst y3) (Prod.snd y3)) := by kernel_rfl
noncomputable def C43 (N : Nat) : Callee := mkCallee A43 R43 (F43 N)
theorem S43 (N : Nat) : Cok 43 (C43 N) := cok_of (l := (E43 N).calls) (O := O43 N) (cok_cons (S74 N) (cok_cons (S42 N) (cok_cons (S75 N) cok_nil))) rfl Tryd.func43 rfl (by kernel_rfl) (by kernel_rfl)

-- function 63
def A63 : Cods (List UInt8) := (codsOne codStr)
def R63 : Cod ((Int) × Int) := (codTup (codsCons (codInt .i64) (codsOne (codInt .i64))))
noncomputable def E63 (N : Nat) : Env := ⟨Tryd.prog, [(75, C75 N), (92, C92 N), (93, C93 N)]⟩
def O63 (N : Nat) : Opts := ⟨N, [], []⟩
noncomputable def F63 (N : Nat) (a : List UInt8) : Option ((Int) × Int) := aTyped (E63 N) (O63 N) Tryd.f63 A63 R63 a
theorem F63_eq (N : Nat) (a0 : List UInt8) : F63 N a0 =
    onSome (F75 N a0) fun y0 =>
  onSome (F92 N (Prod.fst y0)) fun y1 =>
    aIf (!y1) (some ((0 : Int), (2 : Int)))
      (aIf (decide ((1 : Int) < Int.ofNat (List.length (Prod.fst y0))))
        (onGet (Prod.fst y0) (0 : Int) fun z2 =>
          aIf (Int.ofNat (UInt8.toNat z2) == (48 : Int)) (some ((0 : Int), (2 : Int)))
            (aIf (Prod.snd y0)
              (aIf (Prod.fst y0 == [(48 : UInt8)]) (some ((0 : Int), (2 : Int))) (onSome (F93 N (Prod.fst y0, Prod.snd y0)) fun y3 => some (Prod.fst y3, Prod.snd y3)))
              (onSome (F93 N (Prod.fst y0, Prod.snd y0)) fun y4 => some (Prod.fst y4, Prod.snd y4))))
        (aIf (Prod.snd y0) (aIf (Prod.fst y0 == [(48 : UInt8)]) (some ((0 : Int), (2 : Int))) (onSome (F93 N (Prod.fst y0, Prod.snd y0)) fun y5 => some (Prod.fst y5, Prod.snd y5)))
          (onSome (F93 N (Prod.fst y0, Prod.snd y0)) fun y6 => some (Prod.fst y6, Prod.snd y6)))) := by kernel_rfl
noncomputable def C63 (N : Nat) : Callee := mkCallee A63 R63 (F63 N)
theorem S63 (N : Nat) : Cok 63 (C63 N) := cok_of (l := (E63 N).calls) (O := O63 N) (cok_cons (S75 N) (cok_cons (S92 N) (cok_cons (S93 N) cok_nil))) rfl Tryd.func63 rfl (by kernel_rfl) (by kernel_rfl)

-- function 65
def A65 : Cods ((List UInt8) × Int) := (codsCons codStr (codsOne (codInt .i64)))
def R65 : Cod ((Int) × Int) := (codTup (codsCons (codInt .i64) (codsOne (codInt .i64))))
noncomputable def E65 (N : Nat) : Env := ⟨Tryd.prog, [(74, C74 N), (63, C63 N), (75, C75 N), (92, C92 N), (93, C93 N)]⟩
def O65 (N : Nat) : Opts := ⟨N, [(9, ⟨[7, 8], [], [], 0⟩)], []⟩
noncomputable def F65 (N : Nat) (a : (List UInt8) × Int) : Option ((Int) × Int) := aTyped (E65 N) (O65 N) Tryd.f65 A65 R65 a
noncomputable def L65_9 (N : Nat) (n : Nat) (x0 : List UInt8) (x1 : Bool) : Option (Int × Int) :=
  atLoop (E65 N) (O65 N) Tryd.f65 [(1 : Nat), (1 : Nat), (1 : Nat), (1 : Nat), (1 : Nat), (1 : Nat), (1 : Nat), (0 : Nat), (0 : Nat)] [] n
  {
    tmps :=
      [AV.top, AV.top, AV.top, AV.top, AV.top, AV.top, AV.top, AV.p (PV.str x0), AV.p (PV.bool x1), AV.top, AV.top, AV.top, AV.top, AV.top, AV.top, AV.top, AV.top, AV.top, AV.top,
        AV.top, AV.top, AV.top, AV.top, AV.top, AV.top, AV.top, AV.top, AV.top, AV.top, AV.top, AV.top, AV.top, AV.top, AV.top, AV.top, AV.top, AV.top, AV.top, AV.top, AV.top,
        AV.top, AV.top, AV.top, AV.top, AV.top, AV.top, AV.top, AV.top, AV.top, AV.top, AV.top, AV.top, AV.top, AV.top, AV.top, AV.top, AV.top, AV.top, AV.top, AV.top, AV.top,
        AV.top, AV.top, AV.top, AV.top, AV.top, AV.top, AV.top, AV.top, AV.top, AV.top, AV.top, AV.top, AV.top, AV.top, AV.top, AV.top, AV.top, AV.top, AV.top, AV.top, AV.top,
        AV.top, AV.top, AV.top, AV.top, AV.top, AV.top],
    heap := [] }
  fun x => Cod.dec R65 x some
theorem L65_9_eq (N : Nat) (n : Nat) (x0 : List UInt8) (x1 : Bool) : L65_9 N (n + 1) x0 x1 =
    aIf (decide ((1 : Int) < Int.ofNat (List.length x0)))
  (onGet x0 (0 : Int) fun z7 =>
    aIf (Int.ofNat (UInt8.toNat z7) == (48 : Int)) (aGd (decide ((1 : Int) ≤ Int.ofNat (List.length x0))) (L65_9 N n (List.drop (1 : Nat) (List.take (List.length x0) x0)) x1))
      (aIf x1 (aIf (x0 == [(48 : UInt8)]) (some ((0 : Int), (2 : Int))) (onSome (F93 N (x0, x1)) fun y8 => some (Prod.fst y8, Prod.snd y8)))
        (onSome (F93 N (x0, x1)) fun y9 => some (Prod.fst y9, Prod.snd y9))))
  (aIf x1 (aIf (x0 == [(48 : UInt8)]) (some ((0 : Int), (2 : Int))) (onSome (F93 N (x0, x1)) fun y10 => some (Prod.fst y10, Prod.snd y10)))
    (onSome (F93 N (x0, x1)) fun y11 => some (Prod.fst y11, Prod.snd y11))) := by kernel_rfl
theorem L65_9_zero (N : Nat) (x0 : List UInt8) (x1 : Bool) : L65_9 N 0 x0 x1 = none := by kernel_rfl
theorem F65_eq (N : Nat) (a0 : List UInt8) (a1 : Int) : F65 N (a0, a1) =
    onSome (F74 N a1) fun y0 =>
  aIf (y0 == (0 : Int)) (onSome (F63 N a0) fun y1 => some (Prod.fst y1, Prod.snd y1))
    (onSome (F75 N a0) fun y2 =>
      aIf (decide (IntKind.wrap IntKind.i64 (IntKind.wrap IntKind.i64 (Int.ofNat (List.length (Prod.fst y2)) - y0) - (1 : Int)) < (1 : Int))) (some ((0 : Int), (2 : Int)))
        (onGet (Prod.fst y2) (IntKind.wrap IntKind.i64 (IntKind.wrap IntKind.i64 (Int.ofNat (List.length (Prod.fst y2)) - y0) - (1 : Int))) fun z3 =>
          aIf (Int.ofNat (UInt8.toNat z3) != (46 : Int)) (some ((0 : Int), (2 : Int)))
            (aGd (decide ((0 : Int) ≤ IntKind.wrap IntKind.i64 (IntKind.wrap IntKind.i64 (Int.ofNat (List.length (Prod.fst y2)) - y0) - (1 : Int))))
              (aGd (decide (IntKind.wrap IntKind.i64 (IntKind.wrap IntKind.i64 (Int.ofNat (List.length (Prod.fst y2)) - y0) - (1 : Int)) ≤ Int.ofNat (List.length (Prod.fst y2))))
                (onSome
                  (F92 N
                    (List.drop (0 : Nat)
                      (List.take (Int.toNat (IntKind.wrap IntKind.i64 (IntKind.wrap IntKind.i64 (Int.ofNat (List.length (Prod.fst y2)) - y0) - (1 : Int)))) (Prod.fst y2))))
                  fun y4 =>
                  aIf (!y4) (some ((0 : Int), (2 : Int)))
                    (aGd
                      (decide
                        ((0 : Int) ≤
                          IntKind.wrap IntKind.i64 (IntKind.wrap IntKind.i64 (IntKind.wrap IntKind.i64 (Int.ofNat (List.length (Prod.fst y2)) - y0) - (1 : Int)) + (1 : Int))))
                      (aGd
                        (decide
                          (IntKind.wrap IntKind.i64 (IntKind.wrap IntKind.i64 (IntKind.wrap IntKind.i64 (Int.ofNat (List.length (Prod.fst y2)) - y0) - (1 : Int)) + (1 : Int)) ≤
                            Int.ofNat (List.length (Prod.fst y2))))
                        (onSome
                          (F92 N
                            (List.drop
                              (Int.toNat
                                (IntKind.wrap IntKind.i64
                                  (IntKind.wrap IntKind.i64 (IntKind.wrap IntKind.i64 (Int.ofNat (List.length (Prod.fst y2)) - y0) - (1 : Int)) + (1 : Int))))
                              (List.take (List.length (Prod.fst y2)) (Prod.fst y2))))
                          fun y5 =>
                          aIf (!y5) (some ((0 : Int), (2 : Int)))
                            (aIf (decide ((1 : Int) < IntKind.wrap IntKind.i64 (IntKind.wrap IntKind.i64 (Int.ofNat (List.length (Prod.fst y2)) - y0) - (1 : Int))))
                              (onGet (Prod.fst y2) (0 : Int) fun z6 =>
                                aIf (Int.ofNat (UInt8.toNat z6) == (48 : Int)) (some ((0 : Int), (2 : Int)))
                                  (aGd (decide ((0 : Int) ≤ IntKind.wrap IntKind.i64 (IntKind.wrap IntKind.i64 (Int.ofNat (List.length (Prod.fst y2)) - y0) - (1 : Int))))
                                    (aGd
                                      (decide
                                        (IntKind.wrap IntKind.i64 (IntKind.wrap IntKind.i64 (Int.ofNat (List.length (Prod.fst y2)) - y0) - (1 : Int)) ≤
                                          Int.ofNat (List.length (Prod.fst y2))))
                                      (aGd
                                        (decide
                                          ((0 : Int) ≤
                                            IntKind.wrap IntKind.i64
                                              (IntKind.wrap IntKind.i64 (IntKind.wrap IntKind.i64 (Int.ofNat (List.length (Prod.fst y2)) - y0) - (1 : Int)) + (1 : Int))))
                                        (aGd
                                          (decide
                                            (IntKind.wrap IntKind.i64
                                                (IntKind.wrap IntKind.i64 (IntKind.wrap IntKind.i64 (Int.ofNat (List.length (Prod.fst y2)) - y0) - (1 : Int)) + (1 : Int)) ≤
                                              Int.ofNat (List.length (Prod.fst y2))))
                                          (aGd
                                            (decide
                                              (List.length
                                                    (List.drop (0 : Nat)
                                                      (List.take
                                                        (Int.toNat (IntKind.wrap IntKind.i64 (IntKind.wrap IntKind.i64 (Int.ofNat (List.length (Prod.fst y2)) - y0) - (1 : Int))))
                                                        (Prod.fst y2))) +
                                                  List.length
                                                    (List.drop
                                                      (Int.toNat
                                                        (IntKind.wrap IntKind.i64
                                                          (IntKind.wrap IntKind.i64 (IntKind.wrap IntKind.i64 (Int.ofNat (List.length (Prod.fst y2)) - y0) - (1 : Int)) +
                                                            (1 : Int))))
                                                      (List.take (List.length (Prod.fst y2)) (Prod.fst y2))) ≤
                                                (9223372036854775807 : Nat)))
                                            (L65_9 N N
                                              (List.drop (0 : Nat)
                                                  (List.take
                                                    (Int.toNat (IntKind.wrap IntKind.i64 (IntKind.wrap IntKind.i64 (Int.ofNat (List.length (Prod.fst y2)) - y0) - (1 : Int))))
                                                    (Prod.fst y2)) ++
                                                List.drop
                                                  (Int.toNat
                                                    (IntKind.wrap IntKind.i64
                                                      (IntKind.wrap IntKind.i64 (IntKind.wrap IntKind.i64 (Int.ofNat (List.length (Prod.fst y2)) - y0) - (1 : Int)) + (1 : Int))))
                                                  (List.take (List.length (Prod.fst y2)) (Prod.fst y2)))
                                              (Prod.snd y2))))))))
                              (aGd (decide ((0 : Int) ≤ IntKind.wrap IntKind.i64 (IntKind.wrap IntKind.i64 (Int.ofNat (List.length (Prod.fst y2)) - y0) - (1 : Int))))
                                (aGd
                                  (decide
                                    (IntKind.wrap IntKind.i64 (IntKind.wrap IntKind.i64 (Int.ofNat (List.length (Prod.fst y2)) - y0) - (1 : Int)) ≤
                                      Int.ofNat (List.length (Prod.fst y2))))
                                  (aGd
                                    (decide
                                      ((0 : Int) ≤
                                        IntKind.wrap IntKind.i64
                                          (IntKind.wrap IntKind.i64 (IntKind.wrap IntKind.i64 (Int.ofNat (List.length (Prod.fst y2)) - y0) - (1 : Int)) + (1 : Int))))
                                    (aGd
                                      (decide
                                        (IntKind.wrap IntKind.i64
                                            (IntKind.wrap IntKind.i64 (IntKind.wrap IntKind.i64 (Int.ofNat (List.length (Prod.fst y2)) - y0) - (1 : Int)) + (1 : Int)) ≤
                                          Int.ofNat (List.length (Prod.fst y2))))
                                      (aGd
                                        (decide
                                          (List.length
                                                (List.drop (0 : Nat)
                                                  (List.take
                                                    (Int.toNat (IntKind.wrap IntKind.i64 (IntKind.wrap IntKind.i64 (Int.ofNat (List.length (Prod.fst y2)) - y0) - (1 : Int))))
                                                    (Prod.fst y2))) +
                                              List.length
                                                (List.drop
                                                  (Int.toNat
                                                    (IntKind.wrap IntKind.i64
                                                      (IntKind.wrap IntKind.i64 (IntKind.wrap IntKind.i64 (Int.ofNat (List.length (Prod.fst y2)) - y0) - (1 : Int)) + (1 : Int))))
                                                  (List.take (List.length (Prod.fst y2)) (Prod.fst y2))) ≤
                                            (9223372036854775807 : Nat)))
                                        (L65_9 N N
                                          (List.drop (0 : Nat)
                                              (List.take (Int.toNat (IntKind.wrap IntKind.i64 (IntKind.wrap IntKind.i64 (Int.ofNat (List.length (Prod.fst y2)) - y0) - (1 : Int))))
                                                (Prod.fst y2)) ++
                                            List.drop
                                              (Int.toNat
                                                (IntKind.wrap IntKind.i64
                                                  (IntKind.wrap IntKind.i64 (IntKind.wrap IntKind.i64 (Int.ofNat (List.length (Prod.fst y2)) - y0) - (1 : Int)) + (1 : Int))))
                                              (List.take (List.length (Prod.fst y2)) (Prod.fst y2)))
                                          (Prod.snd y2)))))))))))))))) := by kernel_rfl
noncomputable def C65 (N : Nat) : Callee := mkCallee A65 R65 (F65 N)
theorem S65 (N : Nat) : Cok 65 (C65 N) := cok_of (l := (E65 N).calls) (O := O65 N) (cok_cons (S74 N) (cok_cons (S63 N) (cok_cons (S75 N) (cok_cons (S92 N) (cok_cons (S93 N) cok_nil))))) rfl Tryd.func65 rfl (by kernel_rfl) (by kernel_rfl)

-- function 117
def A117 : Cods (Int) := (codsOne (codInt .i64))
def R117 : Cod (Bool) := codBool
noncomputable def E117 (N : Nat) : Env := ⟨Tryd.prog, []⟩
def O117 (N : Nat) : Opts := ⟨N, [], []⟩
noncomputable def F117 (N : Nat) (a : Int) : Option (Bool) := aTyped (E117 N) (O117 N) Tryd.f117 A117 R117 a
theorem F117_eq (N : Nat) (a0 : Int) : F117 N a0 =
    aIf (Int.tmod a0 (4 : Int) == (0 : Int)) (aIf (Int.tmod a0 (100 : Int) != (0 : Int)) (some true) (some (Int.tmod a0 (400 : Int) == (0 : Int)))) (some false) := by kernel_rfl
noncomputable def C117 (N : Nat) : Callee := mkCallee A117 R117 (F117 N)
theorem S117 (N : Nat) : Cok 117 (C117 N) := cok_of (l := (E117 N).calls) (O := O117 N) cok_nil rfl Tryd.func117 rfl (by kernel_rfl) (by kernel_rfl)

-- function 101
def A101 : Cods ((Int) × Int) := (codsCons (codInt .i64) (codsOne (codInt .i64)))
def R101 : Cod (Int) := (codInt .i64)
noncomputable def E101 (N : Nat) : Env := ⟨Tryd.prog, [(117, C117 N)]⟩
def O101 (N : Nat) : Opts := ⟨N, [], []⟩
noncomputable def F101 (N : Nat) (a : (Int) × Int) : Option (Int) := aTyped (E101 N) (O101 N) Tryd.f101 A101 R101 a
theorem F101_eq (N : Nat) (a0 : Int) (a1 : Int) : F101 N (a0, a1) =
    aGd (decide ((0 : Nat) + (13 : Nat) ≤ (13 : Nat)))
  (aIf (decide (a1 < (1 : Int))) (some (0 : Int))
    (aIf (decide ((12 : Int) < a1)) (some (0 : Int))
      (aIf (a1 == (2 : Int))
        (onSome (F117 N a0) fun y0 =>
          aIf y0 (some (29 : Int))
            (aGd (decide ((0 : Int) ≤ a1))
              (aGd (decide (a1 < (13 : Int)))
                (onSome
                  [PV.int IntKind.i64 (0 : Int), PV.int IntKind.i64 (31 : Int), PV.int IntKind.i64 (28 : Int), PV.int IntKind.i64 (31 : Int), PV.int IntKind.i64 (30 : Int),
                      PV.int IntKind.i64 (31 : Int), PV.int IntKind.i64 (30 : Int), PV.int IntKind.i64 (31 : Int), PV.int IntKind.i64 (31 : Int), PV.int IntKind.i64 (30 : Int),
                      PV.int IntKind.i64 (31 : Int), PV.int IntKind.i64 (30 : Int), PV.int IntKind.i64 (31 : Int)][(0 : Nat) + Int.toNat a1 * (1 : Nat)]?
                  fun y1 => onInt IntKind.i64 y1 fun n2 => some n2))))
        (aGd (decide ((0 : Int) ≤ a1))
          (aGd (decide (a1 < (13 : Int)))
            (onSome
              [PV.int IntKind.i64 (0 : Int), PV.int IntKind.i64 (31 : Int), PV.int IntKind.i64 (28 : Int), PV.int IntKind.i64 (31 : Int), PV.int IntKind.i64 (30 : Int),
                  PV.int IntKind.i64 (31 : Int), PV.int IntKind.i64 (30 : Int), PV.int IntKind.i64 (31 : Int), PV.int IntKind.i64 (31 : Int), PV.int IntKind.i64 (30 : Int),
                  PV.int IntKind.i64 (31 : Int), PV.int IntKind.i64 (30 : Int), PV.int IntKind.i64 (31 : Int)][(0 : Nat) + Int.toNat a1 * (1 : Nat)]?
              fun y3 => onInt IntKind.i64 y3 fun n4 => some n4)))))) := by kernel_rfl
noncomputable def C101 (N : Nat) : Callee := mkCallee A101 R101 (F101 N)
theorem S101 (N : Nat) : Cok 101 (C101 N) := cok_of (l := (E101 N).calls) (O := O101 N) (cok_cons (S117 N) cok_nil) rfl Tryd.func101 rfl (by kernel_rfl) (by kernel_rfl)

-- function 100
def A100 : Cods (Int) := (codsOne (codInt .i64))
def R100 : Cod (Int) := (codInt .i64)
noncomputable def E100 (N : Nat) : Env := ⟨Tryd.prog, [(117, C117 N)]⟩
def O100 (N : Nat) : Opts := ⟨N, [], []⟩
noncomputable def F100 (N : Nat) (a : Int) : Option (Int) := aTyped (E100 N) (O100 N) Tryd.f100 A100 R100 a
theorem F100_eq (N : Nat) (a0 : Int) : F100 N a0 =
    onSome (F117 N a0) fun y0 => aIf y0 (some (366 : Int)) (some (365 : Int)) := by kernel_rfl
noncomputable def C100 (N : Nat) : Callee := mkCallee A100 R100 (F100 N)
theorem S100 (N : Nat) : Cok 100 (C100 N) := cok_of (l := (E100 N).calls) (O := O100 N) (cok_cons (S117 N) cok_nil) rfl Tryd.func100 rfl (by kernel_rfl) (by kernel_rfl)

-- function 106
def A106 : Cods ((Int) × (Int) × Int) := (codsCons (codInt .i64) (codsCons (codInt .i64) (codsOne (codInt .i64))))
def R106 : Cod ((Int) × Int) := (codTup (codsCons (codInt .i64) (codsOne (codInt .i64))))
noncomputable def E106 (N : Nat) : Env := ⟨Tryd.prog, [(101, C101 N), (100, C100 N)]⟩
def O106 (N : Nat) : Opts := ⟨N, [(5, ⟨[32, 8, 0, 1, 31], [], [], 0⟩), (10, ⟨[43, 0, 8, 42], [], [], 0⟩)], []⟩
noncomputable def F106 (N : Nat) (a : (Int) × (Int) × Int) : Option ((Int) × Int) := aTyped (E106 N) (O106 N) Tryd.f106 A106 R106 a
noncomputable def L106_5 (N : Nat) (n : Nat) (x0 : Int) (x1 : Int) (x2 : Int) (x3 : Int) (x4 : Int) : Option (Int × Int) :=
  atLoop (E106 N) (O106 N) Tryd.f106 [(1 : Nat), (1 : Nat), (1 : Nat), (0 : Nat), (1 : Nat), (0 : Nat)] [] n
  {
    tmps :=
      [AV.p (PV.int IntKind.i64 x0), AV.p (PV.int IntKind.i64 x1), AV.top, AV.top, AV.top, AV.top, AV.top, AV.top, AV.p (PV.int IntKind.i64 x2), AV.top, AV.top, AV.top, AV.top,
        AV.top, AV.top, AV.top, AV.top, AV.top, AV.top, AV.top, AV.top, AV.top, AV.top, AV.top, AV.top, AV.top, AV.top, AV.top, AV.top, AV.top, AV.top,
        AV.p (PV.int IntKind.i64 x3), AV.p (PV.int IntKind.i64 x4), AV.top, AV.top, AV.top, AV.top, AV.top, AV.top, AV.top, AV.top, AV.top, AV.top, AV.top, AV.top, AV.top, AV.top,
        AV.top, AV.top, AV.top, AV.top, AV.top, AV.top, AV.top],
    heap := [] }
  fun x => Cod.dec R106 x some
noncomputable def L106_10 (N : Nat) (n : Nat) (x0 : Int) (x1 : Int) (x2 : Int) (x3 : Int) : Option (Int × Int) :=
  atLoop (E106 N) (O106 N) Tryd.f106 [(1 : Nat), (1 : Nat), (1 : Nat), (1 : Nat), (0 : Nat), (1 : Nat), (0 : Nat)] [] n
  {
    tmps :=
      [AV.p (PV.int IntKind.i64 x0), AV.top, AV.top, AV.top, AV.top, AV.top, AV.top, AV.top, AV.p (PV.int IntKind.i64 x1), AV.top, AV.top, AV.top, AV.top, AV.top, AV.top, AV.top,
        AV.top, AV.top, AV.top, AV.top, AV.top, AV.top, AV.top, AV.top, AV.top, AV.top, AV.top, AV.top, AV.top, AV.top, AV.top, AV.top, AV.top, AV.top, AV.top, AV.top, AV.top,
        AV.top, AV.top, AV.top, AV.top, AV.top, AV.p (PV.int IntKind.i64 x2), AV.p (PV.int IntKind.i64 x3), AV.top, AV.top, AV.top, AV.top, AV.top, AV.top, AV.top, AV.top, AV.top,
        AV.top],
    heap := [] }
  fun x => Cod.dec R106 x some
theorem L106_5_eq (N : Nat) (n : Nat) (x0 : Int) (x1 : Int) (x2 : Int) (x3 : Int) (x4 : Int) : L106_5 N (n + 1) x0 x1 x2 x3 x4 =
    aIf (decide (x4 < x3))
  (onSome (F100 N (IntKind.wrap IntKind.i64 ((1900 : Int) + x4))) fun y1 => L106_5 N n x0 x1 (IntKind.wrap IntKind.i64 (x2 + y1)) x3 (IntKind.wrap IntKind.i64 (x4 + (1 : Int))))
  (L106_10 N N x0 x2 (IntKind.wrap IntKind.i64 (x1 - (1 : Int))) (0 : Int)) := by kernel_rfl
theorem L106_5_zero (N : Nat) (x0 : Int) (x1 : Int) (x2 : Int) (x3 : Int) (x4 : Int) : L106_5 N 0 x0 x1 x2 x3 x4 = none := by kernel_rfl
theorem L106_10_eq (N : Nat) (n : Nat) (x0 : Int) (x1 : Int) (x2 : Int) (x3 : Int) : L106_10 N (n + 1) x0 x1 x2 x3 =
    aIf (decide (x3 < x2))
  (onSome (F101 N (x0, IntKind.wrap IntKind.i64 (x3 + (1 : Int)))) fun y2 => L106_10 N n x0 (IntKind.wrap IntKind.i64 (x1 + y2)) x2 (IntKind.wrap IntKind.i64 (x3 + (1 : Int))))
  (some (x1, (0 : Int))) := by kernel_rfl
theorem L106_10_zero (N : Nat) (x0 : Int) (x1 : Int) (x2 : Int) (x3 : Int) : L106_10 N 0 x0 x1 x2 x3 = none := by kernel_rfl
theorem F106_eq (N : Nat) (a0 : Int) (a1 : Int) (a2 : Int) : F106 N (a0, a1, a2) =
    aIf (decide (a0 < (1900 : Int))) (some ((0 : Int), (3 : Int)))
  (aIf (decide ((2199 : Int) < a0)) (some ((0 : Int), (3 : Int)))
    (aIf (decide (a2 < (1 : Int))) (some ((0 : Int), (3 : Int)))
      (onSome (F101 N (a0, a1)) fun y0 =>
        aIf (decide (y0 < a2)) (some ((0 : Int), (3 : Int)))
          (L106_5 N N a0 a1 (IntKind.wrap IntKind.i64 (a2 - (1 : Int))) (IntKind.wrap IntKind.i64 (a0 - (1900 : Int))) (0 : Int))))) := by kernel_rfl
noncomputable def C106 (N : Nat) : Callee := mkCallee A106 R106 (F106 N)
theorem S106 (N : Nat) : Cok 106 (C106 N) := cok_of (l := (E106 N).calls) (O := O106 N) (cok_cons (S101 N) (cok_cons (S100 N) cok_nil)) rfl Tryd.func106 rfl (by kernel_rfl) (by kernel_rfl)

-- function 105
def A105 : Cods (List UInt8) := (codsOne codStr)
def R105 : Cod ((Int) × Bool) := (codTup (codsCons (codInt .i64) (codsOne codBool)))
noncomputable def E105 (N : Nat) : Env := ⟨Tryd.prog, []⟩
def O105 (N : Nat) : Opts := ⟨N, [(3, ⟨[8, 0, 4, 7], [], [], 0⟩)], []⟩
noncomputable def F105 (N : Nat) (a : List UInt8) : Option ((Int) × Bool) := aTyped (E105 N) (O105 N) Tryd.f105 A105 R105 a
noncomputable def L105_3 (N : Nat) (n : Nat) (x0 : List UInt8) (x1 : Int) (x2 : Int) (x3 : Int) : Option (Int × Bool) :=
  atLoop (E105 N) (O105 N) Tryd.f105 [(1 : Nat), (1 : Nat), (0 : Nat), (1 : Nat), (0 : Nat)] [] n
  {
    tmps :=
      [AV.p (PV.str x0), AV.top, AV.top, AV.top, AV.p (PV.int IntKind.i64 x1), AV.top, AV.top, AV.p (PV.int IntKind.i64 x2), AV.p (PV.int IntKind.i64 x3), AV.top, AV.top, AV.top,
        AV.top, AV.top, AV.top, AV.top, AV.top, AV.top, AV.top, AV.top, AV.top, AV.top, AV.top, AV.top, AV.top, AV.top, AV.top, AV.top, AV.top, AV.top, AV.top],
    heap := [] }
  fun x => Cod.dec R105 x some
theorem L105_3_eq (N : Nat) (n : Nat) (x0 : List UInt8) (x1 : Int) (x2 : Int) (x3 : Int) : L105_3 N (n + 1) x0 x1 x2 x3 =
    aIf (decide (x3 < x2))
  (onGet x0 x3 fun z0 =>
    aIf (decide (Int.ofNat (UInt8.toNat z0) < (48 : Int))) (some ((0 : Int), false))
      (onGet x0 x3 fun z1 =>
        aIf (decide ((57 : Int) < Int.ofNat (UInt8.toNat z1))) (some ((0 : Int), false))
          (onGet x0 x3 fun z2 =>
            L105_3 N n x0
              (IntKind.wrap IntKind.i64 (IntKind.wrap IntKind.i64 ((10 : Int) * x1) + IntKind.wrap IntKind.i64 (IntKind.wrap IntKind.u8 (Int.ofNat (UInt8.toNat z2) - (48 : Int)))))
              x2 (IntKind.wrap IntKind.i64 (x3 + (1 : Int))))))
  (some (x1, true)) := by kernel_rfl
theorem L105_3_zero (N : Nat) (x0 : List UInt8) (x1 : Int) (x2 : Int) (x3 : Int) : L105_3 N 0 x0 x1 x2 x3 = none := by kernel_rfl
theorem F105_eq (N : Nat) (a0 : List UInt8) : F105 N a0 =
    L105_3 N N a0 (0 : Int) (Int.ofNat (List.length a0)) (0 : Int) := by kernel_rfl
noncomputable def C105 (N : Nat) : Callee := mkCallee A105 R105 (F105 N)
theorem S105 (N : Nat) : Cok 105 (C105 N) := cok_of (l := (E105 N).calls) (O := O105 N) cok_nil rfl Tryd.func105 rfl (by kernel_rfl) (by kernel_rfl)

-- function 80
def A80 : Cods (List UInt8) := (codsOne codStr)
def R80 : Cod ((Int) × Int) := (codTup (codsCons (codInt .i64) (codsOne (codInt .i64))))
noncomputable def E80 (N : Nat) : Env := ⟨Tryd.prog, [(105, C105 N), (106, C106 N)]⟩
def O80 (N : Nat) : Opts := ⟨N, [], []⟩
noncomputable def F80 (N : Nat) (a : List UInt8) : Option ((Int) × Int) := aTyped (E80 N) (O80 N) Tryd.f80 A80 R80 a
theorem F80_eq (N : Nat) (a0 : List UInt8) : F80 N a0 =
    aIf (Int.ofNat (List.length a0) != (10 : Int)) (some ((0 : Int), (2 : Int)))
  (onGet a0 (4 : Int) fun z0 =>
    aIf (Int.ofNat (UInt8.toNat z0) != (45 : Int)) (some ((0 : Int), (2 : Int)))
      (onGet a0 (7 : Int) fun z1 =>
        aIf (Int.ofNat (UInt8.toNat z1) != (45 : Int)) (some ((0 : Int), (2 : Int)))
          (aGd (decide ((4 : Int) ≤ Int.ofNat (List.length a0)))
            (onSome (F105 N (List.drop (0 : Nat) (List.take (4 : Nat) a0))) fun y2 =>
              aGd (decide ((7 : Int) ≤ Int.ofNat (List.length a0)))
                (onSome (F105 N (List.drop (5 : Nat) (List.take (7 : Nat) a0))) fun y3 =>
                  aGd (decide ((8 : Int) ≤ Int.ofNat (List.length a0)))
                    (onSome (F105 N (List.drop (8 : Nat) (List.take (List.length a0) a0))) fun y4 =>
                      aIf (!Prod.snd y2) (some ((0 : Int), (2 : Int)))
                        (aIf (!Prod.snd y3) (some ((0 : Int), (2 : Int)))
                          (aIf (!Prod.snd y4) (some ((0 : Int), (2 : Int)))
                            (onSome (F106 N (Prod.fst y2, Prod.fst y3, Prod.fst y4)) fun y5 => some (Prod.fst y5, Prod.snd y5)))))))))) := by kernel_rfl
noncomputable def C80 (N : Nat) : Callee := mkCallee A80 R80 (F80 N)
theorem S80 (N : Nat) : Cok 80 (C80 N) := cok_of (l := (E80 N).calls) (O := O80 N) (cok_cons (S105 N) (cok_cons (S106 N) cok_nil)) rfl Tryd.func80 rfl (by kernel_rfl) (by kernel_rfl)

-- function 70
def A70 : Cods (Int) := (codsOne (codInt .i64))
def R70 : Cod (Bool) := codBool
noncomputable def E70 (N : Nat) : Env := ⟨Tryd.prog, []⟩
def O70 (N : Nat) : Opts := ⟨N, [], []⟩
noncomputable def F70 (N : Nat) (a : Int) : Option (Bool) := aTyped (E70 N) (O70 N) Tryd.f70 A70 R70 a
theorem F70_eq (N : Nat) (a0 : Int) : F70 N a0 =
    aIf (decide ((0 : Int) ≤ a0)) (some (decide (a0 ≤ (109572 : Int)))) (some false) := by kernel_rfl
noncomputable def C70 (N : Nat) : Callee := mkCallee A70 R70 (F70 N)
theorem S70 (N : Nat) : Cok 70 (C70 N) := cok_of (l := (E70 N).calls) (O := O70 N) cok_nil rfl Tryd.func70 rfl (by kernel_rfl) (by kernel_rfl)

-- function 71
def A71 : Cods (Int) := (codsOne (codInt .i64))
def R71 : Cod ((Int) × (Int) × Int) := (codTup (codsCons (codInt .i64) (codsCons (codInt .i64) (codsOne (codInt .i64)))))
noncomputable def E71 (N : Nat) : Env := ⟨Tryd.prog, [(70, C70 N), (100, C100 N), (101, C101 N)]⟩
def O71 (N : Nat) : Opts := ⟨N, [(4, ⟨[5, 0, 6], [], [], 0⟩), (7, ⟨[6, 5, 0], [], [], 0⟩)], []⟩
noncomputable def F71 (N : Nat) (a : Int) : Option ((Int) × (Int) × Int) := aTyped (E71 N) (O71 N) Tryd.f71 A71 R71 a
noncomputable def L71_4 (N : Nat) (n : Nat) (x0 : Int) (x1 : Int) (x2 : Int) : Option (Int × Int × Int) :=
  atLoop (E71 N) (O71 N) Tryd.f71 [(1 : Nat), (1 : Nat), (1 : Nat), (0 : Nat), (0 : Nat)] [] n
  {
    tmps :=
      [AV.p (PV.int IntKind.i64 x0), AV.top, AV.top, AV.top, AV.top, AV.p (PV.int IntKind.i64 x1), AV.p (PV.int IntKind.i64 x2), AV.top, AV.top, AV.top, AV.top, AV.top, AV.top,
        AV.top, AV.top, AV.top, AV.top, AV.top, AV.top, AV.top, AV.top, AV.top, AV.top, AV.top, AV.top, AV.top, AV.top, AV.top, AV.top, AV.top, AV.top, AV.top, AV.top, AV.top,
        AV.top, AV.top],
    heap := [] }
  fun x => Cod.dec R71 x some
noncomputable def L71_7 (N : Nat) (n : Nat) (x0 : Int) (x1 : Int) (x2 : Int) : Option (Int × Int × Int) :=
  atLoop (E71 N) (O71 N) Tryd.f71 [(1 : Nat), (1 : Nat), (1 : Nat), (1 : Nat), (0 : Nat), (0 : Nat)] [] n
  {
    tmps :=
      [AV.p (PV.int IntKind.i64 x0), AV.top, AV.top, AV.top, AV.top, AV.p (PV.int IntKind.i64 x1), AV.p (PV.int IntKind.i64 x2), AV.top, AV.top, AV.top, AV.top, AV.top, AV.top,
        AV.top, AV.top, AV.top, AV.top, AV.top, AV.top, AV.top, AV.top, AV.top, AV.top, AV.top, AV.top, AV.top, AV.top, AV.top, AV.top, AV.top, AV.top, AV.top, AV.top, AV.top,
        AV.top, AV.top],
    heap := [] }
  fun x => Cod.dec R71 x some
theorem L71_4_eq (N : Nat) (n : Nat) (x0 : Int) (x1 : Int) (x2 : Int) : L71_4 N (n + 1) x0 x1 x2 =
    onSome (F100 N x1) fun y1 =>
  aIf (decide (y1 ≤ x0)) (onSome (F100 N x1) fun y2 => L71_4 N n (IntKind.wrap IntKind.i64 (x0 - y2)) (IntKind.wrap IntKind.i64 (x1 + (1 : Int))) x2) (L71_7 N N x0 x1 x2) := by kernel_rfl
theorem L71_4_zero (N : Nat) (x0 : Int) (x1 : Int) (x2 : Int) : L71_4 N 0 x0 x1 x2 = none := by kernel_rfl
theorem L71_7_eq (N : Nat) (n : Nat) (x0 : Int) (x1 : Int) (x2 : Int) : L71_7 N (n + 1) x0 x1 x2 =
    onSome (F101 N (x1, x2)) fun y3 =>
  aIf (decide (y3 ≤ x0)) (onSome (F101 N (x1, x2)) fun y4 => L71_7 N n (IntKind.wrap IntKind.i64 (x0 - y4)) x1 (IntKind.wrap IntKind.i64 (x2 + (1 : Int))))
    (some (x1, x2, IntKind.wrap IntKind.i64 (x0 + (1 : Int)))) := by kernel_rfl
theorem L71_7_zero (N : Nat) (x0 : Int) (x1 : Int) (x2 : Int) : L71_7 N 0 x0 x1 x2 = none := by kernel_rfl
theorem F71_eq (N : Nat) (a0 : Int) : F71 N a0 =
    onSome (F70 N a0) fun y0 => aIf (!y0) (some ((0 : Int), (0 : Int), (0 : Int))) (L71_4 N N a0 (1900 : Int) (1 : Int)) := by kernel_rfl
noncomputable def C71 (N : Nat) : Callee := mkCallee A71 R71 (F71 N)
theorem S71 (N : Nat) : Cok 71 (C71 N) := cok_of (l := (E71 N).calls) (O := O71 N) (cok_cons (S70 N) (cok_cons (S100 N) (cok_cons (S101 N) cok_nil))) rfl Tryd.func71 rfl (by kernel_rfl) (by kernel_rfl)

-- function 72
def A72 : Cods ((Int) × Int) := (codsCons (codInt .i64) (codsOne (codInt .i64)))
def R72 : Cod (List UInt8) := codStr
noncomputable def E72 (N : Nat) : Env := ⟨Tryd.prog, [(39, C39 N), (69, C69 N)]⟩
def O72 (N : Nat) : Opts := ⟨N, [], []⟩
noncomputable def F72 (N : Nat) (a : (Int) × Int) : Option (List UInt8) := aTyped (E72 N) (O72 N) Tryd.f72 A72 R72 a
theorem F72_eq (N : Nat) (a0 : Int) (a1 : Int) : F72 N (a0, a1) =
    onSome (F39 N a0) fun y0 =>
  onSome (F69 N ([(48 : UInt8)], max (0 : Int) (IntKind.wrap IntKind.i64 (a1 - Int.ofNat (List.length y0))))) fun y1 =>
    aGd (decide (List.length y1 + List.length y0 ≤ (9223372036854775807 : Nat))) (some (y1 ++ y0)) := by kernel_rfl
noncomputable def C72 (N : Nat) : Callee := mkCallee A72 R72 (F72 N)
theorem S72 (N : Nat) : Cok 72 (C72 N) := cok_of (l := (E72 N).calls) (O := O72 N) (cok_cons (S39 N) (cok_cons (S69 N) cok_nil)) rfl Tryd.func72 rfl (by kernel_rfl) (by kernel_rfl)

-- function 41
def A41 : Cods (Int) := (codsOne (codInt .i64))
def R41 : Cod (List UInt8) := codStr
noncomputable def E41 (N : Nat) : Env := ⟨Tryd.prog, [(70, C70 N), (71, C71 N), (72, C72 N)]⟩
def O41 (N : Nat) : Opts := ⟨N, [], []⟩
noncomputable def F41 (N : Nat) (a : Int) : Option (List UInt8) := aTyped (E41 N) (O41 N) Tryd.f41 A41 R41 a
theorem F41_eq (N : Nat) (a0 : Int) : F41 N a0 =
    onSome (F70 N a0) fun y0 =>
  aIf (!y0) (some [])
    (onSome (F71 N a0) fun y1 =>
      onSome (F72 N (Prod.fst y1, (4 : Int))) fun y2 =>
        aGd (decide (List.length y2 + (1 : Nat) ≤ (9223372036854775807 : Nat)))
          (onSome (F72 N (Prod.fst (Prod.snd y1), (2 : Int))) fun y3 =>
            aGd (decide (List.length (y2 ++ [(45 : UInt8)]) + List.length y3 ≤ (9223372036854775807 : Nat)))
              (aGd (decide (List.length (y2 ++ [(45 : UInt8)] ++ y3) + (1 : Nat) ≤ (9223372036854775807 : Nat)))
                (onSome (F72 N (Prod.snd (Prod.snd y1), (2 : Int))) fun y4 =>
                  aGd (decide (List.length (y2 ++ [(45 : UInt8)] ++ y3 ++ [(45 : UInt8)]) + List.length y4 ≤ (9223372036854775807 : Nat)))
                    (some (y2 ++ [(45 : UInt8)] ++ y3 ++ [(45 : UInt8)] ++ y4)))))) := by kernel_rfl
noncomputable def C41 (N : Nat) : Callee := mkCallee A41 R41 (F41 N)
theorem S41 (N : Nat) : Cok 41 (C41 N) := cok_of (l := (E41 N).calls) (O := O41 N) (cok_cons (S70 N) (cok_cons (S71 N) (cok_cons (S72 N) cok_nil))) rfl Tryd.func41 rfl (by kernel_rfl) (by kernel_rfl)

-- function 118
def A118 : Cods (Int) := (codsOne (codInt .i64))
def R118 : Cod (Bool) := codBool
noncomputable def E118 (N : Nat) : Env := ⟨Tryd.prog, []⟩
def O118 (N : Nat) : Opts := ⟨N, [], []⟩
noncomputable def F118 (N : Nat) (a : Int) : Option (Bool) := aTyped (E118 N) (O118 N) Tryd.f118 A118 R118 a
theorem F118_eq (N : Nat) (a0 : Int) : F118 N a0 =
    aIf (Int.tmod a0 (4 : Int) == (0 : Int)) (aIf (Int.tmod a0 (100 : Int) != (0 : Int)) (some true) (some (Int.tmod a0 (400 : Int) == (0 : Int)))) (some false) := by kernel_rfl
noncomputable def C118 (N : Nat) : Callee := mkCallee A118 R118 (F118 N)
theorem S118 (N : Nat) : Cok 118 (C118 N) := cok_of (l := (E118 N).calls) (O := O118 N) cok_nil rfl Tryd.func118 rfl (by kernel_rfl) (by kernel_rfl)

-- function 103
def A103 : Cods ((Int) × Int) := (codsCons (codInt .i64) (codsOne (codInt .i64)))
def R103 : Cod (Int) := (codInt .i64)
noncomputable def E103 (N : Nat) : Env := ⟨Tryd.prog, [(118, C118 N)]⟩
def O103 (N : Nat) : Opts := ⟨N, [], []⟩
noncomputable def F103 (N : Nat) (a : (Int) × Int) : Option (Int) := aTyped (E103 N) (O103 N) Tryd.f103 A103 R103 a
theorem F103_eq (N : Nat) (a0 : Int) (a1 : Int) : F103 N (a0, a1) =
    aIf (a1 == (2 : Int)) (onSome (F118 N a0) fun y0 => aIf y0 (some (29 : Int)) (some (28 : Int)))
  (aIf (a1 == (4 : Int))
    (aIf (a1 == (4 : Int)) (some (30 : Int))
      (aIf (a1 == (1 : Int)) (aIf (a1 == (1 : Int)) (some (31 : Int)) (some (0 : Int)))
        (aIf (a1 == (3 : Int)) (aIf (a1 == (3 : Int)) (some (31 : Int)) (some (0 : Int)))
          (aIf (a1 == (5 : Int)) (aIf (a1 == (5 : Int)) (some (31 : Int)) (some (0 : Int)))
            (aIf (a1 == (7 : Int)) (aIf (a1 == (7 : Int)) (some (31 : Int)) (some (0 : Int)))
              (aIf (a1 == (8 : Int)) (aIf (a1 == (8 : Int)) (some (31 : Int)) (some (0 : Int)))
                (aIf (a1 == (10 : Int)) (aIf (a1 == (10 : Int)) (some (31 : Int)) (some (0 : Int))) (aIf (a1 == (12 : Int)) (some (31 : Int)) (some (0 : Int))))))))))
    (aIf (a1 == (6 : Int))
      (aIf (a1 == (6 : Int)) (some (30 : Int))
        (aIf (a1 == (1 : Int)) (aIf (a1 == (1 : Int)) (some (31 : Int)) (some (0 : Int)))
          (aIf (a1 == (3 : Int)) (aIf (a1 == (3 : Int)) (some (31 : Int)) (some (0 : Int)))
            (aIf (a1 == (5 : Int)) (aIf (a1 == (5 : Int)) (some (31 : Int)) (some (0 : Int)))
              (aIf (a1 == (7 : Int)) (aIf (a1 == (7 : Int)) (some (31 : Int)) (some (0 : Int)))
                (aIf (a1 == (8 : Int)) (aIf (a1 == (8 : Int)) (some (31 : Int)) (some (0 : Int)))
                  (aIf (a1 == (10 : Int)) (aIf (a1 == (10 : Int)) (some (31 : Int)) (some (0 : Int))) (aIf (a1 == (12 : Int)) (some (31 : Int)) (some (0 : Int))))))))))
      (aIf (a1 == (9 : Int))
        (aIf (a1 == (9 : Int)) (some (30 : Int))
          (aIf (a1 == (1 : Int)) (aIf (a1 == (1 : Int)) (some (31 : Int)) (some (0 : Int)))
            (aIf (a1 == (3 : Int)) (aIf (a1 == (3 : Int)) (some (31 : Int)) (some (0 : Int)))
              (aIf (a1 == (5 : Int)) (aIf (a1 == (5 : Int)) (some (31 : Int)) (some (0 : Int)))
                (aIf (a1 == (7 : Int)) (aIf (a1 == (7 : Int)) (some (31 : Int)) (some (0 : Int)))
                  (aIf (a1 == (8 : Int)) (aIf (a1 == (8 : Int)) (some (31 : Int)) (some (0 : Int)))
                    (aIf (a1 == (10 : Int)) (aIf (a1 == (10 : Int)) (some (31 : Int)) (some (0 : Int))) (aIf (a1 == (12 : Int)) (some (31 : Int)) (some (0 : Int))))))))))
        (aIf (a1 == (11 : Int)) (some (30 : Int))
          (aIf (a1 == (1 : Int)) (aIf (a1 == (1 : Int)) (some (31 : Int)) (some (0 : Int)))
            (aIf (a1 == (3 : Int)) (aIf (a1 == (3 : Int)) (some (31 : Int)) (some (0 : Int)))
              (aIf (a1 == (5 : Int)) (aIf (a1 == (5 : Int)) (some (31 : Int)) (some (0 : Int)))
                (aIf (a1 == (7 : Int)) (aIf (a1 == (7 : Int)) (some (31 : Int)) (some (0 : Int)))
                  (aIf (a1 == (8 : Int)) (aIf (a1 == (8 : Int)) (some (31 : Int)) (some (0 : Int)))
                    (aIf (a1 == (10 : Int)) (aIf (a1 == (10 : Int)) (some (31 : Int)) (some (0 : Int))) (aIf (a1 == (12 : Int)) (some (31 : Int)) (some (0 : Int))))))))))))) := by kernel_rfl
noncomputable def C103 (N : Nat) : Callee := mkCallee A103 R103 (F103 N)
theorem S103 (N : Nat) : Cok 103 (C103 N) := cok_of (l := (E103 N).calls) (O := O103 N) (cok_cons (S118 N) cok_nil) rfl Tryd.func103 rfl (by kernel_rfl) (by kernel_rfl)

-- function 102
def A102 : Cods (Int) := (codsOne (codInt .i64))
def R102 : Cod (Int) := (codInt .i64)
noncomputable def E102 (N : Nat) : Env := ⟨Tryd.prog, [(118, C118 N)]⟩
def O102 (N : Nat) : Opts := ⟨N, [], []⟩
noncomputable def F102 (N : Nat) (a : Int) : Option (Int) := aTyped (E102 N) (O102 N) Tryd.f102 A102 R102 a
theorem F102_eq (N : Nat) (a0 : Int) : F102 N a0 =
    onSome (F118 N a0) fun y0 => aIf y0 (some (366 : Int)) (some (365 : Int)) := by kernel_rfl
noncomputable def C102 (N : Nat) : Callee := mkCallee A102 R102 (F102 N)
theorem S102 (N : Nat) : Cok 102 (C102 N) := cok_of (l := (E102 N).calls) (O := O102 N) (cok_cons (S118 N) cok_nil) rfl Tryd.func102 rfl (by kernel_rfl) (by kernel_rfl)

-- function 107
def A107 : Cods ((Int) × (Int) × Int) := (codsCons (codInt .i64) (codsCons (codInt .i64) (codsOne (codInt .i64))))
def R107 : Cod ((Int) × Int) := (codTup (codsCons (codInt .i64) (codsOne (codInt .i64))))
noncomputable def E107 (N : Nat) : Env := ⟨Tryd.prog, [(103, C103 N), (102, C102 N)]⟩
def O107 (N : Nat) : Opts := ⟨N, [(5, ⟨[9, 8, 0, 1], [], [], 0⟩), (9, ⟨[10, 0, 8, 1], [], [], 0⟩)], []⟩
noncomputable def F107 (N : Nat) (a : (Int) × (Int) × Int) : Option ((Int) × Int) := aTyped (E107 N) (O107 N) Tryd.f107 A107 R107 a
noncomputable def L107_5 (N : Nat) (n : Nat) (x0 : Int) (x1 : Int) (x2 : Int) (x3 : Int) : Option (Int × Int) :=
  atLoop (E107 N) (O107 N) Tryd.f107 [(1 : Nat), (1 : Nat), (1 : Nat), (0 : Nat), (1 : Nat), (0 : Nat)] [] n
  {
    tmps :=
      [AV.p (PV.int IntKind.i64 x0), AV.p (PV.int IntKind.i64 x1), AV.top, AV.top, AV.top, AV.top, AV.top, AV.top, AV.p (PV.int IntKind.i64 x2), AV.p (PV.int IntKind.i64 x3),
        AV.top, AV.top, AV.top, AV.top, AV.top, AV.top, AV.top, AV.top, AV.top, AV.top, AV.top, AV.top, AV.top, AV.top, AV.top, AV.top, AV.top, AV.top, AV.top, AV.top, AV.top,
        AV.top, AV.top, AV.top, AV.top, AV.top, AV.top, AV.top, AV.top, AV.top, AV.top, AV.top, AV.top, AV.top, AV.top, AV.top, AV.top, AV.top, AV.top, AV.top],
    heap := [] }
  fun x => Cod.dec R107 x some
noncomputable def L107_9 (N : Nat) (n : Nat) (x0 : Int) (x1 : Int) (x2 : Int) (x3 : Int) : Option (Int × Int) :=
  atLoop (E107 N) (O107 N) Tryd.f107 [(1 : Nat), (1 : Nat), (1 : Nat), (1 : Nat), (0 : Nat), (1 : Nat), (0 : Nat)] [] n
  {
    tmps :=
      [AV.p (PV.int IntKind.i64 x0), AV.p (PV.int IntKind.i64 x1), AV.top, AV.top, AV.top, AV.top, AV.top, AV.top, AV.p (PV.int IntKind.i64 x2), AV.top,
        AV.p (PV.int IntKind.i64 x3), AV.top, AV.top, AV.top, AV.top, AV.top, AV.top, AV.top, AV.top, AV.top, AV.top, AV.top, AV.top, AV.top, AV.top, AV.top, AV.top, AV.top,
        AV.top, AV.top, AV.top, AV.top, AV.top, AV.top, AV.top, AV.top, AV.top, AV.top, AV.top, AV.top, AV.top, AV.top, AV.top, AV.top, AV.top, AV.top, AV.top, AV.top, AV.top,
        AV.top],
    heap := [] }
  fun x => Cod.dec R107 x some
theorem L107_5_eq (N : Nat) (n : Nat) (x0 : Int) (x1 : Int) (x2 : Int) (x3 : Int) : L107_5 N (n + 1) x0 x1 x2 x3 =
    aIf (decide (x3 < x0)) (onSome (F102 N x3) fun y1 => L107_5 N n x0 x1 (IntKind.wrap IntKind.i64 (x2 + y1)) (IntKind.wrap IntKind.i64 (x3 + (1 : Int))))
  (L107_9 N N x0 x1 x2 (1 : Int)) := by kernel_rfl
theorem L107_5_zero (N : Nat) (x0 : Int) (x1 : Int) (x2 : Int) (x3 : Int) : L107_5 N 0 x0 x1 x2 x3 = none := by kernel_rfl
theorem L107_9_eq (N : Nat) (n : Nat) (x0 : Int) (x1 : Int) (x2 : Int) (x3 : Int) : L107_9 N (n + 1) x0 x1 x2 x3 =
    aIf (decide (x3 < x1)) (onSome (F103 N (x0, x3)) fun y2 => L107_9 N n x0 x1 (IntKind.wrap IntKind.i64 (x2 + y2)) (IntKind.wrap IntKind.i64 (x3 + (1 : Int)))) (some (x2, (0 : Int))) := by kernel_rfl
theorem L107_9_zero (N : Nat) (x0 : Int) (x1 : Int) (x2 : Int) (x3 : Int) : L107_9 N 0 x0 x1 x2 x3 = none := by kernel_rfl
theorem F107_eq (N : Nat) (a0 : Int) (a1 : Int) (a2 : Int) : F107 N (a0, a1, a2) =
    aIf (decide (a0 < (1900 : Int))) (some ((0 : Int), (3 : Int)))
  (aIf (decide ((2199 : Int) < a0)) (some ((0 : Int), (3 : Int)))
    (aIf (decide (a2 < (1 : Int))) (some ((0 : Int), (3 : Int)))
      (onSome (F103 N (a0, a1)) fun y0 => aIf (decide (y0 < a2)) (some ((0 : Int), (3 : Int))) (L107_5 N N a0 a1 (IntKind.wrap IntKind.i64 (a2 - (1 : Int))) (1900 : Int))))) := by kernel_rfl
noncomputable def C107 (N : Nat) : Callee := mkCallee A107 R107 (F107 N)
theorem S107 (N : Nat) : Cok 107 (C107 N) := cok_of (l := (E107 N).calls) (O := O107 N) (cok_cons (S103 N) (cok_cons (S102 N) cok_nil)) rfl Tryd.func107 rfl (by kernel_rfl) (by kernel_rfl)

-- function 94
def A94 : Cods (List UInt8) := (codsOne codStr)
def R94 : Cod (Int) := (codInt .i64)
noncomputable def E94 (N : Nat) : Env := ⟨Tryd.prog, []⟩
def O94 (N : Nat) : Opts := ⟨N, [(3, ⟨[4, 0, 3], [], [], 0⟩)], []⟩
noncomputable def F94 (N : Nat) (a : List UInt8) : Option (Int) := aTyped (E94 N) (O94 N) Tryd.f94 A94 R94 a
noncomputable def L94_3 (N : Nat) (n : Nat) (x0 : List UInt8) (x1 : Int) (x2 : Int) : Option Int :=
  atLoop (E94 N) (O94 N) Tryd.f94 [(1 : Nat), (1 : Nat), (0 : Nat), (1 : Nat), (0 : Nat)] [] n
  {
    tmps :=
      [AV.p (PV.str x0), AV.top, AV.top, AV.p (PV.int IntKind.i64 x1), AV.p (PV.int IntKind.i64 x2), AV.top, AV.top, AV.top, AV.top, AV.top, AV.top, AV.top, AV.top, AV.top, AV.top,
        AV.top, AV.top, AV.top, AV.top, AV.top, AV.top, AV.top, AV.top, AV.top, AV.top, AV.top, AV.top, AV.top, AV.top, AV.top],
    heap := [] }
  fun x => Cod.dec R94 x some
theorem L94_3_eq (N : Nat) (n : Nat) (x0 : List UInt8) (x1 : Int) (x2 : Int) : L94_3 N (n + 1) x0 x1 x2 =
    aIf (decide (x2 < Int.ofNat (List.length x0)))
  (onGet x0 x2 fun z0 =>
    aIf (decide (Int.ofNat (UInt8.toNat z0) < (48 : Int))) (some (-1 : Int))
      (onGet x0 x2 fun z1 =>
        aIf (decide ((57 : Int) < Int.ofNat (UInt8.toNat z1))) (some (-1 : Int))
          (onGet x0 x2 fun z2 =>
            L94_3 N n x0
              (IntKind.wrap IntKind.i64 (IntKind.wrap IntKind.i64 ((10 : Int) * x1) + IntKind.wrap IntKind.i64 (IntKind.wrap IntKind.u8 (Int.ofNat (UInt8.toNat z2) - (48 : Int)))))
              (IntKind.wrap IntKind.i64 (x2 + (1 : Int))))))
  (some x1) := by kernel_rfl
theorem L94_3_zero (N : Nat) (x0 : List UInt8) (x1 : Int) (x2 : Int) : L94_3 N 0 x0 x1 x2 = none := by kernel_rfl
theorem F94_eq (N : Nat) (a0 : List UInt8) : F94 N a0 =
    L94_3 N N a0 (0 : Int) (0 : Int) := by kernel_rfl
noncomputable def C94 (N : Nat) : Callee := mkCallee A94 R94 (F94 N)
theorem S94 (N : Nat) : Cok 94 (C94 N) := cok_of (l := (E94 N).calls) (O := O94 N) cok_nil rfl Tryd.func94 rfl (by kernel_rfl) (by kernel_rfl)

-- function 82
def A82 : Cods (List UInt8) := (codsOne codStr)
def R82 : Cod ((Int) × Int) := (codTup (codsCons (codInt .i64) (codsOne (codInt .i64))))
noncomputable def E82 (N : Nat) : Env := ⟨Tryd.prog, [(94, C94 N), (107, C107 N)]⟩
def O82 (N : Nat) : Opts := ⟨N, [], []⟩
noncomputable def F82 (N : Nat) (a : List UInt8) : Option ((Int) × Int) := aTyped (E82 N) (O82 N) Tryd.f82 A82 R82 a
theorem F82_eq (N : Nat) (a0 : List UInt8) : F82 N a0 =
    aIf (Int.ofNat (List.length a0) != (10 : Int)) (some ((0 : Int), (2 : Int)))
  (onGet a0 (4 : Int) fun z0 =>
    aIf (Int.ofNat (UInt8.toNat z0) != (45 : Int)) (some ((0 : Int), (2 : Int)))
      (onGet a0 (7 : Int) fun z1 =>
        aIf (Int.ofNat (UInt8.toNat z1) != (45 : Int)) (some ((0 : Int), (2 : Int)))
          (aGd (decide ((4 : Int) ≤ Int.ofNat (List.length a0)))
            (onSome (F94 N (List.drop (0 : Nat) (List.take (4 : Nat) a0))) fun y2 =>
              aIf (decide (y2 < (0 : Int))) (some ((0 : Int), (2 : Int)))
                (aGd (decide ((7 : Int) ≤ Int.ofNat (List.length a0)))
                  (onSome (F94 N (List.drop (5 : Nat) (List.take (7 : Nat) a0))) fun y3 =>
                    aIf (decide (y3 < (0 : Int))) (some ((0 : Int), (2 : Int)))
                      (aGd (decide ((8 : Int) ≤ Int.ofNat (List.length a0)))
                        (onSome (F94 N (List.drop (8 : Nat) (List.take (List.length a0) a0))) fun y4 =>
                          aIf (decide (y4 < (0 : Int))) (some ((0 : Int), (2 : Int)))
                            (aGd (decide ((4 : Int) ≤ Int.ofNat (List.length a0)))
                              (onSome (F94 N (List.drop (0 : Nat) (List.take (4 : Nat) a0))) fun y5 =>
                                aGd (decide ((7 : Int) ≤ Int.ofNat (List.length a0)))
                                  (onSome (F94 N (List.drop (5 : Nat) (List.take (7 : Nat) a0))) fun y6 =>
                                    aGd (decide ((8 : Int) ≤ Int.ofNat (List.length a0)))
                                      (onSome (F94 N (List.drop (8 : Nat) (List.take (List.length a0) a0))) fun y7 =>
                                        onSome (F107 N (y5, y6, y7)) fun y8 => some (Prod.fst y8, Prod.snd y8))))))))))))) := by kernel_rfl
noncomputable def C82 (N : Nat) : Callee := mkCallee A82 R82 (F82 N)
theorem S82 (N : Nat) : Cok 82 (C82 N) := cok_of (l := (E82 N).calls) (O := O82 N) (cok_cons (S94 N) (cok_cons (S107 N) cok_nil)) rfl Tryd.func82 rfl (by kernel_rfl) (by kernel_rfl)

-- function 76
def A76 : Cods (Int) := (codsOne (codInt .i64))
def R76 : Cod (Bool) := codBool
noncomputable def E76 (N : Nat) : Env := ⟨Tryd.prog, []⟩
def O76 (N : Nat) : Opts := ⟨N, [], []⟩
noncomputable def F76 (N : Nat) (a : Int) : Option (Bool) := aTyped (E76 N) (O76 N) Tryd.f76 A76 R76 a
theorem F76_eq (N : Nat) (a0 : Int) : F76 N a0 =
    aIf (decide ((0 : Int) ≤ a0)) (some (decide (a0 ≤ (109572 : Int)))) (some false) := by kernel_rfl
noncomputable def C76 (N : Nat) : Callee := mkCallee A76 R76 (F76 N)
theorem S76 (N : Nat) : Cok 76 (C76 N) := cok_of (l := (E76 N).calls) (O := O76 N) cok_nil rfl Tryd.func76 rfl (by kernel_rfl) (by kernel_rfl)

-- function 77
def A77 : Cods (Int) := (codsOne (codInt .i64))
def R77 : Cod ((Int) × (Int) × Int) := (codTup (codsCons (codInt .i64) (codsCons (codInt .i64) (codsOne (codInt .i64)))))
noncomputable def E77 (N : Nat) : Env := ⟨Tryd.prog, [(76, C76 N), (102, C102 N), (103, C103 N)]⟩
def O77 (N : Nat) : Opts := ⟨N, [(4, ⟨[5, 0, 6], [], [], 0⟩), (7, ⟨[6, 5, 0], [], [], 0⟩)], []⟩
noncomputable def F77 (N : Nat) (a : Int) : Option ((Int) × (Int) × Int) := aTyped (E77 N) (O77 N) Tryd.f77 A77 R77 a
noncomputable def L77_4 (N : Nat) (n : Nat) (x0 : Int) (x1 : Int) (x2 : Int) : Option (Int × Int × Int) :=
  atLoop (E77 N) (O77 N) Tryd.f77 [(1 : Nat), (1 : Nat), (1 : Nat), (0 : Nat), (0 : Nat)] [] n
  {
    tmps :=
      [AV.p (PV.int IntKind.i64 x0), AV.top, AV.top, AV.top, AV.top, AV.p (PV.int IntKind.i64 x1), AV.p (PV.int IntKind.i64 x2), AV.top, AV.top, AV.top, AV.top, AV.top, AV.top,
        AV.top, AV.top, AV.top, AV.top, AV.top, AV.top, AV.top, AV.top, AV.top, AV.top, AV.top, AV.top, AV.top, AV.top, AV.top, AV.top, AV.top, AV.top, AV.top, AV.top, AV.top,
        AV.top, AV.top],
    heap := [] }
  fun x => Cod.dec R77 x some
noncomputable def L77_7 (N : Nat) (n : Nat) (x0 : Int) (x1 : Int) (x2 : Int) : Option (Int × Int × Int) :=
  atLoop (E77 N) (O77 N) Tryd.f77 [(1 : Nat), (1 : Nat), (1 : Nat), (1 : Nat), (0 : Nat), (0 : Nat)] [] n
  {
    tmps :=
      [AV.p (PV.int IntKind.i64 x0), AV.top, AV.top, AV.top, AV.top, AV.p (PV.int IntKind.i64 x1), AV.p (PV.int IntKind.i64 x2), AV.top, AV.top, AV.top, AV.top, AV.top, AV.top,
        AV.top, AV.top, AV.top, AV.top, AV.top, AV.top, AV.top, AV.top, AV.top, AV.top, AV.top, AV.top, AV.top, AV.top, AV.top, AV.top, AV.top, AV.top, AV.top, AV.top, AV.top,
        AV.top, AV.top],
    heap := [] }
  fun x => Cod.dec R77 x some
theorem L77_4_eq (N : Nat) (n : Nat) (x0 : Int) (x1 : Int) (x2 : Int) : L77_4 N (n + 1) x0 x1 x2 =
    onSome (F102 N x1) fun y1 =>
  aIf (decide (y1 ≤ x0)) (onSome (F102 N x1) fun y2 => L77_4 N n (IntKind.wrap IntKind.i64 (x0 - y2)) (IntKind.wrap IntKind.i64 (x1 + (1 : Int))) x2) (L77_7 N N x0 x1 x2) := by kernel_rfl
theorem L77_4_zero (N : Nat) (x0 : Int) (x1 : Int) (x2 : Int) : L77_4 N 0 x0 x1 x2 = none := by kernel_rfl
theorem L77_7_eq (N : Nat) (n : Nat) (x0 : Int) (x1 : Int) (x2 : Int) : L77_7 N (n + 1) x0 x1 x2 =
    onSome (F103 N (x1, x2)) fun y3 =>
  aIf (decide (y3 ≤ x0)) (onSome (F103 N (x1, x2)) fun y4 => L77_7 N n (IntKind.wrap IntKind.i64 (x0 - y4)) x1 (IntKind.wrap IntKind.i64 (x2 + (1 : Int))))
    (some (x1, x2, IntKind.wrap IntKind.i64 (x0 + (1 : Int)))) := by kernel_rfl
theorem L77_7_zero (N : Nat) (x0 : Int) (x1 : Int) (x2 : Int) : L77_7 N 0 x0 x1 x2 = none := by kernel_rfl
theorem F77_eq (N : Nat) (a0 : Int) : F77 N a0 =
    onSome (F76 N a0) fun y0 => aIf (!y0) (some ((0 : Int), (0 : Int), (0 : Int))) (L77_4 N N a0 (1900 : Int) (1 : Int)) := by kernel_rfl
noncomputable def C77 (N : Nat) : Callee := mkCallee A77 R77 (F77 N)
theorem S77 (N : Nat) : Cok 77 (C77 N) := cok_of (l := (E77 N).calls) (O := O77 N) (cok_cons (S76 N) (cok_cons (S102 N) (cok_cons (S103 N) cok_nil))) rfl Tryd.func77 rfl (by kernel_rfl) (by kernel_rfl)

-- function 78
def A78 : Cods ((Int) × Int) := (codsCons (codInt .i64) (codsOne (codInt .i64)))
def R78 : Cod (List UInt8) := codStr
noncomputable def E78 (N : Nat) : Env := ⟨Tryd.prog, [(42, C42 N)]⟩
def O78 (N : Nat) : Opts := ⟨N, [(2, ⟨[5, 1], [], [], 0⟩)], []⟩
noncomputable def F78 (N : Nat) (a : (Int) × Int) : Option (List UInt8) := aTyped (E78 N) (O78 N) Tryd.f78 A78 R78 a
noncomputable def L78_2 (N : Nat) (n : Nat) (x0 : Int) (x1 : List UInt8) : Option (List UInt8) :=
  atLoop (E78 N) (O78 N) Tryd.f78 [(1 : Nat), (1 : Nat), (0 : Nat), (0 : Nat)] [] n
  { tmps := [AV.top, AV.p (PV.int IntKind.i64 x0), AV.top, AV.top, AV.top, AV.p (PV.str x1), AV.top, AV.top, AV.top, AV.top, AV.top, AV.top, AV.top, AV.top, AV.top], heap := [] }
  fun x => Cod.dec R78 x some
theorem L78_2_eq (N : Nat) (n : Nat) (x0 : Int) (x1 : List UInt8) : L78_2 N (n + 1) x0 x1 =
    aIf (decide (Int.ofNat (List.length x1) < x0)) (aGd (decide ((1 : Nat) + List.length x1 ≤ (9223372036854775807 : Nat))) (L78_2 N n x0 ((48 : UInt8) :: List.append [] x1)))
  (some x1) := by kernel_rfl
theorem L78_2_zero (N : Nat) (x0 : Int) (x1 : List UInt8) : L78_2 N 0 x0 x1 = none := by kernel_rfl
theorem F78_eq (N : Nat) (a0 : Int) (a1 : Int) : F78 N (a0, a1) =
    onSome (F42 N a0) fun y0 => L78_2 N N a1 y0 := by kernel_rfl
noncomputable def C78 (N : Nat) : Callee := mkCallee A78 R78 (F78 N)
theorem S78 (N : Nat) : Cok 78 (C78 N) := cok_of (l := (E78 N).calls) (O := O78 N) (cok_cons (S42 N) cok_nil) rfl Tryd.func78 rfl (by kernel_rfl) (by kernel_rfl)

-- function 44
def A44 : Cods (Int) := (codsOne (codInt .i64))
def R44 : Cod (List UInt8) := codStr
noncomputable def E44 (N : Nat) : Env := ⟨Tryd.prog, [(76, C76 N), (77, C77 N), (78, C78 N)]⟩
def O44 (N : Nat) : Opts := ⟨N, [], []⟩
noncomputable def F44 (N : Nat) (a : Int) : Option (List UInt8) := aTyped (E44 N) (O44 N) Tryd.f44 A44 R44 a
theorem F44_eq (N : Nat) (a0 : Int) : F44 N a0 =
    onSome (F76 N a0) fun y0 =>
  aIf (!y0) (some [])
    (onSome (F77 N a0) fun y1 =>
      onSome (F78 N (Prod.fst y1, (4 : Int))) fun y2 =>
        aGd (decide (List.length y2 + (1 : Nat) ≤ (9223372036854775807 : Nat)))
          (onSome (F78 N (Prod.fst (Prod.snd y1), (2 : Int))) fun y3 =>
            aGd (decide (List.length (y2 ++ [(45 : UInt8)]) + List.length y3 ≤ (9223372036854775807 : Nat)))
              (aGd (decide (List.length (y2 ++ [(45 : UInt8)] ++ y3) + (1 : Nat) ≤ (9223372036854775807 : Nat)))
                (onSome (F78 N (Prod.snd (Prod.snd y1), (2 : Int))) fun y4 =>
                  aGd (decide (List.length (y2 ++ [(45 : UInt8)] ++ y3 ++ [(45 : UInt8)]) + List.length y4 ≤ (9223372036854775807 : Nat)))
                    (some (y2 ++ [(45 : UInt8)] ++ y3 ++ [(45 : UInt8)] ++ y4)))))) := by kernel_rfl
noncomputable def C44 (N : Nat) : Callee := mkCallee A44 R44 (F44 N)
theorem S44 (N : Nat) : Cok 44 (C44 N) := cok_of (l := (E44 N).calls) (O := O44 N) (cok_cons (S76 N) (cok_cons (S77 N) (cok_cons (S78 N) cok_nil))) rfl Tryd.func44 rfl (by kernel_rfl) (by kernel_rfl)

-- function 38
def A38 : Cods ((Int) × (Int) × Int) := (codsOne (codAgg (codsCons (codInt .i64) (codsCons (codInt .i64) (codsOne (codInt .i64))))))
def R38 : Cod ((Int) × Int) := (codAgg (codsCons (codInt .i64) (codsOne (codInt .i64))))
noncomputable def E38 (N : Nat) : Env := ⟨Tryd.prog, []⟩
def O38 (N : Nat) : Opts := ⟨N, [], []⟩
noncomputable def F38 (N : Nat) (a : (Int) × (Int) × Int) : Option ((Int) × Int) := aTyped (E38 N) (O38 N) Tryd.f38 A38 R38 a
theorem F38_eq (N : Nat) (a0 : Int) (a1 : Int) (a2 : Int) : F38 N (a0, a1, a2) =
    aGd (decide ((0 : Nat) + (2 : Nat) ≤ (2 : Nat))) (some (a0, a1)) := by kernel_rfl
noncomputable def C38 (N : Nat) : Callee := mkCallee A38 R38 (F38 N)
theorem S38 (N : Nat) : Cok 38 (C38 N) := cok_of (l := (E38 N).calls) (O := O38 N) cok_nil rfl Tryd.func38 rfl (by kernel_rfl) (by kernel_rfl)

-- function 25
def A25 : Cods (((Int) × Int) × List PV) := (codsCons (codAgg (codsCons (codInt .i64) (codsOne (codInt .i64)))) (codsOne (codSl 2)))
def R25 : Cod (Bool) := codBool
noncomputable def E25 (N : Nat) : Env := ⟨Tryd.prog, []⟩
def O25 (N : Nat) : Opts := ⟨N, [], []⟩
noncomputable def F25 (N : Nat) (a : ((Int) × Int) × List PV) : Option (Bool) := aTyped (E25 N) (O25 N) Tryd.f25 A25 R25 a
theorem F25_eq (N : Nat) (a0 : Int × Int) (a1 : List PV) : F25 N (a0, a1) =
    aIf (Prod.fst a0 == (1 : Int))
  (aIf (Prod.fst a0 == (1 : Int)) (some (Prod.snd a0 == (0 : Int)))
    (aIf (Prod.fst a0 == (6 : Int)) (aIf (decide ((0 : Int) ≤ Prod.snd a0)) (some (decide (Prod.snd a0 < Int.ofNat (List.length a1)))) (some false)) (some false)))
  (aIf (Prod.fst a0 == (2 : Int))
    (aIf (Prod.fst a0 == (2 : Int)) (some (Prod.snd a0 == (0 : Int)))
      (aIf (Prod.fst a0 == (6 : Int)) (aIf (decide ((0 : Int) ≤ Prod.snd a0)) (some (decide (Prod.snd a0 < Int.ofNat (List.length a1)))) (some false)) (some false)))
    (aIf (Prod.fst a0 == (3 : Int))
      (aIf (Prod.fst a0 == (3 : Int)) (some (Prod.snd a0 == (0 : Int)))
        (aIf (Prod.fst a0 == (6 : Int)) (aIf (decide ((0 : Int) ≤ Prod.snd a0)) (some (decide (Prod.snd a0 < Int.ofNat (List.length a1)))) (some false)) (some false)))
      (aIf (Prod.fst a0 == (4 : Int))
        (aIf (Prod.fst a0 == (4 : Int)) (some (Prod.snd a0 == (0 : Int)))
          (aIf (Prod.fst a0 == (6 : Int)) (aIf (decide ((0 : Int) ≤ Prod.snd a0)) (some (decide (Prod.snd a0 < Int.ofNat (List.length a1)))) (some false)) (some false)))
        (aIf (Prod.fst a0 == (5 : Int)) (some (Prod.snd a0 == (0 : Int)))
          (aIf (Prod.fst a0 == (6 : Int)) (aIf (decide ((0 : Int) ≤ Prod.snd a0)) (some (decide (Prod.snd a0 < Int.ofNat (List.length a1)))) (some false)) (some false)))))) := by kernel_rfl
noncomputable def C25 (N : Nat) : Callee := mkCallee A25 R25 (F25 N)
theorem S25 (N : Nat) : Cok 25 (C25 N) := cok_of (l := (E25 N).calls) (O := O25 N) cok_nil rfl Tryd.func25 rfl (by kernel_rfl) (by kernel_rfl)

-- function 23
def A23 : Cods (((Int) × Int) × List PV) := (codsCons (codAgg (codsCons (codInt .i64) (codsOne (codInt .i64)))) (codsOne (codSl 2)))
def R23 : Cod ((Int) × Int) := (codTup (codsCons (codInt .i64) (codsOne (codInt .i64))))
noncomputable def E23 (N : Nat) : Env := ⟨Tryd.prog, [(25, C25 N)]⟩
def O23 (N : Nat) : Opts := ⟨N, [], []⟩
noncomputable def F23 (N : Nat) (a : ((Int) × Int) × List PV) : Option ((Int) × Int) := aTyped (E23 N) (O23 N) Tryd.f23 A23 R23 a
theorem F23_eq (N : Nat) (a0 : Int × Int) (a1 : List PV) : F23 N (a0, a1) =
    onSome (F25 N ((Prod.fst a0, Prod.snd a0), a1)) fun y0 =>
  aIf (!y0) (some ((0 : Int), (-1 : Int)))
    (aIf (Prod.fst a0 == (1 : Int)) (some ((0 : Int), (1 : Int)))
      (aIf (Prod.fst a0 == (2 : Int)) (some ((-1000000000000 : Int), (1000000000000 : Int)))
        (aIf (Prod.fst a0 == (3 : Int)) (some ((-1000000000000000 : Int), (1000000000000000 : Int)))
          (aIf (Prod.fst a0 == (4 : Int)) (some ((-1000000000 : Int), (1000000000 : Int)))
            (aIf (Prod.fst a0 == (5 : Int)) (some ((0 : Int), (109572 : Int)))
              (onGet a1 (Prod.snd a0) fun z1 =>
                onSome (PV.cells z1)[(1 : Nat)]? fun y2 => onSl (1 : Nat) y2 fun l3 => some ((0 : Int), IntKind.wrap IntKind.i64 (Int.ofNat (List.length l3) - (1 : Int))))))))) := by kernel_rfl
noncomputable def C23 (N : Nat) : Callee := mkCallee A23 R23 (F23 N)
theorem S23 (N : Nat) : Cok 23 (C23 N) := cok_of (l := (E23 N).calls) (O := O23 N) (cok_cons (S25 N) cok_nil) rfl Tryd.func23 rfl (by kernel_rfl) (by kernel_rfl)

-- function 46
def A46 : Cods ((Int) × ((Int) × Int) × List PV) := (codsCons (codInt .i64) (codsCons (codAgg (codsCons (codInt .i64) (codsOne (codInt .i64)))) (codsOne (codSl 2))))
def R46 : Cod (Bool) := codBool
noncomputable def E46 (N : Nat) : Env := ⟨Tryd.prog, [(23, C23 N)]⟩
def O46 (N : Nat) : Opts := ⟨N, [], []⟩
noncomputable def F46 (N : Nat) (a : (Int) × ((Int) × Int) × List PV) : Option (Bool) := aTyped (E46 N) (O46 N) Tryd.f46 A46 R46 a
theorem F46_eq (N : Nat) (a0 : Int) (a1 : Int × Int) (a2 : List PV) : F46 N (a0, a1, a2) =
    onSome (F23 N ((Prod.fst a1, Prod.snd a1), a2)) fun y0 => aIf (decide (Prod.fst y0 ≤ a0)) (some (decide (a0 ≤ Prod.snd y0))) (some false) := by kernel_rfl
noncomputable def C46 (N : Nat) : Callee := mkCallee A46 R46 (F46 N)
theorem S46 (N : Nat) : Cok 46 (C46 N) := cok_of (l := (E46 N).calls) (O := O46 N) (cok_cons (S23 N) cok_nil) rfl Tryd.func46 rfl (by kernel_rfl) (by kernel_rfl)

-- function 22
def A22 : Cods (((Int) × (Int) × Int) × List PV) := (codsCons (codAgg (codsCons (codInt .i64) (codsCons (codInt .i64) (codsOne (codInt .i64))))) (codsOne (codSl 2)))
def R22 : Cod (Bool) := codBool
noncomputable def E22 (N : Nat) : Env := ⟨Tryd.prog, [(38, C38 N), (46, C46 N)]⟩
def O22 (N : Nat) : Opts := ⟨N, [], []⟩
noncomputable def F22 (N : Nat) (a : ((Int) × (Int) × Int) × List PV) : Option (Bool) := aTyped (E22 N) (O22 N) Tryd.f22 A22 R22 a
theorem F22_eq (N : Nat) (a0 : Int × Int × Int) (a1 : List PV) : F22 N (a0, a1) =
    onSome (F38 N (Prod.fst a0, Prod.fst (Prod.snd a0), Prod.snd (Prod.snd a0))) fun y0 => onSome (F46 N (Prod.snd (Prod.snd a0), (Prod.fst y0, Prod.snd y0), a1)) fun y1 => some y1 := by kernel_rfl
noncomputable def C22 (N : Nat) : Callee := mkCallee A22 R22 (F22 N)
theorem S22 (N : Nat) : Cok 22 (C22 N) := cok_of (l := (E22 N).calls) (O := O22 N) (cok_cons (S38 N) (cok_cons (S46 N) cok_nil)) rfl Tryd.func22 rfl (by kernel_rfl) (by kernel_rfl)

-- function 27
def A27 : Cods ((Int) × Int) := (codsOne (codAgg (codsCons (codInt .i64) (codsOne (codInt .i64)))))
def R27 : Cod ((Int) × (Int) × Int) := (codAgg (codsCons (codInt .i64) (codsCons (codInt .i64) (codsOne (codInt .i64)))))
noncomputable def E27 (N : Nat) : Env := ⟨Tryd.prog, []⟩
def O27 (N : Nat) : Opts := ⟨N, [], []⟩
noncomputable def F27 (N : Nat) (a : (Int) × Int) : Option ((Int) × (Int) × Int) := aTyped (E27 N) (O27 N) Tryd.f27 A27 R27 a
theorem F27_eq (N : Nat) (a0 : Int) (a1 : Int) : F27 N (a0, a1) =
    aGd (decide ((0 : Nat) + (3 : Nat) ≤ (3 : Nat))) (some (a0, a1, (0 : Int))) := by kernel_rfl
noncomputable def C27 (N : Nat) : Callee := mkCallee A27 R27 (F27 N)
theorem S27 (N : Nat) : Cok 27 (C27 N) := cok_of (l := (E27 N).calls) (O := O27 N) cok_nil rfl Tryd.func27 rfl (by kernel_rfl) (by kernel_rfl)

-- function 119
def A119 : Cods ((List UInt8) × List UInt8) := (codsCons codStr (codsOne codStr))
def R119 : Cod (Bool) := codBool
noncomputable def E119 (N : Nat) : Env := ⟨Tryd.prog, []⟩
def O119 (N : Nat) : Opts := ⟨N, [], []⟩
noncomputable def F119 (N : Nat) (a : (List UInt8) × List UInt8) : Option (Bool) := aTyped (E119 N) (O119 N) Tryd.f119 A119 R119 a
theorem F119_eq (N : Nat) (a0 : List UInt8) (a1 : List UInt8) : F119 N (a0, a1) =
    aIf (decide (Int.ofNat (List.length a1) ≤ Int.ofNat (List.length a0)))
  (aGd (decide ((0 : Int) ≤ IntKind.wrap IntKind.i64 (Int.ofNat (List.length a0) - Int.ofNat (List.length a1))))
    (aGd (decide (IntKind.wrap IntKind.i64 (Int.ofNat (List.length a0) - Int.ofNat (List.length a1)) ≤ Int.ofNat (List.length a0)))
      (some (List.drop (Int.toNat (IntKind.wrap IntKind.i64 (Int.ofNat (List.length a0) - Int.ofNat (List.length a1)))) (List.take (List.length a0) a0) == a1))))
  (some false) := by kernel_rfl
noncomputable def C119 (N : Nat) : Callee := mkCallee A119 R119 (F119 N)
theorem S119 (N : Nat) : Cok 119 (C119 N) := cok_of (l := (E119 N).calls) (O := O119 N) cok_nil rfl Tryd.func119 rfl (by kernel_rfl) (by kernel_rfl)

-- function 104
def A104 : Cods ((List UInt8) × List UInt8) := (codsCons codStr (codsOne codStr))
def R104 : Cod ((List UInt8) × Bool) := (codTup (codsCons codStr (codsOne codBool)))
noncomputable def E104 (N : Nat) : Env := ⟨Tryd.prog, [(119, C119 N)]⟩
def O104 (N : Nat) : Opts := ⟨N, [], []⟩
noncomputable def F104 (N : Nat) (a : (List UInt8) × List UInt8) : Option ((List UInt8) × Bool) := aTyped (E104 N) (O104 N) Tryd.f104 A104 R104 a
theorem F104_eq (N : Nat) (a0 : List UInt8) (a1 : List UInt8) : F104 N (a0, a1) =
    onSome (F119 N (a0, a1)) fun y0 =>
  aIf (!y0) (some (a0, false))
    (aGd (decide ((0 : Int) ≤ IntKind.wrap IntKind.i64 (Int.ofNat (List.length a0) - Int.ofNat (List.length a1))))
      (aGd (decide (IntKind.wrap IntKind.i64 (Int.ofNat (List.length a0) - Int.ofNat (List.length a1)) ≤ Int.ofNat (List.length a0)))
        (some (List.drop (0 : Nat) (List.take (Int.toNat (IntKind.wrap IntKind.i64 (Int.ofNat (List.length a0) - Int.ofNat (List.length a1)))) a0), true)))) := by kernel_rfl
noncomputable def C104 (N : Nat) : Callee := mkCallee A104 R104 (F104 N)
theorem S104 (N : Nat) : Cok 104 (C104 N) := cok_of (l := (E104 N).calls) (O := O104 N) (cok_cons (S119 N) cok_nil) rfl Tryd.func104 rfl (by kernel_rfl) (by kernel_rfl)

-- function 79
def A79 : Cods ((List UInt8) × List UInt8) := (codsCons codStr (codsOne codStr))
def R79 : Cod ((List UInt8) × Bool) := (codTup (codsCons codStr (codsOne codBool)))
noncomputable def E79 (N : Nat) : Env := ⟨Tryd.prog, [(104, C104 N)]⟩
def O79 (N : Nat) : Opts := ⟨N, [], []⟩
noncomputable def F79 (N : Nat) (a : (List UInt8) × List UInt8) : Option ((List UInt8) × Bool) := aTyped (E79 N) (O79 N) Tryd.f79 A79 R79 a
theorem F79_eq (N : Nat) (a0 : List UInt8) (a1 : List UInt8) : F79 N (a0, a1) =
    onSome (F104 N (a0, a1)) fun y0 => some (Prod.fst y0, Prod.snd y0) := by kernel_rfl
noncomputable def C79 (N : Nat) : Callee := mkCallee A79 R79 (F79 N)
theorem S79 (N : Nat) : Cok 79 (C79 N) := cok_of (l := (E79 N).calls) (O := O79 N) (cok_cons (S104 N) cok_nil) rfl Tryd.func79 rfl (by kernel_rfl) (by kernel_rfl)

-- function 81
def A81 : Cods ((List PV) × List UInt8) := (codsCons (codSl 1) (codsOne codStr))
def R81 : Cod (Int) := (codInt .i64)
noncomputable def E81 (N : Nat) : Env := ⟨Tryd.prog, []⟩
def O81 (N : Nat) : Opts := ⟨N, [(2, ⟨[8, 0, 1, 7], [], [], 0⟩)], []⟩
noncomputable def F81 (N : Nat) (a : (List PV) × List UInt8) : Option (Int) := aTyped (E81 N) (O81 N) Tryd.f81 A81 R81 a
noncomputable def L81_2 (N : Nat) (n : Nat) (x0 : List PV) (x1 : List UInt8) (x2 : Int) (x3 : Int) : Option Int :=
  atLoop (E81 N) (O81 N) Tryd.f81 [(1 : Nat), (0 : Nat), (1 : Nat), (0 : Nat)] [] n
  {
    tmps :=
      [AV.p (PV.sl (1 : Nat) x0), AV.p (PV.str x1), AV.top, AV.top, AV.top, AV.top, AV.top, AV.p (PV.int IntKind.i64 x2), AV.p (PV.int IntKind.i64 x3), AV.top, AV.top, AV.top,
        AV.top, AV.top, AV.top, AV.top, AV.top, AV.top, AV.top],
    heap := [] }
  fun x => Cod.dec R81 x some
theorem L81_2_eq (N : Nat) (n : Nat) (x0 : List PV) (x1 : List UInt8) (x2 : Int) (x3 : Int) : L81_2 N (n + 1) x0 x1 x2 x3 =
    aIf (decide (x3 < x2)) (onGet x0 x3 fun z0 => onStr z0 fun u1 => aIf (x1 == u1) (some x3) (L81_2 N n x0 x1 x2 (IntKind.wrap IntKind.i64 (x3 + (1 : Int))))) (some (-1 : Int)) := by kernel_rfl
theorem L81_2_zero (N : Nat) (x0 : List PV) (x1 : List UInt8) (x2 : Int) (x3 : Int) : L81_2 N 0 x0 x1 x2 x3 = none := by kernel_rfl
theorem F81_eq (N : Nat) (a0 : List PV) (a1 : List UInt8) : F81 N (a0, a1) =
    L81_2 N N a0 a1 (Int.ofNat (List.length a0)) (0 : Int) := by kernel_rfl
noncomputable def C81 (N : Nat) : Callee := mkCallee A81 R81 (F81 N)
theorem S81 (N : Nat) : Cok 81 (C81 N) := cok_of (l := (E81 N).calls) (O := O81 N) cok_nil rfl Tryd.func81 rfl (by kernel_rfl) (by kernel_rfl)

-- function 45
def A45 : Cods ((List UInt8) × ((Int) × Int) × List PV) := (codsCons codStr (codsCons (codAgg (codsCons (codInt .i64) (codsOne (codInt .i64)))) (codsOne (codSl 2))))
def R45 : Cod ((Int) × Int) := (codTup (codsCons (codInt .i64) (codsOne (codInt .i64))))
noncomputable def E45 (N : Nat) : Env := ⟨Tryd.prog, [(59, C59 N), (61, C61 N), (79, C79 N), (80, C80 N), (81, C81 N)]⟩
def O45 (N : Nat) : Opts := ⟨N, [], []⟩
noncomputable def F45 (N : Nat) (a : (List UInt8) × ((Int) × Int) × List PV) : Option ((Int) × Int) := aTyped (E45 N) (O45 N) Tryd.f45 A45 R45 a
theorem F45_eq (N : Nat) (a0 : List UInt8) (a1 : Int × Int) (a2 : List PV) : F45 N (a0, a1, a2) =
    aIf (Prod.fst a1 == (1 : Int))
  (aIf (a0 == [(102 : UInt8), (97 : UInt8), (108 : UInt8), (115 : UInt8), (101 : UInt8)]) (some ((0 : Int), (0 : Int)))
    (aIf (a0 == [(116 : UInt8), (114 : UInt8), (117 : UInt8), (101 : UInt8)]) (some ((1 : Int), (0 : Int))) (some ((0 : Int), (2 : Int)))))
  (aIf (Prod.fst a1 == (2 : Int)) (onSome (F59 N a0) fun y0 => some (Prod.fst y0, Prod.snd y0))
    (aIf (Prod.fst a1 == (3 : Int)) (onSome (F61 N (a0, (2 : Int))) fun y1 => some (Prod.fst y1, Prod.snd y1))
      (aIf (Prod.fst a1 == (4 : Int))
        (onSome (F79 N (a0, [(37 : UInt8)])) fun y2 =>
          aIf (!Prod.snd y2) (some ((0 : Int), (2 : Int))) (onSome (F61 N (Prod.fst y2, (4 : Int))) fun y3 => some (Prod.fst y3, Prod.snd y3)))
        (aIf (Prod.fst a1 == (5 : Int)) (onSome (F80 N a0) fun y4 => some (Prod.fst y4, Prod.snd y4))
          (onGet a2 (Prod.snd a1) fun z5 =>
            onSome (PV.cells z5)[(1 : Nat)]? fun y6 =>
              onSl (1 : Nat) y6 fun l7 => onSome (F81 N (l7, a0)) fun y8 => aIf (decide (y8 < (0 : Int))) (some ((0 : Int), (6 : Int))) (some (y8, (0 : Int)))))))) := by kernel_rfl
noncomputable def C45 (N : Nat) : Callee := mkCallee A45 R45 (F45 N)
theorem S45 (N : Nat) : Cok 45 (C45 N) := cok_of (l := (E45 N).calls) (O := O45 N) (cok_cons (S59 N) (cok_cons (S61 N) (cok_cons (S79 N) (cok_cons (S80 N) (cok_cons (S81 N) cok_nil))))) rfl Tryd.func45 rfl (by kernel_rfl) (by kernel_rfl)

-- function 16
def A16 : Cods (((Int) × (Int) × Int) × List PV) := (codsCons (codAgg (codsCons (codInt .i64) (codsCons (codInt .i64) (codsOne (codInt .i64))))) (codsOne (codSl 2)))
def R16 : Cod ((List UInt8) × Int) := (codTup (codsCons codStr (codsOne (codInt .i64))))
noncomputable def E16 (N : Nat) : Env := ⟨Tryd.prog, [(38, C38 N), (25, C25 N), (22, C22 N), (39, C39 N), (40, C40 N), (41, C41 N)]⟩
def O16 (N : Nat) : Opts := ⟨N, [], []⟩
noncomputable def F16 (N : Nat) (a : ((Int) × (Int) × Int) × List PV) : Option ((List UInt8) × Int) := aTyped (E16 N) (O16 N) Tryd.f16 A16 R16 a
theorem F16_eq (N : Nat) (a0 : Int × Int × Int) (a1 : List PV) : F16 N (a0, a1) =
    onSome (F38 N (Prod.fst a0, Prod.fst (Prod.snd a0), Prod.snd (Prod.snd a0))) fun y0 =>
  onSome (F25 N ((Prod.fst y0, Prod.snd y0), a1)) fun y1 =>
    aIf (!y1) (some ([], (8 : Int)))
      (onSome (F22 N ((Prod.fst a0, Prod.fst (Prod.snd a0), Prod.snd (Prod.snd a0)), a1)) fun y2 =>
        aIf (!y2) (some ([], (3 : Int)))
          (aIf (Prod.fst a0 == (1 : Int))
            (aIf (Prod.snd (Prod.snd a0) == (1 : Int)) (some ([(116 : UInt8), (114 : UInt8), (117 : UInt8), (101 : UInt8)], (0 : Int)))
              (some ([(102 : UInt8), (97 : UInt8), (108 : UInt8), (115 : UInt8), (101 : UInt8)], (0 : Int))))
            (aIf (Prod.fst a0 == (2 : Int)) (onSome (F39 N (Prod.snd (Prod.snd a0))) fun y3 => some (y3, (0 : Int)))
              (aIf (Prod.fst a0 == (3 : Int)) (onSome (F40 N (Prod.snd (Prod.snd a0), (2 : Int))) fun y4 => some (y4, (0 : Int)))
                (aIf (Prod.fst a0 == (4 : Int))
                  (onSome (F40 N (Prod.snd (Prod.snd a0), (4 : Int))) fun y5 =>
                    aGd (decide (List.length y5 + (1 : Nat) ≤ (9223372036854775807 : Nat))) (some (y5 ++ [(37 : UInt8)], (0 : Int))))
                  (aIf (Prod.fst a0 == (5 : Int)) (onSome (F41 N (Prod.snd (Prod.snd a0))) fun y6 => some (y6, (0 : Int)))
                    (onGet a1 (Prod.fst (Prod.snd a0)) fun z7 =>
                      onSome (PV.cells z7)[(1 : Nat)]? fun y8 =>
                        onSl (1 : Nat) y8 fun l9 => onGet l9 (Prod.snd (Prod.snd a0)) fun z10 => onStr z10 fun u11 => some (u11, (0 : Int))))))))) := by kernel_rfl
noncomputable def C16 (N : Nat) : Callee := mkCallee A16 R16 (F16 N)
theorem S16 (N : Nat) : Cok 16 (C16 N) := cok_of (l := (E16 N).calls) (O := O16 N) (cok_cons (S38 N) (cok_cons (S25 N) (cok_cons (S22 N) (cok_cons (S39 N) (cok_cons (S40 N) (cok_cons (S41 N) cok_nil)))))) rfl Tryd.func16 rfl (by kernel_rfl) (by kernel_rfl)

-- function 18
def A18 : Cods ((List UInt8) × ((Int) × Int) × List PV) := (codsCons codStr (codsCons (codAgg (codsCons (codInt .i64) (codsOne (codInt .i64)))) (codsOne (codSl 2))))
def R18 : Cod (((Int) × (Int) × Int) × Int) := (codTup (codsCons (codAgg (codsCons (codInt .i64) (codsCons (codInt .i64) (codsOne (codInt .i64))))) (codsOne (codInt .i64))))
noncomputable def E18 (N : Nat) : Env := ⟨Tryd.prog, [(25, C25 N), (45, C45 N), (46, C46 N)]⟩
def O18 (N : Nat) : Opts := ⟨N, [], []⟩
noncomputable def F18 (N : Nat) (a : (List UInt8) × ((Int) × Int) × List PV) : Option (((Int) × (Int) × Int) × Int) := aTyped (E18 N) (O18 N) Tryd.f18 A18 R18 a
theorem F18_eq (N : Nat) (a0 : List UInt8) (a1 : Int × Int) (a2 : List PV) : F18 N (a0, a1, a2) =
    onSome (F25 N ((Prod.fst a1, Prod.snd a1), a2)) fun y0 =>
  aIf (!y0) (aGd (decide ((0 : Nat) + (3 : Nat) ≤ (3 : Nat))) (some (((0 : Int), (0 : Int), (0 : Int)), (8 : Int))))
    (onSome (F45 N (a0, (Prod.fst a1, Prod.snd a1), a2)) fun y1 =>
      aIf (Prod.snd y1 != (0 : Int)) (aGd (decide ((0 : Nat) + (3 : Nat) ≤ (3 : Nat))) (some (((0 : Int), (0 : Int), (0 : Int)), Prod.snd y1)))
        (onSome (F46 N (Prod.fst y1, (Prod.fst a1, Prod.snd a1), a2)) fun y2 =>
          aIf (!y2) (aGd (decide ((0 : Nat) + (3 : Nat) ≤ (3 : Nat))) (some (((0 : Int), (0 : Int), (0 : Int)), (3 : Int))))
            (aGd (decide ((0 : Nat) + (3 : Nat) ≤ (3 : Nat))) (some ((Prod.fst a1, Prod.snd a1, Prod.fst y1), (0 : Int)))))) := by kernel_rfl
noncomputable def C18 (N : Nat) : Callee := mkCallee A18 R18 (F18 N)
theorem S18 (N : Nat) : Cok 18 (C18 N) := cok_of (l := (E18 N).calls) (O := O18 N) (cok_cons (S25 N) (cok_cons (S45 N) (cok_cons (S46 N) cok_nil))) rfl Tryd.func18 rfl (by kernel_rfl) (by kernel_rfl)

-- function 26
def A26 : Cods (((Int) × Int) × List PV) := (codsCons (codAgg (codsCons (codInt .i64) (codsOne (codInt .i64)))) (codsOne (codSl 2)))
def R26 : Cod (Bool) := codBool
noncomputable def E26 (N : Nat) : Env := ⟨Tryd.prog, []⟩
def O26 (N : Nat) : Opts := ⟨N, [], []⟩
noncomputable def F26 (N : Nat) (a : ((Int) × Int) × List PV) : Option (Bool) := aTyped (E26 N) (O26 N) Tryd.f26 A26 R26 a
theorem F26_eq (N : Nat) (a0 : Int × Int) (a1 : List PV) : F26 N (a0, a1) =
    aIf (Prod.fst a0 == (6 : Int)) (aIf (decide ((0 : Int) ≤ Prod.snd a0)) (some (decide (Prod.snd a0 < Int.ofNat (List.length a1)))) (some false))
  (aIf (decide ((1 : Int) ≤ Prod.fst a0)) (aIf (decide (Prod.fst a0 ≤ (5 : Int))) (some (Prod.snd a0 == (0 : Int))) (some false)) (some false)) := by kernel_rfl
noncomputable def C26 (N : Nat) : Callee := mkCallee A26 R26 (F26 N)
theorem S26 (N : Nat) : Cok 26 (C26 N) := cok_of (l := (E26 N).calls) (O := O26 N) cok_nil rfl Tryd.func26 rfl (by kernel_rfl) (by kernel_rfl)

-- function 24
def A24 : Cods (((Int) × Int) × List PV) := (codsCons (codAgg (codsCons (codInt .i64) (codsOne (codInt .i64)))) (codsOne (codSl 2)))
def R24 : Cod ((Int) × Int) := (codTup (codsCons (codInt .i64) (codsOne (codInt .i64))))
noncomputable def E24 (N : Nat) : Env := ⟨Tryd.prog, [(26, C26 N)]⟩
def O24 (N : Nat) : Opts := ⟨N, [], []⟩
noncomputable def F24 (N : Nat) (a : ((Int) × Int) × List PV) : Option ((Int) × Int) := aTyped (E24 N) (O24 N) Tryd.f24 A24 R24 a
theorem F24_eq (N : Nat) (a0 : Int × Int) (a1 : List PV) : F24 N (a0, a1) =
    onSome (F26 N ((Prod.fst a0, Prod.snd a0), a1)) fun y0 =>
  aIf (!y0) (some ((0 : Int), (-1 : Int)))
    (aIf (Prod.fst a0 == (1 : Int)) (some ((0 : Int), (1 : Int)))
      (aIf (Prod.fst a0 == (2 : Int)) (some ((-1000000000000 : Int), (1000000000000 : Int)))
        (aIf (Prod.fst a0 == (3 : Int)) (some ((-1000000000000000 : Int), (1000000000000000 : Int)))
          (aIf (Prod.fst a0 == (4 : Int)) (some ((-1000000000 : Int), (1000000000 : Int)))
            (aIf (Prod.fst a0 == (5 : Int)) (some ((0 : Int), (109572 : Int)))
              (onGet a1 (Prod.snd a0) fun z1 =>
                onSome (PV.cells z1)[(1 : Nat)]? fun y2 => onSl (1 : Nat) y2 fun l3 => some ((0 : Int), IntKind.wrap IntKind.i64 (Int.ofNat (List.length l3) - (1 : Int))))))))) := by kernel_rfl
noncomputable def C24 (N : Nat) : Callee := mkCallee A24 R24 (F24 N)
theorem S24 (N : Nat) : Cok 24 (C24 N) := cok_of (l := (E24 N).calls) (O := O24 N) (cok_cons (S26 N) cok_nil) rfl Tryd.func24 rfl (by kernel_rfl) (by kernel_rfl)

-- function 48
def A48 : Cods ((Int) × ((Int) × Int) × List PV) := (codsCons (codInt .i64) (codsCons (codAgg (codsCons (codInt .i64) (codsOne (codInt .i64)))) (codsOne (codSl 2))))
def R48 : Cod (Bool) := codBool
noncomputable def E48 (N : Nat) : Env := ⟨Tryd.prog, [(24, C24 N)]⟩
def O48 (N : Nat) : Opts := ⟨N, [], []⟩
noncomputable def F48 (N : Nat) (a : (Int) × ((Int) × Int) × List PV) : Option (Bool) := aTyped (E48 N) (O48 N) Tryd.f48 A48 R48 a
theorem F48_eq (N : Nat) (a0 : Int) (a1 : Int × Int) (a2 : List PV) : F48 N (a0, a1, a2) =
    onSome (F24 N ((Prod.fst a1, Prod.snd a1), a2)) fun y0 => aIf (decide (Prod.fst y0 ≤ a0)) (some (decide (a0 ≤ Prod.snd y0))) (some false) := by kernel_rfl
noncomputable def C48 (N : Nat) : Callee := mkCallee A48 R48 (F48 N)
theorem S48 (N : Nat) : Cok 48 (C48 N) := cok_of (l := (E48 N).calls) (O := O48 N) (cok_cons (S24 N) cok_nil) rfl Tryd.func48 rfl (by kernel_rfl) (by kernel_rfl)

-- function 47
def A47 : Cods ((List UInt8) × Int) := (codsCons codStr (codsOne (codInt .i64)))
def R47 : Cod ((Int) × Int) := (codTup (codsCons (codInt .i64) (codsOne (codInt .i64))))
noncomputable def E47 (N : Nat) : Env := ⟨Tryd.prog, [(63, C63 N), (65, C65 N), (82, C82 N)]⟩
def O47 (N : Nat) : Opts := ⟨N, [], []⟩
noncomputable def F47 (N : Nat) (a : (List UInt8) × Int) : Option ((Int) × Int) := aTyped (E47 N) (O47 N) Tryd.f47 A47 R47 a
theorem F47_eq (N : Nat) (a0 : List UInt8) (a1 : Int) : F47 N (a0, a1) =
    aIf (a1 == (2 : Int)) (onSome (F63 N a0) fun y0 => some (Prod.fst y0, Prod.snd y0))
  (aIf (a1 == (3 : Int)) (onSome (F65 N (a0, (2 : Int))) fun y1 => some (Prod.fst y1, Prod.snd y1))
    (aIf (a1 == (4 : Int))
      (aIf (a0 == []) (some ((0 : Int), (2 : Int)))
        (onGet a0 (IntKind.wrap IntKind.i64 (Int.ofNat (List.length a0) - (1 : Int))) fun z2 =>
          aIf (Int.ofNat (UInt8.toNat z2) != (37 : Int)) (some ((0 : Int), (2 : Int)))
            (aGd (decide ((0 : Int) ≤ IntKind.wrap IntKind.i64 (Int.ofNat (List.length a0) - (1 : Int))))
              (aGd (decide (IntKind.wrap IntKind.i64 (Int.ofNat (List.length a0) - (1 : Int)) ≤ Int.ofNat (List.length a0)))
                (onSome (F65 N (List.drop (0 : Nat) (List.take (Int.toNat (IntKind.wrap IntKind.i64 (Int.ofNat (List.length a0) - (1 : Int)))) a0), (4 : Int))) fun y3 =>
                  some (Prod.fst y3, Prod.snd y3))))))
      (aIf (a1 == (5 : Int)) (onSome (F82 N a0) fun y4 => some (Prod.fst y4, Prod.snd y4))
        (aIf (a0 == [(116 : UInt8), (114 : UInt8), (117 : UInt8), (101 : UInt8)]) (some ((1 : Int), (0 : Int)))
          (aIf (a0 == [(102 : UInt8), (97 : UInt8), (108 : UInt8), (115 : UInt8), (101 : UInt8)]) (some ((0 : Int), (0 : Int))) (some ((0 : Int), (2 : Int)))))))) := by kernel_rfl
noncomputable def C47 (N : Nat) : Callee := mkCallee A47 R47 (F47 N)
theorem S47 (N : Nat) : Cok 47 (C47 N) := cok_of (l := (E47 N).calls) (O := O47 N) (cok_cons (S63 N) (cok_cons (S65 N) (cok_cons (S82 N) cok_nil))) rfl Tryd.func47 rfl (by kernel_rfl) (by kernel_rfl)

-- function 21
def A21 : Cods ((Int) × (Int) × Int) := (codsOne (codAgg (codsCons (codInt .i64) (codsCons (codInt .i64) (codsOne (codInt .i64))))))
def R21 : Cod ((Int) × Int) := (codAgg (codsCons (codInt .i64) (codsOne (codInt .i64))))
noncomputable def E21 (N : Nat) : Env := ⟨Tryd.prog, []⟩
def O21 (N : Nat) : Opts := ⟨N, [], []⟩
noncomputable def F21 (N : Nat) (a : (Int) × (Int) × Int) : Option ((Int) × Int) := aTyped (E21 N) (O21 N) Tryd.f21 A21 R21 a
theorem F21_eq (N : Nat) (a0 : Int) (a1 : Int) (a2 : Int) : F21 N (a0, a1, a2) =
    aGd (decide ((0 : Nat) + (2 : Nat) ≤ (2 : Nat))) (some (a0, a1)) := by kernel_rfl
noncomputable def C21 (N : Nat) : Callee := mkCallee A21 R21 (F21 N)
theorem S21 (N : Nat) : Cok 21 (C21 N) := cok_of (l := (E21 N).calls) (O := O21 N) cok_nil rfl Tryd.func21 rfl (by kernel_rfl) (by kernel_rfl)

-- function 20
def A20 : Cods (((Int) × (Int) × Int) × List PV) := (codsCons (codAgg (codsCons (codInt .i64) (codsCons (codInt .i64) (codsOne (codInt .i64))))) (codsOne (codSl 2)))
def R20 : Cod (Bool) := codBool
noncomputable def E20 (N : Nat) : Env := ⟨Tryd.prog, [(21, C21 N), (26, C26 N), (48, C48 N)]⟩
def O20 (N : Nat) : Opts := ⟨N, [], []⟩
noncomputable def F20 (N : Nat) (a : ((Int) × (Int) × Int) × List PV) : Option (Bool) := aTyped (E20 N) (O20 N) Tryd.f20 A20 R20 a
theorem F20_eq (N : Nat) (a0 : Int × Int × Int) (a1 : List PV) : F20 N (a0, a1) =
    onSome (F21 N (Prod.fst a0, Prod.fst (Prod.snd a0), Prod.snd (Prod.snd a0))) fun y0 =>
  onSome (F26 N ((Prod.fst y0, Prod.snd y0), a1)) fun y1 =>
    aIf y1
      (onSome (F21 N (Prod.fst a0, Prod.fst (Prod.snd a0), Prod.snd (Prod.snd a0))) fun y2 =>
        onSome (F48 N (Prod.snd (Prod.snd a0), (Prod.fst y2, Prod.snd y2), a1)) fun y3 => some y3)
      (some false) := by kernel_rfl
noncomputable def C20 (N : Nat) : Callee := mkCallee A20 R20 (F20 N)
theorem S20 (N : Nat) : Cok 20 (C20 N) := cok_of (l := (E20 N).calls) (O := O20 N) (cok_cons (S21 N) (cok_cons (S26 N) (cok_cons (S48 N) cok_nil))) rfl Tryd.func20 rfl (by kernel_rfl) (by kernel_rfl)

-- function 28
def A28 : Cods ((Int) × Int) := (codsOne (codAgg (codsCons (codInt .i64) (codsOne (codInt .i64)))))
def R28 : Cod ((Int) × (Int) × Int) := (codAgg (codsCons (codInt .i64) (codsCons (codInt .i64) (codsOne (codInt .i64)))))
noncomputable def E28 (N : Nat) : Env := ⟨Tryd.prog, []⟩
def O28 (N : Nat) : Opts := ⟨N, [], []⟩
noncomputable def F28 (N : Nat) (a : (Int) × Int) : Option ((Int) × (Int) × Int) := aTyped (E28 N) (O28 N) Tryd.f28 A28 R28 a
theorem F28_eq (N : Nat) (a0 : Int) (a1 : Int) : F28 N (a0, a1) =
    aGd (decide ((0 : Nat) + (3 : Nat) ≤ (3 : Nat))) (some (a0, a1, (0 : Int))) := by kernel_rfl
noncomputable def C28 (N : Nat) : Callee := mkCallee A28 R28 (F28 N)
theorem S28 (N : Nat) : Cok 28 (C28 N) := cok_of (l := (E28 N).calls) (O := O28 N) cok_nil rfl Tryd.func28 rfl (by kernel_rfl) (by kernel_rfl)

-- function 17
def A17 : Cods (((Int) × (Int) × Int) × List PV) := (codsCons (codAgg (codsCons (codInt .i64) (codsCons (codInt .i64) (codsOne (codInt .i64))))) (codsOne (codSl 2)))
def R17 : Cod ((List UInt8) × Int) := (codTup (codsCons codStr (codsOne (codInt .i64))))
noncomputable def E17 (N : Nat) : Env := ⟨Tryd.prog, [(21, C21 N), (26, C26 N), (20, C20 N), (42, C42 N), (43, C43 N), (44, C44 N)]⟩
def O17 (N : Nat) : Opts := ⟨N, [], []⟩
noncomputable def F17 (N : Nat) (a : ((Int) × (Int) × Int) × List PV) : Option ((List UInt8) × Int) := aTyped (E17 N) (O17 N) Tryd.f17 A17 R17 a
theorem F17_eq (N : Nat) (a0 : Int × Int × Int) (a1 : List PV) : F17 N (a0, a1) =
    onSome (F21 N (Prod.fst a0, Prod.fst (Prod.snd a0), Prod.snd (Prod.snd a0))) fun y0 =>
  onSome (F26 N ((Prod.fst y0, Prod.snd y0), a1)) fun y1 =>
    aIf (!y1) (some ([], (8 : Int)))
      (onSome (F20 N ((Prod.fst a0, Prod.fst (Prod.snd a0), Prod.snd (Prod.snd a0)), a1)) fun y2 =>
        aIf (!y2) (some ([], (3 : Int)))
          (aIf (Prod.fst a0 == (1 : Int))
            (aIf (Prod.snd (Prod.snd a0) == (0 : Int)) (some ([(102 : UInt8), (97 : UInt8), (108 : UInt8), (115 : UInt8), (101 : UInt8)], (0 : Int)))
              (some ([(116 : UInt8), (114 : UInt8), (117 : UInt8), (101 : UInt8)], (0 : Int))))
            (aIf (Prod.fst a0 == (2 : Int)) (onSome (F42 N (Prod.snd (Prod.snd a0))) fun y3 => some (y3, (0 : Int)))
              (aIf (Prod.fst a0 == (3 : Int)) (onSome (F43 N (Prod.snd (Prod.snd a0), (2 : Int))) fun y4 => some (y4, (0 : Int)))
                (aIf (Prod.fst a0 == (4 : Int))
                  (onSome (F43 N (Prod.snd (Prod.snd a0), (4 : Int))) fun y5 =>
                    aGd (decide (List.length y5 + (1 : Nat) ≤ (9223372036854775807 : Nat))) (some (y5 ++ [(37 : UInt8)], (0 : Int))))
                  (aIf (Prod.fst a0 == (5 : Int)) (onSome (F44 N (Prod.snd (Prod.snd a0))) fun y6 => some (y6, (0 : Int)))
                    (onGet a1 (Prod.fst (Prod.snd a0)) fun z7 =>
                      onSome (PV.cells z7)[(1 : Nat)]? fun y8 =>
                        onSl (1 : Nat) y8 fun l9 => onGet l9 (Prod.snd (Prod.snd a0)) fun z10 => onStr z10 fun u11 => some (u11, (0 : Int))))))))) := by kernel_rfl
noncomputable def C17 (N : Nat) : Callee := mkCallee A17 R17 (F17 N)
theorem S17 (N : Nat) : Cok 17 (C17 N) := cok_of (l := (E17 N).calls) (O := O17 N) (cok_cons (S21 N) (cok_cons (S26 N) (cok_cons (S20 N) (cok_cons (S42 N) (cok_cons (S43 N) (cok_cons (S44 N) cok_nil)))))) rfl Tryd.func17 rfl (by kernel_rfl) (by kernel_rfl)

-- function 19
def A19 : Cods ((List UInt8) × ((Int) × Int) × List PV) := (codsCons codStr (codsCons (codAgg (codsCons (codInt .i64) (codsOne (codInt .i64)))) (codsOne (codSl 2))))
def R19 : Cod (((Int) × (Int) × Int) × Int) := (codTup (codsCons (codAgg (codsCons (codInt .i64) (codsCons (codInt .i64) (codsOne (codInt .i64))))) (codsOne (codInt .i64))))
noncomputable def E19 (N : Nat) : Env := ⟨Tryd.prog, [(26, C26 N), (47, C47 N), (48, C48 N)]⟩
def O19 (N : Nat) : Opts := ⟨N, [(6, ⟨[6, 9, 4, 0, 8], [], [], 2⟩)], []⟩
noncomputable def F19 (N : Nat) (a : (List UInt8) × ((Int) × Int) × List PV) : Option (((Int) × (Int) × Int) × Int) := aTyped (E19 N) (O19 N) Tryd.f19 A19 R19 a
noncomputable def L19_6 (N : Nat) (n : Nat) (x0 : List UInt8) (x1 : List PV) (x2 : Int) (x3 : Int) (x4 : Int) (x5 : Int) (x6 : Int) (x7 : Int) : Option ((Int × Int × Int) × Int) :=
  atLoop (E19 N) (O19 N) Tryd.f19 [(1 : Nat), (1 : Nat), (0 : Nat), (1 : Nat), (0 : Nat), (1 : Nat), (0 : Nat), (1 : Nat), (0 : Nat)] [] n
  {
    tmps :=
      [AV.p (PV.str x0), AV.top, AV.top, AV.top, AV.box (0 : Nat) (0 : Nat), AV.top, AV.box (1 : Nat) (0 : Nat), AV.top, AV.p (PV.sl (1 : Nat) x1), AV.p (PV.int IntKind.i64 x2),
        AV.top, AV.top, AV.top, AV.top, AV.top, AV.top, AV.top, AV.top, AV.top, AV.top, AV.top, AV.top, AV.top, AV.top, AV.top, AV.top, AV.top, AV.top, AV.top, AV.top, AV.top,
        AV.top, AV.top, AV.top, AV.top, AV.top, AV.top, AV.top, AV.top, AV.top, AV.top, AV.top, AV.top, AV.top, AV.top, AV.top, AV.top, AV.top, AV.top, AV.top, AV.top, AV.top,
        AV.top, AV.top, AV.top, AV.top, AV.top, AV.top, AV.top, AV.top, AV.top, AV.top, AV.top, AV.top, AV.top, AV.top, AV.top, AV.top, AV.top],
    heap :=
      [Blk.box [AV.p (PV.int IntKind.i64 x3), AV.p (PV.int IntKind.i64 x4)], Blk.box [AV.p (PV.int IntKind.i64 x5), AV.p (PV.int IntKind.i64 x6), AV.p (PV.int IntKind.i64 x7)]] }
  fun x => Cod.dec R19 x some
theorem L19_6_eq (N : Nat) (n : Nat) (x0 : List UInt8) (x1 : List PV) (x2 : Int) (x3 : Int) (x4 : Int) (x5 : Int) (x6 : Int) (x7 : Int) : L19_6 N (n + 1) x0 x1 x2 x3 x4 x5 x6 x7 =
    aIf (decide (x2 < Int.ofNat (List.length x1)))
  (onGet x1 x2 fun z6 =>
    onStr z6 fun u7 =>
      aIf (u7 == x0) (aGd (decide ((0 : Nat) + (3 : Nat) ≤ (3 : Nat))) (some ((x3, x4, x2), (0 : Int))))
        (L19_6 N n x0 x1 (IntKind.wrap IntKind.i64 (x2 + (1 : Int))) x3 x4 x5 x6 x7))
  (aGd (decide ((0 : Nat) + (3 : Nat) ≤ (3 : Nat))) (some (((0 : Int), (0 : Int), (0 : Int)), (6 : Int)))) := by kernel_rfl
theorem L19_6_zero (N : Nat) (x0 : List UInt8) (x1 : List PV) (x2 : Int) (x3 : Int) (x4 : Int) (x5 : Int) (x6 : Int) (x7 : Int) : L19_6 N 0 x0 x1 x2 x3 x4 x5 x6 x7 = none := by kernel_rfl
theorem F19_eq (N : Nat) (a0 : List UInt8) (a1 : Int × Int) (a2 : List PV) : F19 N (a0, a1, a2) =
    onSome (F26 N ((Prod.fst a1, Prod.snd a1), a2)) fun y0 =>
  aIf (!y0) (aGd (decide ((0 : Nat) + (3 : Nat) ≤ (3 : Nat))) (some (((0 : Int), (0 : Int), (0 : Int)), (8 : Int))))
    (aIf (Prod.fst a1 == (6 : Int))
      (onGet a2 (Prod.snd a1) fun z1 =>
        onSome (PV.cells z1)[(1 : Nat)]? fun y2 => onSl (1 : Nat) y2 fun l3 => L19_6 N N a0 l3 (0 : Int) (Prod.fst a1) (Prod.snd a1) (0 : Int) (0 : Int) (0 : Int))
      (onSome (F47 N (a0, Prod.fst a1)) fun y4 =>
        aIf (Prod.snd y4 == (0 : Int))
          (onSome (F48 N (Prod.fst y4, (Prod.fst a1, Prod.snd a1), a2)) fun y5 =>
            aIf (!y5) (aGd (decide ((0 : Nat) + (3 : Nat) ≤ (3 : Nat))) (some (((0 : Int), (0 : Int), (0 : Int)), (3 : Int))))
              (aIf (Prod.snd y4 != (0 : Int)) (aGd (decide ((0 : Nat) + (3 : Nat) ≤ (3 : Nat))) (some (((0 : Int), (0 : Int), (0 : Int)), Prod.snd y4)))
                (aGd (decide ((0 : Nat) + (3 : Nat) ≤ (3 : Nat))) (some ((Prod.fst a1, (0 : Int), Prod.fst y4), (0 : Int))))))
          (aIf (Prod.snd y4 != (0 : Int)) (aGd (decide ((0 : Nat) + (3 : Nat) ≤ (3 : Nat))) (some (((0 : Int), (0 : Int), (0 : Int)), Prod.snd y4)))
            (aGd (decide ((0 : Nat) + (3 : Nat) ≤ (3 : Nat))) (some ((Prod.fst a1, (0 : Int), Prod.fst y4), (0 : Int))))))) := by kernel_rfl
noncomputable def C19 (N : Nat) : Callee := mkCallee A19 R19 (F19 N)
theorem S19 (N : Nat) : Cok 19 (C19 N) := cok_of (l := (E19 N).calls) (O := O19 N) (cok_cons (S26 N) (cok_cons (S47 N) (cok_cons (S48 N) cok_nil))) rfl Tryd.func19 rfl (by kernel_rfl) (by kernel_rfl)

-- function 14
def A14 : Cods (List PV) := (codsOne (codSl 2))
def R14 : Cod (Bool) := codBool
noncomputable def E14 (N : Nat) : Env := ⟨Tryd.prog, []⟩
def O14 (N : Nat) : Opts := ⟨N, [(2, ⟨[3, 0], [], [], 0⟩)], []⟩
noncomputable def F14 (N : Nat) (a : List PV) : Option (Bool) := aTyped (E14 N) (O14 N) Tryd.f14 A14 R14 a
noncomputable def L14_2 (N : Nat) (n : Nat) (x0 : List PV) (x1 : Int) : Option Bool :=
  atLoop (E14 N) (O14 N) Tryd.f14 [(1 : Nat), (0 : Nat), (1 : Nat), (0 : Nat)] [] n
  {
    tmps :=
      [AV.p (PV.sl (2 : Nat) x0), AV.top, AV.top, AV.p (PV.int IntKind.i64 x1), AV.top, AV.top, AV.top, AV.top, AV.top, AV.top, AV.top, AV.top, AV.top, AV.top, AV.top, AV.top,
        AV.top, AV.top, AV.top, AV.top, AV.top, AV.top, AV.top, AV.top],
    heap := [] }
  fun x => Cod.dec R14 x some
theorem L14_2_eq (N : Nat) (n : Nat) (x0 : List PV) (x1 : Int) : L14_2 N (n + 1) x0 x1 =
    aIf (decide (x1 < Int.ofNat (List.length x0)))
  (aIf (decide (x1 < (20 : Int)))
    (onGet x0 x1 fun z0 =>
      onSome (PV.cells z0)[(1 : Nat)]? fun y1 =>
        onSl (1 : Nat) y1 fun l2 => aIf (decide ((40 : Int) < Int.ofNat (List.length l2))) (some false) (L14_2 N n x0 (IntKind.wrap IntKind.i64 (x1 + (1 : Int)))))
    (some (decide (Int.ofNat (List.length x0) ≤ (20 : Int)))))
  (some (decide (Int.ofNat (List.length x0) ≤ (20 : Int)))) := by kernel_rfl
theorem L14_2_zero (N : Nat) (x0 : List PV) (x1 : Int) : L14_2 N 0 x0 x1 = none := by kernel_rfl
theorem F14_eq (N : Nat) (a0 : List PV) : F14 N a0 =
    L14_2 N N a0 (0 : Int) := by kernel_rfl
noncomputable def C14 (N : Nat) : Callee := mkCallee A14 R14 (F14 N)
theorem S14 (N : Nat) : Cok 14 (C14 N) := cok_of (l := (E14 N).calls) (O := O14 N) cok_nil rfl Tryd.func14 rfl (by kernel_rfl) (by kernel_rfl)

-- function 88
def A88 : Cods ((List UInt8) × (List UInt8) × (Int) × Int) := (codsCons codStr (codsCons codStr (codsCons (codInt .i64) (codsOne (codInt .i64)))))
def R88 : Cod (List PV) := (codSl 1)
noncomputable def E88 (N : Nat) : Env := ⟨Tryd.prog, [(111, C111 N), (112, C112 N)]⟩
def O88 (N : Nat) : Opts := ⟨N, [(11, ⟨[10, 9, 0, 1, 2, 3], [], [], 1⟩)], []⟩
noncomputable def F88 (N : Nat) (a : (List UInt8) × (List UInt8) × (Int) × Int) : Option (List PV) := aTyped (E88 N) (O88 N) Tryd.f88 A88 R88 a
noncomputable def L88_11 (N : Nat) (n : Nat) (x0 : List UInt8) (x1 : List UInt8) (x2 : Int) (x3 : Int) (x4 : Int) (x5 : List PV) : Option (List PV) :=
  atLoop (E88 N) (O88 N) Tryd.f88 [(1 : Nat), (1 : Nat), (1 : Nat), (1 : Nat), (1 : Nat), (1 : Nat), (1 : Nat), (1 : Nat), (0 : Nat), (0 : Nat)] [] n
  {
    tmps :=
      [AV.p (PV.str x0), AV.p (PV.str x1), AV.p (PV.int IntKind.i64 x2), AV.p (PV.int IntKind.i64 x3), AV.top, AV.top, AV.top, AV.top, AV.top, AV.own (0 : Nat),
        AV.p (PV.int IntKind.i64 x4), AV.top, AV.top, AV.top, AV.top, AV.top, AV.top, AV.top, AV.top, AV.top, AV.top, AV.top, AV.top, AV.top, AV.top, AV.top, AV.top, AV.top,
        AV.top, AV.top, AV.top, AV.top, AV.top, AV.top, AV.top, AV.top, AV.top, AV.top, AV.top, AV.top, AV.top, AV.top, AV.top, AV.top, AV.top, AV.top, AV.top, AV.top, AV.top,
        AV.top, AV.top, AV.top, AV.top, AV.top, AV.top, AV.top, AV.top, AV.top, AV.top, AV.top, AV.top, AV.top, AV.top, AV.top, AV.top, AV.top],
    heap := [Blk.row (9 : Nat) (1 : Nat) x5] }
  fun x => Cod.dec R88 x some
theorem L88_11_eq (N : Nat) (n : Nat) (x0 : List UInt8) (x1 : List UInt8) (x2 : Int) (x3 : Int) (x4 : Int) (x5 : List PV) : L88_11 N (n + 1) x0 x1 x2 x3 x4 x5 =
    aIf (decide (x4 < x3))
  (onSome (F112 N (x0, x1)) fun y1 =>
    aIf (decide (y1 < (0 : Int)))
      (aGd (decide ((0 : Int) ≤ x4))
        (aGd (decide (x4 < Int.ofNat (List.length x5)))
          (aGd (decide ((0 : Nat) + (1 : Nat) ≤ (1 : Nat)))
            (onGet x5 (Int.ofNat (Int.toNat x4)) fun z2 =>
              aGd (decide ((0 : Int) ≤ IntKind.wrap IntKind.i64 (x4 + (1 : Int))))
                (aGd (decide (IntKind.wrap IntKind.i64 (x4 + (1 : Int)) ≤ Int.ofNat (List.length (List.set x5 (Int.toNat x4) (setCells z2 (0 : Nat) [PV.str x0])))))
                  (some
                    (List.drop (0 : Nat) (List.take (Int.toNat (IntKind.wrap IntKind.i64 (x4 + (1 : Int)))) (List.set x5 (Int.toNat x4) (setCells z2 (0 : Nat) [PV.str x0]))))))))))
      (aGd (decide ((0 : Int) ≤ IntKind.wrap IntKind.i64 (y1 + x2)))
        (aGd (decide (IntKind.wrap IntKind.i64 (y1 + x2) ≤ Int.ofNat (List.length x0)))
          (aGd (decide ((0 : Int) ≤ x4))
            (aGd (decide (x4 < Int.ofNat (List.length x5)))
              (aGd (decide ((0 : Nat) + (1 : Nat) ≤ (1 : Nat)))
                (onGet x5 (Int.ofNat (Int.toNat x4)) fun z3 =>
                  aGd (decide ((0 : Int) ≤ IntKind.wrap IntKind.i64 (y1 + Int.ofNat (List.length x1))))
                    (aGd (decide (IntKind.wrap IntKind.i64 (y1 + Int.ofNat (List.length x1)) ≤ Int.ofNat (List.length x0)))
                      (L88_11 N n (List.drop (Int.toNat (IntKind.wrap IntKind.i64 (y1 + Int.ofNat (List.length x1)))) (List.take (List.length x0) x0)) x1 x2 x3
                        (IntKind.wrap IntKind.i64 (x4 + (1 : Int)))
                        (List.set x5 (Int.toNat x4) (setCells z3 (0 : Nat) [PV.str (List.drop (0 : Nat) (List.take (Int.toNat (IntKind.wrap IntKind.i64 (y1 + x2))) x0))])))))))))))
  (aGd (decide ((0 : Int) ≤ x4))
    (aGd (decide (x4 < Int.ofNat (List.length x5)))
      (aGd (decide ((0 : Nat) + (1 : Nat) ≤ (1 : Nat)))
        (onGet x5 (Int.ofNat (Int.toNat x4)) fun z4 =>
          aGd (decide ((0 : Int) ≤ IntKind.wrap IntKind.i64 (x4 + (1 : Int))))
            (aGd (decide (IntKind.wrap IntKind.i64 (x4 + (1 : Int)) ≤ Int.ofNat (List.length (List.set x5 (Int.toNat x4) (setCells z4 (0 : Nat) [PV.str x0])))))
              (some (List.drop (0 : Nat) (List.take (Int.toNat (IntKind.wrap IntKind.i64 (x4 + (1 : Int)))) (List.set x5 (Int.toNat x4) (setCells z4 (0 : Nat) [PV.str x0])))))))))) := by kernel_rfl
theorem L88_11_zero (N : Nat) (x0 : List UInt8) (x1 : List UInt8) (x2 : Int) (x3 : Int) (x4 : Int) (x5 : List PV) : L88_11 N 0 x0 x1 x2 x3 x4 x5 = none := by kernel_rfl
theorem F88_eq (N : Nat) (a0 : List UInt8) (a1 : List UInt8) (a2 : Int) (a3 : Int) : F88 N (a0, a1, a2, a3) =
    aIf (a3 == (0 : Int)) (some [])
  (aIf (a1 == []) none
    (aIf (decide (a3 < (0 : Int)))
      (onSome (F111 N (a0, a1)) fun y0 =>
        aGd (decide ((0 : Int) ≤ min (IntKind.wrap IntKind.i64 (y0 + (1 : Int))) (IntKind.wrap IntKind.i64 (Int.ofNat (List.length a0) + (1 : Int)))))
          (aGd (decide (min (IntKind.wrap IntKind.i64 (y0 + (1 : Int))) (IntKind.wrap IntKind.i64 (Int.ofNat (List.length a0) + (1 : Int))) * (17 : Int) ≤ (140737488355328 : Int)))
            (L88_11 N N a0 a1 a2
              (IntKind.wrap IntKind.i64 (min (IntKind.wrap IntKind.i64 (y0 + (1 : Int))) (IntKind.wrap IntKind.i64 (Int.ofNat (List.length a0) + (1 : Int))) - (1 : Int))) (0 : Int)
              (List.replicate (Int.toNat (min (IntKind.wrap IntKind.i64 (y0 + (1 : Int))) (IntKind.wrap IntKind.i64 (Int.ofNat (List.length a0) + (1 : Int))))) (PV.str [])))))
      (aGd (decide ((0 : Int) ≤ min a3 (IntKind.wrap IntKind.i64 (Int.ofNat (List.length a0) + (1 : Int)))))
        (aGd (decide (min a3 (IntKind.wrap IntKind.i64 (Int.ofNat (List.length a0) + (1 : Int))) * (17 : Int) ≤ (140737488355328 : Int)))
          (L88_11 N N a0 a1 a2 (IntKind.wrap IntKind.i64 (min a3 (IntKind.wrap IntKind.i64 (Int.ofNat (List.length a0) + (1 : Int))) - (1 : Int))) (0 : Int)
            (List.replicate (Int.toNat (min a3 (IntKind.wrap IntKind.i64 (Int.ofNat (List.length a0) + (1 : Int))))) (PV.str []))))))) := by kernel_rfl
noncomputable def C88 (N : Nat) : Callee := mkCallee A88 R88 (F88 N)
theorem S88 (N : Nat) : Cok 88 (C88 N) := cok_of (l := (E88 N).calls) (O := O88 N) (cok_cons (S111 N) (cok_cons (S112 N) cok_nil)) rfl Tryd.func88 rfl (by kernel_rfl) (by kernel_rfl)

-- function 58
def A58 : Cods ((List UInt8) × List UInt8) := (codsCons codStr (codsOne codStr))
def R58 : Cod (List PV) := (codSl 1)
noncomputable def E58 (N : Nat) : Env := ⟨Tryd.prog, [(88, C88 N)]⟩
def O58 (N : Nat) : Opts := ⟨N, [], []⟩
noncomputable def F58 (N : Nat) (a : (List UInt8) × List UInt8) : Option (List PV) := aTyped (E58 N) (O58 N) Tryd.f58 A58 R58 a
theorem F58_eq (N : Nat) (a0 : List UInt8) (a1 : List UInt8) : F58 N (a0, a1) =
    onSome (F88 N (a0, a1, (0 : Int), (-1 : Int))) fun y0 => some y0 := by kernel_rfl
noncomputable def C58 (N : Nat) : Callee := mkCallee A58 R58 (F58 N)
theorem S58 (N : Nat) : Cok 58 (C58 N) := cok_of (l := (E58 N).calls) (O := O58 N) (cok_cons (S88 N) cok_nil) rfl Tryd.func58 rfl (by kernel_rfl) (by kernel_rfl)

-- function 86
def A86 : Cods (Int) := (codsOne (codInt .i64))
def R86 : Cod (Bool) := codBool
noncomputable def E86 (N : Nat) : Env := ⟨Tryd.prog, []⟩
def O86 (N : Nat) : Opts := ⟨N, [], []⟩
noncomputable def F86 (N : Nat) (a : Int) : Option (Bool) := aTyped (E86 N) (O86 N) Tryd.f86 A86 R86 a
theorem F86_eq (N : Nat) (a0 : Int) : F86 N a0 =
    aIf (decide ((0 : Int) ≤ a0)) (some (decide (a0 ≤ (3599 : Int)))) (some false) := by kernel_rfl
noncomputable def C86 (N : Nat) : Callee := mkCallee A86 R86 (F86 N)
theorem S86 (N : Nat) : Cok 86 (C86 N) := cok_of (l := (E86 N).calls) (O := O86 N) cok_nil rfl Tryd.func86 rfl (by kernel_rfl) (by kernel_rfl)

-- function 87
def A87 : Cods (Int) := (codsOne (codInt .i64))
def R87 : Cod (Bool) := codBool
noncomputable def E87 (N : Nat) : Env := ⟨Tryd.prog, []⟩
def O87 (N : Nat) : Opts := ⟨N, [], []⟩
noncomputable def F87 (N : Nat) (a : Int) : Option (Bool) := aTyped (E87 N) (O87 N) Tryd.f87 A87 R87 a
theorem F87_eq (N : Nat) (a0 : Int) : F87 N a0 =
    aIf (decide ((0 : Int) ≤ a0)) (some (decide (a0 ≤ (3599 : Int)))) (some false) := by kernel_rfl
noncomputable def C87 (N : Nat) : Callee := mkCallee A87 R87 (F87 N)
theorem S87 (N : Nat) : Cok 87 (C87 N) := cok_of (l := (E87 N).calls) (O := O87 N) cok_nil rfl Tryd.func87 rfl (by kernel_rfl) (by kernel_rfl)

-- function 53
def A53 : Cods (Int) := (codsOne (codInt .i64))
def R53 : Cod (List UInt8) := codStr
noncomputable def E53 (N : Nat) : Env := ⟨Tryd.prog, [(86, C86 N), (39, C39 N)]⟩
def O53 (N : Nat) : Opts := ⟨N, [], []⟩
noncomputable def F53 (N : Nat) (a : Int) : Option (List UInt8) := aTyped (E53 N) (O53 N) Tryd.f53 A53 R53 a
theorem F53_eq (N : Nat) (a0 : Int) : F53 N a0 =
    onSome (F86 N a0) fun y0 =>
  aIf (!y0) (some [])
    (onSome (F39 N (IntKind.wrap IntKind.i64 (Int.tmod a0 (12 : Int) + (1 : Int)))) fun y1 =>
      aIf (decide (Int.ofNat (List.length y1) < (2 : Int)))
        (aGd (decide ((1 : Nat) + List.length y1 ≤ (9223372036854775807 : Nat)))
          (onSome (F39 N (IntKind.wrap IntKind.i64 ((1900 : Int) + IntKind.wrap IntKind.i64 (Int.tdiv a0 (12 : Int))))) fun y2 =>
            aGd (decide (List.length y2 + (1 : Nat) ≤ (9223372036854775807 : Nat)))
              (aGd (decide (List.length (y2 ++ [(45 : UInt8)]) + List.length ((48 : UInt8) :: List.append [] y1) ≤ (9223372036854775807 : Nat)))
                (some (y2 ++ [(45 : UInt8)] ++ (48 : UInt8) :: List.append [] y1)))))
        (onSome (F39 N (IntKind.wrap IntKind.i64 ((1900 : Int) + IntKind.wrap IntKind.i64 (Int.tdiv a0 (12 : Int))))) fun y3 =>
          aGd (decide (List.length y3 + (1 : Nat) ≤ (9223372036854775807 : Nat)))
            (aGd (decide (List.length (y3 ++ [(45 : UInt8)]) + List.length y1 ≤ (9223372036854775807 : Nat))) (some (y3 ++ [(45 : UInt8)] ++ y1))))) := by kernel_rfl
noncomputable def C53 (N : Nat) : Callee := mkCallee A53 R53 (F53 N)
theorem S53 (N : Nat) : Cok 53 (C53 N) := cok_of (l := (E53 N).calls) (O := O53 N) (cok_cons (S86 N) (cok_cons (S39 N) cok_nil)) rfl Tryd.func53 rfl (by kernel_rfl) (by kernel_rfl)

-- function 56
def A56 : Cods (Int) := (codsOne (codInt .i64))
def R56 : Cod (List UInt8) := codStr
noncomputable def E56 (N : Nat) : Env := ⟨Tryd.prog, [(87, C87 N), (42, C42 N)]⟩
def O56 (N : Nat) : Opts := ⟨N, [], []⟩
noncomputable def F56 (N : Nat) (a : Int) : Option (List UInt8) := aTyped (E56 N) (O56 N) Tryd.f56 A56 R56 a
theorem F56_eq (N : Nat) (a0 : Int) : F56 N a0 =
    onSome (F87 N a0) fun y0 =>
  aIf (!y0) (some [])
    (onSome (F42 N (IntKind.wrap IntKind.i64 (Int.tmod a0 (12 : Int) + (1 : Int)))) fun y1 =>
      aIf (decide (Int.ofNat (List.length y1) < (2 : Int)))
        (aGd (decide ((1 : Nat) + List.length y1 ≤ (9223372036854775807 : Nat)))
          (onSome (F42 N (IntKind.wrap IntKind.i64 ((1900 : Int) + IntKind.wrap IntKind.i64 (Int.tdiv a0 (12 : Int))))) fun y2 =>
            aGd (decide (List.length y2 + (1 : Nat) ≤ (9223372036854775807 : Nat)))
              (aGd (decide (List.length (y2 ++ [(45 : UInt8)]) + List.length ((48 : UInt8) :: List.append [] y1) ≤ (9223372036854775807 : Nat)))
                (some (y2 ++ [(45 : UInt8)] ++ (48 : UInt8) :: List.append [] y1)))))
        (onSome (F42 N (IntKind.wrap IntKind.i64 ((1900 : Int) + IntKind.wrap IntKind.i64 (Int.tdiv a0 (12 : Int))))) fun y3 =>
          aGd (decide (List.length y3 + (1 : Nat) ≤ (9223372036854775807 : Nat)))
            (aGd (decide (List.length (y3 ++ [(45 : UInt8)]) + List.length y1 ≤ (9223372036854775807 : Nat))) (some (y3 ++ [(45 : UInt8)] ++ y1))))) := by kernel_rfl
noncomputable def C56 (N : Nat) : Callee := mkCallee A56 R56 (F56 N)
theorem S56 (N : Nat) : Cok 56 (C56 N) := cok_of (l := (E56 N).calls) (O := O56 N) (cok_cons (S87 N) (cok_cons (S42 N) cok_nil)) rfl Tryd.func56 rfl (by kernel_rfl) (by kernel_rfl)

-- function 60
def A60 : Cods (List UInt8) := (codsOne codStr)
def R60 : Cod ((Int) × Int) := (codTup (codsCons (codInt .i64) (codsOne (codInt .i64))))
noncomputable def E60 (N : Nat) : Env := ⟨Tryd.prog, []⟩
def O60 (N : Nat) : Opts := ⟨N, [(5, ⟨[18, 0, 4, 17], [], [], 0⟩)], []⟩
noncomputable def F60 (N : Nat) (a : List UInt8) : Option ((Int) × Int) := aTyped (E60 N) (O60 N) Tryd.f60 A60 R60 a
noncomputable def L60_5 (N : Nat) (n : Nat) (x0 : List UInt8) (x1 : Int) (x2 : Int) (x3 : Int) : Option (Int × Int) :=
  atLoop (E60 N) (O60 N) Tryd.f60 [(1 : Nat), (1 : Nat), (1 : Nat), (0 : Nat), (1 : Nat), (0 : Nat)] [] n
  {
    tmps :=
      [AV.p (PV.str x0), AV.top, AV.top, AV.top, AV.p (PV.int IntKind.i64 x1), AV.top, AV.top, AV.top, AV.top, AV.top, AV.top, AV.top, AV.top, AV.top, AV.top, AV.top, AV.top,
        AV.p (PV.int IntKind.i64 x2), AV.p (PV.int IntKind.i64 x3), AV.top, AV.top, AV.top, AV.top, AV.top, AV.top, AV.top, AV.top, AV.top, AV.top, AV.top, AV.top, AV.top, AV.top,
        AV.top, AV.top, AV.top, AV.top, AV.top, AV.top, AV.top, AV.top, AV.top, AV.top, AV.top, AV.top, AV.top, AV.top, AV.top, AV.top, AV.top, AV.top, AV.top, AV.top, AV.top,
        AV.top, AV.top, AV.top, AV.top, AV.top, AV.top, AV.top, AV.top, AV.top, AV.top, AV.top, AV.top],
    heap := [] }
  fun x => Cod.dec R60 x some
theorem L60_5_eq (N : Nat) (n : Nat) (x0 : List UInt8) (x1 : Int) (x2 : Int) (x3 : Int) : L60_5 N (n + 1) x0 x1 x2 x3 =
    aIf (decide (x3 < x2))
  (aIf (x3 == (4 : Int)) (L60_5 N n x0 x1 x2 (IntKind.wrap IntKind.i64 (x3 + (1 : Int))))
    (onGet x0 x3 fun z1 =>
      aIf (decide (Int.ofNat (UInt8.toNat z1) < (48 : Int))) (some ((0 : Int), (2 : Int)))
        (onGet x0 x3 fun z2 =>
          aIf (decide ((57 : Int) < Int.ofNat (UInt8.toNat z2))) (some ((0 : Int), (2 : Int)))
            (onGet x0 x3 fun z3 =>
              L60_5 N n x0
                (IntKind.wrap IntKind.i64
                  (IntKind.wrap IntKind.i64 ((10 : Int) * x1) + IntKind.wrap IntKind.i64 (IntKind.wrap IntKind.u8 (Int.ofNat (UInt8.toNat z3) - (48 : Int)))))
                x2 (IntKind.wrap IntKind.i64 (x3 + (1 : Int)))))))
  (aIf (decide (IntKind.wrap IntKind.i64 (Int.tdiv x1 (100 : Int)) < (1900 : Int))) (some ((0 : Int), (3 : Int)))
    (aIf (decide ((2199 : Int) < IntKind.wrap IntKind.i64 (Int.tdiv x1 (100 : Int)))) (some ((0 : Int), (3 : Int)))
      (aIf (decide (Int.tmod x1 (100 : Int) < (1 : Int))) (some ((0 : Int), (3 : Int)))
        (aIf (decide ((12 : Int) < Int.tmod x1 (100 : Int))) (some ((0 : Int), (3 : Int)))
          (some
            (IntKind.wrap IntKind.i64
                (IntKind.wrap IntKind.i64
                    (IntKind.wrap IntKind.i64 ((12 : Int) * IntKind.wrap IntKind.i64 (IntKind.wrap IntKind.i64 (Int.tdiv x1 (100 : Int)) - (1900 : Int))) +
                      Int.tmod x1 (100 : Int)) -
                  (1 : Int)),
              (0 : Int))))))) := by kernel_rfl
theorem L60_5_zero (N : Nat) (x0 : List UInt8) (x1 : Int) (x2 : Int) (x3 : Int) : L60_5 N 0 x0 x1 x2 x3 = none := by kernel_rfl
theorem F60_eq (N : Nat) (a0 : List UInt8) : F60 N a0 =
    aIf (Int.ofNat (List.length a0) != (7 : Int)) (some ((0 : Int), (2 : Int)))
  (onGet a0 (4 : Int) fun z0 => aIf (Int.ofNat (UInt8.toNat z0) != (45 : Int)) (some ((0 : Int), (2 : Int))) (L60_5 N N a0 (0 : Int) (Int.ofNat (List.length a0)) (0 : Int))) := by kernel_rfl
noncomputable def C60 (N : Nat) : Callee := mkCallee A60 R60 (F60 N)
theorem S60 (N : Nat) : Cok 60 (C60 N) := cok_of (l := (E60 N).calls) (O := O60 N) cok_nil rfl Tryd.func60 rfl (by kernel_rfl) (by kernel_rfl)

-- function 64
def A64 : Cods (List UInt8) := (codsOne codStr)
def R64 : Cod ((Int) × Int) := (codTup (codsCons (codInt .i64) (codsOne (codInt .i64))))
noncomputable def E64 (N : Nat) : Env := ⟨Tryd.prog, [(94, C94 N)]⟩
def O64 (N : Nat) : Opts := ⟨N, [], []⟩
noncomputable def F64 (N : Nat) (a : List UInt8) : Option ((Int) × Int) := aTyped (E64 N) (O64 N) Tryd.f64 A64 R64 a
theorem F64_eq (N : Nat) (a0 : List UInt8) : F64 N a0 =
    aIf (Int.ofNat (List.length a0) != (7 : Int)) (some ((0 : Int), (2 : Int)))
  (onGet a0 (4 : Int) fun z0 =>
    aIf (Int.ofNat (UInt8.toNat z0) != (45 : Int)) (some ((0 : Int), (2 : Int)))
      (aGd (decide ((4 : Int) ≤ Int.ofNat (List.length a0)))
        (onSome (F94 N (List.drop (0 : Nat) (List.take (4 : Nat) a0))) fun y1 =>
          aIf (decide (y1 < (0 : Int))) (some ((0 : Int), (2 : Int)))
            (aGd (decide ((5 : Int) ≤ Int.ofNat (List.length a0)))
              (onSome (F94 N (List.drop (5 : Nat) (List.take (List.length a0) a0))) fun y2 =>
                aIf (decide (y2 < (0 : Int))) (some ((0 : Int), (2 : Int)))
                  (aGd (decide ((4 : Int) ≤ Int.ofNat (List.length a0)))
                    (onSome (F94 N (List.drop (0 : Nat) (List.take (4 : Nat) a0))) fun y3 =>
                      aGd (decide ((5 : Int) ≤ Int.ofNat (List.length a0)))
                        (onSome (F94 N (List.drop (5 : Nat) (List.take (List.length a0) a0))) fun y4 =>
                          aIf (decide (y3 < (1900 : Int))) (some ((0 : Int), (3 : Int)))
                            (aIf (decide ((2199 : Int) < y3)) (some ((0 : Int), (3 : Int)))
                              (aIf (decide (y4 < (1 : Int))) (some ((0 : Int), (3 : Int)))
                                (aIf (decide ((12 : Int) < y4)) (some ((0 : Int), (3 : Int)))
                                  (some
                                    (IntKind.wrap IntKind.i64
                                        (IntKind.wrap IntKind.i64 (IntKind.wrap IntKind.i64 ((12 : Int) * IntKind.wrap IntKind.i64 (y3 - (1900 : Int))) + y4) - (1 : Int)),
                                      (0 : Int)))))))))))))) := by kernel_rfl
noncomputable def C64 (N : Nat) : Callee := mkCallee A64 R64 (F64 N)
theorem S64 (N : Nat) : Cok 64 (C64 N) := cok_of (l := (E64 N).calls) (O := O64 N) (cok_cons (S94 N) cok_nil) rfl Tryd.func64 rfl (by kernel_rfl) (by kernel_rfl)

-- function 62
def A62 : Cods (List UInt8) := (codsOne codStr)
def R62 : Cod (List PV) := (codSl 1)
noncomputable def E62 (N : Nat) : Env := ⟨Tryd.prog, []⟩
def O62 (N : Nat) : Opts := ⟨N, [(4, ⟨[5, 4, 0, 3], [], [], 1⟩)], []⟩
noncomputable def F62 (N : Nat) (a : List UInt8) : Option (List PV) := aTyped (E62 N) (O62 N) Tryd.f62 A62 R62 a
noncomputable def L62_4 (N : Nat) (n : Nat) (x0 : List UInt8) (x1 : Int) (x2 : Int) (x3 : List PV) : Option (List PV) :=
  atLoop (E62 N) (O62 N) Tryd.f62 [(1 : Nat), (1 : Nat), (1 : Nat), (0 : Nat), (1 : Nat), (0 : Nat)] [] n
  {
    tmps :=
      [AV.p (PV.str x0), AV.top, AV.top, AV.own (0 : Nat), AV.p (PV.int IntKind.i64 x1), AV.p (PV.int IntKind.i64 x2), AV.top, AV.top, AV.top, AV.top, AV.top, AV.top, AV.top,
        AV.top, AV.top, AV.top, AV.top, AV.top, AV.top, AV.top, AV.top, AV.top, AV.top, AV.top, AV.top, AV.top, AV.top, AV.top, AV.top, AV.top, AV.top, AV.top, AV.top, AV.top,
        AV.top, AV.top, AV.top, AV.top, AV.top, AV.top, AV.top, AV.top, AV.top, AV.top, AV.top, AV.top, AV.top, AV.top, AV.top, AV.top],
    heap := [Blk.row (9 : Nat) (1 : Nat) x3] }
  fun x => Cod.dec R62 x some
theorem L62_4_eq (N : Nat) (n : Nat) (x0 : List UInt8) (x1 : Int) (x2 : Int) (x3 : List PV) : L62_4 N (n + 1) x0 x1 x2 x3 =
    aIf (decide (x2 ≤ Int.ofNat (List.length x0)))
  (aIf (x2 == Int.ofNat (List.length x0))
    (aIf (decide ((0 : Int) ≤ x1))
      (aGd (decide ((0 : Int) ≤ x2))
        (aGd (decide (x2 ≤ Int.ofNat (List.length x0)))
          (aGd (decide ((0 : Int) ≤ x1))
            (aGd (decide (x1 ≤ Int.ofNat (Int.toNat x2)))
              (aGd (decide ((List.length x3 + (1 : Nat)) * (17 : Nat) ≤ (140737488355328 : Nat)))
                (L62_4 N n x0 (-1 : Int) (IntKind.wrap IntKind.i64 (x2 + (1 : Int))) (x3 ++ [PV.str (List.drop (Int.toNat x1) (List.take (Int.toNat x2) x0))])))))))
      (L62_4 N n x0 x1 (IntKind.wrap IntKind.i64 (x2 + (1 : Int))) x3))
    (onGet x0 x2 fun z0 =>
      aIf (Int.ofNat (UInt8.toNat z0) == (32 : Int))
        (aIf (decide ((0 : Int) ≤ x1))
          (aGd (decide ((0 : Int) ≤ x2))
            (aGd (decide (x2 ≤ Int.ofNat (List.length x0)))
              (aGd (decide ((0 : Int) ≤ x1))
                (aGd (decide (x1 ≤ Int.ofNat (Int.toNat x2)))
                  (aGd (decide ((List.length x3 + (1 : Nat)) * (17 : Nat) ≤ (140737488355328 : Nat)))
                    (L62_4 N n x0 (-1 : Int) (IntKind.wrap IntKind.i64 (x2 + (1 : Int))) (x3 ++ [PV.str (List.drop (Int.toNat x1) (List.take (Int.toNat x2) x0))])))))))
          (L62_4 N n x0 x1 (IntKind.wrap IntKind.i64 (x2 + (1 : Int))) x3))
        (onGet x0 x2 fun z1 =>
          aIf (Int.ofNat (UInt8.toNat z1) == (9 : Int))
            (aIf (decide ((0 : Int) ≤ x1))
              (aGd (decide ((0 : Int) ≤ x2))
                (aGd (decide (x2 ≤ Int.ofNat (List.length x0)))
                  (aGd (decide ((0 : Int) ≤ x1))
                    (aGd (decide (x1 ≤ Int.ofNat (Int.toNat x2)))
                      (aGd (decide ((List.length x3 + (1 : Nat)) * (17 : Nat) ≤ (140737488355328 : Nat)))
                        (aIf (!Int.ofNat (UInt8.toNat z1) == (9 : Int))
                          (L62_4 N n x0 x2 (IntKind.wrap IntKind.i64 (x2 + (1 : Int))) (x3 ++ [PV.str (List.drop (Int.toNat x1) (List.take (Int.toNat x2) x0))]))
                          (L62_4 N n x0 (-1 : Int) (IntKind.wrap IntKind.i64 (x2 + (1 : Int))) (x3 ++ [PV.str (List.drop (Int.toNat x1) (List.take (Int.toNat x2) x0))]))))))))
              (aIf (!Int.ofNat (UInt8.toNat z1) == (9 : Int))
                (aIf (decide (x1 < (0 : Int))) (L62_4 N n x0 x2 (IntKind.wrap IntKind.i64 (x2 + (1 : Int))) x3) (L62_4 N n x0 x1 (IntKind.wrap IntKind.i64 (x2 + (1 : Int))) x3))
                (L62_4 N n x0 x1 (IntKind.wrap IntKind.i64 (x2 + (1 : Int))) x3)))
            (aIf (!Int.ofNat (UInt8.toNat z1) == (9 : Int))
              (aIf (decide (x1 < (0 : Int))) (L62_4 N n x0 x2 (IntKind.wrap IntKind.i64 (x2 + (1 : Int))) x3) (L62_4 N n x0 x1 (IntKind.wrap IntKind.i64 (x2 + (1 : Int))) x3))
              (L62_4 N n x0 x1 (IntKind.wrap IntKind.i64 (x2 + (1 : Int))) x3)))))
  (some x3) := by kernel_rfl
theorem L62_4_zero (N : Nat) (x0 : List UInt8) (x1 : Int) (x2 : Int) (x3 : List PV) : L62_4 N 0 x0 x1 x2 x3 = none := by kernel_rfl
theorem F62_eq (N : Nat) (a0 : List UInt8) : F62 N a0 =
    L62_4 N N a0 (-1 : Int) (0 : Int) [] := by kernel_rfl
noncomputable def C62 (N : Nat) : Callee := mkCallee A62 R62 (F62 N)
theorem S62 (N : Nat) : Cok 62 (C62 N) := cok_of (l := (E62 N).calls) (O := O62 N) cok_nil rfl Tryd.func62 rfl (by kernel_rfl) (by kernel_rfl)

-- function 29
def A29 : Cods ((Int) × Int) := (codsCons (codInt .i64) (codsOne (codInt .i64)))
def R29 : Cod ((Int) × Int) := (codTup (codsCons (codInt .i64) (codsOne (codInt .i64))))
noncomputable def E29 (N : Nat) : Env := ⟨Tryd.prog, []⟩
def O29 (N : Nat) : Opts := ⟨N, [], []⟩
noncomputable def F29 (N : Nat) (a : (Int) × Int) : Option ((Int) × Int) := aTyped (E29 N) (O29 N) Tryd.f29 A29 R29 a
theorem F29_eq (N : Nat) (a0 : Int) (a1 : Int) : F29 N (a0, a1) =
    aIf (decide (a0 < (0 : Int))) (some ((0 : Int), (3 : Int)))
  (aIf (decide ((1048576 : Int) < a0)) (some ((0 : Int), (3 : Int)))
    (aIf (decide (a1 < (0 : Int))) (some ((0 : Int), (3 : Int)))
      (aIf (decide ((3599 : Int) < a1)) (some ((0 : Int), (3 : Int))) (some (IntKind.wrap IntKind.i64 (IntKind.wrap IntKind.i64 (a0 * (4096 : Int)) + a1), (0 : Int)))))) := by kernel_rfl
noncomputable def C29 (N : Nat) : Callee := mkCallee A29 R29 (F29 N)
theorem S29 (N : Nat) : Cok 29 (C29 N) := cok_of (l := (E29 N).calls) (O := O29 N) cok_nil rfl Tryd.func29 rfl (by kernel_rfl) (by kernel_rfl)

-- function 30
def A30 : Cods ((Int) × Int) := (codsCons (codInt .i64) (codsOne (codInt .i64)))
def R30 : Cod ((Int) × Int) := (codTup (codsCons (codInt .i64) (codsOne (codInt .i64))))
noncomputable def E30 (N : Nat) : Env := ⟨Tryd.prog, []⟩
def O30 (N : Nat) : Opts := ⟨N, [], []⟩
noncomputable def F30 (N : Nat) (a : (Int) × Int) : Option ((Int) × Int) := aTyped (E30 N) (O30 N) Tryd.f30 A30 R30 a
theorem F30_eq (N : Nat) (a0 : Int) (a1 : Int) : F30 N (a0, a1) =
    aIf (decide (a0 < (0 : Int))) (some ((0 : Int), (3 : Int)))
  (aIf (decide ((1048576 : Int) < a0)) (some ((0 : Int), (3 : Int)))
    (aIf (decide (a1 < (0 : Int))) (some ((0 : Int), (3 : Int)))
      (aIf (decide ((3599 : Int) < a1)) (some ((0 : Int), (3 : Int))) (some (IntKind.wrap IntKind.i64 (IntKind.wrap IntKind.i64 (a0 * (4096 : Int)) + a1), (0 : Int)))))) := by kernel_rfl
noncomputable def C30 (N : Nat) : Callee := mkCallee A30 R30 (F30 N)
theorem S30 (N : Nat) : Cok 30 (C30 N) := cok_of (l := (E30 N).calls) (O := O30 N) cok_nil rfl Tryd.func30 rfl (by kernel_rfl) (by kernel_rfl)

-- function 49
def A49 : Cods (List PV) := (codsOne (codSl 4))
def R49 : Cod (Int) := (codInt .i64)
noncomputable def E49 (N : Nat) : Env := ⟨Tryd.prog, []⟩
def O49 (N : Nat) : Opts := ⟨N, [(3, ⟨[8, 3, 6, 7], [], [], 0⟩)], []⟩
noncomputable def F49 (N : Nat) (a : List PV) : Option (Int) := aTyped (E49 N) (O49 N) Tryd.f49 A49 R49 a
noncomputable def L49_3 (N : Nat) (n : Nat) (x0 : Int) (x1 : List PV) (x2 : Int) (x3 : Int) : Option Int :=
  atLoop (E49 N) (O49 N) Tryd.f49 [(1 : Nat), (1 : Nat), (0 : Nat), (1 : Nat), (0 : Nat)] [] n
  {
    tmps :=
      [AV.top, AV.top, AV.top, AV.p (PV.int IntKind.i64 x0), AV.top, AV.top, AV.p (PV.sl (4 : Nat) x1), AV.p (PV.int IntKind.i64 x2), AV.p (PV.int IntKind.i64 x3), AV.top, AV.top,
        AV.top, AV.top, AV.top, AV.top, AV.top, AV.top, AV.top, AV.top, AV.top, AV.top, AV.top, AV.top, AV.top, AV.top, AV.top, AV.top, AV.top],
    heap := [] }
  fun x => Cod.dec R49 x some
theorem L49_3_eq (N : Nat) (n : Nat) (x0 : Int) (x1 : List PV) (x2 : Int) (x3 : Int) : L49_3 N (n + 1) x0 x1 x2 x3 =
    aIf (decide (x3 < x2))
  (onGet x1 x3 fun z0 =>
    onCons (List.take (4 : Nat) (List.drop (0 : Nat) (PV.cells z0))) fun h1 t2 =>
      onInt IntKind.i64 h1 fun n3 =>
        onCons t2 fun h4 t5 =>
          onInt IntKind.i64 h4 fun n6 =>
            onCons t5 fun h7 t8 =>
              onInt IntKind.i64 h7 fun n9 =>
                onCons t8 fun h10 t11 =>
                  onInt IntKind.i64 h10 fun n12 =>
                    onNil t11
                      (aGd (decide ((0 : Nat) + (4 : Nat) ≤ (4 : Nat)))
                        (aIf (n9 == (1 : Int)) (L49_3 N n (IntKind.wrap IntKind.i64 (x0 + n12)) x1 x2 (IntKind.wrap IntKind.i64 (x3 + (1 : Int))))
                          (aIf (n9 == (2 : Int)) (L49_3 N n (IntKind.wrap IntKind.i64 (x0 - n12)) x1 x2 (IntKind.wrap IntKind.i64 (x3 + (1 : Int))))
                            (L49_3 N n x0 x1 x2 (IntKind.wrap IntKind.i64 (x3 + (1 : Int))))))))
  (some x0) := by kernel_rfl
theorem L49_3_zero (N : Nat) (x0 : Int) (x1 : List PV) (x2 : Int) (x3 : Int) : L49_3 N 0 x0 x1 x2 x3 = none := by kernel_rfl
theorem F49_eq (N : Nat) (a0 : List PV) : F49 N a0 =
    L49_3 N N (0 : Int) a0 (Int.ofNat (List.length a0)) (0 : Int) := by kernel_rfl
noncomputable def C49 (N : Nat) : Callee := mkCallee A49 R49 (F49 N)
theorem S49 (N : Nat) : Cok 49 (C49 N) := cok_of (l := (E49 N).calls) (O := O49 N) cok_nil rfl Tryd.func49 rfl (by kernel_rfl) (by kernel_rfl)

-- function 50
def A50 : Cods (List PV) := (codsOne (codSl 4))
def R50 : Cod (Int) := (codInt .i64)
noncomputable def E50 (N : Nat) : Env := ⟨Tryd.prog, []⟩
def O50 (N : Nat) : Opts := ⟨N, [(3, ⟨[4, 0, 3], [], [], 0⟩)], []⟩
noncomputable def F50 (N : Nat) (a : List PV) : Option (Int) := aTyped (E50 N) (O50 N) Tryd.f50 A50 R50 a
noncomputable def L50_3 (N : Nat) (n : Nat) (x0 : List PV) (x1 : Int) (x2 : Int) : Option Int :=
  atLoop (E50 N) (O50 N) Tryd.f50 [(1 : Nat), (1 : Nat), (0 : Nat), (1 : Nat), (0 : Nat)] [] n
  {
    tmps :=
      [AV.p (PV.sl (4 : Nat) x0), AV.top, AV.top, AV.p (PV.int IntKind.i64 x1), AV.p (PV.int IntKind.i64 x2), AV.top, AV.top, AV.top, AV.top, AV.top, AV.top, AV.top, AV.top,
        AV.top, AV.top, AV.top, AV.top, AV.top, AV.top, AV.top, AV.top, AV.top, AV.top, AV.top, AV.top, AV.top, AV.top, AV.top, AV.top, AV.top, AV.top, AV.top, AV.top, AV.top,
        AV.top, AV.top, AV.top, AV.top],
    heap := [] }
  fun x => Cod.dec R50 x some
theorem L50_3_eq (N : Nat) (n : Nat) (x0 : List PV) (x1 : Int) (x2 : Int) : L50_3 N (n + 1) x0 x1 x2 =
    aIf (decide (x2 < Int.ofNat (List.length x0)))
  (onGet x0 x2 fun z0 =>
    onSome (PV.cells z0)[(2 : Nat)]? fun y1 =>
      onInt IntKind.i64 y1 fun n2 =>
        aIf (n2 == (1 : Int))
          (onGet x0 x2 fun z3 =>
            onSome (PV.cells z3)[(3 : Nat)]? fun y4 =>
              onInt IntKind.i64 y4 fun n5 =>
                onGet x0 x2 fun z6 =>
                  onSome (PV.cells z6)[(2 : Nat)]? fun y7 =>
                    onInt IntKind.i64 y7 fun n8 =>
                      aIf (n8 == (2 : Int))
                        (onGet x0 x2 fun z9 =>
                          onSome (PV.cells z9)[(3 : Nat)]? fun y10 =>
                            onInt IntKind.i64 y10 fun n11 =>
                              L50_3 N n x0 (IntKind.wrap IntKind.i64 (IntKind.wrap IntKind.i64 (x1 + n5) - n11)) (IntKind.wrap IntKind.i64 (x2 + (1 : Int))))
                        (L50_3 N n x0 (IntKind.wrap IntKind.i64 (x1 + n5)) (IntKind.wrap IntKind.i64 (x2 + (1 : Int)))))
          (onGet x0 x2 fun z12 =>
            onSome (PV.cells z12)[(2 : Nat)]? fun y13 =>
              onInt IntKind.i64 y13 fun n14 =>
                aIf (n14 == (2 : Int))
                  (onGet x0 x2 fun z15 =>
                    onSome (PV.cells z15)[(3 : Nat)]? fun y16 =>
                      onInt IntKind.i64 y16 fun n17 => L50_3 N n x0 (IntKind.wrap IntKind.i64 (x1 - n17)) (IntKind.wrap IntKind.i64 (x2 + (1 : Int))))
                  (L50_3 N n x0 x1 (IntKind.wrap IntKind.i64 (x2 + (1 : Int))))))
  (some x1) := by kernel_rfl
theorem L50_3_zero (N : Nat) (x0 : List PV) (x1 : Int) (x2 : Int) : L50_3 N 0 x0 x1 x2 = none := by kernel_rfl
theorem F50_eq (N : Nat) (a0 : List PV) : F50 N a0 =
    L50_3 N N a0 (0 : Int) (0 : Int) := by kernel_rfl
noncomputable def C50 (N : Nat) : Callee := mkCallee A50 R50 (F50 N)
theorem S50 (N : Nat) : Cok 50 (C50 N) := cok_of (l := (E50 N).calls) (O := O50 N) cok_nil rfl Tryd.func50 rfl (by kernel_rfl) (by kernel_rfl)

-- function 32
def A32 : Cods ((Int) × (Int) × (Int) × List PV) := (codsCons (codInt .i64) (codsCons (codInt .i64) (codsCons (codInt .i64) (codsOne (codSl 4)))))
def R32 : Cod (((Int) × (Int) × (Int) × (Int) × Int) × Int) := (codTup (codsCons (codAgg (codsCons (codInt .i64) (codsCons (codInt .i64) (codsCons (codInt .i64) (codsCons (codInt .i64) (codsOne (codInt .i64))))))) (codsOne (codInt .i64))))
noncomputable def E32 (N : Nat) : Env := ⟨Tryd.prog, [(29, C29 N), (49, C49 N)]⟩
def O32 (N : Nat) : Opts := ⟨N, [(6, ⟨[30, 12, 13, 14, 28, 8, 2, 3, 1, 0, 10, 29], [], [], 1⟩)], []⟩
noncomputable def F32 (N : Nat) (a : (Int) × (Int) × (Int) × List PV) : Option (((Int) × (Int) × (Int) × (Int) × Int) × Int) := aTyped (E32 N) (O32 N) Tryd.f32 A32 R32 a
noncomputable def L32_6 (N : Nat) (n : Nat) (x0 : Int) (x1 : Int) (x2 : Int) (x3 : List PV) (x4 : Int) (x5 : Int) (x6 : Int) (x7 : Int) (x8 : List PV) (x9 : Int) (x10 : Int) (x11 : Int) (x12 : Int) (x13 : Int) (x14 : Int) (x15 : Int) : Option ((Int × Int × Int × Int × Int) × Int) :=
  atLoop (E32 N) (O32 N) Tryd.f32 [(1 : Nat), (1 : Nat), (1 : Nat), (1 : Nat), (0 : Nat), (1 : Nat), (0 : Nat)] [] n
  {
    tmps :=
      [AV.p (PV.int IntKind.i64 x0), AV.p (PV.int IntKind.i64 x1), AV.p (PV.int IntKind.i64 x2), AV.p (PV.sl (4 : Nat) x3), AV.top, AV.top, AV.top, AV.top,
        AV.box (0 : Nat) (0 : Nat), AV.top, AV.p (PV.int IntKind.i64 x4), AV.top, AV.p (PV.int IntKind.i64 x5), AV.p (PV.int IntKind.i64 x6), AV.p (PV.int IntKind.i64 x7), AV.top,
        AV.top, AV.top, AV.top, AV.top, AV.top, AV.top, AV.top, AV.top, AV.top, AV.top, AV.top, AV.top, AV.p (PV.sl (4 : Nat) x8), AV.p (PV.int IntKind.i64 x9),
        AV.p (PV.int IntKind.i64 x10), AV.top, AV.top, AV.top, AV.top, AV.top, AV.top, AV.top, AV.top, AV.top, AV.top, AV.top, AV.top, AV.top, AV.top, AV.top, AV.top, AV.top,
        AV.top, AV.top, AV.top, AV.top, AV.top, AV.top, AV.top, AV.top, AV.top, AV.top, AV.top, AV.top, AV.top, AV.top, AV.top, AV.top, AV.top, AV.top, AV.top, AV.top, AV.top],
    heap := [Blk.box [AV.p (PV.int IntKind.i64 x11), AV.p (PV.int IntKind.i64 x12), AV.p (PV.int IntKind.i64 x13), AV.p (PV.int IntKind.i64 x14), AV.p (PV.int IntKind.i64 x15)]] }
  fun x => Cod.dec R32 x some
theorem L32_6_eq (N : Nat) (n : Nat) (x0 : Int) (x1 : Int) (x2 : Int) (x3 : List PV) (x4 : Int) (x5 : Int) (x6 : Int) (x7 : Int) (x8 : List PV) (x9 : Int) (x10 : Int) (x11 : Int) (x12 : Int) (x13 : Int) (x14 : Int) (x15 : Int) : L32_6 N (n + 1) x0 x1 x2 x3 x4 x5 x6 x7 x8 x9 x10 x11 x12 x13 x14 x15 =
    aIf (decide (x10 < x9))
  (onGet x8 x10 fun z1 =>
    onCons (List.take (4 : Nat) (List.drop (0 : Nat) (PV.cells z1))) fun h2 t3 =>
      onInt IntKind.i64 h2 fun n4 =>
        onCons t3 fun h5 t6 =>
          onInt IntKind.i64 h5 fun n7 =>
            onCons t6 fun h8 t9 =>
              onInt IntKind.i64 h8 fun n10 =>
                onCons t9 fun h11 t12 =>
                  onInt IntKind.i64 h11 fun n13 =>
                    onNil t12
                      (aGd (decide ((0 : Nat) + (4 : Nat) ≤ (4 : Nat)))
                        (aIf (n10 == (1 : Int))
                          (L32_6 N n x0 x1 x2 x3 x4 (IntKind.wrap IntKind.i64 (x5 + n13)) (IntKind.wrap IntKind.i64 (x6 + (1 : Int))) x7 x8 x9
                            (IntKind.wrap IntKind.i64 (x10 + (1 : Int))) x11 x12 x13 x14 x15)
                          (aIf (n10 == (2 : Int))
                            (L32_6 N n x0 x1 x2 x3 x4 x5 x6 (IntKind.wrap IntKind.i64 (x7 + (1 : Int))) x8 x9 (IntKind.wrap IntKind.i64 (x10 + (1 : Int))) x11 x12 x13 x14 x15)
                            (L32_6 N n x0 x1 x2 x3 x4 x5 x6 x7 x8 x9 (IntKind.wrap IntKind.i64 (x10 + (1 : Int))) x11 x12 x13 x14 x15)))))
  (onSome (F49 N x3) fun y14 =>
    aGd (decide ((0 : Nat) + (5 : Nat) ≤ (5 : Nat)))
      (aIf (x6 == (0 : Int)) (aGd (decide ((3 : Nat) + (1 : Nat) ≤ (5 : Nat))) (aGd (decide ((0 : Nat) + (5 : Nat) ≤ (5 : Nat))) (some ((x4, x0, x1, (4 : Int), y14), (0 : Int)))))
        (aIf (decide ((0 : Int) < x7))
          (aGd (decide ((3 : Nat) + (1 : Nat) ≤ (5 : Nat))) (aGd (decide ((0 : Nat) + (5 : Nat) ≤ (5 : Nat))) (some ((x4, x0, x1, (3 : Int), y14), (0 : Int)))))
          (aIf (decide (x2 < x5))
            (aGd (decide ((3 : Nat) + (1 : Nat) ≤ (5 : Nat))) (aGd (decide ((0 : Nat) + (5 : Nat) ≤ (5 : Nat))) (some ((x4, x0, x1, (1 : Int), y14), (0 : Int)))))
            (aGd (decide ((0 : Nat) + (5 : Nat) ≤ (5 : Nat))) (some ((x4, x0, x1, (2 : Int), y14), (0 : Int)))))))) := by kernel_rfl
theorem L32_6_zero (N : Nat) (x0 : Int) (x1 : Int) (x2 : Int) (x3 : List PV) (x4 : Int) (x5 : Int) (x6 : Int) (x7 : Int) (x8 : List PV) (x9 : Int) (x10 : Int) (x11 : Int) (x12 : Int) (x13 : Int) (x14 : Int) (x15 : Int) : L32_6 N 0 x0 x1 x2 x3 x4 x5 x6 x7 x8 x9 x10 x11 x12 x13 x14 x15 = none := by kernel_rfl
theorem F32_eq (N : Nat) (a0 : Int) (a1 : Int) (a2 : Int) (a3 : List PV) : F32 N (a0, a1, a2, a3) =
    onSome (F29 N (a0, a1)) fun y0 =>
  aIf (Prod.snd y0 != (0 : Int)) (aGd (decide ((0 : Nat) + (5 : Nat) ≤ (5 : Nat))) (some (((0 : Int), (0 : Int), (0 : Int), (0 : Int), (0 : Int)), Prod.snd y0)))
    (L32_6 N N a0 a1 a2 a3 (Prod.fst y0) (0 : Int) (0 : Int) (0 : Int) a3 (Int.ofNat (List.length a3)) (0 : Int) (0 : Int) (0 : Int) (0 : Int) (0 : Int) (0 : Int)) := by kernel_rfl
noncomputable def C32 (N : Nat) : Callee := mkCallee A32 R32 (F32 N)
theorem S32 (N : Nat) : Cok 32 (C32 N) := cok_of (l := (E32 N).calls) (O := O32 N) (cok_cons (S29 N) (cok_cons (S49 N) cok_nil)) rfl Tryd.func32 rfl (by kernel_rfl) (by kernel_rfl)

-- function 33
def A33 : Cods ((Int) × (Int) × (Int) × List PV) := (codsCons (codInt .i64) (codsCons (codInt .i64) (codsCons (codInt .i64) (codsOne (codSl 4)))))
def R33 : Cod (((Int) × (Int) × (Int) × (Int) × Int) × Int) := (codTup (codsCons (codAgg (codsCons (codInt .i64) (codsCons (codInt .i64) (codsCons (codInt .i64) (codsCons (codInt .i64) (codsOne (codInt .i64))))))) (codsOne (codInt .i64))))
noncomputable def E33 (N : Nat) : Env := ⟨Tryd.prog, [(30, C30 N), (50, C50 N)]⟩
def O33 (N : Nat) : Opts := ⟨N, [(7, ⟨[16, 14, 3, 15, 13, 8, 12, 2], [], [], 2⟩)], []⟩
noncomputable def F33 (N : Nat) (a : (Int) × (Int) × (Int) × List PV) : Option (((Int) × (Int) × (Int) × (Int) × Int) × Int) := aTyped (E33 N) (O33 N) Tryd.f33 A33 R33 a
noncomputable def L33_7 (N : Nat) (n : Nat) (x0 : Int) (x1 : List PV) (x2 : Int) (x3 : Int) (x4 : Int) (x5 : Int) (x6 : Int) (x7 : Int) (x8 : Int) (x9 : Int) (x10 : Int) (x11 : Int) (x12 : Int) (x13 : Int) (x14 : Int) (x15 : Int) : Option ((Int × Int × Int × Int × Int) × Int) :=
  atLoop (E33 N) (O33 N) Tryd.f33 [(1 : Nat), (1 : Nat), (1 : Nat), (1 : Nat), (1 : Nat), (0 : Nat), (1 : Nat), (0 : Nat)] [] n
  {
    tmps :=
      [AV.top, AV.top, AV.p (PV.int IntKind.i64 x0), AV.p (PV.sl (4 : Nat) x1), AV.top, AV.top, AV.top, AV.top, AV.box (0 : Nat) (0 : Nat), AV.top, AV.top, AV.top,
        AV.box (1 : Nat) (0 : Nat), AV.p (PV.int IntKind.i64 x2), AV.p (PV.int IntKind.i64 x3), AV.p (PV.int IntKind.i64 x4), AV.p (PV.int IntKind.i64 x5), AV.top, AV.top, AV.top,
        AV.top, AV.top, AV.top, AV.top, AV.top, AV.top, AV.top, AV.top, AV.top, AV.top, AV.top, AV.top, AV.top, AV.top, AV.top, AV.top, AV.top, AV.top, AV.top, AV.top, AV.top,
        AV.top, AV.top, AV.top, AV.top, AV.top, AV.top, AV.top, AV.top, AV.top, AV.top, AV.top, AV.top, AV.top, AV.top, AV.top, AV.top, AV.top, AV.top, AV.top, AV.top, AV.top,
        AV.top, AV.top, AV.top, AV.top, AV.top, AV.top, AV.top, AV.top, AV.top, AV.top, AV.top],
    heap :=
      [Blk.box [AV.p (PV.int IntKind.i64 x6), AV.p (PV.int IntKind.i64 x7), AV.p (PV.int IntKind.i64 x8), AV.p (PV.int IntKind.i64 x9), AV.p (PV.int IntKind.i64 x10)],
        Blk.box [AV.p (PV.int IntKind.i64 x11), AV.p (PV.int IntKind.i64 x12), AV.p (PV.int IntKind.i64 x13), AV.p (PV.int IntKind.i64 x14), AV.p (PV.int IntKind.i64 x15)]] }
  fun x => Cod.dec R33 x some
theorem L33_7_eq (N : Nat) (n : Nat) (x0 : Int) (x1 : List PV) (x2 : Int) (x3 : Int) (x4 : Int) (x5 : Int) (x6 : Int) (x7 : Int) (x8 : Int) (x9 : Int) (x10 : Int) (x11 : Int) (x12 : Int) (x13 : Int) (x14 : Int) (x15 : Int) : L33_7 N (n + 1) x0 x1 x2 x3 x4 x5 x6 x7 x8 x9 x10 x11 x12 x13 x14 x15 =
    aIf (decide (x5 < Int.ofNat (List.length x1)))
  (onGet x1 x5 fun z2 =>
    onSome (PV.cells z2)[(2 : Nat)]? fun y3 =>
      onInt IntKind.i64 y3 fun n4 =>
        aIf (n4 == (1 : Int))
          (onGet x1 x5 fun z5 =>
            onSome (PV.cells z5)[(3 : Nat)]? fun y6 =>
              onInt IntKind.i64 y6 fun n7 =>
                onGet x1 x5 fun z8 =>
                  onSome (PV.cells z8)[(2 : Nat)]? fun y9 =>
                    onInt IntKind.i64 y9 fun n10 =>
                      aIf (n10 == (2 : Int))
                        (L33_7 N n x0 x1 (IntKind.wrap IntKind.i64 (x2 + (1 : Int))) (IntKind.wrap IntKind.i64 (x3 + (1 : Int))) (IntKind.wrap IntKind.i64 (x4 + n7))
                          (IntKind.wrap IntKind.i64 (x5 + (1 : Int))) x6 x7 x8 x9 x10 x11 x12 x13 x14 x15)
                        (L33_7 N n x0 x1 (IntKind.wrap IntKind.i64 (x2 + (1 : Int))) x3 (IntKind.wrap IntKind.i64 (x4 + n7)) (IntKind.wrap IntKind.i64 (x5 + (1 : Int))) x6 x7 x8 x9
                          x10 x11 x12 x13 x14 x15))
          (onGet x1 x5 fun z11 =>
            onSome (PV.cells z11)[(2 : Nat)]? fun y12 =>
              onInt IntKind.i64 y12 fun n13 =>
                aIf (n13 == (2 : Int))
                  (L33_7 N n x0 x1 x2 (IntKind.wrap IntKind.i64 (x3 + (1 : Int))) x4 (IntKind.wrap IntKind.i64 (x5 + (1 : Int))) x6 x7 x8 x9 x10 x11 x12 x13 x14 x15)
                  (L33_7 N n x0 x1 x2 x3 x4 (IntKind.wrap IntKind.i64 (x5 + (1 : Int))) x6 x7 x8 x9 x10 x11 x12 x13 x14 x15)))
  (aIf (decide (x0 < x4))
    (aGd (decide ((3 : Nat) + (1 : Nat) ≤ (5 : Nat)))
      (aIf (decide ((0 : Int) < x3))
        (aGd (decide ((3 : Nat) + (1 : Nat) ≤ (5 : Nat)))
          (aIf (x2 == (0 : Int))
            (aGd (decide ((3 : Nat) + (1 : Nat) ≤ (5 : Nat))) (aGd (decide ((0 : Nat) + (5 : Nat) ≤ (5 : Nat))) (some ((x11, x12, x13, (4 : Int), x15), (0 : Int)))))
            (aGd (decide ((0 : Nat) + (5 : Nat) ≤ (5 : Nat))) (some ((x11, x12, x13, (3 : Int), x15), (0 : Int))))))
        (aIf (x2 == (0 : Int))
          (aGd (decide ((3 : Nat) + (1 : Nat) ≤ (5 : Nat))) (aGd (decide ((0 : Nat) + (5 : Nat) ≤ (5 : Nat))) (some ((x11, x12, x13, (4 : Int), x15), (0 : Int)))))
          (aGd (decide ((0 : Nat) + (5 : Nat) ≤ (5 : Nat))) (some ((x11, x12, x13, (1 : Int), x15), (0 : Int)))))))
    (aIf (decide ((0 : Int) < x3))
      (aGd (decide ((3 : Nat) + (1 : Nat) ≤ (5 : Nat)))
        (aIf (x2 == (0 : Int))
          (aGd (decide ((3 : Nat) + (1 : Nat) ≤ (5 : Nat))) (aGd (decide ((0 : Nat) + (5 : Nat) ≤ (5 : Nat))) (some ((x11, x12, x13, (4 : Int), x15), (0 : Int)))))
          (aGd (decide ((0 : Nat) + (5 : Nat) ≤ (5 : Nat))) (some ((x11, x12, x13, (3 : Int), x15), (0 : Int))))))
      (aIf (x2 == (0 : Int))
        (aGd (decide ((3 : Nat) + (1 : Nat) ≤ (5 : Nat))) (aGd (decide ((0 : Nat) + (5 : Nat) ≤ (5 : Nat))) (some ((x11, x12, x13, (4 : Int), x15), (0 : Int)))))
        (aGd (decide ((0 : Nat) + (5 : Nat) ≤ (5 : Nat))) (some ((x11, x12, x13, x14, x15), (0 : Int))))))) := by kernel_rfl
theorem L33_7_zero (N : Nat) (x0 : Int) (x1 : List PV) (x2 : Int) (x3 : Int) (x4 : Int) (x5 : Int) (x6 : Int) (x7 : Int) (x8 : Int) (x9 : Int) (x10 : Int) (x11 : Int) (x12 : Int) (x13 : Int) (x14 : Int) (x15 : Int) : L33_7 N 0 x0 x1 x2 x3 x4 x5 x6 x7 x8 x9 x10 x11 x12 x13 x14 x15 = none := by kernel_rfl
theorem F33_eq (N : Nat) (a0 : Int) (a1 : Int) (a2 : Int) (a3 : List PV) : F33 N (a0, a1, a2, a3) =
    onSome (F30 N (a0, a1)) fun y0 =>
  aIf (Prod.snd y0 != (0 : Int)) (aGd (decide ((0 : Nat) + (5 : Nat) ≤ (5 : Nat))) (some (((0 : Int), (0 : Int), (0 : Int), (0 : Int), (0 : Int)), Prod.snd y0)))
    (onSome (F50 N a3) fun y1 =>
      aGd (decide ((0 : Nat) + (5 : Nat) ≤ (5 : Nat)))
        (L33_7 N N a2 a3 (0 : Int) (0 : Int) (0 : Int) (0 : Int) (0 : Int) (0 : Int) (0 : Int) (0 : Int) (0 : Int) (Prod.fst y0) a0 a1 (2 : Int) y1)) := by kernel_rfl
noncomputable def C33 (N : Nat) : Callee := mkCallee A33 R33 (F33 N)
theorem S33 (N : Nat) : Cok 33 (C33 N) := cok_of (l := (E33 N).calls) (O := O33 N) (cok_cons (S30 N) (cok_cons (S50 N) cok_nil)) rfl Tryd.func33 rfl (by kernel_rfl) (by kernel_rfl)

-- function 51
def A51 : Cods ((Int) × (Int) × (Int) × (Int) × Int) := (codsOne (codAgg (codsCons (codInt .i64) (codsCons (codInt .i64) (codsCons (codInt .i64) (codsCons (codInt .i64) (codsOne (codInt .i64))))))))
def R51 : Cod (Bool) := codBool
noncomputable def E51 (N : Nat) : Env := ⟨Tryd.prog, [(29, C29 N)]⟩
def O51 (N : Nat) : Opts := ⟨N, [], []⟩
noncomputable def F51 (N : Nat) (a : (Int) × (Int) × (Int) × (Int) × Int) : Option (Bool) := aTyped (E51 N) (O51 N) Tryd.f51 A51 R51 a
theorem F51_eq (N : Nat) (a0 : Int) (a1 : Int) (a2 : Int) (a3 : Int) (a4 : Int) : F51 N (a0, a1, a2, a3, a4) =
    onSome (F29 N (a1, a2)) fun y0 =>
  aIf (Prod.snd y0 == (0 : Int))
    (aIf (Prod.fst y0 == a0)
      (aIf (decide ((1 : Int) ≤ a3)) (aIf (decide (a3 ≤ (4 : Int))) (aIf (decide ((0 : Int) ≤ a4)) (some (decide (a4 ≤ (1000000000000000 : Int)))) (some false)) (some false))
        (some false))
      (some false))
    (some false) := by kernel_rfl
noncomputable def C51 (N : Nat) : Callee := mkCallee A51 R51 (F51 N)
theorem S51 (N : Nat) : Cok 51 (C51 N) := cok_of (l := (E51 N).calls) (O := O51 N) (cok_cons (S29 N) cok_nil) rfl Tryd.func51 rfl (by kernel_rfl) (by kernel_rfl)

-- function 54
def A54 : Cods (Unit) := codsNil
def R54 : Cod (List PV) := (codSl 1)
noncomputable def E54 (N : Nat) : Env := ⟨Tryd.prog, []⟩
def O54 (N : Nat) : Opts := ⟨N, [], []⟩
noncomputable def F54 (N : Nat) (a : Unit) : Option (List PV) := aTyped (E54 N) (O54 N) Tryd.f54 A54 R54 a
theorem F54_eq (N : Nat)  : F54 N () =
    some
  [PV.str [], PV.str [(97 : UInt8), (114 : UInt8), (114 : UInt8), (101 : UInt8), (97 : UInt8), (114 : UInt8), (115 : UInt8)],
    PV.str [(114 : UInt8), (101 : UInt8), (103 : UInt8), (117 : UInt8), (108 : UInt8), (97 : UInt8), (114 : UInt8)],
    PV.str [(114 : UInt8), (101 : UInt8), (99 : UInt8), (111 : UInt8), (118 : UInt8), (101 : UInt8), (114 : UInt8), (121 : UInt8)],
    PV.str [(110 : UInt8), (111 : UInt8), (110 : UInt8), (101 : UInt8)]] := by kernel_rfl
noncomputable def C54 (N : Nat) : Callee := mkCallee A54 R54 (F54 N)
theorem S54 (N : Nat) : Cok 54 (C54 N) := cok_of (l := (E54 N).calls) (O := O54 N) cok_nil rfl Tryd.func54 rfl (by kernel_rfl) (by kernel_rfl)

-- function 34
def A34 : Cods ((Int) × (Int) × (Int) × (Int) × Int) := (codsOne (codAgg (codsCons (codInt .i64) (codsCons (codInt .i64) (codsCons (codInt .i64) (codsCons (codInt .i64) (codsOne (codInt .i64))))))))
def R34 : Cod (List UInt8) := codStr
noncomputable def E34 (N : Nat) : Env := ⟨Tryd.prog, [(51, C51 N), (39, C39 N), (53, C53 N), (54, C54 N), (40, C40 N), (52, C52 N)]⟩
def O34 (N : Nat) : Opts := ⟨N, [], []⟩
noncomputable def F34 (N : Nat) (a : (Int) × (Int) × (Int) × (Int) × Int) : Option (List UInt8) := aTyped (E34 N) (O34 N) Tryd.f34 A34 R34 a
theorem F34_eq (N : Nat) (a0 : Int) (a1 : Int) (a2 : Int) (a3 : Int) (a4 : Int) : F34 N (a0, a1, a2, a3, a4) =
    onSome (F51 N (a0, a1, a2, a3, a4)) fun y0 =>
  aIf (!y0) (some [])
    (onSome (F39 N a0) fun y1 =>
      onSome (F39 N a1) fun y2 =>
        onSome (F53 N a2) fun y3 =>
          onSome (F54 N PUnit.unit) fun y4 =>
            onGet y4 a3 fun z5 =>
              onStr z5 fun u6 =>
                onSome (F40 N (a4, (2 : Int))) fun y7 =>
                  onSome
                    (F52 N
                      ([PV.str [(110 : UInt8), (111 : UInt8), (116 : UInt8), (105 : UInt8), (99 : UInt8), (101 : UInt8)], PV.str y1,
                          PV.str [(104 : UInt8), (111 : UInt8), (117 : UInt8), (115 : UInt8), (101 : UInt8), (104 : UInt8), (111 : UInt8), (108 : UInt8), (100 : UInt8)], PV.str y2,
                          PV.str [(109 : UInt8), (111 : UInt8), (110 : UInt8), (116 : UInt8), (104 : UInt8)], PV.str y3, PV.str u6, PV.str y7],
                        [(32 : UInt8)]))
                    fun y8 => some y8) := by kernel_rfl
noncomputable def C34 (N : Nat) : Callee := mkCallee A34 R34 (F34 N)
theorem S34 (N : Nat) : Cok 34 (C34 N) := cok_of (l := (E34 N).calls) (O := O34 N) (cok_cons (S51 N) (cok_cons (S39 N) (cok_cons (S53 N) (cok_cons (S54 N) (cok_cons (S40 N) (cok_cons (S52 N) cok_nil)))))) rfl Tryd.func34 rfl (by kernel_rfl) (by kernel_rfl)

-- function 55
def A55 : Cods ((Int) × (Int) × (Int) × (Int) × Int) := (codsOne (codAgg (codsCons (codInt .i64) (codsCons (codInt .i64) (codsCons (codInt .i64) (codsCons (codInt .i64) (codsOne (codInt .i64))))))))
def R55 : Cod (Bool) := codBool
noncomputable def E55 (N : Nat) : Env := ⟨Tryd.prog, [(30, C30 N)]⟩
def O55 (N : Nat) : Opts := ⟨N, [], []⟩
noncomputable def F55 (N : Nat) (a : (Int) × (Int) × (Int) × (Int) × Int) : Option (Bool) := aTyped (E55 N) (O55 N) Tryd.f55 A55 R55 a
theorem F55_eq (N : Nat) (a0 : Int) (a1 : Int) (a2 : Int) (a3 : Int) (a4 : Int) : F55 N (a0, a1, a2, a3, a4) =
    onSome (F30 N (a1, a2)) fun y0 =>
  aIf (Prod.snd y0 == (0 : Int))
    (aIf (Prod.fst y0 == a0)
      (aIf (decide ((1 : Int) ≤ a3)) (aIf (decide (a3 ≤ (4 : Int))) (aIf (decide ((0 : Int) ≤ a4)) (some (decide (a4 ≤ (1000000000000000 : Int)))) (some false)) (some false))
        (some false))
      (some false))
    (some false) := by kernel_rfl
noncomputable def C55 (N : Nat) : Callee := mkCallee A55 R55 (F55 N)
theorem S55 (N : Nat) : Cok 55 (C55 N) := cok_of (l := (E55 N).calls) (O := O55 N) (cok_cons (S30 N) cok_nil) rfl Tryd.func55 rfl (by kernel_rfl) (by kernel_rfl)

-- function 57
def A57 : Cods (Int) := (codsOne (codInt .i64))
def R57 : Cod (List UInt8) := codStr
noncomputable def E57 (N : Nat) : Env := ⟨Tryd.prog, []⟩
def O57 (N : Nat) : Opts := ⟨N, [], []⟩
noncomputable def F57 (N : Nat) (a : Int) : Option (List UInt8) := aTyped (E57 N) (O57 N) Tryd.f57 A57 R57 a
theorem F57_eq (N : Nat) (a0 : Int) : F57 N a0 =
    aIf (a0 == (1 : Int)) (some [(97 : UInt8), (114 : UInt8), (114 : UInt8), (101 : UInt8), (97 : UInt8), (114 : UInt8), (115 : UInt8)])
  (aIf (a0 == (2 : Int)) (some [(114 : UInt8), (101 : UInt8), (103 : UInt8), (117 : UInt8), (108 : UInt8), (97 : UInt8), (114 : UInt8)])
    (aIf (a0 == (3 : Int)) (some [(114 : UInt8), (101 : UInt8), (99 : UInt8), (111 : UInt8), (118 : UInt8), (101 : UInt8), (114 : UInt8), (121 : UInt8)])
      (some [(110 : UInt8), (111 : UInt8), (110 : UInt8), (101 : UInt8)]))) := by kernel_rfl
noncomputable def C57 (N : Nat) : Callee := mkCallee A57 R57 (F57 N)
theorem S57 (N : Nat) : Cok 57 (C57 N) := cok_of (l := (E57 N).calls) (O := O57 N) cok_nil rfl Tryd.func57 rfl (by kernel_rfl) (by kernel_rfl)

-- function 35
def A35 : Cods ((Int) × (Int) × (Int) × (Int) × Int) := (codsOne (codAgg (codsCons (codInt .i64) (codsCons (codInt .i64) (codsCons (codInt .i64) (codsCons (codInt .i64) (codsOne (codInt .i64))))))))
def R35 : Cod (List UInt8) := codStr
noncomputable def E35 (N : Nat) : Env := ⟨Tryd.prog, [(55, C55 N), (42, C42 N), (56, C56 N), (57, C57 N), (43, C43 N)]⟩
def O35 (N : Nat) : Opts := ⟨N, [], []⟩
noncomputable def F35 (N : Nat) (a : (Int) × (Int) × (Int) × (Int) × Int) : Option (List UInt8) := aTyped (E35 N) (O35 N) Tryd.f35 A35 R35 a
theorem F35_eq (N : Nat) (a0 : Int) (a1 : Int) (a2 : Int) (a3 : Int) (a4 : Int) : F35 N (a0, a1, a2, a3, a4) =
    onSome (F55 N (a0, a1, a2, a3, a4)) fun y0 =>
  aIf (!y0) (some [])
    (onSome (F42 N a0) fun y1 =>
      aGd (decide ((7 : Nat) + List.length y1 ≤ (9223372036854775807 : Nat)))
        (aGd
          (decide
            (List.length ((110 : UInt8) :: (111 : UInt8) :: (116 : UInt8) :: (105 : UInt8) :: (99 : UInt8) :: (101 : UInt8) :: (32 : UInt8) :: List.append [] y1) + (11 : Nat) ≤
              (9223372036854775807 : Nat)))
          (onSome (F42 N a1) fun y2 =>
            aGd
              (decide
                (List.length
                      ((110 : UInt8) ::
                        (111 : UInt8) ::
                          (116 : UInt8) ::
                            (105 : UInt8) ::
                              (99 : UInt8) ::
                                (101 : UInt8) ::
                                  (32 : UInt8) ::
                                    List.append (List.append [] y1)
                                      [(32 : UInt8), (104 : UInt8), (111 : UInt8), (117 : UInt8), (115 : UInt8), (101 : UInt8), (104 : UInt8), (111 : UInt8), (108 : UInt8),
                                        (100 : UInt8), (32 : UInt8)]) +
                    List.length y2 ≤
                  (9223372036854775807 : Nat)))
              (aGd
                (decide
                  (List.length
                        ((110 : UInt8) ::
                          (111 : UInt8) ::
                            (116 : UInt8) ::
                              (105 : UInt8) ::
                                (99 : UInt8) ::
                                  (101 : UInt8) ::
                                    (32 : UInt8) ::
                                      List.append
                                        (List.append (List.append [] y1)
                                          [(32 : UInt8), (104 : UInt8), (111 : UInt8), (117 : UInt8), (115 : UInt8), (101 : UInt8), (104 : UInt8), (111 : UInt8), (108 : UInt8),
                                            (100 : UInt8), (32 : UInt8)])
                                        y2) +
                      (7 : Nat) ≤
                    (9223372036854775807 : Nat)))
                (onSome (F56 N a2) fun y3 =>
                  aGd
                    (decide
                      (List.length
                            ((110 : UInt8) ::
                              (111 : UInt8) ::
                                (116 : UInt8) ::
                                  (105 : UInt8) ::
                                    (99 : UInt8) ::
                                      (101 : UInt8) ::
                                        (32 : UInt8) ::
                                          List.append
                                            (List.append
                                              (List.append (List.append [] y1)
                                                [(32 : UInt8), (104 : UInt8), (111 : UInt8), (117 : UInt8), (115 : UInt8), (101 : UInt8), (104 : UInt8), (111 : UInt8),
                                                  (108 : UInt8), (100 : UInt8), (32 : UInt8)])
                                              y2)
                                            [(32 : UInt8), (109 : UInt8), (111 : UInt8), (110 : UInt8), (116 : UInt8), (104 : UInt8), (32 : UInt8)]) +
                          List.length y3 ≤
                        (9223372036854775807 : Nat)))
                    (aGd
                      (decide
                        (List.length
                              ((110 : UInt8) ::
                                (111 : UInt8) ::
                                  (116 : UInt8) ::
                                    (105 : UInt8) ::
                                      (99 : UInt8) ::
                                        (101 : UInt8) ::
                                          (32 : UInt8) ::
                                            List.append
                                              (List.append
                                                (List.append
                                                  (List.append (List.append [] y1)
                                                    [(32 : UInt8), (104 : UInt8), (111 : UInt8), (117 : UInt8), (115 : UInt8), (101 : UInt8), (104 : UInt8), (111 : UInt8),
                                                      (108 : UInt8), (100 : UInt8), (32 : UInt8)])
                                                  y2)
                                                [(32 : UInt8), (109 : UInt8), (111 : UInt8), (110 : UInt8), (116 : UInt8), (104 : UInt8), (32 : UInt8)])
                                              y3) +
                            (1 : Nat) ≤
                          (9223372036854775807 : Nat)))
                      (onSome (F57 N a3) fun y4 =>
                        aGd
                          (decide
                            (List.length
                                  ((110 : UInt8) ::
                                    (111 : UInt8) ::
                                      (116 : UInt8) ::
                                        (105 : UInt8) ::
                                          (99 : UInt8) ::
                                            (101 : UInt8) ::
                                              (32 : UInt8) ::
                                                List.append
                                                  (List.append
                                                    (List.append
                                                      (List.append
                                                        (List.append (List.append [] y1)
                                                          [(32 : UInt8), (104 : UInt8), (111 : UInt8), (117 : UInt8), (115 : UInt8), (101 : UInt8), (104 : UInt8), (111 : UInt8),
                                                            (108 : UInt8), (100 : UInt8), (32 : UInt8)])
                                                        y2)
                                                      [(32 : UInt8), (109 : UInt8), (111 : UInt8), (110 : UInt8), (116 : UInt8), (104 : UInt8), (32 : UInt8)])
                                                    y3)
                                                  [(32 : UInt8)]) +
                                List.length y4 ≤
                              (9223372036854775807 : Nat)))
                          (aGd
                            (decide
                              (List.length
                                    ((110 : UInt8) ::
                                      (111 : UInt8) ::
                                        (116 : UInt8) ::
                                          (105 : UInt8) ::
                                            (99 : UInt8) ::
                                              (101 : UInt8) ::
                                                (32 : UInt8) ::
                                                  List.append
                                                    (List.append
                                                      (List.append
                                                        (List.append
                                                          (List.append
                                                            (List.append (List.append [] y1)
                                                              [(32 : UInt8), (104 : UInt8), (111 : UInt8), (117 : UInt8), (115 : UInt8), (101 : UInt8), (104 : UInt8),
                                                                (111 : UInt8), (108 : UInt8), (100 : UInt8), (32 : UInt8)])
                                                            y2)
                                                          [(32 : UInt8), (109 : UInt8), (111 : UInt8), (110 : UInt8), (116 : UInt8), (104 : UInt8), (32 : UInt8)])
                                                        y3)
                                                      [(32 : UInt8)])
                                                    y4) +
                                  (1 : Nat) ≤
                                (9223372036854775807 : Nat)))
                            (onSome (F43 N (a4, (2 : Int))) fun y5 =>
                              aGd
                                (decide
                                  (List.length
                                        ((110 : UInt8) ::
                                          (111 : UInt8) ::
                                            (116 : UInt8) ::
                                              (105 : UInt8) ::
                                                (99 : UInt8) ::
                                                  (101 : UInt8) ::
                                                    (32 : UInt8) ::
                                                      List.append
                                                        (List.append
                                                          (List.append
                                                            (List.append
                                                              (List.append
                                                                (List.append
                                                                  (List.append (List.append [] y1)
                                                                    [(32 : UInt8), (104 : UInt8), (111 : UInt8), (117 : UInt8), (115 : UInt8), (101 : UInt8), (104 : UInt8),
                                                                      (111 : UInt8), (108 : UInt8), (100 : UInt8), (32 : UInt8)])
                                                                  y2)
                                                                [(32 : UInt8), (109 : UInt8), (111 : UInt8), (110 : UInt8), (116 : UInt8), (104 : UInt8), (32 : UInt8)])
                                                              y3)
                                                            [(32 : UInt8)])
                                                          y4)
                                                        [(32 : UInt8)]) +
                                      List.length y5 ≤
                                    (9223372036854775807 : Nat)))
                                (some
                                  ((110 : UInt8) ::
                                    (111 : UInt8) ::
                                      (116 : UInt8) ::
                                        (105 : UInt8) ::
                                          (99 : UInt8) ::
                                            (101 : UInt8) ::
                                              (32 : UInt8) ::
                                                List.append
                                                  (List.append
                                                    (List.append
                                                      (List.append
                                                        (List.append
                                                          (List.append
                                                            (List.append
                                                              (List.append (List.append [] y1)
                                                                [(32 : UInt8), (104 : UInt8), (111 : UInt8), (117 : UInt8), (115 : UInt8), (101 : UInt8), (104 : UInt8),
                                                                  (111 : UInt8), (108 : UInt8), (100 : UInt8), (32 : UInt8)])
                                                              y2)
                                                            [(32 : UInt8), (109 : UInt8), (111 : UInt8), (110 : UInt8), (116 : UInt8), (104 : UInt8), (32 : UInt8)])
                                                          y3)
                                                        [(32 : UInt8)])
                                                      y4)
                                                    [(32 : UInt8)])
                                                  y5))))))))))) := by kernel_rfl
noncomputable def C35 (N : Nat) : Callee := mkCallee A35 R35 (F35 N)
theorem S35 (N : Nat) : Cok 35 (C35 N) := cok_of (l := (E35 N).calls) (O := O35 N) (cok_cons (S55 N) (cok_cons (S42 N) (cok_cons (S56 N) (cok_cons (S57 N) (cok_cons (S43 N) cok_nil))))) rfl Tryd.func35 rfl (by kernel_rfl) (by kernel_rfl)

-- function 36
def A36 : Cods (List UInt8) := (codsOne codStr)
def R36 : Cod (((Int) × (Int) × (Int) × (Int) × Int) × Int) := (codTup (codsCons (codAgg (codsCons (codInt .i64) (codsCons (codInt .i64) (codsCons (codInt .i64) (codsCons (codInt .i64) (codsOne (codInt .i64))))))) (codsOne (codInt .i64))))
noncomputable def E36 (N : Nat) : Env := ⟨Tryd.prog, [(58, C58 N), (59, C59 N), (60, C60 N), (61, C61 N), (54, C54 N), (51, C51 N), (34, C34 N)]⟩
def O36 (N : Nat) : Opts := ⟨N, [(11, ⟨[53, 5, 4, 51, 2, 0, 6, 52], [], [], 3⟩)], []⟩
noncomputable def F36 (N : Nat) (a : List UInt8) : Option (((Int) × (Int) × (Int) × (Int) × Int) × Int) := aTyped (E36 N) (O36 N) Tryd.f36 A36 R36 a
noncomputable def L36_11 (N : Nat) (n : Nat) (x0 : List UInt8) (x1 : List PV) (x2 : List PV) (x3 : Int) (x4 : Int) (x5 : Int) (x6 : Int) (x7 : Int) (x8 : Int) (x9 : Int) (x10 : Int) (x11 : Int) (x12 : Int) (x13 : Int) (x14 : Int) (x15 : Int) (x16 : Int) (x17 : Int) (x18 : Int) : Option ((Int × Int × Int × Int × Int) × Int) :=
  atLoop (E36 N) (O36 N) Tryd.f36 [(1 : Nat), (1 : Nat), (1 : Nat), (1 : Nat), (1 : Nat), (1 : Nat), (1 : Nat), (1 : Nat), (1 : Nat), (0 : Nat), (1 : Nat), (0 : Nat)] [] n
  {
    tmps :=
      [AV.p (PV.str x0), AV.top, AV.box (0 : Nat) (0 : Nat), AV.top, AV.p (PV.sl (1 : Nat) x1), AV.box (1 : Nat) (0 : Nat), AV.box (2 : Nat) (0 : Nat), AV.top, AV.top, AV.top,
        AV.top, AV.top, AV.top, AV.top, AV.top, AV.top, AV.top, AV.top, AV.top, AV.top, AV.top, AV.top, AV.top, AV.top, AV.top, AV.top, AV.top, AV.top, AV.top, AV.top, AV.top,
        AV.top, AV.top, AV.top, AV.top, AV.top, AV.top, AV.top, AV.top, AV.top, AV.top, AV.top, AV.top, AV.top, AV.top, AV.top, AV.top, AV.top, AV.top, AV.top, AV.top,
        AV.p (PV.sl (1 : Nat) x2), AV.p (PV.int IntKind.i64 x3), AV.p (PV.int IntKind.i64 x4), AV.top, AV.top, AV.top, AV.top, AV.top, AV.top, AV.top, AV.top, AV.top, AV.top,
        AV.top, AV.top, AV.top, AV.top, AV.top, AV.top, AV.top, AV.top, AV.top, AV.top, AV.top, AV.top, AV.top, AV.top, AV.top, AV.top, AV.top, AV.top],
    heap :=
      [Blk.box [AV.p (PV.int IntKind.i64 x5), AV.p (PV.int IntKind.i64 x6), AV.p (PV.int IntKind.i64 x7), AV.p (PV.int IntKind.i64 x8), AV.p (PV.int IntKind.i64 x9)],
        Blk.box [AV.p (PV.int IntKind.i64 x10), AV.p (PV.int IntKind.i64 x11), AV.p (PV.int IntKind.i64 x12), AV.p (PV.int IntKind.i64 x13), AV.p (PV.int IntKind.i64 x14)],
        Blk.box [AV.p (PV.int IntKind.i64 x15), AV.p (PV.int IntKind.i64 x16), AV.p (PV.int IntKind.i64 x17), AV.p (PV.int IntKind.i64 x18)]] }
  fun x => Cod.dec R36 x some
theorem L36_11_eq (N : Nat) (n : Nat) (x0 : List UInt8) (x1 : List PV) (x2 : List PV) (x3 : Int) (x4 : Int) (x5 : Int) (x6 : Int) (x7 : Int) (x8 : Int) (x9 : Int) (x10 : Int) (x11 : Int) (x12 : Int) (x13 : Int) (x14 : Int) (x15 : Int) (x16 : Int) (x17 : Int) (x18 : Int) : L36_11 N (n + 1) x0 x1 x2 x3 x4 x5 x6 x7 x8 x9 x10 x11 x12 x13 x14 x15 x16 x17 x18 =
    aIf (decide (x4 < x3))
  (onGet x2 x4 fun z14 =>
    onStr z14 fun u15 =>
      onGet x1 (6 : Int) fun z16 =>
        onStr z16 fun u17 =>
          aIf (u15 == u17)
            (aGd (decide ((3 : Nat) + (1 : Nat) ≤ (5 : Nat)))
              (L36_11 N n x0 x1 x2 x3 (IntKind.wrap IntKind.i64 (x4 + (1 : Int))) x5 x6 x7 x8 x9 x10 x11 x12 x4 x14 x15 x16 x17 x18))
            (L36_11 N n x0 x1 x2 x3 (IntKind.wrap IntKind.i64 (x4 + (1 : Int))) x5 x6 x7 x8 x9 x10 x11 x12 x13 x14 x15 x16 x17 x18))
  (aIf (!(x15 == (0 : Int) && (x16 == (0 : Int) && (x17 == (0 : Int) && (x18 == (0 : Int) && true)))))
    (aGd (decide ((0 : Nat) + (5 : Nat) ≤ (5 : Nat))) (some (((0 : Int), (0 : Int), (0 : Int), (0 : Int), (0 : Int)), (2 : Int))))
    (onSome (F51 N (x10, x11, x12, x13, x14)) fun y18 =>
      aIf (!y18) (aGd (decide ((0 : Nat) + (5 : Nat) ≤ (5 : Nat))) (some (((0 : Int), (0 : Int), (0 : Int), (0 : Int), (0 : Int)), (2 : Int))))
        (onSome (F34 N (x10, x11, x12, x13, x14)) fun y19 =>
          aIf (!y19 == x0) (aGd (decide ((0 : Nat) + (5 : Nat) ≤ (5 : Nat))) (some (((0 : Int), (0 : Int), (0 : Int), (0 : Int), (0 : Int)), (2 : Int))))
            (aGd (decide ((0 : Nat) + (5 : Nat) ≤ (5 : Nat))) (some ((x10, x11, x12, x13, x14), (0 : Int))))))) := by kernel_rfl
theorem L36_11_zero (N : Nat) (x0 : List UInt8) (x1 : List PV) (x2 : List PV) (x3 : Int) (x4 : Int) (x5 : Int) (x6 : Int) (x7 : Int) (x8 : Int) (x9 : Int) (x10 : Int) (x11 : Int) (x12 : Int) (x13 : Int) (x14 : Int) (x15 : Int) (x16 : Int) (x17 : Int) (x18 : Int) : L36_11 N 0 x0 x1 x2 x3 x4 x5 x6 x7 x8 x9 x10 x11 x12 x13 x14 x15 x16 x17 x18 = none := by kernel_rfl
theorem F36_eq (N : Nat) (a0 : List UInt8) : F36 N a0 =
    onSome (F58 N (a0, [(32 : UInt8)])) fun y0 =>
  aIf (Int.ofNat (List.length y0) != (8 : Int)) (aGd (decide ((0 : Nat) + (5 : Nat) ≤ (5 : Nat))) (some (((0 : Int), (0 : Int), (0 : Int), (0 : Int), (0 : Int)), (2 : Int))))
    (onGet y0 (1 : Int) fun z1 =>
      onStr z1 fun u2 =>
        onSome (F59 N u2) fun y3 =>
          aGd (decide ((0 : Nat) + (1 : Nat) ≤ (5 : Nat)))
            (aGd (decide ((0 : Nat) + (1 : Nat) ≤ (4 : Nat)))
              (onGet y0 (3 : Int) fun z4 =>
                onStr z4 fun u5 =>
                  onSome (F59 N u5) fun y6 =>
                    aGd (decide ((1 : Nat) + (1 : Nat) ≤ (5 : Nat)))
                      (aGd (decide ((1 : Nat) + (1 : Nat) ≤ (4 : Nat)))
                        (onGet y0 (5 : Int) fun z7 =>
                          onStr z7 fun u8 =>
                            onSome (F60 N u8) fun y9 =>
                              aGd (decide ((2 : Nat) + (1 : Nat) ≤ (5 : Nat)))
                                (aGd (decide ((2 : Nat) + (1 : Nat) ≤ (4 : Nat)))
                                  (onGet y0 (7 : Int) fun z10 =>
                                    onStr z10 fun u11 =>
                                      onSome (F61 N (u11, (2 : Int))) fun y12 =>
                                        aGd (decide ((4 : Nat) + (1 : Nat) ≤ (5 : Nat)))
                                          (aGd (decide ((3 : Nat) + (1 : Nat) ≤ (4 : Nat)))
                                            (onSome (F54 N PUnit.unit) fun y13 =>
                                              L36_11 N N a0 y0 y13 (Int.ofNat (List.length y13)) (0 : Int) (0 : Int) (0 : Int) (0 : Int) (0 : Int) (0 : Int) (Prod.fst y3)
                                                (Prod.fst y6) (Prod.fst y9) (0 : Int) (Prod.fst y12) (Prod.snd y3) (Prod.snd y6) (Prod.snd y9) (Prod.snd y12)))))))))) := by kernel_rfl
noncomputable def C36 (N : Nat) : Callee := mkCallee A36 R36 (F36 N)
theorem S36 (N : Nat) : Cok 36 (C36 N) := cok_of (l := (E36 N).calls) (O := O36 N) (cok_cons (S58 N) (cok_cons (S59 N) (cok_cons (S60 N) (cok_cons (S61 N) (cok_cons (S54 N) (cok_cons (S51 N) (cok_cons (S34 N) cok_nil))))))) rfl Tryd.func36 rfl (by kernel_rfl) (by kernel_rfl)

-- function 37
def A37 : Cods (List UInt8) := (codsOne codStr)
def R37 : Cod (((Int) × (Int) × (Int) × (Int) × Int) × Int) := (codTup (codsCons (codAgg (codsCons (codInt .i64) (codsCons (codInt .i64) (codsCons (codInt .i64) (codsCons (codInt .i64) (codsOne (codInt .i64))))))) (codsOne (codInt .i64))))
noncomputable def E37 (N : Nat) : Env := ⟨Tryd.prog, [(62, C62 N), (63, C63 N), (64, C64 N), (65, C65 N), (35, C35 N)]⟩
def O37 (N : Nat) : Opts := ⟨N, [(10, ⟨[2, 13, 14, 0], [], [], 2⟩)], []⟩
noncomputable def F37 (N : Nat) (a : List UInt8) : Option (((Int) × (Int) × (Int) × (Int) × Int) × Int) := aTyped (E37 N) (O37 N) Tryd.f37 A37 R37 a
noncomputable def L37_10 (N : Nat) (n : Nat) (x0 : List UInt8) (x1 : Int) (x2 : Int) (x3 : Int) (x4 : Int) (x5 : Int) (x6 : Int) (x7 : Int) (x8 : Int) (x9 : Int) (x10 : Int) (x11 : Int) : Option ((Int × Int × Int × Int × Int) × Int) :=
  atLoop (E37 N) (O37 N) Tryd.f37 [(1 : Nat), (1 : Nat), (1 : Nat), (1 : Nat), (1 : Nat), (1 : Nat), (1 : Nat), (1 : Nat), (0 : Nat), (1 : Nat), (0 : Nat)] [] n
  {
    tmps :=
      [AV.p (PV.str x0), AV.top, AV.box (0 : Nat) (0 : Nat), AV.top, AV.top, AV.top, AV.top, AV.top, AV.top, AV.top, AV.top, AV.top, AV.top, AV.box (1 : Nat) (0 : Nat),
        AV.p (PV.int IntKind.i64 x1), AV.top, AV.top, AV.top, AV.top, AV.top, AV.top, AV.top, AV.top, AV.top, AV.top, AV.top, AV.top, AV.top, AV.top, AV.top, AV.top, AV.top,
        AV.top, AV.top, AV.top, AV.top, AV.top, AV.top, AV.top, AV.top, AV.top, AV.top, AV.top, AV.top, AV.top, AV.top, AV.top, AV.top, AV.top, AV.top, AV.top, AV.top, AV.top,
        AV.top, AV.top, AV.top, AV.top, AV.top, AV.top, AV.top, AV.top, AV.top, AV.top, AV.top, AV.top, AV.top],
    heap :=
      [Blk.box [AV.p (PV.int IntKind.i64 x2), AV.p (PV.int IntKind.i64 x3), AV.p (PV.int IntKind.i64 x4), AV.p (PV.int IntKind.i64 x5), AV.p (PV.int IntKind.i64 x6)],
        Blk.box [AV.p (PV.int IntKind.i64 x7), AV.p (PV.int IntKind.i64 x8), AV.p (PV.int IntKind.i64 x9), AV.p (PV.int IntKind.i64 x10), AV.p (PV.int IntKind.i64 x11)]] }
  fun x => Cod.dec R37 x some
theorem L37_10_eq (N : Nat) (n : Nat) (x0 : List UInt8) (x1 : Int) (x2 : Int) (x3 : Int) (x4 : Int) (x5 : Int) (x6 : Int) (x7 : Int) (x8 : Int) (x9 : Int) (x10 : Int) (x11 : Int) : L37_10 N (n + 1) x0 x1 x2 x3 x4 x5 x6 x7 x8 x9 x10 x11 =
    aIf (decide (x1 ≤ (4 : Int)))
  (aGd (decide ((3 : Nat) + (1 : Nat) ≤ (5 : Nat)))
    (onSome (F35 N (x7, x8, x9, x1, x11)) fun y13 =>
      aIf (y13 == x0) (aGd (decide ((0 : Nat) + (5 : Nat) ≤ (5 : Nat))) (some ((x7, x8, x9, x1, x11), (0 : Int))))
        (L37_10 N n x0 (IntKind.wrap IntKind.i64 (x1 + (1 : Int))) x2 x3 x4 x5 x6 x7 x8 x9 x1 x11)))
  (aGd (decide ((0 : Nat) + (5 : Nat) ≤ (5 : Nat))) (some (((0 : Int), (0 : Int), (0 : Int), (0 : Int), (0 : Int)), (2 : Int)))) := by kernel_rfl
theorem L37_10_zero (N : Nat) (x0 : List UInt8) (x1 : Int) (x2 : Int) (x3 : Int) (x4 : Int) (x5 : Int) (x6 : Int) (x7 : Int) (x8 : Int) (x9 : Int) (x10 : Int) (x11 : Int) : L37_10 N 0 x0 x1 x2 x3 x4 x5 x6 x7 x8 x9 x10 x11 = none := by kernel_rfl
theorem F37_eq (N : Nat) (a0 : List UInt8) : F37 N a0 =
    onSome (F62 N a0) fun y0 =>
  aIf (Int.ofNat (List.length y0) != (8 : Int)) (aGd (decide ((0 : Nat) + (5 : Nat) ≤ (5 : Nat))) (some (((0 : Int), (0 : Int), (0 : Int), (0 : Int), (0 : Int)), (2 : Int))))
    (onGet y0 (1 : Int) fun z1 =>
      onStr z1 fun u2 =>
        onSome (F63 N u2) fun y3 =>
          onGet y0 (3 : Int) fun z4 =>
            onStr z4 fun u5 =>
              onSome (F63 N u5) fun y6 =>
                onGet y0 (5 : Int) fun z7 =>
                  onStr z7 fun u8 =>
                    onSome (F64 N u8) fun y9 =>
                      onGet y0 (7 : Int) fun z10 =>
                        onStr z10 fun u11 =>
                          onSome (F65 N (u11, (2 : Int))) fun y12 =>
                            aGd (decide ((0 : Nat) + (5 : Nat) ≤ (5 : Nat)))
                              (L37_10 N N a0 (1 : Int) (0 : Int) (0 : Int) (0 : Int) (0 : Int) (0 : Int) (Prod.fst y3) (Prod.fst y6) (Prod.fst y9) (0 : Int) (Prod.fst y12))) := by kernel_rfl
noncomputable def C37 (N : Nat) : Callee := mkCallee A37 R37 (F37 N)
theorem S37 (N : Nat) : Cok 37 (C37 N) := cok_of (l := (E37 N).calls) (O := O37 N) (cok_cons (S62 N) (cok_cons (S63 N) (cok_cons (S64 N) (cok_cons (S65 N) (cok_cons (S35 N) cok_nil))))) rfl Tryd.func37 rfl (by kernel_rfl) (by kernel_rfl)

-- function 15
def A15 : Cods (Unit) := codsNil
def R15 : Cod (Bool) := codBool
noncomputable def E15 (N : Nat) : Env := ⟨Tryd.prog, [(16, C16 N), (18, C18 N)]⟩
def O15 (N : Nat) : Opts := ⟨N, [], []⟩
noncomputable def F15 (N : Nat) (a : Unit) : Option (Bool) := aTyped (E15 N) (O15 N) Tryd.f15 A15 R15 a
theorem F15_eq (N : Nat)  : F15 N () =
    onSome (F16 N (((4 : Int), (0 : Int), (125000 : Int)), [])) fun y0 =>
  onSome (F18 N ([(49 : UInt8), (50 : UInt8), (46 : UInt8), (53 : UInt8), (48 : UInt8)], ((3 : Int), (0 : Int)), [])) fun y1 =>
    aGd (decide ((0 : Nat) + (3 : Nat) ≤ (3 : Nat)))
      (onSome
        (F18 N
          ([(103 : UInt8), (114 : UInt8), (101 : UInt8), (101 : UInt8), (110 : UInt8)], ((6 : Int), (0 : Int)),
            [PV.agg
                [PV.str [(99 : UInt8), (111 : UInt8), (108 : UInt8), (111 : UInt8), (114 : UInt8)],
                  PV.sl (1 : Nat) [PV.str [(114 : UInt8), (101 : UInt8), (100 : UInt8)], PV.str [(103 : UInt8), (114 : UInt8), (101 : UInt8), (101 : UInt8), (110 : UInt8)]]]]))
        fun y2 =>
        aGd (decide ((0 : Nat) + (3 : Nat) ≤ (3 : Nat)))
          (onSome (F16 N (((5 : Int), (0 : Int), (45349 : Int)), [])) fun y3 =>
            aIf (Prod.fst y0 == [(49 : UInt8), (50 : UInt8), (46 : UInt8), (53 : UInt8), (48 : UInt8), (48 : UInt8), (48 : UInt8), (37 : UInt8)])
              (aIf (Prod.snd y0 == (0 : Int))
                (aIf (Prod.fst (Prod.fst y1) == (3 : Int) && (Prod.fst (Prod.snd (Prod.fst y1)) == (0 : Int) && (Prod.snd (Prod.snd (Prod.fst y1)) == (1250 : Int) && true)))
                  (aIf (Prod.snd y1 == (0 : Int))
                    (aIf (Prod.fst (Prod.fst y2) == (6 : Int) && (Prod.fst (Prod.snd (Prod.fst y2)) == (0 : Int) && (Prod.snd (Prod.snd (Prod.fst y2)) == (1 : Int) && true)))
                      (aIf (Prod.snd y2 == (0 : Int))
                        (aIf
                          (Prod.fst y3 ==
                            [(50 : UInt8), (48 : UInt8), (50 : UInt8), (52 : UInt8), (45 : UInt8), (48 : UInt8), (50 : UInt8), (45 : UInt8), (50 : UInt8), (57 : UInt8)])
                          (some (Prod.snd y3 == (0 : Int))) (some false))
                        (some false))
                      (some false))
                    (some false))
                  (some false))
                (some false))
              (some false))) := by kernel_rfl
noncomputable def C15 (N : Nat) : Callee := mkCallee A15 R15 (F15 200)
theorem S15 (N : Nat) : Cok 15 (C15 N) := cok_of (l := (E15 200).calls) (O := O15 200) (cok_cons (S16 200) (cok_cons (S18 200) cok_nil)) rfl Tryd.func15 rfl (by kernel_rfl) (by kernel_rfl)

-- function 31
def A31 : Cods (Unit) := codsNil
def R31 : Cod (Bool) := codBool
noncomputable def E31 (N : Nat) : Env := ⟨Tryd.prog, [(29, C29 N), (32, C32 N), (36, C36 N), (34, C34 N)]⟩
def O31 (N : Nat) : Opts := ⟨N, [], []⟩
noncomputable def F31 (N : Nat) (a : Unit) : Option (Bool) := aTyped (E31 N) (O31 N) Tryd.f31 A31 R31 a
theorem F31_eq (N : Nat)  : F31 N () =
    onSome (F29 N ((1 : Int), (1490 : Int))) fun y0 =>
  onSome
    (F32 N
      ((1 : Int), (1490 : Int), (500 : Int),
        [PV.agg [PV.int IntKind.i64 (0 : Int), PV.int IntKind.i64 (1490 : Int), PV.int IntKind.i64 (1 : Int), PV.int IntKind.i64 (500 : Int)]]))
    fun y1 =>
    aGd (decide ((0 : Nat) + (5 : Nat) ≤ (5 : Nat)))
      (onSome
        (F32 N
          ((1 : Int), (1490 : Int), (300 : Int),
            [PV.agg [PV.int IntKind.i64 (0 : Int), PV.int IntKind.i64 (1490 : Int), PV.int IntKind.i64 (1 : Int), PV.int IntKind.i64 (500 : Int)]]))
        fun y2 =>
        aGd (decide ((0 : Nat) + (5 : Nat) ≤ (5 : Nat)))
          (aIf (Prod.fst y0 != (5586 : Int)) (some false)
            (aIf (Prod.snd y0 != (0 : Int)) (some false)
              (aIf (Prod.snd y1 != (0 : Int)) (some false)
                (aIf (Prod.snd y2 != (0 : Int)) (some false)
                  (aIf (Prod.fst (Prod.snd (Prod.snd (Prod.snd (Prod.fst y1)))) != (2 : Int)) (some false)
                    (aIf (Prod.snd (Prod.snd (Prod.snd (Prod.snd (Prod.fst y1)))) != (500 : Int)) (some false)
                      (aIf (Prod.fst (Prod.snd (Prod.snd (Prod.snd (Prod.fst y2)))) != (1 : Int)) (some false)
                        (onSome
                          (F36 N
                            [(110 : UInt8), (111 : UInt8), (116 : UInt8), (105 : UInt8), (99 : UInt8), (101 : UInt8), (32 : UInt8), (53 : UInt8), (53 : UInt8), (56 : UInt8),
                              (54 : UInt8), (32 : UInt8), (104 : UInt8), (111 : UInt8), (117 : UInt8), (115 : UInt8), (101 : UInt8), (104 : UInt8), (111 : UInt8), (108 : UInt8),
                              (100 : UInt8), (32 : UInt8), (49 : UInt8), (32 : UInt8), (109 : UInt8), (111 : UInt8), (110 : UInt8), (116 : UInt8), (104 : UInt8), (32 : UInt8),
                              (50 : UInt8), (48 : UInt8), (50 : UInt8), (52 : UInt8), (45 : UInt8), (48 : UInt8), (51 : UInt8), (32 : UInt8), (114 : UInt8), (101 : UInt8),
                              (103 : UInt8), (117 : UInt8), (108 : UInt8), (97 : UInt8), (114 : UInt8), (32 : UInt8), (53 : UInt8), (46 : UInt8), (48 : UInt8), (48 : UInt8)])
                          fun y3 =>
                          aGd (decide ((0 : Nat) + (5 : Nat) ≤ (5 : Nat)))
                            (onSome
                              (F34 N
                                (Prod.fst (Prod.fst y1), Prod.fst (Prod.snd (Prod.fst y1)), Prod.fst (Prod.snd (Prod.snd (Prod.fst y1))),
                                  Prod.fst (Prod.snd (Prod.snd (Prod.snd (Prod.fst y1)))), Prod.snd (Prod.snd (Prod.snd (Prod.snd (Prod.fst y1))))))
                              fun y4 =>
                              aIf
                                (y4 ==
                                  [(110 : UInt8), (111 : UInt8), (116 : UInt8), (105 : UInt8), (99 : UInt8), (101 : UInt8), (32 : UInt8), (53 : UInt8), (53 : UInt8), (56 : UInt8),
                                    (54 : UInt8), (32 : UInt8), (104 : UInt8), (111 : UInt8), (117 : UInt8), (115 : UInt8), (101 : UInt8), (104 : UInt8), (111 : UInt8),
                                    (108 : UInt8), (100 : UInt8), (32 : UInt8), (49 : UInt8), (32 : UInt8), (109 : UInt8), (111 : UInt8), (110 : UInt8), (116 : UInt8),
                                    (104 : UInt8), (32 : UInt8), (50 : UInt8), (48 : UInt8), (50 : UInt8), (52 : UInt8), (45 : UInt8), (48 : UInt8), (51 : UInt8), (32 : UInt8),
                                    (114 : UInt8), (101 : UInt8), (103 : UInt8), (117 : UInt8), (108 : UInt8), (97 : UInt8), (114 : UInt8), (32 : UInt8), (53 : UInt8),
                                    (46 : UInt8), (48 : UInt8), (48 : UInt8)])
                                (aIf (Prod.snd y3 == (0 : Int))
                                  (some
                                    (Prod.fst (Prod.fst y3) == Prod.fst (Prod.fst y1) &&
                                      (Prod.fst (Prod.snd (Prod.fst y3)) == Prod.fst (Prod.snd (Prod.fst y1)) &&
                                        (Prod.fst (Prod.snd (Prod.snd (Prod.fst y3))) == Prod.fst (Prod.snd (Prod.snd (Prod.fst y1))) &&
                                          (Prod.fst (Prod.snd (Prod.snd (Prod.snd (Prod.fst y3)))) == Prod.fst (Prod.snd (Prod.snd (Prod.snd (Prod.fst y1)))) &&
                                            (Prod.snd (Prod.snd (Prod.snd (Prod.snd (Prod.fst y3)))) == Prod.snd (Prod.snd (Prod.snd (Prod.snd (Prod.fst y1)))) && true))))))
                                  (some false))
                                (some false))))))))))) := by kernel_rfl
noncomputable def C31 (N : Nat) : Callee := mkCallee A31 R31 (F31 200)
theorem S31 (N : Nat) : Cok 31 (C31 N) := cok_of (l := (E31 200).calls) (O := O31 200) (cok_cons (S29 200) (cok_cons (S32 200) (cok_cons (S36 200) (cok_cons (S34 200) cok_nil)))) rfl Tryd.func31 rfl (by kernel_rfl) (by kernel_rfl)

-- function 3
def A3 : Cods (((Int) × (Int) × Int) × List PV) := (codsCons (codAgg (codsCons (codInt .i64) (codsCons (codInt .i64) (codsOne (codInt .i64))))) (codsOne (codSl 2)))
def R3 : Cod (Bool) := codBool
noncomputable def E3 (N : Nat) : Env := ⟨Tryd.prog, [(14, C14 N), (15, C15 N), (16, C16 N), (17, C17 N)]⟩
def O3 (N : Nat) : Opts := ⟨N, [], []⟩
noncomputable def F3 (N : Nat) (a : ((Int) × (Int) × Int) × List PV) : Option (Bool) := aTyped (E3 N) (O3 N) Tryd.f3 A3 R3 a
theorem F3_eq (N : Nat) (a0 : Int × Int × Int) (a1 : List PV) : F3 N (a0, a1) =
    onSome (F14 N a1) fun y0 =>
  aIf (!y0) (onSome (F15 (200 : Nat) PUnit.unit) fun y1 => some y1)
    (onSome (F16 N ((Prod.fst a0, Prod.fst (Prod.snd a0), Prod.snd (Prod.snd a0)), a1)) fun y2 =>
      onSome (F17 N ((Prod.fst a0, Prod.fst (Prod.snd a0), Prod.snd (Prod.snd a0)), a1)) fun y3 =>
        aIf (Prod.fst y2 == Prod.fst y3) (aIf (Prod.snd y2 == Prod.snd y3) (onSome (F15 (200 : Nat) PUnit.unit) fun y4 => some y4) (some false)) (some false)) := by kernel_rfl
noncomputable def C3 (N : Nat) : Callee := mkCallee A3 R3 (F3 N)
theorem S3 (N : Nat) : Cok 3 (C3 N) := cok_of (l := (E3 N).calls) (O := O3 N) (cok_cons (S14 N) (cok_cons (S15 N) (cok_cons (S16 N) (cok_cons (S17 N) cok_nil)))) rfl Tryd.func3 rfl (by kernel_rfl) (by kernel_rfl)

-- function 4
def A4 : Cods ((List UInt8) × ((Int) × Int) × List PV) := (codsCons codStr (codsCons (codAgg (codsCons (codInt .i64) (codsOne (codInt .i64)))) (codsOne (codSl 2))))
def R4 : Cod (Bool) := codBool
noncomputable def E4 (N : Nat) : Env := ⟨Tryd.prog, [(14, C14 N), (15, C15 N), (18, C18 N), (19, C19 N)]⟩
def O4 (N : Nat) : Opts := ⟨N, [], []⟩
noncomputable def F4 (N : Nat) (a : (List UInt8) × ((Int) × Int) × List PV) : Option (Bool) := aTyped (E4 N) (O4 N) Tryd.f4 A4 R4 a
theorem F4_eq (N : Nat) (a0 : List UInt8) (a1 : Int × Int) (a2 : List PV) : F4 N (a0, a1, a2) =
    onSome (F14 N a2) fun y0 =>
  aIf (!y0) (onSome (F15 (200 : Nat) PUnit.unit) fun y1 => some y1)
    (aIf (decide ((100 : Int) < Int.ofNat (List.length a0))) (onSome (F15 (200 : Nat) PUnit.unit) fun y2 => some y2)
      (onSome (F18 N (a0, (Prod.fst a1, Prod.snd a1), a2)) fun y3 =>
        aGd (decide ((0 : Nat) + (3 : Nat) ≤ (3 : Nat)))
          (onSome (F19 N (a0, (Prod.fst a1, Prod.snd a1), a2)) fun y4 =>
            aGd (decide ((0 : Nat) + (3 : Nat) ≤ (3 : Nat)))
              (aIf
                (Prod.fst (Prod.fst y3) == Prod.fst (Prod.fst y4) &&
                  (Prod.fst (Prod.snd (Prod.fst y3)) == Prod.fst (Prod.snd (Prod.fst y4)) && (Prod.snd (Prod.snd (Prod.fst y3)) == Prod.snd (Prod.snd (Prod.fst y4)) && true)))
                (aIf (Prod.snd y3 == Prod.snd y4) (onSome (F15 (200 : Nat) PUnit.unit) fun y5 => some y5) (some false)) (some false))))) := by kernel_rfl
noncomputable def C4 (N : Nat) : Callee := mkCallee A4 R4 (F4 N)
theorem S4 (N : Nat) : Cok 4 (C4 N) := cok_of (l := (E4 N).calls) (O := O4 N) (cok_cons (S14 N) (cok_cons (S15 N) (cok_cons (S18 N) (cok_cons (S19 N) cok_nil)))) rfl Tryd.func4 rfl (by kernel_rfl) (by kernel_rfl)

-- function 5
def A5 : Cods (((Int) × (Int) × Int) × List PV) := (codsCons (codAgg (codsCons (codInt .i64) (codsCons (codInt .i64) (codsOne (codInt .i64))))) (codsOne (codSl 2)))
def R5 : Cod (Bool) := codBool
noncomputable def E5 (N : Nat) : Env := ⟨Tryd.prog, [(14, C14 N), (20, C20 N), (15, C15 N), (16, C16 N), (21, C21 N), (18, C18 N)]⟩
def O5 (N : Nat) : Opts := ⟨N, [], []⟩
noncomputable def F5 (N : Nat) (a : ((Int) × (Int) × Int) × List PV) : Option (Bool) := aTyped (E5 N) (O5 N) Tryd.f5 A5 R5 a
theorem F5_eq (N : Nat) (a0 : Int × Int × Int) (a1 : List PV) : F5 N (a0, a1) =
    onSome (F14 N a1) fun y0 =>
  aIf (!y0) (onSome (F15 (200 : Nat) PUnit.unit) fun y1 => some y1)
    (onSome (F20 N ((Prod.fst a0, Prod.fst (Prod.snd a0), Prod.snd (Prod.snd a0)), a1)) fun y2 =>
      aIf (!y2) (onSome (F15 (200 : Nat) PUnit.unit) fun y3 => some y3)
        (onSome (F16 N ((Prod.fst a0, Prod.fst (Prod.snd a0), Prod.snd (Prod.snd a0)), a1)) fun y4 =>
          onSome (F21 N (Prod.fst a0, Prod.fst (Prod.snd a0), Prod.snd (Prod.snd a0))) fun y5 =>
            onSome (F18 N (Prod.fst y4, (Prod.fst y5, Prod.snd y5), a1)) fun y6 =>
              aGd (decide ((0 : Nat) + (3 : Nat) ≤ (3 : Nat)))
                (aIf (Prod.snd y4 != (0 : Int)) (some false)
                  (aIf (Prod.snd y6 != (0 : Int)) (some false)
                    (aIf (Prod.fst (Prod.fst y6) != Prod.fst a0) (some false)
                      (aIf (Prod.fst (Prod.snd (Prod.fst y6)) != Prod.fst (Prod.snd a0)) (some false)
                        (aIf (Prod.snd (Prod.snd (Prod.fst y6)) == Prod.snd (Prod.snd a0)) (onSome (F15 (200 : Nat) PUnit.unit) fun y7 => some y7)
                          (aIf (Prod.fst a0 == (6 : Int))
                            (aIf (decide ((0 : Int) ≤ Prod.snd (Prod.snd (Prod.fst y6))))
                              (aIf (decide (Prod.snd (Prod.snd (Prod.fst y6)) < Prod.snd (Prod.snd a0)))
                                (onGet a1 (Prod.fst (Prod.snd a0)) fun z8 =>
                                  onSome (PV.cells z8)[(1 : Nat)]? fun y9 =>
                                    onSl (1 : Nat) y9 fun l10 =>
                                      onGet l10 (Prod.snd (Prod.snd (Prod.fst y6))) fun z11 =>
                                        onStr z11 fun u12 => aIf (u12 == Prod.fst y4) (onSome (F15 (200 : Nat) PUnit.unit) fun y13 => some y13) (some false))
                                (some false))
                              (some false))
                            (some false))))))))) := by kernel_rfl
noncomputable def C5 (N : Nat) : Callee := mkCallee A5 R5 (F5 N)
theorem S5 (N : Nat) : Cok 5 (C5 N) := cok_of (l := (E5 N).calls) (O := O5 N) (cok_cons (S14 N) (cok_cons (S20 N) (cok_cons (S15 N) (cok_cons (S16 N) (cok_cons (S21 N) (cok_cons (S18 N) cok_nil)))))) rfl Tryd.func5 rfl (by kernel_rfl) (by kernel_rfl)

-- function 6
def A6 : Cods ((List UInt8) × ((Int) × Int) × List PV) := (codsCons codStr (codsCons (codAgg (codsCons (codInt .i64) (codsOne (codInt .i64)))) (codsOne (codSl 2))))
def R6 : Cod (Bool) := codBool
noncomputable def E6 (N : Nat) : Env := ⟨Tryd.prog, [(14, C14 N), (15, C15 N), (18, C18 N), (16, C16 N), (22, C22 N)]⟩
def O6 (N : Nat) : Opts := ⟨N, [], []⟩
noncomputable def F6 (N : Nat) (a : (List UInt8) × ((Int) × Int) × List PV) : Option (Bool) := aTyped (E6 N) (O6 N) Tryd.f6 A6 R6 a
theorem F6_eq (N : Nat) (a0 : List UInt8) (a1 : Int × Int) (a2 : List PV) : F6 N (a0, a1, a2) =
    onSome (F14 N a2) fun y0 =>
  aIf (!y0) (onSome (F15 (200 : Nat) PUnit.unit) fun y1 => some y1)
    (aIf (decide ((100 : Int) < Int.ofNat (List.length a0))) (onSome (F15 (200 : Nat) PUnit.unit) fun y2 => some y2)
      (onSome (F18 N (a0, (Prod.fst a1, Prod.snd a1), a2)) fun y3 =>
        aGd (decide ((0 : Nat) + (3 : Nat) ≤ (3 : Nat)))
          (aIf (Prod.snd y3 != (0 : Int))
            (aIf (Prod.fst (Prod.fst y3) == (0 : Int) && (Prod.fst (Prod.snd (Prod.fst y3)) == (0 : Int) && (Prod.snd (Prod.snd (Prod.fst y3)) == (0 : Int) && true)))
              (onSome (F15 (200 : Nat) PUnit.unit) fun y4 => some y4) (some false))
            (onSome (F16 N ((Prod.fst (Prod.fst y3), Prod.fst (Prod.snd (Prod.fst y3)), Prod.snd (Prod.snd (Prod.fst y3))), a2)) fun y5 =>
              aIf (Prod.snd y5 == (0 : Int))
                (aIf (Prod.fst y5 == a0)
                  (onSome (F22 N ((Prod.fst (Prod.fst y3), Prod.fst (Prod.snd (Prod.fst y3)), Prod.snd (Prod.snd (Prod.fst y3))), a2)) fun y6 =>
                    aIf y6
                      (aIf (Prod.fst (Prod.fst y3) == Prod.fst a1)
                        (aIf (Prod.fst (Prod.snd (Prod.fst y3)) == Prod.snd a1) (onSome (F15 (200 : Nat) PUnit.unit) fun y7 => some y7) (some false)) (some false))
                      (some false))
                  (some false))
                (some false))))) := by kernel_rfl
noncomputable def C6 (N : Nat) : Callee := mkCallee A6 R6 (F6 N)
theorem S6 (N : Nat) : Cok 6 (C6 N) := cok_of (l := (E6 N).calls) (O := O6 N) (cok_cons (S14 N) (cok_cons (S15 N) (cok_cons (S18 N) (cok_cons (S16 N) (cok_cons (S22 N) cok_nil))))) rfl Tryd.func6 rfl (by kernel_rfl) (by kernel_rfl)

-- function 7
def A7 : Cods (((Int) × Int) × ((Int) × Int) × List PV) := (codsCons (codAgg (codsCons (codInt .i64) (codsOne (codInt .i64)))) (codsCons (codAgg (codsCons (codInt .i64) (codsOne (codInt .i64)))) (codsOne (codSl 2))))
def R7 : Cod (Bool) := codBool
noncomputable def E7 (N : Nat) : Env := ⟨Tryd.prog, [(14, C14 N), (15, C15 N), (16, C16 N), (20, C20 N)]⟩
def O7 (N : Nat) : Opts := ⟨N, [], []⟩
noncomputable def F7 (N : Nat) (a : ((Int) × Int) × ((Int) × Int) × List PV) : Option (Bool) := aTyped (E7 N) (O7 N) Tryd.f7 A7 R7 a
theorem F7_eq (N : Nat) (a0 : Int × Int) (a1 : Int × Int) (a2 : List PV) : F7 N (a0, a1, a2) =
    onSome (F14 N a2) fun y0 =>
  aIf (!y0) (onSome (F15 (200 : Nat) PUnit.unit) fun y1 => some y1)
    (aGd (decide ((0 : Nat) + (3 : Nat) ≤ (3 : Nat)))
      (aGd (decide ((0 : Nat) + (3 : Nat) ≤ (3 : Nat)))
        (onSome (F16 N ((Prod.fst a0, Prod.snd a0, Prod.fst a1), a2)) fun y2 =>
          onSome (F16 N ((Prod.fst a0, Prod.snd a0, Prod.snd a1), a2)) fun y3 =>
            aIf (Prod.snd y2 != (0 : Int))
              (onSome (F20 N ((Prod.fst a0, Prod.snd a0, Prod.fst a1), a2)) fun y4 =>
                aIf ((Prod.snd y2 == (0 : Int)) == y4)
                  (onSome (F20 N ((Prod.fst a0, Prod.snd a0, Prod.snd a1), a2)) fun y5 =>
                    aIf ((Prod.snd y3 == (0 : Int)) == y5) (onSome (F15 (200 : Nat) PUnit.unit) fun y6 => some y6) (some false))
                  (some false))
              (aIf (Prod.snd y3 != (0 : Int))
                (onSome (F20 N ((Prod.fst a0, Prod.snd a0, Prod.fst a1), a2)) fun y7 =>
                  aIf ((Prod.snd y2 == (0 : Int)) == y7)
                    (onSome (F20 N ((Prod.fst a0, Prod.snd a0, Prod.snd a1), a2)) fun y8 =>
                      aIf ((Prod.snd y3 == (0 : Int)) == y8) (onSome (F15 (200 : Nat) PUnit.unit) fun y9 => some y9) (some false))
                    (some false))
                (aIf (Prod.fst a0 == Prod.fst a0 && (Prod.snd a0 == Prod.snd a0 && (Prod.fst a1 == Prod.snd a1 && true)))
                  (aIf (!(Prod.fst a0 == Prod.fst a0 && (Prod.snd a0 == Prod.snd a0 && (Prod.fst a1 == Prod.snd a1 && true))))
                    (onSome (F15 (200 : Nat) PUnit.unit) fun y10 => some y10)
                    (aIf (Prod.fst y2 == Prod.fst y3) (onSome (F15 (200 : Nat) PUnit.unit) fun y11 => some y11) (some false)))
                  (aIf (Prod.fst a0 == (6 : Int))
                    (aIf (!(Prod.fst a0 == Prod.fst a0 && (Prod.snd a0 == Prod.snd a0 && (Prod.fst a1 == Prod.snd a1 && true))))
                      (onSome (F15 (200 : Nat) PUnit.unit) fun y12 => some y12)
                      (aIf (Prod.fst y2 == Prod.fst y3) (onSome (F15 (200 : Nat) PUnit.unit) fun y13 => some y13) (some false)))
                    (aIf (!Prod.fst y2 == Prod.fst y3)
                      (aIf (!(Prod.fst a0 == Prod.fst a0 && (Prod.snd a0 == Prod.snd a0 && (Prod.fst a1 == Prod.snd a1 && true))))
                        (onSome (F15 (200 : Nat) PUnit.unit) fun y14 => some y14)
                        (aIf (Prod.fst y2 == Prod.fst y3) (onSome (F15 (200 : Nat) PUnit.unit) fun y15 => some y15) (some false)))
                      (some false)))))))) := by kernel_rfl
noncomputable def C7 (N : Nat) : Callee := mkCallee A7 R7 (F7 N)
theorem S7 (N : Nat) : Cok 7 (C7 N) := cok_of (l := (E7 N).calls) (O := O7 N) (cok_cons (S14 N) (cok_cons (S15 N) (cok_cons (S16 N) (cok_cons (S20 N) cok_nil)))) rfl Tryd.func7 rfl (by kernel_rfl) (by kernel_rfl)

-- function 8
def A8 : Cods (((Int) × Int) × (Int) × List PV) := (codsCons (codAgg (codsCons (codInt .i64) (codsOne (codInt .i64)))) (codsCons (codInt .i64) (codsOne (codSl 2))))
def R8 : Cod (Bool) := codBool
noncomputable def E8 (N : Nat) : Env := ⟨Tryd.prog, [(14, C14 N), (15, C15 N), (23, C23 N), (24, C24 N), (25, C25 N), (26, C26 N), (22, C22 N), (20, C20 N), (27, C27 N), (28, C28 N)]⟩
def O8 (N : Nat) : Opts := ⟨N, [], []⟩
noncomputable def F8 (N : Nat) (a : ((Int) × Int) × (Int) × List PV) : Option (Bool) := aTyped (E8 N) (O8 N) Tryd.f8 A8 R8 a
theorem F8_eq (N : Nat) (a0 : Int × Int) (a1 : Int) (a2 : List PV) : F8 N (a0, a1, a2) =
    onSome (F14 N a2) fun y0 =>
  aIf (!y0) (onSome (F15 (200 : Nat) PUnit.unit) fun y1 => some y1)
    (onSome (F23 N ((Prod.fst a0, Prod.snd a0), a2)) fun y2 =>
      onSome (F24 N ((Prod.fst a0, Prod.snd a0), a2)) fun y3 =>
        aGd (decide ((0 : Nat) + (3 : Nat) ≤ (3 : Nat)))
          (onSome (F25 N ((Prod.fst a0, Prod.snd a0), a2)) fun y4 =>
            onSome (F26 N ((Prod.fst a0, Prod.snd a0), a2)) fun y5 =>
              aIf (y4 == y5)
                (aIf (Prod.fst y2 == Prod.fst y3)
                  (aIf (Prod.snd y2 == Prod.snd y3)
                    (onSome (F22 N ((Prod.fst a0, Prod.snd a0, a1), a2)) fun y6 =>
                      onSome (F20 N ((Prod.fst a0, Prod.snd a0, a1), a2)) fun y7 =>
                        aIf (y6 == y7)
                          (onSome (F27 N (Prod.fst a0, Prod.snd a0)) fun y8 =>
                            onSome (F28 N (Prod.fst a0, Prod.snd a0)) fun y9 =>
                              aIf (Prod.fst y8 == Prod.fst y9 && (Prod.fst (Prod.snd y8) == Prod.fst (Prod.snd y9) && (Prod.snd (Prod.snd y8) == Prod.snd (Prod.snd y9) && true)))
                                (onSome (F15 (200 : Nat) PUnit.unit) fun y10 => some y10) (some false))
                          (some false))
                    (some false))
                  (some false))
                (some false))) := by kernel_rfl
noncomputable def C8 (N : Nat) : Callee := mkCallee A8 R8 (F8 N)
theorem S8 (N : Nat) : Cok 8 (C8 N) := cok_of (l := (E8 N).calls) (O := O8 N) (cok_cons (S14 N) (cok_cons (S15 N) (cok_cons (S23 N) (cok_cons (S24 N) (cok_cons (S25 N) (cok_cons (S26 N) (cok_cons (S22 N) (cok_cons (S20 N) (cok_cons (S27 N) (cok_cons (S28 N) cok_nil)))))))))) rfl Tryd.func8 rfl (by kernel_rfl) (by kernel_rfl)

-- function 9
def A9 : Cods ((Int) × Int) := (codsCons (codInt .i64) (codsOne (codInt .i64)))
def R9 : Cod (Bool) := codBool
noncomputable def E9 (N : Nat) : Env := ⟨Tryd.prog, [(29, C29 N), (30, C30 N), (31, C31 N)]⟩
def O9 (N : Nat) : Opts := ⟨N, [], []⟩
noncomputable def F9 (N : Nat) (a : (Int) × Int) : Option (Bool) := aTyped (E9 N) (O9 N) Tryd.f9 A9 R9 a
theorem F9_eq (N : Nat) (a0 : Int) (a1 : Int) : F9 N (a0, a1) =
    onSome (F29 N (a0, a1)) fun y0 =>
  onSome (F30 N (a0, a1)) fun y1 =>
    aIf (Prod.fst y0 == Prod.fst y1) (aIf (Prod.snd y0 == Prod.snd y1) (onSome (F31 (200 : Nat) PUnit.unit) fun y2 => some y2) (some false)) (some false) := by kernel_rfl
noncomputable def C9 (N : Nat) : Callee := mkCallee A9 R9 (F9 N)
theorem S9 (N : Nat) : Cok 9 (C9 N) := cok_of (l := (E9 N).calls) (O := O9 N) (cok_cons (S29 N) (cok_cons (S30 N) (cok_cons (S31 N) cok_nil))) rfl Tryd.func9 rfl (by kernel_rfl) (by kernel_rfl)

-- function 10
def A10 : Cods ((Int) × (Int) × (Int) × List PV) := (codsCons (codInt .i64) (codsCons (codInt .i64) (codsCons (codInt .i64) (codsOne (codSl 4)))))
def R10 : Cod (Bool) := codBool
noncomputable def E10 (N : Nat) : Env := ⟨Tryd.prog, [(31, C31 N), (32, C32 N), (33, C33 N)]⟩
def O10 (N : Nat) : Opts := ⟨N, [(4, ⟨[9, 3, 2, 1, 0], [], [], 0⟩)], []⟩
noncomputable def F10 (N : Nat) (a : (Int) × (Int) × (Int) × List PV) : Option (Bool) := aTyped (E10 N) (O10 N) Tryd.f10 A10 R10 a
noncomputable def L10_4 (N : Nat) (n : Nat) (x0 : Int) (x1 : Int) (x2 : Int) (x3 : List PV) (x4 : Int) : Option Bool :=
  atLoop (E10 N) (O10 N) Tryd.f10 [(1 : Nat), (1 : Nat), (0 : Nat), (1 : Nat), (0 : Nat)] [] n
  {
    tmps :=
      [AV.p (PV.int IntKind.i64 x0), AV.p (PV.int IntKind.i64 x1), AV.p (PV.int IntKind.i64 x2), AV.p (PV.sl (4 : Nat) x3), AV.top, AV.top, AV.top, AV.top, AV.top,
        AV.p (PV.int IntKind.i64 x4), AV.top, AV.top, AV.top, AV.top, AV.top, AV.top, AV.top, AV.top, AV.top, AV.top, AV.top, AV.top, AV.top, AV.top, AV.top, AV.top, AV.top,
        AV.top, AV.top, AV.top, AV.top, AV.top, AV.top, AV.top, AV.top, AV.top, AV.top, AV.top, AV.top, AV.top, AV.top, AV.top, AV.top, AV.top, AV.top, AV.top, AV.top, AV.top,
        AV.top, AV.top, AV.top, AV.top, AV.top, AV.top, AV.top, AV.top, AV.top, AV.top, AV.top, AV.top, AV.top, AV.top, AV.top, AV.top, AV.top, AV.top],
    heap := [] }
  fun x => Cod.dec R10 x some
theorem L10_4_eq (N : Nat) (n : Nat) (x0 : Int) (x1 : Int) (x2 : Int) (x3 : List PV) (x4 : Int) : L10_4 N (n + 1) x0 x1 x2 x3 x4 =
    aIf (decide (x4 < Int.ofNat (List.length x3)))
  (onGet x3 x4 fun z1 =>
    onSome (PV.cells z1)[(3 : Nat)]? fun y2 =>
      onInt IntKind.i64 y2 fun n3 =>
        aIf (decide ((1099511627776 : Int) < n3)) (onSome (F31 (200 : Nat) PUnit.unit) fun y4 => some y4)
          (onGet x3 x4 fun z5 =>
            onSome (PV.cells z5)[(3 : Nat)]? fun y6 =>
              onInt IntKind.i64 y6 fun n7 =>
                aIf (decide (n7 < (-1099511627776 : Int))) (onSome (F31 (200 : Nat) PUnit.unit) fun y8 => some y8)
                  (L10_4 N n x0 x1 x2 x3 (IntKind.wrap IntKind.i64 (x4 + (1 : Int))))))
  (onSome (F32 N (x0, x1, x2, x3)) fun y9 =>
    aGd (decide ((0 : Nat) + (5 : Nat) ≤ (5 : Nat)))
      (onSome (F33 N (x0, x1, x2, x3)) fun y10 =>
        aGd (decide ((0 : Nat) + (5 : Nat) ≤ (5 : Nat)))
          (aIf
            (Prod.fst (Prod.fst y9) == Prod.fst (Prod.fst y10) &&
              (Prod.fst (Prod.snd (Prod.fst y9)) == Prod.fst (Prod.snd (Prod.fst y10)) &&
                (Prod.fst (Prod.snd (Prod.snd (Prod.fst y9))) == Prod.fst (Prod.snd (Prod.snd (Prod.fst y10))) &&
                  (Prod.fst (Prod.snd (Prod.snd (Prod.snd (Prod.fst y9)))) == Prod.fst (Prod.snd (Prod.snd (Prod.snd (Prod.fst y10)))) &&
                    (Prod.snd (Prod.snd (Prod.snd (Prod.snd (Prod.fst y9)))) == Prod.snd (Prod.snd (Prod.snd (Prod.snd (Prod.fst y10)))) && true)))))
            (aIf (Prod.snd y9 == Prod.snd y10) (onSome (F31 (200 : Nat) PUnit.unit) fun y11 => some y11) (some false)) (some false)))) := by kernel_rfl
theorem L10_4_zero (N : Nat) (x0 : Int) (x1 : Int) (x2 : Int) (x3 : List PV) (x4 : Int) : L10_4 N 0 x0 x1 x2 x3 x4 = none := by kernel_rfl
theorem F10_eq (N : Nat) (a0 : Int) (a1 : Int) (a2 : Int) (a3 : List PV) : F10 N (a0, a1, a2, a3) =
    aIf (decide ((200 : Int) < Int.ofNat (List.length a3))) (onSome (F31 (200 : Nat) PUnit.unit) fun y0 => some y0) (L10_4 N N a0 a1 a2 a3 (0 : Int)) := by kernel_rfl
noncomputable def C10 (N : Nat) : Callee := mkCallee A10 R10 (F10 N)
theorem S10 (N : Nat) : Cok 10 (C10 N) := cok_of (l := (E10 N).calls) (O := O10 N) (cok_cons (S31 N) (cok_cons (S32 N) (cok_cons (S33 N) cok_nil))) rfl Tryd.func10 rfl (by kernel_rfl) (by kernel_rfl)

-- function 11
def A11 : Cods ((Int) × (Int) × (Int) × (Int) × Int) := (codsOne (codAgg (codsCons (codInt .i64) (codsCons (codInt .i64) (codsCons (codInt .i64) (codsCons (codInt .i64) (codsOne (codInt .i64))))))))
def R11 : Cod (Bool) := codBool
noncomputable def E11 (N : Nat) : Env := ⟨Tryd.prog, [(34, C34 N), (35, C35 N), (31, C31 N)]⟩
def O11 (N : Nat) : Opts := ⟨N, [], []⟩
noncomputable def F11 (N : Nat) (a : (Int) × (Int) × (Int) × (Int) × Int) : Option (Bool) := aTyped (E11 N) (O11 N) Tryd.f11 A11 R11 a
theorem F11_eq (N : Nat) (a0 : Int) (a1 : Int) (a2 : Int) (a3 : Int) (a4 : Int) : F11 N (a0, a1, a2, a3, a4) =
    onSome (F34 N (a0, a1, a2, a3, a4)) fun y0 => onSome (F35 N (a0, a1, a2, a3, a4)) fun y1 => aIf (y0 == y1) (onSome (F31 (200 : Nat) PUnit.unit) fun y2 => some y2) (some false) := by kernel_rfl
noncomputable def C11 (N : Nat) : Callee := mkCallee A11 R11 (F11 N)
theorem S11 (N : Nat) : Cok 11 (C11 N) := cok_of (l := (E11 N).calls) (O := O11 N) (cok_cons (S34 N) (cok_cons (S35 N) (cok_cons (S31 N) cok_nil))) rfl Tryd.func11 rfl (by kernel_rfl) (by kernel_rfl)

-- function 12
def A12 : Cods (List UInt8) := (codsOne codStr)
def R12 : Cod (Bool) := codBool
noncomputable def E12 (N : Nat) : Env := ⟨Tryd.prog, [(31, C31 N), (36, C36 N), (37, C37 N), (34, C34 N)]⟩
def O12 (N : Nat) : Opts := ⟨N, [], []⟩
noncomputable def F12 (N : Nat) (a : List UInt8) : Option (Bool) := aTyped (E12 N) (O12 N) Tryd.f12 A12 R12 a
theorem F12_eq (N : Nat) (a0 : List UInt8) : F12 N a0 =
    aIf (decide ((300 : Int) < Int.ofNat (List.length a0))) (onSome (F31 (200 : Nat) PUnit.unit) fun y0 => some y0)
  (onSome (F36 N a0) fun y1 =>
    aGd (decide ((0 : Nat) + (5 : Nat) ≤ (5 : Nat)))
      (onSome (F37 N a0) fun y2 =>
        aGd (decide ((0 : Nat) + (5 : Nat) ≤ (5 : Nat)))
          (aIf
            (!(Prod.fst (Prod.fst y1) == Prod.fst (Prod.fst y2) &&
                (Prod.fst (Prod.snd (Prod.fst y1)) == Prod.fst (Prod.snd (Prod.fst y2)) &&
                  (Prod.fst (Prod.snd (Prod.snd (Prod.fst y1))) == Prod.fst (Prod.snd (Prod.snd (Prod.fst y2))) &&
                    (Prod.fst (Prod.snd (Prod.snd (Prod.snd (Prod.fst y1)))) == Prod.fst (Prod.snd (Prod.snd (Prod.snd (Prod.fst y2)))) &&
                      (Prod.snd (Prod.snd (Prod.snd (Prod.snd (Prod.fst y1)))) == Prod.snd (Prod.snd (Prod.snd (Prod.snd (Prod.fst y2)))) && true))))))
            (some false)
            (aIf (Prod.snd y1 != Prod.snd y2) (some false)
              (aIf (Prod.snd y1 != (0 : Int)) (onSome (F31 (200 : Nat) PUnit.unit) fun y3 => some y3)
                (onSome
                  (F34 N
                    (Prod.fst (Prod.fst y1), Prod.fst (Prod.snd (Prod.fst y1)), Prod.fst (Prod.snd (Prod.snd (Prod.fst y1))),
                      Prod.fst (Prod.snd (Prod.snd (Prod.snd (Prod.fst y1)))), Prod.snd (Prod.snd (Prod.snd (Prod.snd (Prod.fst y1))))))
                  fun y4 => aIf (y4 == a0) (onSome (F31 (200 : Nat) PUnit.unit) fun y5 => some y5) (some false))))))) := by kernel_rfl
noncomputable def C12 (N : Nat) : Callee := mkCallee A12 R12 (F12 N)
theorem S12 (N : Nat) : Cok 12 (C12 N) := cok_of (l := (E12 N).calls) (O := O12 N) (cok_cons (S31 N) (cok_cons (S36 N) (cok_cons (S37 N) (cok_cons (S34 N) cok_nil)))) rfl Tryd.func12 rfl (by kernel_rfl) (by kernel_rfl)

-- function 13
def A13 : Cods (((Int) × (Int) × (Int) × (Int) × Int) × ((Int) × (Int) × (Int) × (Int) × Int) × List PV) := (codsCons (codAgg (codsCons (codInt .i64) (codsCons (codInt .i64) (codsCons (codInt .i64) (codsCons (codInt .i64) (codsOne (codInt .i64))))))) (codsCons (codAgg (codsCons (codInt .i64) (codsCons (codInt .i64) (codsCons (codInt .i64) (codsCons (codInt .i64) (codsOne (codInt .i64))))))) (codsOne (codSl 4))))
def R13 : Cod (Bool) := codBool
noncomputable def E13 (N : Nat) : Env := ⟨Tryd.prog, [(31, C31 N), (29, C29 N), (32, C32 N), (34, C34 N), (36, C36 N)]⟩
def O13 (N : Nat) : Opts := ⟨N, [], []⟩
noncomputable def F13 (N : Nat) (a : ((Int) × (Int) × (Int) × (Int) × Int) × ((Int) × (Int) × (Int) × (Int) × Int) × List PV) : Option (Bool) := aTyped (E13 N) (O13 N) Tryd.f13 A13 R13 a
theorem F13_eq (N : Nat) (a0 : Int × Int × Int × Int × Int) (a1 : Int × Int × Int × Int × Int) (a2 : List PV) : F13 N (a0, a1, a2) =
    aIf (decide ((200 : Int) < Int.ofNat (List.length a2))) (onSome (F31 (200 : Nat) PUnit.unit) fun y0 => some y0)
  (onSome (F29 N (Prod.fst (Prod.snd a0), Prod.fst (Prod.snd (Prod.snd a0)))) fun y1 =>
    onSome (F29 N (Prod.fst (Prod.snd a1), Prod.fst (Prod.snd (Prod.snd a1)))) fun y2 =>
      aIf (Prod.snd y1 == (0 : Int))
        (aIf (Prod.snd y2 == (0 : Int))
          (aIf (Prod.fst y1 == Prod.fst y2)
            (aIf (Prod.fst (Prod.snd a0) != Prod.fst (Prod.snd a1)) (some false)
              (aIf (Prod.fst (Prod.snd (Prod.snd a0)) != Prod.fst (Prod.snd (Prod.snd a1))) (some false)
                (onSome (F32 N (Prod.fst (Prod.snd a0), Prod.fst (Prod.snd (Prod.snd a0)), Prod.snd (Prod.snd (Prod.snd (Prod.snd a0))), a2)) fun y3 =>
                  aGd (decide ((0 : Nat) + (5 : Nat) ≤ (5 : Nat)))
                    (aIf (Prod.snd y3 != Prod.snd y1) (some false)
                      (aIf (Prod.snd y3 != (0 : Int)) (onSome (F31 (200 : Nat) PUnit.unit) fun y4 => some y4)
                        (aIf (decide (Prod.snd (Prod.snd (Prod.snd (Prod.snd (Prod.fst y3)))) < (0 : Int))) (onSome (F31 (200 : Nat) PUnit.unit) fun y5 => some y5)
                          (aIf (decide ((1000000000000000 : Int) < Prod.snd (Prod.snd (Prod.snd (Prod.snd (Prod.fst y3)))))) (onSome (F31 (200 : Nat) PUnit.unit) fun y6 => some y6)
                            (onSome
                              (F34 N
                                (Prod.fst (Prod.fst y3), Prod.fst (Prod.snd (Prod.fst y3)), Prod.fst (Prod.snd (Prod.snd (Prod.fst y3))),
                                  Prod.fst (Prod.snd (Prod.snd (Prod.snd (Prod.fst y3)))), Prod.snd (Prod.snd (Prod.snd (Prod.snd (Prod.fst y3))))))
                              fun y7 =>
                              onSome (F36 N y7) fun y8 =>
                                aGd (decide ((0 : Nat) + (5 : Nat) ≤ (5 : Nat)))
                                  (aIf (Prod.snd y8 == (0 : Int))
                                    (aIf
                                      (Prod.fst (Prod.fst y8) == Prod.fst (Prod.fst y3) &&
                                        (Prod.fst (Prod.snd (Prod.fst y8)) == Prod.fst (Prod.snd (Prod.fst y3)) &&
                                          (Prod.fst (Prod.snd (Prod.snd (Prod.fst y8))) == Prod.fst (Prod.snd (Prod.snd (Prod.fst y3))) &&
                                            (Prod.fst (Prod.snd (Prod.snd (Prod.snd (Prod.fst y8)))) == Prod.fst (Prod.snd (Prod.snd (Prod.snd (Prod.fst y3)))) &&
                                              (Prod.snd (Prod.snd (Prod.snd (Prod.snd (Prod.fst y8)))) == Prod.snd (Prod.snd (Prod.snd (Prod.snd (Prod.fst y3)))) && true)))))
                                      (aIf (Prod.fst (Prod.fst y3) == Prod.fst y1) (onSome (F31 (200 : Nat) PUnit.unit) fun y9 => some y9) (some false)) (some false))
                                    (some false))))))))))
            (onSome (F32 N (Prod.fst (Prod.snd a0), Prod.fst (Prod.snd (Prod.snd a0)), Prod.snd (Prod.snd (Prod.snd (Prod.snd a0))), a2)) fun y10 =>
              aGd (decide ((0 : Nat) + (5 : Nat) ≤ (5 : Nat)))
                (aIf (Prod.snd y10 != Prod.snd y1) (some false)
                  (aIf (Prod.snd y10 != (0 : Int)) (onSome (F31 (200 : Nat) PUnit.unit) fun y11 => some y11)
                    (aIf (decide (Prod.snd (Prod.snd (Prod.snd (Prod.snd (Prod.fst y10)))) < (0 : Int))) (onSome (F31 (200 : Nat) PUnit.unit) fun y12 => some y12)
                      (aIf (decide ((1000000000000000 : Int) < Prod.snd (Prod.snd (Prod.snd (Prod.snd (Prod.fst y10)))))) (onSome (F31 (200 : Nat) PUnit.unit) fun y13 => some y13)
                        (onSome
                          (F34 N
                            (Prod.fst (Prod.fst y10), Prod.fst (Prod.snd (Prod.fst y10)), Prod.fst (Prod.snd (Prod.snd (Prod.fst y10))),
                              Prod.fst (Prod.snd (Prod.snd (Prod.snd (Prod.fst y10)))), Prod.snd (Prod.snd (Prod.snd (Prod.snd (Prod.fst y10))))))
                          fun y14 =>
                          onSome (F36 N y14) fun y15 =>
                            aGd (decide ((0 : Nat) + (5 : Nat) ≤ (5 : Nat)))
                              (aIf (Prod.snd y15 == (0 : Int))
                                (aIf
                                  (Prod.fst (Prod.fst y15) == Prod.fst (Prod.fst y10) &&
                                    (Prod.fst (Prod.snd (Prod.fst y15)) == Prod.fst (Prod.snd (Prod.fst y10)) &&
                                      (Prod.fst (Prod.snd (Prod.snd (Prod.fst y15))) == Prod.fst (Prod.snd (Prod.snd (Prod.fst y10))) &&
                                        (Prod.fst (Prod.snd (Prod.snd (Prod.snd (Prod.fst y15)))) == Prod.fst (Prod.snd (Prod.snd (Prod.snd (Prod.fst y10)))) &&
                                          (Prod.snd (Prod.snd (Prod.snd (Prod.snd (Prod.fst y15)))) == Prod.snd (Prod.snd (Prod.snd (Prod.snd (Prod.fst y10)))) && true)))))
                                  (aIf (Prod.fst (Prod.fst y10) == Prod.fst y1) (onSome (F31 (200 : Nat) PUnit.unit) fun y16 => some y16) (some false)) (some false))
                                (some false)))))))))
          (onSome (F32 N (Prod.fst (Prod.snd a0), Prod.fst (Prod.snd (Prod.snd a0)), Prod.snd (Prod.snd (Prod.snd (Prod.snd a0))), a2)) fun y17 =>
            aGd (decide ((0 : Nat) + (5 : Nat) ≤ (5 : Nat)))
              (aIf (Prod.snd y17 != Prod.snd y1) (some false)
                (aIf (Prod.snd y17 != (0 : Int)) (onSome (F31 (200 : Nat) PUnit.unit) fun y18 => some y18)
                  (aIf (decide (Prod.snd (Prod.snd (Prod.snd (Prod.snd (Prod.fst y17)))) < (0 : Int))) (onSome (F31 (200 : Nat) PUnit.unit) fun y19 => some y19)
                    (aIf (decide ((1000000000000000 : Int) < Prod.snd (Prod.snd (Prod.snd (Prod.snd (Prod.fst y17)))))) (onSome (F31 (200 : Nat) PUnit.unit) fun y20 => some y20)
                      (onSome
                        (F34 N
                          (Prod.fst (Prod.fst y17), Prod.fst (Prod.snd (Prod.fst y17)), Prod.fst (Prod.snd (Prod.snd (Prod.fst y17))),
                            Prod.fst (Prod.snd (Prod.snd (Prod.snd (Prod.fst y17)))), Prod.snd (Prod.snd (Prod.snd (Prod.snd (Prod.fst y17))))))
                        fun y21 =>
                        onSome (F36 N y21) fun y22 =>
                          aGd (decide ((0 : Nat) + (5 : Nat) ≤ (5 : Nat)))
                            (aIf (Prod.snd y22 == (0 : Int))
                              (aIf
                                (Prod.fst (Prod.fst y22) == Prod.fst (Prod.fst y17) &&
                                  (Prod.fst (Prod.snd (Prod.fst y22)) == Prod.fst (Prod.snd (Prod.fst y17)) &&
                                    (Prod.fst (Prod.snd (Prod.snd (Prod.fst y22))) == Prod.fst (Prod.snd (Prod.snd (Prod.fst y17))) &&
                                      (Prod.fst (Prod.snd (Prod.snd (Prod.snd (Prod.fst y22)))) == Prod.fst (Prod.snd (Prod.snd (Prod.snd (Prod.fst y17)))) &&
                                        (Prod.snd (Prod.snd (Prod.snd (Prod.snd (Prod.fst y22)))) == Prod.snd (Prod.snd (Prod.snd (Prod.snd (Prod.fst y17)))) && true)))))
                                (aIf (Prod.fst (Prod.fst y17) == Prod.fst y1) (onSome (F31 (200 : Nat) PUnit.unit) fun y23 => some y23) (some false)) (some false))
                              (some false)))))))))
        (onSome (F32 N (Prod.fst (Prod.snd a0), Prod.fst (Prod.snd (Prod.snd a0)), Prod.snd (Prod.snd (Prod.snd (Prod.snd a0))), a2)) fun y24 =>
          aGd (decide ((0 : Nat) + (5 : Nat) ≤ (5 : Nat)))
            (aIf (Prod.snd y24 != Prod.snd y1) (some false)
              (aIf (Prod.snd y24 != (0 : Int)) (onSome (F31 (200 : Nat) PUnit.unit) fun y25 => some y25)
                (aIf (decide (Prod.snd (Prod.snd (Prod.snd (Prod.snd (Prod.fst y24)))) < (0 : Int))) (onSome (F31 (200 : Nat) PUnit.unit) fun y26 => some y26)
                  (aIf (decide ((1000000000000000 : Int) < Prod.snd (Prod.snd (Prod.snd (Prod.snd (Prod.fst y24)))))) (onSome (F31 (200 : Nat) PUnit.unit) fun y27 => some y27)
                    (onSome
                      (F34 N
                        (Prod.fst (Prod.fst y24), Prod.fst (Prod.snd (Prod.fst y24)), Prod.fst (Prod.snd (Prod.snd (Prod.fst y24))),
                          Prod.fst (Prod.snd (Prod.snd (Prod.snd (Prod.fst y24)))), Prod.snd (Prod.snd (Prod.snd (Prod.snd (Prod.fst y24))))))
                      fun y28 =>
                      onSome (F36 N y28) fun y29 =>
                        aGd (decide ((0 : Nat) + (5 : Nat) ≤ (5 : Nat)))
                          (aIf (Prod.snd y29 == (0 : Int))
                            (aIf
                              (Prod.fst (Prod.fst y29) == Prod.fst (Prod.fst y24) &&
                                (Prod.fst (Prod.snd (Prod.fst y29)) == Prod.fst (Prod.snd (Prod.fst y24)) &&
                                  (Prod.fst (Prod.snd (Prod.snd (Prod.fst y29))) == Prod.fst (Prod.snd (Prod.snd (Prod.fst y24))) &&
                                    (Prod.fst (Prod.snd (Prod.snd (Prod.snd (Prod.fst y29)))) == Prod.fst (Prod.snd (Prod.snd (Prod.snd (Prod.fst y24)))) &&
                                      (Prod.snd (Prod.snd (Prod.snd (Prod.snd (Prod.fst y29)))) == Prod.snd (Prod.snd (Prod.snd (Prod.snd (Prod.fst y24)))) && true)))))
                              (aIf (Prod.fst (Prod.fst y24) == Prod.fst y1) (onSome (F31 (200 : Nat) PUnit.unit) fun y30 => some y30) (some false)) (some false))
                            (some false))))))))) := by kernel_rfl
noncomputable def C13 (N : Nat) : Callee := mkCallee A13 R13 (F13 N)
theorem S13 (N : Nat) : Cok 13 (C13 N) := cok_of (l := (E13 N).calls) (O := O13 N) (cok_cons (S31 N) (cok_cons (S29 N) (cok_cons (S32 N) (cok_cons (S34 N) (cok_cons (S36 N) cok_nil))))) rfl Tryd.func13 rfl (by kernel_rfl) (by kernel_rfl)

end Go.Proofs.YtaapljpfhgahbaaDoor
