/- The pure reading of the program's functions (printed by a program of mine; each line is proved by the kernel's evaluation). -/
import Derived.Test.YtmnedpfilckilaaExq
import Derived.Test.YtmnedpfilckilaaProg
set_option linter.unusedSimpArgs false
set_option linter.unusedVariables false
set_option maxRecDepth 100000
namespace Go.Proofs.Ytmnedpfilckilaa
open Go.RowKit

-- function 21
def A21 : Cods (Int) := (codsOne (codInt .u8))
def R21 : Cod (Bool) := codBool
noncomputable def E21 (N : Nat) : Env := ⟨Try.prog, []⟩
def O21 (N : Nat) : Opts := ⟨N, [], []⟩
noncomputable def F21 (N : Nat) (a : Int) : Option (Bool) := aTyped (E21 N) (O21 N) Try.f21 A21 R21 a
theorem F21_eq (N : Nat) (a0 : Int) : F21 N a0 =
    aIf (decide ((97 : Int) ≤ a0)) (some (decide (a0 ≤ (122 : Int)))) (some false) := by kernel_rfl
noncomputable def C21 (N : Nat) : Callee := mkCallee A21 R21 (F21 N)
theorem S21 (N : Nat) : Cok 21 (C21 N) := cok_of (l := (E21 N).calls) (O := O21 N) cok_nil rfl Try.func21 rfl (by kernel_rfl) (by kernel_rfl)

-- function 31
def A31 : Cods (Int) := (codsOne (codInt .u8))
def R31 : Cod (Bool) := codBool
noncomputable def E31 (N : Nat) : Env := ⟨Try.prog, []⟩
def O31 (N : Nat) : Opts := ⟨N, [], []⟩
noncomputable def F31 (N : Nat) (a : Int) : Option (Bool) := aTyped (E31 N) (O31 N) Try.f31 A31 R31 a
theorem F31_eq (N : Nat) (a0 : Int) : F31 N a0 =
    aIf (decide ((48 : Int) ≤ a0)) (some (decide (a0 ≤ (57 : Int)))) (some false) := by kernel_rfl
noncomputable def C31 (N : Nat) : Callee := mkCallee A31 R31 (F31 N)
theorem S31 (N : Nat) : Cok 31 (C31 N) := cok_of (l := (E31 N).calls) (O := O31 N) cok_nil rfl Try.func31 rfl (by kernel_rfl) (by kernel_rfl)

-- function 22
def A22 : Cods (Int) := (codsOne (codInt .u8))
def R22 : Cod (Bool) := codBool
noncomputable def E22 (N : Nat) : Env := ⟨Try.prog, [(21, C21 N), (31, C31 N)]⟩
def O22 (N : Nat) : Opts := ⟨N, [], []⟩
noncomputable def F22 (N : Nat) (a : Int) : Option (Bool) := aTyped (E22 N) (O22 N) Try.f22 A22 R22 a
theorem F22_eq (N : Nat) (a0 : Int) : F22 N a0 =
    onSome (F21 N a0) fun y0 => aIf y0 (some true) (onSome (F31 N a0) fun y1 => aIf y1 (some true) (some (a0 == (95 : Int)))) := by kernel_rfl
noncomputable def C22 (N : Nat) : Callee := mkCallee A22 R22 (F22 N)
theorem S22 (N : Nat) : Cok 22 (C22 N) := cok_of (l := (E22 N).calls) (O := O22 N) (cok_cons (S21 N) (cok_cons (S31 N) cok_nil)) rfl Try.func22 rfl (by kernel_rfl) (by kernel_rfl)

-- function 49
def A49 : Cods (Int) := (codsOne (codInt .u8))
def R49 : Cod (Bool) := codBool
noncomputable def E49 (N : Nat) : Env := ⟨Try.prog, []⟩
def O49 (N : Nat) : Opts := ⟨N, [], []⟩
noncomputable def F49 (N : Nat) (a : Int) : Option (Bool) := aTyped (E49 N) (O49 N) Try.f49 A49 R49 a
theorem F49_eq (N : Nat) (a0 : Int) : F49 N a0 =
    aIf (decide ((32 : Int) ≤ a0)) (some (decide (a0 ≤ (126 : Int)))) (some false) := by kernel_rfl
noncomputable def C49 (N : Nat) : Callee := mkCallee A49 R49 (F49 N)
theorem S49 (N : Nat) : Cok 49 (C49 N) := cok_of (l := (E49 N).calls) (O := O49 N) cok_nil rfl Try.func49 rfl (by kernel_rfl) (by kernel_rfl)

-- function 18
def A18 : Cods (Int) := (codsOne (codInt .u8))
def R18 : Cod (Bool) := codBool
noncomputable def E18 (N : Nat) : Env := ⟨Try.prog, []⟩
def O18 (N : Nat) : Opts := ⟨N, [], []⟩
noncomputable def F18 (N : Nat) (a : Int) : Option (Bool) := aTyped (E18 N) (O18 N) Try.f18 A18 R18 a
theorem F18_eq (N : Nat) (a0 : Int) : F18 N a0 =
    some (a0 != (10 : Int)) := by kernel_rfl
noncomputable def C18 (N : Nat) : Callee := mkCallee A18 R18 (F18 N)
theorem S18 (N : Nat) : Cok 18 (C18 N) := cok_of (l := (E18 N).calls) (O := O18 N) cok_nil rfl Try.func18 rfl (by kernel_rfl) (by kernel_rfl)

-- function 17
def A17a : Cods ((List UInt8) × Unit) := (codsCons codStr (codsOne (codFn 31)))
def R17a : Cod (Int) := (codInt .i64)
noncomputable def E17a (N : Nat) : Env := ⟨Try.prog, [(31, C31 N)]⟩
def O17a (N : Nat) : Opts := ⟨N, [(2, ⟨[0, 1, 5], [], [], 0⟩)], []⟩
noncomputable def F17a (N : Nat) (a : (List UInt8) × Unit) : Option (Int) := aTyped (E17a N) (O17a N) Try.f17 A17a R17a a
noncomputable def L17a_2 (N : Nat) (n : Nat) (x0 : List UInt8) (x1 : Int) : Option Int :=
  atLoop (E17a N) (O17a N) Try.f17 [(1 : Nat), (1 : Nat), (0 : Nat), (0 : Nat)] [] n
  { tmps := Tm.of (nat_lit 20) [((0 : Nat), AV.p (PV.str x0)), ((1 : Nat), AV.p (PV.fn (31 : Nat))), ((5 : Nat), AV.p (PV.int IntKind.i64 x1))], heap := [] } fun x =>
  Cod.dec R17a x some
theorem L17a_2_eq (N : Nat) (n : Nat) (x0 : List UInt8) (x1 : Int) : L17a_2 N (n + 1) x0 x1 =
    aIf (decide (x1 < Int.ofNat (List.length x0)))
  (onGet x0 x1 fun z0 => onSome (F31 N (Int.ofNat (UInt8.toNat z0))) fun y1 => aIf y1 (L17a_2 N n x0 (IntKind.wrap IntKind.i64 (x1 + (1 : Int)))) (some x1)) (some x1) := by kernel_rfl
theorem L17a_2_zero (N : Nat) (x0 : List UInt8) (x1 : Int) : L17a_2 N 0 x0 x1 = none := by kernel_rfl
theorem F17a_eq (N : Nat) (a0 : List UInt8) : F17a N (a0, ()) =
    L17a_2 N N a0 (0 : Int) := by kernel_rfl
noncomputable def C17a (N : Nat) : Callee := mkCallee A17a R17a (F17a N)
theorem S17a (N : Nat) : Cok 17 (C17a N) := cok_of (l := (E17a N).calls) (O := O17a N) (cok_cons (S31 N) cok_nil) rfl Try.func17 rfl (by kernel_rfl) (by kernel_rfl)

-- function 17
def A17b : Cods ((List UInt8) × Unit) := (codsCons codStr (codsOne (codFn 22)))
def R17b : Cod (Int) := (codInt .i64)
noncomputable def E17b (N : Nat) : Env := ⟨Try.prog, [(22, C22 N)]⟩
def O17b (N : Nat) : Opts := ⟨N, [(2, ⟨[0, 1, 5], [], [], 0⟩)], []⟩
noncomputable def F17b (N : Nat) (a : (List UInt8) × Unit) : Option (Int) := aTyped (E17b N) (O17b N) Try.f17 A17b R17b a
noncomputable def L17b_2 (N : Nat) (n : Nat) (x0 : List UInt8) (x1 : Int) : Option Int :=
  atLoop (E17b N) (O17b N) Try.f17 [(1 : Nat), (1 : Nat), (0 : Nat), (0 : Nat)] [] n
  { tmps := Tm.of (nat_lit 20) [((0 : Nat), AV.p (PV.str x0)), ((1 : Nat), AV.p (PV.fn (22 : Nat))), ((5 : Nat), AV.p (PV.int IntKind.i64 x1))], heap := [] } fun x =>
  Cod.dec R17b x some
theorem L17b_2_eq (N : Nat) (n : Nat) (x0 : List UInt8) (x1 : Int) : L17b_2 N (n + 1) x0 x1 =
    aIf (decide (x1 < Int.ofNat (List.length x0)))
  (onGet x0 x1 fun z0 => onSome (F22 N (Int.ofNat (UInt8.toNat z0))) fun y1 => aIf y1 (L17b_2 N n x0 (IntKind.wrap IntKind.i64 (x1 + (1 : Int)))) (some x1)) (some x1) := by kernel_rfl
theorem L17b_2_zero (N : Nat) (x0 : List UInt8) (x1 : Int) : L17b_2 N 0 x0 x1 = none := by kernel_rfl
theorem F17b_eq (N : Nat) (a0 : List UInt8) : F17b N (a0, ()) =
    L17b_2 N N a0 (0 : Int) := by kernel_rfl
noncomputable def C17b (N : Nat) : Callee := mkCallee A17b R17b (F17b N)
theorem S17b (N : Nat) : Cok 17 (C17b N) := cok_of (l := (E17b N).calls) (O := O17b N) (cok_cons (S22 N) cok_nil) rfl Try.func17 rfl (by kernel_rfl) (by kernel_rfl)

-- function 17
def A17c : Cods ((List UInt8) × Unit) := (codsCons codStr (codsOne (codFn 49)))
def R17c : Cod (Int) := (codInt .i64)
noncomputable def E17c (N : Nat) : Env := ⟨Try.prog, [(49, C49 N)]⟩
def O17c (N : Nat) : Opts := ⟨N, [(2, ⟨[0, 1, 5], [], [], 0⟩)], []⟩
noncomputable def F17c (N : Nat) (a : (List UInt8) × Unit) : Option (Int) := aTyped (E17c N) (O17c N) Try.f17 A17c R17c a
noncomputable def L17c_2 (N : Nat) (n : Nat) (x0 : List UInt8) (x1 : Int) : Option Int :=
  atLoop (E17c N) (O17c N) Try.f17 [(1 : Nat), (1 : Nat), (0 : Nat), (0 : Nat)] [] n
  { tmps := Tm.of (nat_lit 20) [((0 : Nat), AV.p (PV.str x0)), ((1 : Nat), AV.p (PV.fn (49 : Nat))), ((5 : Nat), AV.p (PV.int IntKind.i64 x1))], heap := [] } fun x =>
  Cod.dec R17c x some
theorem L17c_2_eq (N : Nat) (n : Nat) (x0 : List UInt8) (x1 : Int) : L17c_2 N (n + 1) x0 x1 =
    aIf (decide (x1 < Int.ofNat (List.length x0)))
  (onGet x0 x1 fun z0 => onSome (F49 N (Int.ofNat (UInt8.toNat z0))) fun y1 => aIf y1 (L17c_2 N n x0 (IntKind.wrap IntKind.i64 (x1 + (1 : Int)))) (some x1)) (some x1) := by kernel_rfl
theorem L17c_2_zero (N : Nat) (x0 : List UInt8) (x1 : Int) : L17c_2 N 0 x0 x1 = none := by kernel_rfl
theorem F17c_eq (N : Nat) (a0 : List UInt8) : F17c N (a0, ()) =
    L17c_2 N N a0 (0 : Int) := by kernel_rfl
noncomputable def C17c (N : Nat) : Callee := mkCallee A17c R17c (F17c N)
theorem S17c (N : Nat) : Cok 17 (C17c N) := cok_of (l := (E17c N).calls) (O := O17c N) (cok_cons (S49 N) cok_nil) rfl Try.func17 rfl (by kernel_rfl) (by kernel_rfl)

-- function 17
def A17d : Cods ((List UInt8) × Unit) := (codsCons codStr (codsOne (codFn 18)))
def R17d : Cod (Int) := (codInt .i64)
noncomputable def E17d (N : Nat) : Env := ⟨Try.prog, [(18, C18 N)]⟩
def O17d (N : Nat) : Opts := ⟨N, [(2, ⟨[0, 1, 5], [], [], 0⟩)], []⟩
noncomputable def F17d (N : Nat) (a : (List UInt8) × Unit) : Option (Int) := aTyped (E17d N) (O17d N) Try.f17 A17d R17d a
noncomputable def L17d_2 (N : Nat) (n : Nat) (x0 : List UInt8) (x1 : Int) : Option Int :=
  atLoop (E17d N) (O17d N) Try.f17 [(1 : Nat), (1 : Nat), (0 : Nat), (0 : Nat)] [] n
  { tmps := Tm.of (nat_lit 20) [((0 : Nat), AV.p (PV.str x0)), ((1 : Nat), AV.p (PV.fn (18 : Nat))), ((5 : Nat), AV.p (PV.int IntKind.i64 x1))], heap := [] } fun x =>
  Cod.dec R17d x some
theorem L17d_2_eq (N : Nat) (n : Nat) (x0 : List UInt8) (x1 : Int) : L17d_2 N (n + 1) x0 x1 =
    aIf (decide (x1 < Int.ofNat (List.length x0)))
  (onGet x0 x1 fun z0 => onSome (F18 N (Int.ofNat (UInt8.toNat z0))) fun y1 => aIf y1 (L17d_2 N n x0 (IntKind.wrap IntKind.i64 (x1 + (1 : Int)))) (some x1)) (some x1) := by kernel_rfl
theorem L17d_2_zero (N : Nat) (x0 : List UInt8) (x1 : Int) : L17d_2 N 0 x0 x1 = none := by kernel_rfl
theorem F17d_eq (N : Nat) (a0 : List UInt8) : F17d N (a0, ()) =
    L17d_2 N N a0 (0 : Int) := by kernel_rfl
noncomputable def C17d (N : Nat) : Callee := mkCallee A17d R17d (F17d N)
theorem S17d (N : Nat) : Cok 17 (C17d N) := cok_of (l := (E17d N).calls) (O := O17d N) (cok_cons (S18 N) cok_nil) rfl Try.func17 rfl (by kernel_rfl) (by kernel_rfl)

-- function 17
noncomputable def C17 (N : Nat) : Callee := selC (argFn 1 31) (C17a N) (selC (argFn 1 22) (C17b N) (selC (argFn 1 49) (C17c N) (C17d N)))
theorem S17 (N : Nat) : Cok 17 (C17 N) := selC_ok (S17a N) (selC_ok (S17b N) (selC_ok (S17c N) (S17d N)))

-- function 42
def A42 : Cods (List UInt8) := (codsOne codStr)
def R42 : Cod (Bool) := codBool
noncomputable def E42 (N : Nat) : Env := ⟨Try.prog, [(31, C31 N)]⟩
def O42 (N : Nat) : Opts := ⟨N, [(4, ⟨[0, 7], [], [], 0⟩)], []⟩
noncomputable def F42 (N : Nat) (a : List UInt8) : Option (Bool) := aTyped (E42 N) (O42 N) Try.f42 A42 R42 a
noncomputable def L42_4 (N : Nat) (n : Nat) (x0 : List UInt8) (x1 : Int) : Option Bool :=
  atLoop (E42 N) (O42 N) Try.f42 [(1 : Nat), (1 : Nat), (0 : Nat), (1 : Nat), (0 : Nat)] [] n
  { tmps := Tm.of (nat_lit 26) [((0 : Nat), AV.p (PV.str x0)), ((7 : Nat), AV.p (PV.int IntKind.i64 x1))], heap := [] } fun x => Cod.dec R42 x some
theorem L42_4_eq (N : Nat) (n : Nat) (x0 : List UInt8) (x1 : Int) : L42_4 N (n + 1) x0 x1 =
    aIf (decide (x1 < (10 : Int)))
  (aIf (x1 == (4 : Int)) (onGet x0 x1 fun z0 => aIf (Int.ofNat (UInt8.toNat z0) != (45 : Int)) (some false) (L42_4 N n x0 (IntKind.wrap IntKind.i64 (x1 + (1 : Int)))))
    (aIf (x1 == (7 : Int)) (onGet x0 x1 fun z1 => aIf (Int.ofNat (UInt8.toNat z1) != (45 : Int)) (some false) (L42_4 N n x0 (IntKind.wrap IntKind.i64 (x1 + (1 : Int)))))
      (onGet x0 x1 fun z2 => onSome (F31 N (Int.ofNat (UInt8.toNat z2))) fun y3 => aIf (!y3) (some false) (L42_4 N n x0 (IntKind.wrap IntKind.i64 (x1 + (1 : Int)))))))
  (some true) := by kernel_rfl
theorem L42_4_zero (N : Nat) (x0 : List UInt8) (x1 : Int) : L42_4 N 0 x0 x1 = none := by kernel_rfl
theorem F42_eq (N : Nat) (a0 : List UInt8) : F42 N a0 =
    aIf (decide (Int.ofNat (List.length a0) < (10 : Int))) (some false) (L42_4 N N a0 (0 : Int)) := by kernel_rfl
noncomputable def C42 (N : Nat) : Callee := mkCallee A42 R42 (F42 N)
theorem S42 (N : Nat) : Cok 42 (C42 N) := cok_of (l := (E42 N).calls) (O := O42 N) (cok_cons (S31 N) cok_nil) rfl Try.func42 rfl (by kernel_rfl) (by kernel_rfl)

-- function 75
def A75 : Cods ((List UInt8) × List UInt8) := (codsCons codStr (codsOne codStr))
def R75 : Cod (Bool) := codBool
noncomputable def E75 (N : Nat) : Env := ⟨Try.prog, []⟩
def O75 (N : Nat) : Opts := ⟨N, [], []⟩
noncomputable def F75 (N : Nat) (a : (List UInt8) × List UInt8) : Option (Bool) := aTyped (E75 N) (O75 N) Try.f75 A75 R75 a
theorem F75_eq (N : Nat) (a0 : List UInt8) (a1 : List UInt8) : F75 N (a0, a1) =
    aIf (decide (Int.ofNat (List.length a1) ≤ Int.ofNat (List.length a0)))
  (aGd (decide (Int.ofNat (List.length a1) ≤ Int.ofNat (List.length a0))) (some (List.drop (0 : Nat) (List.take (Int.toNat (Int.ofNat (List.length a1))) a0) == a1))) (some false) := by kernel_rfl
noncomputable def C75 (N : Nat) : Callee := mkCallee A75 R75 (F75 N)
theorem S75 (N : Nat) : Cok 75 (C75 N) := cok_of (l := (E75 N).calls) (O := O75 N) cok_nil rfl Try.func75 rfl (by kernel_rfl) (by kernel_rfl)

-- function 57
def A57 : Cods ((List UInt8) × List UInt8) := (codsCons codStr (codsOne codStr))
def R57 : Cod (Bool) := codBool
noncomputable def E57 (N : Nat) : Env := ⟨Try.prog, [(75, C75 N)]⟩
def O57 (N : Nat) : Opts := ⟨N, [], []⟩
noncomputable def F57 (N : Nat) (a : (List UInt8) × List UInt8) : Option (Bool) := aTyped (E57 N) (O57 N) Try.f57 A57 R57 a
theorem F57_eq (N : Nat) (a0 : List UInt8) (a1 : List UInt8) : F57 N (a0, a1) =
    onSome (F75 N (a0, a1)) fun y0 => some y0 := by kernel_rfl
noncomputable def C57 (N : Nat) : Callee := mkCallee A57 R57 (F57 N)
theorem S57 (N : Nat) : Cok 57 (C57 N) := cok_of (l := (E57 N).calls) (O := O57 N) (cok_cons (S75 N) cok_nil) rfl Try.func57 rfl (by kernel_rfl) (by kernel_rfl)

-- function 43
def A43 : Cods ((List UInt8) × (Int) × List UInt8) := (codsCons codStr (codsCons (codInt .i64) (codsOne codStr)))
def R43 : Cod (Bool) := codBool
noncomputable def E43 (N : Nat) : Env := ⟨Try.prog, [(17, C17 N), (31, C31 N), (57, C57 N)]⟩
def O43 (N : Nat) : Opts := ⟨N, [], []⟩
noncomputable def F43 (N : Nat) (a : (List UInt8) × (Int) × List UInt8) : Option (Bool) := aTyped (E43 N) (O43 N) Try.f43 A43 R43 a
theorem F43_eq (N : Nat) (a0 : List UInt8) (a1 : Int) (a2 : List UInt8) : F43 N (a0, a1, a2) =
    aIf (!a0 == [])
  (onGet a0 (0 : Int) fun z0 =>
    aIf (Int.ofNat (UInt8.toNat z0) == (46 : Int))
      (aGd (decide ((1 : Int) ≤ Int.ofNat (List.length a0)))
        (onSome (F17a N (List.drop (1 : Nat) (List.take (List.length a0) a0), PUnit.unit)) fun y1 =>
          aIf (y1 == a1)
            (aGd (decide ((0 : Int) ≤ IntKind.wrap IntKind.i64 (a1 + (1 : Int))))
              (aGd (decide (IntKind.wrap IntKind.i64 (a1 + (1 : Int)) ≤ Int.ofNat (List.length a0)))
                (onSome (F57 N (List.drop (Int.toNat (IntKind.wrap IntKind.i64 (a1 + (1 : Int)))) (List.take (List.length a0) a0), a2)) fun y2 => some y2)))
            (some false)))
      (some false))
  (some false) := by kernel_rfl
noncomputable def C43 (N : Nat) : Callee := mkCallee A43 R43 (F43 N)
theorem S43 (N : Nat) : Cok 43 (C43 N) := cok_of (l := (E43 N).calls) (O := O43 N) (cok_cons (S17 N) (cok_cons (S31 N) (cok_cons (S57 N) cok_nil))) rfl Try.func43 rfl (by kernel_rfl) (by kernel_rfl)

-- function 44
def A44 : Cods (Int) := (codsOne (codInt .u8))
def R44 : Cod (Bool) := codBool
noncomputable def E44 (N : Nat) : Env := ⟨Try.prog, [(21, C21 N)]⟩
def O44 (N : Nat) : Opts := ⟨N, [], []⟩
noncomputable def F44 (N : Nat) (a : Int) : Option (Bool) := aTyped (E44 N) (O44 N) Try.f44 A44 R44 a
theorem F44_eq (N : Nat) (a0 : Int) : F44 N a0 =
    onSome (F21 N a0) fun y0 => aIf y0 (some true) (aIf (decide ((65 : Int) ≤ a0)) (some (decide (a0 ≤ (90 : Int)))) (some false)) := by kernel_rfl
noncomputable def C44 (N : Nat) : Callee := mkCallee A44 R44 (F44 N)
theorem S44 (N : Nat) : Cok 44 (C44 N) := cok_of (l := (E44 N).calls) (O := O44 N) (cok_cons (S21 N) cok_nil) rfl Try.func44 rfl (by kernel_rfl) (by kernel_rfl)

-- function 58
def A58 : Cods (List UInt8) := (codsOne codStr)
def R58 : Cod ((Int) × Bool) := (codTup (codsCons (codInt .i64) (codsOne codBool)))
noncomputable def E58 (N : Nat) : Env := ⟨Try.prog, []⟩
def O58 (N : Nat) : Opts := ⟨N, [(3, ⟨[0, 4, 7, 8], [], [], 0⟩)], []⟩
noncomputable def F58 (N : Nat) (a : List UInt8) : Option ((Int) × Bool) := aTyped (E58 N) (O58 N) Try.f58 A58 R58 a
noncomputable def L58_3 (N : Nat) (n : Nat) (x0 : List UInt8) (x1 : Int) (x2 : Int) (x3 : Int) : Option (Int × Bool) :=
  atLoop (E58 N) (O58 N) Try.f58 [(1 : Nat), (1 : Nat), (0 : Nat), (1 : Nat), (0 : Nat)] [] n
  {
    tmps :=
      Tm.of (nat_lit 31)
        [((0 : Nat), AV.p (PV.str x0)), ((4 : Nat), AV.p (PV.int IntKind.i64 x1)), ((7 : Nat), AV.p (PV.int IntKind.i64 x2)), ((8 : Nat), AV.p (PV.int IntKind.i64 x3))],
    heap := [] }
  fun x => Cod.dec R58 x some
theorem L58_3_eq (N : Nat) (n : Nat) (x0 : List UInt8) (x1 : Int) (x2 : Int) (x3 : Int) : L58_3 N (n + 1) x0 x1 x2 x3 =
    aIf (decide (x3 < x2))
  (onGet x0 x3 fun z0 =>
    aIf (decide (Int.ofNat (UInt8.toNat z0) < (48 : Int))) (some ((0 : Int), false))
      (onGet x0 x3 fun z1 =>
        aIf (decide ((57 : Int) < Int.ofNat (UInt8.toNat z1))) (some ((0 : Int), false))
          (onGet x0 x3 fun z2 =>
            L58_3 N n x0
              (IntKind.wrap IntKind.i64 (IntKind.wrap IntKind.i64 ((10 : Int) * x1) + IntKind.wrap IntKind.i64 (IntKind.wrap IntKind.u8 (Int.ofNat (UInt8.toNat z2) - (48 : Int)))))
              x2 (IntKind.wrap IntKind.i64 (x3 + (1 : Int))))))
  (some (x1, true)) := by kernel_rfl
theorem L58_3_zero (N : Nat) (x0 : List UInt8) (x1 : Int) (x2 : Int) (x3 : Int) : L58_3 N 0 x0 x1 x2 x3 = none := by kernel_rfl
theorem F58_eq (N : Nat) (a0 : List UInt8) : F58 N a0 =
    L58_3 N N a0 (0 : Int) (Int.ofNat (List.length a0)) (0 : Int) := by kernel_rfl
noncomputable def C58 (N : Nat) : Callee := mkCallee A58 R58 (F58 N)
theorem S58 (N : Nat) : Cok 58 (C58 N) := cok_of (l := (E58 N).calls) (O := O58 N) cok_nil rfl Try.func58 rfl (by kernel_rfl) (by kernel_rfl)

-- function 85
def A85 : Cods (Int) := (codsOne (codInt .i64))
def R85 : Cod (Bool) := codBool
noncomputable def E85 (N : Nat) : Env := ⟨Try.prog, []⟩
def O85 (N : Nat) : Opts := ⟨N, [], []⟩
noncomputable def F85 (N : Nat) (a : Int) : Option (Bool) := aTyped (E85 N) (O85 N) Try.f85 A85 R85 a
theorem F85_eq (N : Nat) (a0 : Int) : F85 N a0 =
    aIf (Int.tmod a0 (4 : Int) == (0 : Int)) (aIf (Int.tmod a0 (100 : Int) != (0 : Int)) (some true) (some (Int.tmod a0 (400 : Int) == (0 : Int)))) (some false) := by kernel_rfl
noncomputable def C85 (N : Nat) : Callee := mkCallee A85 R85 (F85 N)
theorem S85 (N : Nat) : Cok 85 (C85 N) := cok_of (l := (E85 N).calls) (O := O85 N) cok_nil rfl Try.func85 rfl (by kernel_rfl) (by kernel_rfl)

-- function 76
def A76 : Cods ((Int) × Int) := (codsCons (codInt .i64) (codsOne (codInt .i64)))
def R76 : Cod (Int) := (codInt .i64)
noncomputable def E76 (N : Nat) : Env := ⟨Try.prog, [(85, C85 N)]⟩
def O76 (N : Nat) : Opts := ⟨N, [], []⟩
noncomputable def F76 (N : Nat) (a : (Int) × Int) : Option (Int) := aTyped (E76 N) (O76 N) Try.f76 A76 R76 a
theorem F76_eq (N : Nat) (a0 : Int) (a1 : Int) : F76 N (a0, a1) =
    aGd (decide ((0 : Nat) + (13 : Nat) ≤ (13 : Nat)))
  (aIf (decide (a1 < (1 : Int))) (some (0 : Int))
    (aIf (decide ((12 : Int) < a1)) (some (0 : Int))
      (aIf (a1 == (2 : Int))
        (onSome (F85 N a0) fun y0 =>
          aIf y0 (some (29 : Int))
            (aGd (decide ((0 : Int) ≤ a1))
              (aGd (decide (a1 < (13 : Int)))
                (onSome
                  [PV.int IntKind.i64 (0 : Int), PV.int IntKind.i64 (31 : Int), PV.int IntKind.i64 (28 : Int), PV.int IntKind.i64 (31 : Int), PV.int IntKind.i64 (30 : Int),
                      PV.int IntKind.i64 (31 : Int), PV.int IntKind.i64 (30 : Int), PV.int IntKind.i64 (31 : Int), PV.int IntKind.i64 (31 : Int), PV.int IntKind.i64 (30 : Int),
                      PV.int IntKind.i64 (31 : Int), PV.int IntKind.i64 (30 : Int), PV.int IntKind.i64 (31 : Int)][(0 : Nat) + Int.toNat a1 * (1 : Nat)]?
                  fun y1 => onInt IntKind.i64 y1 fun n2 => some n2))))
        (aGd (decide ((0 : Int) ≤ a1))
          (aGd (decide (a1 < (13 : Int)))
            (onSome
              [PV.int IntKind.i64 (0 : Int), PV.int IntKind.i64 (31 : Int), PV.int IntKind.i64 (28 : Int), PV.int IntKind.i64 (31 : Int), PV.int IntKind.i64 (30 : Int),
                  PV.int IntKind.i64 (31 : Int), PV.int IntKind.i64 (30 : Int), PV.int IntKind.i64 (31 : Int), PV.int IntKind.i64 (31 : Int), PV.int IntKind.i64 (30 : Int),
                  PV.int IntKind.i64 (31 : Int), PV.int IntKind.i64 (30 : Int), PV.int IntKind.i64 (31 : Int)][(0 : Nat) + Int.toNat a1 * (1 : Nat)]?
              fun y3 => onInt IntKind.i64 y3 fun n4 => some n4)))))) := by kernel_rfl
noncomputable def C76 (N : Nat) : Callee := mkCallee A76 R76 (F76 N)
theorem S76 (N : Nat) : Cok 76 (C76 N) := cok_of (l := (E76 N).calls) (O := O76 N) (cok_cons (S85 N) cok_nil) rfl Try.func76 rfl (by kernel_rfl) (by kernel_rfl)

-- function 77
def A77 : Cods (Int) := (codsOne (codInt .i64))
def R77 : Cod (Int) := (codInt .i64)
noncomputable def E77 (N : Nat) : Env := ⟨Try.prog, [(85, C85 N)]⟩
def O77 (N : Nat) : Opts := ⟨N, [], []⟩
noncomputable def F77 (N : Nat) (a : Int) : Option (Int) := aTyped (E77 N) (O77 N) Try.f77 A77 R77 a
theorem F77_eq (N : Nat) (a0 : Int) : F77 N a0 =
    onSome (F85 N a0) fun y0 => aIf y0 (some (366 : Int)) (some (365 : Int)) := by kernel_rfl
noncomputable def C77 (N : Nat) : Callee := mkCallee A77 R77 (F77 N)
theorem S77 (N : Nat) : Cok 77 (C77 N) := cok_of (l := (E77 N).calls) (O := O77 N) (cok_cons (S85 N) cok_nil) rfl Try.func77 rfl (by kernel_rfl) (by kernel_rfl)

-- function 59
def A59 : Cods ((Int) × (Int) × Int) := (codsCons (codInt .i64) (codsCons (codInt .i64) (codsOne (codInt .i64))))
def R59 : Cod ((Int) × Int) := (codTup (codsCons (codInt .i64) (codsOne (codInt .i64))))
noncomputable def E59 (N : Nat) : Env := ⟨Try.prog, [(76, C76 N), (77, C77 N)]⟩
def O59 (N : Nat) : Opts := ⟨N, [(5, ⟨[0, 1, 8, 31, 32], [], [], 0⟩), (10, ⟨[0, 8, 42, 43], [], [], 0⟩)], []⟩
noncomputable def F59 (N : Nat) (a : (Int) × (Int) × Int) : Option ((Int) × Int) := aTyped (E59 N) (O59 N) Try.f59 A59 R59 a
noncomputable def L59_5 (N : Nat) (n : Nat) (x0 : Int) (x1 : Int) (x2 : Int) (x3 : Int) (x4 : Int) : Option (Int × Int) :=
  atLoop (E59 N) (O59 N) Try.f59 [(1 : Nat), (1 : Nat), (1 : Nat), (0 : Nat), (1 : Nat), (0 : Nat)] [] n
  {
    tmps :=
      Tm.of (nat_lit 54)
        [((0 : Nat), AV.p (PV.int IntKind.i64 x0)), ((1 : Nat), AV.p (PV.int IntKind.i64 x1)), ((8 : Nat), AV.p (PV.int IntKind.i64 x2)),
          ((31 : Nat), AV.p (PV.int IntKind.i64 x3)), ((32 : Nat), AV.p (PV.int IntKind.i64 x4))],
    heap := [] }
  fun x => Cod.dec R59 x some
noncomputable def L59_10 (N : Nat) (n : Nat) (x0 : Int) (x1 : Int) (x2 : Int) (x3 : Int) : Option (Int × Int) :=
  atLoop (E59 N) (O59 N) Try.f59 [(1 : Nat), (1 : Nat), (1 : Nat), (1 : Nat), (0 : Nat), (1 : Nat), (0 : Nat)] [] n
  {
    tmps :=
      Tm.of (nat_lit 54)
        [((0 : Nat), AV.p (PV.int IntKind.i64 x0)), ((8 : Nat), AV.p (PV.int IntKind.i64 x1)), ((42 : Nat), AV.p (PV.int IntKind.i64 x2)),
          ((43 : Nat), AV.p (PV.int IntKind.i64 x3))],
    heap := [] }
  fun x => Cod.dec R59 x some
theorem L59_5_eq (N : Nat) (n : Nat) (x0 : Int) (x1 : Int) (x2 : Int) (x3 : Int) (x4 : Int) : L59_5 N (n + 1) x0 x1 x2 x3 x4 =
    aIf (decide (x4 < x3))
  (onSome (F77 N (IntKind.wrap IntKind.i64 ((1900 : Int) + x4))) fun y1 => L59_5 N n x0 x1 (IntKind.wrap IntKind.i64 (x2 + y1)) x3 (IntKind.wrap IntKind.i64 (x4 + (1 : Int))))
  (L59_10 N N x0 x2 (IntKind.wrap IntKind.i64 (x1 - (1 : Int))) (0 : Int)) := by kernel_rfl
theorem L59_5_zero (N : Nat) (x0 : Int) (x1 : Int) (x2 : Int) (x3 : Int) (x4 : Int) : L59_5 N 0 x0 x1 x2 x3 x4 = none := by kernel_rfl
theorem L59_10_eq (N : Nat) (n : Nat) (x0 : Int) (x1 : Int) (x2 : Int) (x3 : Int) : L59_10 N (n + 1) x0 x1 x2 x3 =
    aIf (decide (x3 < x2))
  (onSome (F76 N (x0, IntKind.wrap IntKind.i64 (x3 + (1 : Int)))) fun y2 => L59_10 N n x0 (IntKind.wrap IntKind.i64 (x1 + y2)) x2 (IntKind.wrap IntKind.i64 (x3 + (1 : Int))))
  (some (x1, (0 : Int))) := by kernel_rfl
theorem L59_10_zero (N : Nat) (x0 : Int) (x1 : Int) (x2 : Int) (x3 : Int) : L59_10 N 0 x0 x1 x2 x3 = none := by kernel_rfl
theorem F59_eq (N : Nat) (a0 : Int) (a1 : Int) (a2 : Int) : F59 N (a0, a1, a2) =
    aIf (decide (a0 < (1900 : Int))) (some ((0 : Int), (3 : Int)))
  (aIf (decide ((2199 : Int) < a0)) (some ((0 : Int), (3 : Int)))
    (aIf (decide (a2 < (1 : Int))) (some ((0 : Int), (3 : Int)))
      (onSome (F76 N (a0, a1)) fun y0 =>
        aIf (decide (y0 < a2)) (some ((0 : Int), (3 : Int)))
          (L59_5 N N a0 a1 (IntKind.wrap IntKind.i64 (a2 - (1 : Int))) (IntKind.wrap IntKind.i64 (a0 - (1900 : Int))) (0 : Int))))) := by kernel_rfl
noncomputable def C59 (N : Nat) : Callee := mkCallee A59 R59 (F59 N)
theorem S59 (N : Nat) : Cok 59 (C59 N) := cok_of (l := (E59 N).calls) (O := O59 N) (cok_cons (S76 N) (cok_cons (S77 N) cok_nil)) rfl Try.func59 rfl (by kernel_rfl) (by kernel_rfl)

-- function 45
def A45 : Cods (List UInt8) := (codsOne codStr)
def R45 : Cod ((Int) × Int) := (codTup (codsCons (codInt .i64) (codsOne (codInt .i64))))
noncomputable def E45 (N : Nat) : Env := ⟨Try.prog, [(58, C58 N), (59, C59 N)]⟩
def O45 (N : Nat) : Opts := ⟨N, [], []⟩
noncomputable def F45 (N : Nat) (a : List UInt8) : Option ((Int) × Int) := aTyped (E45 N) (O45 N) Try.f45 A45 R45 a
theorem F45_eq (N : Nat) (a0 : List UInt8) : F45 N a0 =
    aIf (Int.ofNat (List.length a0) != (10 : Int)) (some ((0 : Int), (2 : Int)))
  (onGet a0 (4 : Int) fun z0 =>
    aIf (Int.ofNat (UInt8.toNat z0) != (45 : Int)) (some ((0 : Int), (2 : Int)))
      (onGet a0 (7 : Int) fun z1 =>
        aIf (Int.ofNat (UInt8.toNat z1) != (45 : Int)) (some ((0 : Int), (2 : Int)))
          (aGd (decide ((4 : Int) ≤ Int.ofNat (List.length a0)))
            (onSome (F58 N (List.drop (0 : Nat) (List.take (4 : Nat) a0))) fun y2 =>
              aGd (decide ((7 : Int) ≤ Int.ofNat (List.length a0)))
                (onSome (F58 N (List.drop (5 : Nat) (List.take (7 : Nat) a0))) fun y3 =>
                  aGd (decide ((8 : Int) ≤ Int.ofNat (List.length a0)))
                    (onSome (F58 N (List.drop (8 : Nat) (List.take (List.length a0) a0))) fun y4 =>
                      aIf (!Prod.snd y2) (some ((0 : Int), (2 : Int)))
                        (aIf (!Prod.snd y3) (some ((0 : Int), (2 : Int)))
                          (aIf (!Prod.snd y4) (some ((0 : Int), (2 : Int)))
                            (onSome (F59 N (Prod.fst y2, Prod.fst y3, Prod.fst y4)) fun y5 => some (Prod.fst y5, Prod.snd y5)))))))))) := by kernel_rfl
noncomputable def C45 (N : Nat) : Callee := mkCallee A45 R45 (F45 N)
theorem S45 (N : Nat) : Cok 45 (C45 N) := cok_of (l := (E45 N).calls) (O := O45 N) (cok_cons (S58 N) (cok_cons (S59 N) cok_nil)) rfl Try.func45 rfl (by kernel_rfl) (by kernel_rfl)

-- function 60
def A60 : Cods (Int) := (codsOne (codInt .i64))
def R60 : Cod (Int) := (codInt .i64)
noncomputable def E60 (N : Nat) : Env := ⟨Try.prog, []⟩
def O60 (N : Nat) : Opts := ⟨N, [], []⟩
noncomputable def F60 (N : Nat) (a : Int) : Option (Int) := aTyped (E60 N) (O60 N) Try.f60 A60 R60 a
theorem F60_eq (N : Nat) (a0 : Int) : F60 N a0 =
    some (max (0 : Int) (min a0 (9 : Int))) := by kernel_rfl
noncomputable def C60 (N : Nat) : Callee := mkCallee A60 R60 (F60 N)
theorem S60 (N : Nat) : Cok 60 (C60 N) := cok_of (l := (E60 N).calls) (O := O60 N) cok_nil rfl Try.func60 rfl (by kernel_rfl) (by kernel_rfl)

-- function 78
def A78 : Cods ((List UInt8) × List UInt8) := (codsCons codStr (codsOne codStr))
def R78 : Cod ((List UInt8) × Bool) := (codTup (codsCons codStr (codsOne codBool)))
noncomputable def E78 (N : Nat) : Env := ⟨Try.prog, [(75, C75 N)]⟩
def O78 (N : Nat) : Opts := ⟨N, [], []⟩
noncomputable def F78 (N : Nat) (a : (List UInt8) × List UInt8) : Option ((List UInt8) × Bool) := aTyped (E78 N) (O78 N) Try.f78 A78 R78 a
theorem F78_eq (N : Nat) (a0 : List UInt8) (a1 : List UInt8) : F78 N (a0, a1) =
    onSome (F75 N (a0, a1)) fun y0 =>
  aIf (!y0) (some (a0, false))
    (aGd (decide (Int.ofNat (List.length a1) ≤ Int.ofNat (List.length a0))) (some (List.drop (Int.toNat (Int.ofNat (List.length a1))) (List.take (List.length a0) a0), true))) := by kernel_rfl
noncomputable def C78 (N : Nat) : Callee := mkCallee A78 R78 (F78 N)
theorem S78 (N : Nat) : Cok 78 (C78 N) := cok_of (l := (E78 N).calls) (O := O78 N) (cok_cons (S75 N) cok_nil) rfl Try.func78 rfl (by kernel_rfl) (by kernel_rfl)

-- function 61
def A61 : Cods ((List UInt8) × List UInt8) := (codsCons codStr (codsOne codStr))
def R61 : Cod ((List UInt8) × Bool) := (codTup (codsCons codStr (codsOne codBool)))
noncomputable def E61 (N : Nat) : Env := ⟨Try.prog, [(78, C78 N)]⟩
def O61 (N : Nat) : Opts := ⟨N, [], []⟩
noncomputable def F61 (N : Nat) (a : (List UInt8) × List UInt8) : Option ((List UInt8) × Bool) := aTyped (E61 N) (O61 N) Try.f61 A61 R61 a
theorem F61_eq (N : Nat) (a0 : List UInt8) (a1 : List UInt8) : F61 N (a0, a1) =
    onSome (F78 N (a0, a1)) fun y0 => some (Prod.fst y0, Prod.snd y0) := by kernel_rfl
noncomputable def C61 (N : Nat) : Callee := mkCallee A61 R61 (F61 N)
theorem S61 (N : Nat) : Cok 61 (C61 N) := cok_of (l := (E61 N).calls) (O := O61 N) (cok_cons (S78 N) cok_nil) rfl Try.func61 rfl (by kernel_rfl) (by kernel_rfl)

-- function 62
def A62 : Cods (List UInt8) := (codsOne codStr)
def R62 : Cod (Bool) := codBool
noncomputable def E62 (N : Nat) : Env := ⟨Try.prog, []⟩
def O62 (N : Nat) : Opts := ⟨N, [(2, ⟨[0, 6], [], [], 1⟩)], []⟩
noncomputable def F62 (N : Nat) (a : List UInt8) : Option (Bool) := aTyped (E62 N) (O62 N) Try.f62 A62 R62 a
noncomputable def L62_2 (N : Nat) (n : Nat) (x0 : List UInt8) (x1 : List UInt8) (x2 : Nat) : Option Bool :=
  atLoop (E62 N) (O62 N) Try.f62 [(1 : Nat), (0 : Nat), (1 : Nat), (0 : Nat)] [] n
  { tmps := Tm.of (nat_lit 27) [((0 : Nat), AV.p (PV.str x0)), ((6 : Nat), AV.it (0 : Nat))], heap := [Blk.iter x1 x2] } fun x => Cod.dec R62 x some
theorem L62_2_eq (N : Nat) (n : Nat) (x0 : List UInt8) (x1 : List UInt8) (x2 : Nat) : L62_2 N (n + 1) x0 x1 x2 =
    aIf (decide (x2 < List.length x1))
  (aIf (decide (Int.ofNat (Prod.fst (Utf8.decode { data := List.toArray x1 } x2)) < (48 : Int))) (some false)
    (aIf (decide ((57 : Int) < Int.ofNat (Prod.fst (Utf8.decode { data := List.toArray x1 } x2)))) (some false)
      (L62_2 N n x0 x1 (x2 + Prod.snd (Utf8.decode { data := List.toArray x1 } x2)))))
  (aIf (x0 == [(48 : UInt8)]) (some true) (aIf (!x0 == []) (onGet x0 (0 : Int) fun z0 => some (Int.ofNat (UInt8.toNat z0) != (48 : Int))) (some false))) := by kernel_rfl
theorem L62_2_zero (N : Nat) (x0 : List UInt8) (x1 : List UInt8) (x2 : Nat) : L62_2 N 0 x0 x1 x2 = none := by kernel_rfl
theorem F62_eq (N : Nat) (a0 : List UInt8) : F62 N a0 =
    L62_2 N N a0 a0 (0 : Nat) := by kernel_rfl
noncomputable def C62 (N : Nat) : Callee := mkCallee A62 R62 (F62 N)
theorem S62 (N : Nat) : Cok 62 (C62 N) := cok_of (l := (E62 N).calls) (O := O62 N) cok_nil rfl Try.func62 rfl (by kernel_rfl) (by kernel_rfl)

-- function 64
def A64 : Cods ((List UInt8) × Bool) := (codsCons codStr (codsOne codBool))
def R64 : Cod ((Int) × Int) := (codTup (codsCons (codInt .i64) (codsOne (codInt .i64))))
noncomputable def E64 (N : Nat) : Env := ⟨Try.prog, []⟩
def O64 (N : Nat) : Opts := ⟨N, [(3, ⟨[1, 6, 11], [], [], 1⟩)], []⟩
noncomputable def F64 (N : Nat) (a : (List UInt8) × Bool) : Option ((Int) × Int) := aTyped (E64 N) (O64 N) Try.f64 A64 R64 a
noncomputable def L64_3 (N : Nat) (n : Nat) (x0 : Bool) (x1 : Int) (x2 : List UInt8) (x3 : Nat) : Option (Int × Int) :=
  atLoop (E64 N) (O64 N) Try.f64 [(1 : Nat), (1 : Nat), (0 : Nat), (1 : Nat), (0 : Nat)] [] n
  { tmps := Tm.of (nat_lit 31) [((1 : Nat), AV.p (PV.bool x0)), ((6 : Nat), AV.p (PV.int IntKind.i64 x1)), ((11 : Nat), AV.it (0 : Nat))], heap := [Blk.iter x2 x3] } fun x =>
  Cod.dec R64 x some
theorem L64_3_eq (N : Nat) (n : Nat) (x0 : Bool) (x1 : Int) (x2 : List UInt8) (x3 : Nat) : L64_3 N (n + 1) x0 x1 x2 x3 =
    aIf (decide (x3 < List.length x2))
  (aIf
    (decide
      (IntKind.wrap IntKind.i64
          (Int.tdiv
            (IntKind.wrap IntKind.i64
              ((4611686018427387904 : Int) - IntKind.wrap IntKind.i64 (IntKind.wrap IntKind.i32 (Int.ofNat (Prod.fst (Utf8.decode { data := List.toArray x2 } x3)) - (48 : Int)))))
            (10 : Int)) <
        x1))
    (some ((0 : Int), (3 : Int)))
    (L64_3 N n x0
      (IntKind.wrap IntKind.i64
        (IntKind.wrap IntKind.i64 (x1 * (10 : Int)) +
          IntKind.wrap IntKind.i64 (IntKind.wrap IntKind.i32 (Int.ofNat (Prod.fst (Utf8.decode { data := List.toArray x2 } x3)) - (48 : Int)))))
      x2 (x3 + Prod.snd (Utf8.decode { data := List.toArray x2 } x3))))
  (aIf x0 (some (IntKind.wrap IntKind.i64 ((0 : Int) - x1), (0 : Int))) (some (x1, (0 : Int)))) := by kernel_rfl
theorem L64_3_zero (N : Nat) (x0 : Bool) (x1 : Int) (x2 : List UInt8) (x3 : Nat) : L64_3 N 0 x0 x1 x2 x3 = none := by kernel_rfl
theorem F64_eq (N : Nat) (a0 : List UInt8) (a1 : Bool) : F64 N (a0, a1) =
    L64_3 N N a1 (0 : Int) a0 (0 : Nat) := by kernel_rfl
noncomputable def C64 (N : Nat) : Callee := mkCallee A64 R64 (F64 N)
theorem S64 (N : Nat) : Cok 64 (C64 N) := cok_of (l := (E64 N).calls) (O := O64 N) cok_nil rfl Try.func64 rfl (by kernel_rfl) (by kernel_rfl)

-- function 47
def A47 : Cods (List UInt8) := (codsOne codStr)
def R47 : Cod ((Int) × Int) := (codTup (codsCons (codInt .i64) (codsOne (codInt .i64))))
noncomputable def E47 (N : Nat) : Env := ⟨Try.prog, [(61, C61 N), (62, C62 N), (64, C64 N)]⟩
def O47 (N : Nat) : Opts := ⟨N, [], []⟩
noncomputable def F47 (N : Nat) (a : List UInt8) : Option ((Int) × Int) := aTyped (E47 N) (O47 N) Try.f47 A47 R47 a
theorem F47_eq (N : Nat) (a0 : List UInt8) : F47 N a0 =
    onSome (F61 N (a0, [(45 : UInt8)])) fun y0 =>
  onSome (F62 N (Prod.fst y0)) fun y1 =>
    aIf (!y1) (some ((0 : Int), (2 : Int)))
      (aIf (Prod.snd y0) (aIf (Prod.fst y0 == [(48 : UInt8)]) (some ((0 : Int), (2 : Int))) (onSome (F64 N (Prod.fst y0, Prod.snd y0)) fun y2 => some (Prod.fst y2, Prod.snd y2)))
        (onSome (F64 N (Prod.fst y0, Prod.snd y0)) fun y3 => some (Prod.fst y3, Prod.snd y3))) := by kernel_rfl
noncomputable def C47 (N : Nat) : Callee := mkCallee A47 R47 (F47 N)
theorem S47 (N : Nat) : Cok 47 (C47 N) := cok_of (l := (E47 N).calls) (O := O47 N) (cok_cons (S61 N) (cok_cons (S62 N) (cok_cons (S64 N) cok_nil))) rfl Try.func47 rfl (by kernel_rfl) (by kernel_rfl)

-- function 63
def A63 : Cods (List UInt8) := (codsOne codStr)
def R63 : Cod (Bool) := codBool
noncomputable def E63 (N : Nat) : Env := ⟨Try.prog, []⟩
def O63 (N : Nat) : Opts := ⟨N, [(2, ⟨[6], [], [], 1⟩)], []⟩
noncomputable def F63 (N : Nat) (a : List UInt8) : Option (Bool) := aTyped (E63 N) (O63 N) Try.f63 A63 R63 a
noncomputable def L63_2 (N : Nat) (n : Nat) (x0 : List UInt8) (x1 : Nat) : Option Bool :=
  atLoop (E63 N) (O63 N) Try.f63 [(1 : Nat), (0 : Nat), (1 : Nat), (0 : Nat)] [] n { tmps := Tm.of (nat_lit 16) [((6 : Nat), AV.it (0 : Nat))], heap := [Blk.iter x0 x1] } fun x =>
  Cod.dec R63 x some
theorem L63_2_eq (N : Nat) (n : Nat) (x0 : List UInt8) (x1 : Nat) : L63_2 N (n + 1) x0 x1 =
    aIf (decide (x1 < List.length x0))
  (aIf (decide (Int.ofNat (Prod.fst (Utf8.decode { data := List.toArray x0 } x1)) < (48 : Int))) (some false)
    (aIf (decide ((57 : Int) < Int.ofNat (Prod.fst (Utf8.decode { data := List.toArray x0 } x1)))) (some false)
      (L63_2 N n x0 (x1 + Prod.snd (Utf8.decode { data := List.toArray x0 } x1)))))
  (some true) := by kernel_rfl
theorem L63_2_zero (N : Nat) (x0 : List UInt8) (x1 : Nat) : L63_2 N 0 x0 x1 = none := by kernel_rfl
theorem F63_eq (N : Nat) (a0 : List UInt8) : F63 N a0 =
    L63_2 N N a0 (0 : Nat) := by kernel_rfl
noncomputable def C63 (N : Nat) : Callee := mkCallee A63 R63 (F63 N)
theorem S63 (N : Nat) : Cok 63 (C63 N) := cok_of (l := (E63 N).calls) (O := O63 N) cok_nil rfl Try.func63 rfl (by kernel_rfl) (by kernel_rfl)

-- function 46
def A46 : Cods ((List UInt8) × Int) := (codsCons codStr (codsOne (codInt .i64)))
def R46 : Cod ((Int) × Int) := (codTup (codsCons (codInt .i64) (codsOne (codInt .i64))))
noncomputable def E46 (N : Nat) : Env := ⟨Try.prog, [(60, C60 N), (47, C47 N), (61, C61 N), (62, C62 N), (63, C63 N), (64, C64 N)]⟩
def O46 (N : Nat) : Opts := ⟨N, [], []⟩
noncomputable def F46 (N : Nat) (a : (List UInt8) × Int) : Option ((Int) × Int) := aTyped (E46 N) (O46 N) Try.f46 A46 R46 a
theorem F46_eq (N : Nat) (a0 : List UInt8) (a1 : Int) : F46 N (a0, a1) =
    onSome (F60 N a1) fun y0 =>
  aIf (y0 == (0 : Int)) (onSome (F47 N a0) fun y1 => some (Prod.fst y1, Prod.snd y1))
    (onSome (F61 N (a0, [(45 : UInt8)])) fun y2 =>
      aIf (decide (IntKind.wrap IntKind.i64 (IntKind.wrap IntKind.i64 (Int.ofNat (List.length (Prod.fst y2)) - y0) - (1 : Int)) < (1 : Int))) (some ((0 : Int), (2 : Int)))
        (onGet (Prod.fst y2) (IntKind.wrap IntKind.i64 (IntKind.wrap IntKind.i64 (Int.ofNat (List.length (Prod.fst y2)) - y0) - (1 : Int))) fun z3 =>
          aIf (Int.ofNat (UInt8.toNat z3) != (46 : Int)) (some ((0 : Int), (2 : Int)))
            (aGd (decide ((0 : Int) ≤ IntKind.wrap IntKind.i64 (IntKind.wrap IntKind.i64 (Int.ofNat (List.length (Prod.fst y2)) - y0) - (1 : Int))))
              (aGd (decide (IntKind.wrap IntKind.i64 (IntKind.wrap IntKind.i64 (Int.ofNat (List.length (Prod.fst y2)) - y0) - (1 : Int)) ≤ Int.ofNat (List.length (Prod.fst y2))))
                (onSome
                  (F62 N
                    (List.drop (0 : Nat)
                      (List.take (Int.toNat (IntKind.wrap IntKind.i64 (IntKind.wrap IntKind.i64 (Int.ofNat (List.length (Prod.fst y2)) - y0) - (1 : Int)))) (Prod.fst y2))))
                  fun y4 =>
                  aIf (!y4) (some ((0 : Int), (2 : Int)))
                    (aGd
                      (decide
                        ((0 : Int) ≤
                          IntKind.wrap IntKind.i64 (IntKind.wrap IntKind.i64 (IntKind.wrap IntKind.i64 (Int.ofNat (List.length (Prod.fst y2)) - y0) - (1 : Int)) + (1 : Int))))
                      (aGd
                        (decide
                          (IntKind.wrap IntKind.i64 (IntKind.wrap IntKind.i64 (IntKind.wrap IntKind.i64 (Int.ofNat (List.length (Prod.fst y2)) - y0) - (1 : Int)) + (1 : Int)) ≤
                            Int.ofNat (List.length (Prod.fst y2))))
                        (onSome
                          (F63 N
                            (List.drop
                              (Int.toNat
                                (IntKind.wrap IntKind.i64
                                  (IntKind.wrap IntKind.i64 (IntKind.wrap IntKind.i64 (Int.ofNat (List.length (Prod.fst y2)) - y0) - (1 : Int)) + (1 : Int))))
                              (List.take (List.length (Prod.fst y2)) (Prod.fst y2))))
                          fun y5 =>
                          aIf (!y5) (some ((0 : Int), (2 : Int)))
                            (aGd (decide ((0 : Int) ≤ IntKind.wrap IntKind.i64 (IntKind.wrap IntKind.i64 (Int.ofNat (List.length (Prod.fst y2)) - y0) - (1 : Int))))
                              (aGd
                                (decide
                                  (IntKind.wrap IntKind.i64 (IntKind.wrap IntKind.i64 (Int.ofNat (List.length (Prod.fst y2)) - y0) - (1 : Int)) ≤
                                    Int.ofNat (List.length (Prod.fst y2))))
                                (aGd
                                  (decide
                                    ((0 : Int) ≤
                                      IntKind.wrap IntKind.i64
                                        (IntKind.wrap IntKind.i64 (IntKind.wrap IntKind.i64 (Int.ofNat (List.length (Prod.fst y2)) - y0) - (1 : Int)) + (1 : Int))))
                                  (aGd
                                    (decide
                                      (IntKind.wrap IntKind.i64
                                          (IntKind.wrap IntKind.i64 (IntKind.wrap IntKind.i64 (Int.ofNat (List.length (Prod.fst y2)) - y0) - (1 : Int)) + (1 : Int)) ≤
                                        Int.ofNat (List.length (Prod.fst y2))))
                                    (aGd
                                      (decide
                                        (List.length
                                              (List.drop (0 : Nat)
                                                (List.take
                                                  (Int.toNat (IntKind.wrap IntKind.i64 (IntKind.wrap IntKind.i64 (Int.ofNat (List.length (Prod.fst y2)) - y0) - (1 : Int))))
                                                  (Prod.fst y2))) +
                                            List.length
                                              (List.drop
                                                (Int.toNat
                                                  (IntKind.wrap IntKind.i64
                                                    (IntKind.wrap IntKind.i64 (IntKind.wrap IntKind.i64 (Int.ofNat (List.length (Prod.fst y2)) - y0) - (1 : Int)) + (1 : Int))))
                                                (List.take (List.length (Prod.fst y2)) (Prod.fst y2))) ≤
                                          (9223372036854775807 : Nat)))
                                      (onSome
                                        (F64 N
                                          (List.drop (0 : Nat)
                                                (List.take
                                                  (Int.toNat (IntKind.wrap IntKind.i64 (IntKind.wrap IntKind.i64 (Int.ofNat (List.length (Prod.fst y2)) - y0) - (1 : Int))))
                                                  (Prod.fst y2)) ++
                                              List.drop
                                                (Int.toNat
                                                  (IntKind.wrap IntKind.i64
                                                    (IntKind.wrap IntKind.i64 (IntKind.wrap IntKind.i64 (Int.ofNat (List.length (Prod.fst y2)) - y0) - (1 : Int)) + (1 : Int))))
                                                (List.take (List.length (Prod.fst y2)) (Prod.fst y2)),
                                            Prod.snd y2))
                                        fun y6 =>
                                        aIf (Prod.snd y6 == (0 : Int))
                                          (aIf (Prod.fst y6 == (0 : Int)) (aIf (Prod.snd y2) (some ((0 : Int), (2 : Int))) (some (Prod.fst y6, Prod.snd y6)))
                                            (some (Prod.fst y6, Prod.snd y6)))
                                          (some (Prod.fst y6, Prod.snd y6)))))))))))))))) := by kernel_rfl
noncomputable def C46 (N : Nat) : Callee := mkCallee A46 R46 (F46 N)
theorem S46 (N : Nat) : Cok 46 (C46 N) := cok_of (l := (E46 N).calls) (O := O46 N) (cok_cons (S60 N) (cok_cons (S47 N) (cok_cons (S61 N) (cok_cons (S62 N) (cok_cons (S63 N) (cok_cons (S64 N) cok_nil)))))) rfl Try.func46 rfl (by kernel_rfl) (by kernel_rfl)

-- function 32
def A32 : Cods (List UInt8) := (codsOne codStr)
def R32 : Cod (((Int) × (List UInt8) × (Int) × Int) × Int) := (codTup (codsCons (codAgg (codsCons (codInt .i64) (codsCons codStr (codsCons (codInt .i64) (codsOne (codInt .i64)))))) (codsOne (codInt .i64))))
noncomputable def E32 (N : Nat) : Env := ⟨Try.prog, [(17, C17 N), (31, C31 N), (42, C42 N), (43, C43 N), (44, C44 N), (45, C45 N), (46, C46 N), (47, C47 N)]⟩
def O32 (N : Nat) : Opts := ⟨N, [], []⟩
noncomputable def F32 (N : Nat) (a : List UInt8) : Option (((Int) × (List UInt8) × (Int) × Int) × Int) := aTyped (E32 N) (O32 N) Try.f32 A32 R32 a
theorem F32_eq (N : Nat) (a0 : List UInt8) : F32 N a0 =
    onSome (F17a N (a0, PUnit.unit)) fun y0 =>
  aGd (decide ((0 : Nat) + (4 : Nat) ≤ (4 : Nat)))
    (onSome (F42 N a0) fun y1 =>
      aIf y1
        (aGd (decide ((0 : Nat) + (1 : Nat) ≤ (4 : Nat)))
          (aGd (decide ((10 : Int) ≤ Int.ofNat (List.length a0)))
            (aGd (decide ((1 : Nat) + (1 : Nat) ≤ (4 : Nat)))
              (aIf (!y1)
                (aIf (decide ((1 : Int) < y0))
                  (onGet a0 (0 : Int) fun z2 =>
                    aIf (Int.ofNat (UInt8.toNat z2) == (48 : Int)) (aGd (decide ((0 : Nat) + (4 : Nat) ≤ (4 : Nat))) (some (((0 : Int), [], (0 : Int), (0 : Int)), (2 : Int))))
                      (aIf (decide ((10 : Int) < Int.ofNat (List.length a0)))
                        (onGet a0 (10 : Int) fun z3 =>
                          onSome (F44 N (Int.ofNat (UInt8.toNat z3))) fun y4 =>
                            aIf y4 (aGd (decide ((0 : Nat) + (4 : Nat) ≤ (4 : Nat))) (some (((0 : Int), [], (0 : Int), (0 : Int)), (2 : Int))))
                              (onGet a0 (10 : Int) fun z5 =>
                                onSome (F31 N (Int.ofNat (UInt8.toNat z5))) fun y6 =>
                                  aIf y6 (aGd (decide ((0 : Nat) + (4 : Nat) ≤ (4 : Nat))) (some (((0 : Int), [], (0 : Int), (0 : Int)), (2 : Int))))
                                    (onGet a0 (10 : Int) fun z7 =>
                                      aIf (Int.ofNat (UInt8.toNat z7) == (95 : Int))
                                        (aGd (decide ((0 : Nat) + (4 : Nat) ≤ (4 : Nat))) (some (((0 : Int), [], (0 : Int), (0 : Int)), (2 : Int))))
                                        (onGet a0 (10 : Int) fun z8 =>
                                          aIf (Int.ofNat (UInt8.toNat z8) == (46 : Int))
                                            (aGd (decide ((0 : Nat) + (4 : Nat) ≤ (4 : Nat))) (some (((0 : Int), [], (0 : Int), (0 : Int)), (2 : Int))))
                                            (onSome (F45 N (List.drop (0 : Nat) (List.take (10 : Nat) a0))) fun y9 =>
                                              aGd (decide ((2 : Nat) + (1 : Nat) ≤ (4 : Nat)))
                                                (aIf (Prod.snd y9 != (0 : Int))
                                                  (aGd (decide ((0 : Nat) + (4 : Nat) ≤ (4 : Nat))) (some (((0 : Int), [], (0 : Int), (0 : Int)), (3 : Int))))
                                                  (aGd (decide ((0 : Nat) + (4 : Nat) ≤ (4 : Nat)))
                                                    (some (((5 : Int), List.drop (0 : Nat) (List.take (10 : Nat) a0), Prod.fst y9, (0 : Int)), (0 : Int))))))))))
                        (onSome (F45 N (List.drop (0 : Nat) (List.take (10 : Nat) a0))) fun y10 =>
                          aGd (decide ((2 : Nat) + (1 : Nat) ≤ (4 : Nat)))
                            (aIf (Prod.snd y10 != (0 : Int)) (aGd (decide ((0 : Nat) + (4 : Nat) ≤ (4 : Nat))) (some (((0 : Int), [], (0 : Int), (0 : Int)), (3 : Int))))
                              (aGd (decide ((0 : Nat) + (4 : Nat) ≤ (4 : Nat)))
                                (some (((5 : Int), List.drop (0 : Nat) (List.take (10 : Nat) a0), Prod.fst y10, (0 : Int)), (0 : Int))))))))
                  (aIf (decide ((10 : Int) < Int.ofNat (List.length a0)))
                    (onGet a0 (10 : Int) fun z11 =>
                      onSome (F44 N (Int.ofNat (UInt8.toNat z11))) fun y12 =>
                        aIf y12 (aGd (decide ((0 : Nat) + (4 : Nat) ≤ (4 : Nat))) (some (((0 : Int), [], (0 : Int), (0 : Int)), (2 : Int))))
                          (onGet a0 (10 : Int) fun z13 =>
                            onSome (F31 N (Int.ofNat (UInt8.toNat z13))) fun y14 =>
                              aIf y14 (aGd (decide ((0 : Nat) + (4 : Nat) ≤ (4 : Nat))) (some (((0 : Int), [], (0 : Int), (0 : Int)), (2 : Int))))
                                (onGet a0 (10 : Int) fun z15 =>
                                  aIf (Int.ofNat (UInt8.toNat z15) == (95 : Int))
                                    (aGd (decide ((0 : Nat) + (4 : Nat) ≤ (4 : Nat))) (some (((0 : Int), [], (0 : Int), (0 : Int)), (2 : Int))))
                                    (onGet a0 (10 : Int) fun z16 =>
                                      aIf (Int.ofNat (UInt8.toNat z16) == (46 : Int))
                                        (aGd (decide ((0 : Nat) + (4 : Nat) ≤ (4 : Nat))) (some (((0 : Int), [], (0 : Int), (0 : Int)), (2 : Int))))
                                        (onSome (F45 N (List.drop (0 : Nat) (List.take (10 : Nat) a0))) fun y17 =>
                                          aGd (decide ((2 : Nat) + (1 : Nat) ≤ (4 : Nat)))
                                            (aIf (Prod.snd y17 != (0 : Int))
                                              (aGd (decide ((0 : Nat) + (4 : Nat) ≤ (4 : Nat))) (some (((0 : Int), [], (0 : Int), (0 : Int)), (3 : Int))))
                                              (aGd (decide ((0 : Nat) + (4 : Nat) ≤ (4 : Nat)))
                                                (some (((5 : Int), List.drop (0 : Nat) (List.take (10 : Nat) a0), Prod.fst y17, (0 : Int)), (0 : Int))))))))))
                    (onSome (F45 N (List.drop (0 : Nat) (List.take (10 : Nat) a0))) fun y18 =>
                      aGd (decide ((2 : Nat) + (1 : Nat) ≤ (4 : Nat)))
                        (aIf (Prod.snd y18 != (0 : Int)) (aGd (decide ((0 : Nat) + (4 : Nat) ≤ (4 : Nat))) (some (((0 : Int), [], (0 : Int), (0 : Int)), (3 : Int))))
                          (aGd (decide ((0 : Nat) + (4 : Nat) ≤ (4 : Nat)))
                            (some (((5 : Int), List.drop (0 : Nat) (List.take (10 : Nat) a0), Prod.fst y18, (0 : Int)), (0 : Int))))))))
                (aIf (decide ((10 : Int) < Int.ofNat (List.length a0)))
                  (onGet a0 (10 : Int) fun z19 =>
                    onSome (F44 N (Int.ofNat (UInt8.toNat z19))) fun y20 =>
                      aIf y20 (aGd (decide ((0 : Nat) + (4 : Nat) ≤ (4 : Nat))) (some (((0 : Int), [], (0 : Int), (0 : Int)), (2 : Int))))
                        (onGet a0 (10 : Int) fun z21 =>
                          onSome (F31 N (Int.ofNat (UInt8.toNat z21))) fun y22 =>
                            aIf y22 (aGd (decide ((0 : Nat) + (4 : Nat) ≤ (4 : Nat))) (some (((0 : Int), [], (0 : Int), (0 : Int)), (2 : Int))))
                              (onGet a0 (10 : Int) fun z23 =>
                                aIf (Int.ofNat (UInt8.toNat z23) == (95 : Int))
                                  (aGd (decide ((0 : Nat) + (4 : Nat) ≤ (4 : Nat))) (some (((0 : Int), [], (0 : Int), (0 : Int)), (2 : Int))))
                                  (onGet a0 (10 : Int) fun z24 =>
                                    aIf (Int.ofNat (UInt8.toNat z24) == (46 : Int))
                                      (aGd (decide ((0 : Nat) + (4 : Nat) ≤ (4 : Nat))) (some (((0 : Int), [], (0 : Int), (0 : Int)), (2 : Int))))
                                      (onSome (F45 N (List.drop (0 : Nat) (List.take (10 : Nat) a0))) fun y25 =>
                                        aGd (decide ((2 : Nat) + (1 : Nat) ≤ (4 : Nat)))
                                          (aIf (Prod.snd y25 != (0 : Int))
                                            (aGd (decide ((0 : Nat) + (4 : Nat) ≤ (4 : Nat))) (some (((0 : Int), [], (0 : Int), (0 : Int)), (3 : Int))))
                                            (aGd (decide ((0 : Nat) + (4 : Nat) ≤ (4 : Nat)))
                                              (some (((5 : Int), List.drop (0 : Nat) (List.take (10 : Nat) a0), Prod.fst y25, (0 : Int)), (0 : Int))))))))))
                  (onSome (F45 N (List.drop (0 : Nat) (List.take (10 : Nat) a0))) fun y26 =>
                    aGd (decide ((2 : Nat) + (1 : Nat) ≤ (4 : Nat)))
                      (aIf (Prod.snd y26 != (0 : Int)) (aGd (decide ((0 : Nat) + (4 : Nat) ≤ (4 : Nat))) (some (((0 : Int), [], (0 : Int), (0 : Int)), (3 : Int))))
                        (aGd (decide ((0 : Nat) + (4 : Nat) ≤ (4 : Nat)))
                          (some (((5 : Int), List.drop (0 : Nat) (List.take (10 : Nat) a0), Prod.fst y26, (0 : Int)), (0 : Int)))))))))))
        (aGd (decide ((0 : Int) ≤ y0))
          (aGd (decide (y0 ≤ Int.ofNat (List.length a0)))
            (onSome (F43 N (List.drop (Int.toNat y0) (List.take (List.length a0) a0), (2 : Int), [])) fun y27 =>
              aIf y27
                (aGd (decide ((0 : Nat) + (1 : Nat) ≤ (4 : Nat)))
                  (aGd (decide ((0 : Int) ≤ IntKind.wrap IntKind.i64 (y0 + (3 : Int))))
                    (aGd (decide (IntKind.wrap IntKind.i64 (y0 + (3 : Int)) ≤ Int.ofNat (List.length a0)))
                      (aGd (decide ((1 : Nat) + (1 : Nat) ≤ (4 : Nat)))
                        (aIf (!y1)
                          (aIf (decide ((1 : Int) < y0))
                            (onGet a0 (0 : Int) fun z28 =>
                              aIf (Int.ofNat (UInt8.toNat z28) == (48 : Int))
                                (aGd (decide ((0 : Nat) + (4 : Nat) ≤ (4 : Nat))) (some (((0 : Int), [], (0 : Int), (0 : Int)), (2 : Int))))
                                (aIf (decide (IntKind.wrap IntKind.i64 (y0 + (3 : Int)) < Int.ofNat (List.length a0)))
                                  (onGet a0 (IntKind.wrap IntKind.i64 (y0 + (3 : Int))) fun z29 =>
                                    onSome (F44 N (Int.ofNat (UInt8.toNat z29))) fun y30 =>
                                      aIf y30 (aGd (decide ((0 : Nat) + (4 : Nat) ≤ (4 : Nat))) (some (((0 : Int), [], (0 : Int), (0 : Int)), (2 : Int))))
                                        (onGet a0 (IntKind.wrap IntKind.i64 (y0 + (3 : Int))) fun z31 =>
                                          onSome (F31 N (Int.ofNat (UInt8.toNat z31))) fun y32 =>
                                            aIf y32 (aGd (decide ((0 : Nat) + (4 : Nat) ≤ (4 : Nat))) (some (((0 : Int), [], (0 : Int), (0 : Int)), (2 : Int))))
                                              (onGet a0 (IntKind.wrap IntKind.i64 (y0 + (3 : Int))) fun z33 =>
                                                aIf (Int.ofNat (UInt8.toNat z33) == (95 : Int))
                                                  (aGd (decide ((0 : Nat) + (4 : Nat) ≤ (4 : Nat))) (some (((0 : Int), [], (0 : Int), (0 : Int)), (2 : Int))))
                                                  (onGet a0 (IntKind.wrap IntKind.i64 (y0 + (3 : Int))) fun z34 =>
                                                    aIf (Int.ofNat (UInt8.toNat z34) == (46 : Int))
                                                      (aGd (decide ((0 : Nat) + (4 : Nat) ≤ (4 : Nat))) (some (((0 : Int), [], (0 : Int), (0 : Int)), (2 : Int))))
                                                      (onSome (F46 N (List.drop (0 : Nat) (List.take (Int.toNat (IntKind.wrap IntKind.i64 (y0 + (3 : Int)))) a0), (2 : Int)))
                                                        fun y35 =>
                                                        aGd (decide ((2 : Nat) + (1 : Nat) ≤ (4 : Nat)))
                                                          (aIf (Prod.snd y35 != (0 : Int))
                                                            (aGd (decide ((0 : Nat) + (4 : Nat) ≤ (4 : Nat))) (some (((0 : Int), [], (0 : Int), (0 : Int)), (3 : Int))))
                                                            (aIf (decide ((1000000000000000 : Int) < Prod.fst y35))
                                                              (aGd (decide ((0 : Nat) + (4 : Nat) ≤ (4 : Nat))) (some (((0 : Int), [], (0 : Int), (0 : Int)), (3 : Int))))
                                                              (aGd (decide ((0 : Nat) + (4 : Nat) ≤ (4 : Nat)))
                                                                (some
                                                                  (((3 : Int), List.drop (0 : Nat) (List.take (Int.toNat (IntKind.wrap IntKind.i64 (y0 + (3 : Int)))) a0),
                                                                      Prod.fst y35, (0 : Int)),
                                                                    (0 : Int)))))))))))
                                  (onSome (F46 N (List.drop (0 : Nat) (List.take (Int.toNat (IntKind.wrap IntKind.i64 (y0 + (3 : Int)))) a0), (2 : Int))) fun y36 =>
                                    aGd (decide ((2 : Nat) + (1 : Nat) ≤ (4 : Nat)))
                                      (aIf (Prod.snd y36 != (0 : Int)) (aGd (decide ((0 : Nat) + (4 : Nat) ≤ (4 : Nat))) (some (((0 : Int), [], (0 : Int), (0 : Int)), (3 : Int))))
                                        (aIf (decide ((1000000000000000 : Int) < Prod.fst y36))
                                          (aGd (decide ((0 : Nat) + (4 : Nat) ≤ (4 : Nat))) (some (((0 : Int), [], (0 : Int), (0 : Int)), (3 : Int))))
                                          (aGd (decide ((0 : Nat) + (4 : Nat) ≤ (4 : Nat)))
                                            (some
                                              (((3 : Int), List.drop (0 : Nat) (List.take (Int.toNat (IntKind.wrap IntKind.i64 (y0 + (3 : Int)))) a0), Prod.fst y36, (0 : Int)),
                                                (0 : Int)))))))))
                            (aIf (decide (IntKind.wrap IntKind.i64 (y0 + (3 : Int)) < Int.ofNat (List.length a0)))
                              (onGet a0 (IntKind.wrap IntKind.i64 (y0 + (3 : Int))) fun z37 =>
                                onSome (F44 N (Int.ofNat (UInt8.toNat z37))) fun y38 =>
                                  aIf y38 (aGd (decide ((0 : Nat) + (4 : Nat) ≤ (4 : Nat))) (some (((0 : Int), [], (0 : Int), (0 : Int)), (2 : Int))))
                                    (onGet a0 (IntKind.wrap IntKind.i64 (y0 + (3 : Int))) fun z39 =>
                                      onSome (F31 N (Int.ofNat (UInt8.toNat z39))) fun y40 =>
                                        aIf y40 (aGd (decide ((0 : Nat) + (4 : Nat) ≤ (4 : Nat))) (some (((0 : Int), [], (0 : Int), (0 : Int)), (2 : Int))))
                                          (onGet a0 (IntKind.wrap IntKind.i64 (y0 + (3 : Int))) fun z41 =>
                                            aIf (Int.ofNat (UInt8.toNat z41) == (95 : Int))
                                              (aGd (decide ((0 : Nat) + (4 : Nat) ≤ (4 : Nat))) (some (((0 : Int), [], (0 : Int), (0 : Int)), (2 : Int))))
                                              (onGet a0 (IntKind.wrap IntKind.i64 (y0 + (3 : Int))) fun z42 =>
                                                aIf (Int.ofNat (UInt8.toNat z42) == (46 : Int))
                                                  (aGd (decide ((0 : Nat) + (4 : Nat) ≤ (4 : Nat))) (some (((0 : Int), [], (0 : Int), (0 : Int)), (2 : Int))))
                                                  (onSome (F46 N (List.drop (0 : Nat) (List.take (Int.toNat (IntKind.wrap IntKind.i64 (y0 + (3 : Int)))) a0), (2 : Int))) fun y43 =>
                                                    aGd (decide ((2 : Nat) + (1 : Nat) ≤ (4 : Nat)))
                                                      (aIf (Prod.snd y43 != (0 : Int))
                                                        (aGd (decide ((0 : Nat) + (4 : Nat) ≤ (4 : Nat))) (some (((0 : Int), [], (0 : Int), (0 : Int)), (3 : Int))))
                                                        (aIf (decide ((1000000000000000 : Int) < Prod.fst y43))
                                                          (aGd (decide ((0 : Nat) + (4 : Nat) ≤ (4 : Nat))) (some (((0 : Int), [], (0 : Int), (0 : Int)), (3 : Int))))
                                                          (aGd (decide ((0 : Nat) + (4 : Nat) ≤ (4 : Nat)))
                                                            (some
                                                              (((3 : Int), List.drop (0 : Nat) (List.take (Int.toNat (IntKind.wrap IntKind.i64 (y0 + (3 : Int)))) a0), Prod.fst y43,
                                                                  (0 : Int)),
                                                                (0 : Int)))))))))))
                              (onSome (F46 N (List.drop (0 : Nat) (List.take (Int.toNat (IntKind.wrap IntKind.i64 (y0 + (3 : Int)))) a0), (2 : Int))) fun y44 =>
                                aGd (decide ((2 : Nat) + (1 : Nat) ≤ (4 : Nat)))
                                  (aIf (Prod.snd y44 != (0 : Int)) (aGd (decide ((0 : Nat) + (4 : Nat) ≤ (4 : Nat))) (some (((0 : Int), [], (0 : Int), (0 : Int)), (3 : Int))))
                                    (aIf (decide ((1000000000000000 : Int) < Prod.fst y44))
                                      (aGd (decide ((0 : Nat) + (4 : Nat) ≤ (4 : Nat))) (some (((0 : Int), [], (0 : Int), (0 : Int)), (3 : Int))))
                                      (aGd (decide ((0 : Nat) + (4 : Nat) ≤ (4 : Nat)))
                                        (some
                                          (((3 : Int), List.drop (0 : Nat) (List.take (Int.toNat (IntKind.wrap IntKind.i64 (y0 + (3 : Int)))) a0), Prod.fst y44, (0 : Int)),
                                            (0 : Int)))))))))
                          (aIf (decide (IntKind.wrap IntKind.i64 (y0 + (3 : Int)) < Int.ofNat (List.length a0)))
                            (onGet a0 (IntKind.wrap IntKind.i64 (y0 + (3 : Int))) fun z45 =>
                              onSome (F44 N (Int.ofNat (UInt8.toNat z45))) fun y46 =>
                                aIf y46 (aGd (decide ((0 : Nat) + (4 : Nat) ≤ (4 : Nat))) (some (((0 : Int), [], (0 : Int), (0 : Int)), (2 : Int))))
                                  (onGet a0 (IntKind.wrap IntKind.i64 (y0 + (3 : Int))) fun z47 =>
                                    onSome (F31 N (Int.ofNat (UInt8.toNat z47))) fun y48 =>
                                      aIf y48 (aGd (decide ((0 : Nat) + (4 : Nat) ≤ (4 : Nat))) (some (((0 : Int), [], (0 : Int), (0 : Int)), (2 : Int))))
                                        (onGet a0 (IntKind.wrap IntKind.i64 (y0 + (3 : Int))) fun z49 =>
                                          aIf (Int.ofNat (UInt8.toNat z49) == (95 : Int))
                                            (aGd (decide ((0 : Nat) + (4 : Nat) ≤ (4 : Nat))) (some (((0 : Int), [], (0 : Int), (0 : Int)), (2 : Int))))
                                            (onGet a0 (IntKind.wrap IntKind.i64 (y0 + (3 : Int))) fun z50 =>
                                              aIf (Int.ofNat (UInt8.toNat z50) == (46 : Int))
                                                (aGd (decide ((0 : Nat) + (4 : Nat) ≤ (4 : Nat))) (some (((0 : Int), [], (0 : Int), (0 : Int)), (2 : Int))))
                                                (onSome (F46 N (List.drop (0 : Nat) (List.take (Int.toNat (IntKind.wrap IntKind.i64 (y0 + (3 : Int)))) a0), (2 : Int))) fun y51 =>
                                                  aGd (decide ((2 : Nat) + (1 : Nat) ≤ (4 : Nat)))
                                                    (aIf (Prod.snd y51 != (0 : Int))
                                                      (aGd (decide ((0 : Nat) + (4 : Nat) ≤ (4 : Nat))) (some (((0 : Int), [], (0 : Int), (0 : Int)), (3 : Int))))
                                                      (aIf (decide ((1000000000000000 : Int) < Prod.fst y51))
                                                        (aGd (decide ((0 : Nat) + (4 : Nat) ≤ (4 : Nat))) (some (((0 : Int), [], (0 : Int), (0 : Int)), (3 : Int))))
                                                        (aGd (decide ((0 : Nat) + (4 : Nat) ≤ (4 : Nat)))
                                                          (some
                                                            (((3 : Int), List.drop (0 : Nat) (List.take (Int.toNat (IntKind.wrap IntKind.i64 (y0 + (3 : Int)))) a0), Prod.fst y51,
                                                                (0 : Int)),
                                                              (0 : Int)))))))))))
                            (onSome (F46 N (List.drop (0 : Nat) (List.take (Int.toNat (IntKind.wrap IntKind.i64 (y0 + (3 : Int)))) a0), (2 : Int))) fun y52 =>
                              aGd (decide ((2 : Nat) + (1 : Nat) ≤ (4 : Nat)))
                                (aIf (Prod.snd y52 != (0 : Int)) (aGd (decide ((0 : Nat) + (4 : Nat) ≤ (4 : Nat))) (some (((0 : Int), [], (0 : Int), (0 : Int)), (3 : Int))))
                                  (aIf (decide ((1000000000000000 : Int) < Prod.fst y52))
                                    (aGd (decide ((0 : Nat) + (4 : Nat) ≤ (4 : Nat))) (some (((0 : Int), [], (0 : Int), (0 : Int)), (3 : Int))))
                                    (aGd (decide ((0 : Nat) + (4 : Nat) ≤ (4 : Nat)))
                                      (some
                                        (((3 : Int), List.drop (0 : Nat) (List.take (Int.toNat (IntKind.wrap IntKind.i64 (y0 + (3 : Int)))) a0), Prod.fst y52, (0 : Int)),
                                          (0 : Int)))))))))))))
                (aGd (decide ((0 : Int) ≤ y0))
                  (aGd (decide (y0 ≤ Int.ofNat (List.length a0)))
                    (onSome (F43 N (List.drop (Int.toNat y0) (List.take (List.length a0) a0), (4 : Int), [(37 : UInt8)])) fun y53 =>
                      aIf y53
                        (aGd (decide ((0 : Nat) + (1 : Nat) ≤ (4 : Nat)))
                          (aGd (decide ((0 : Int) ≤ IntKind.wrap IntKind.i64 (y0 + (6 : Int))))
                            (aGd (decide (IntKind.wrap IntKind.i64 (y0 + (6 : Int)) ≤ Int.ofNat (List.length a0)))
                              (aGd (decide ((1 : Nat) + (1 : Nat) ≤ (4 : Nat)))
                                (aIf (!y1)
                                  (aIf (decide ((1 : Int) < y0))
                                    (onGet a0 (0 : Int) fun z54 =>
                                      aIf (Int.ofNat (UInt8.toNat z54) == (48 : Int))
                                        (aGd (decide ((0 : Nat) + (4 : Nat) ≤ (4 : Nat))) (some (((0 : Int), [], (0 : Int), (0 : Int)), (2 : Int))))
                                        (aIf (decide (IntKind.wrap IntKind.i64 (y0 + (6 : Int)) < Int.ofNat (List.length a0)))
                                          (onGet a0 (IntKind.wrap IntKind.i64 (y0 + (6 : Int))) fun z55 =>
                                            onSome (F44 N (Int.ofNat (UInt8.toNat z55))) fun y56 =>
                                              aIf y56 (aGd (decide ((0 : Nat) + (4 : Nat) ≤ (4 : Nat))) (some (((0 : Int), [], (0 : Int), (0 : Int)), (2 : Int))))
                                                (onGet a0 (IntKind.wrap IntKind.i64 (y0 + (6 : Int))) fun z57 =>
                                                  onSome (F31 N (Int.ofNat (UInt8.toNat z57))) fun y58 =>
                                                    aIf y58 (aGd (decide ((0 : Nat) + (4 : Nat) ≤ (4 : Nat))) (some (((0 : Int), [], (0 : Int), (0 : Int)), (2 : Int))))
                                                      (onGet a0 (IntKind.wrap IntKind.i64 (y0 + (6 : Int))) fun z59 =>
                                                        aIf (Int.ofNat (UInt8.toNat z59) == (95 : Int))
                                                          (aGd (decide ((0 : Nat) + (4 : Nat) ≤ (4 : Nat))) (some (((0 : Int), [], (0 : Int), (0 : Int)), (2 : Int))))
                                                          (onGet a0 (IntKind.wrap IntKind.i64 (y0 + (6 : Int))) fun z60 =>
                                                            aIf (Int.ofNat (UInt8.toNat z60) == (46 : Int))
                                                              (aGd (decide ((0 : Nat) + (4 : Nat) ≤ (4 : Nat))) (some (((0 : Int), [], (0 : Int), (0 : Int)), (2 : Int))))
                                                              (aGd (decide ((0 : Int) ≤ IntKind.wrap IntKind.i64 (IntKind.wrap IntKind.i64 (y0 + (6 : Int)) - (1 : Int))))
                                                                (aGd
                                                                  (decide
                                                                    (IntKind.wrap IntKind.i64 (IntKind.wrap IntKind.i64 (y0 + (6 : Int)) - (1 : Int)) ≤
                                                                      Int.ofNat
                                                                        (List.length (List.drop (0 : Nat) (List.take (Int.toNat (IntKind.wrap IntKind.i64 (y0 + (6 : Int)))) a0)))))
                                                                  (onSome
                                                                    (F46 N
                                                                      (List.drop (0 : Nat)
                                                                          (List.take (Int.toNat (IntKind.wrap IntKind.i64 (IntKind.wrap IntKind.i64 (y0 + (6 : Int)) - (1 : Int))))
                                                                            (List.drop (0 : Nat) (List.take (Int.toNat (IntKind.wrap IntKind.i64 (y0 + (6 : Int)))) a0))),
                                                                        (4 : Int)))
                                                                    fun y61 =>
                                                                    aGd (decide ((2 : Nat) + (1 : Nat) ≤ (4 : Nat)))
                                                                      (aIf (Prod.snd y61 != (0 : Int))
                                                                        (aGd (decide ((0 : Nat) + (4 : Nat) ≤ (4 : Nat))) (some (((0 : Int), [], (0 : Int), (0 : Int)), (3 : Int))))
                                                                        (aIf (decide ((1000000000 : Int) < Prod.fst y61))
                                                                          (aGd (decide ((0 : Nat) + (4 : Nat) ≤ (4 : Nat)))
                                                                            (some (((0 : Int), [], (0 : Int), (0 : Int)), (3 : Int))))
                                                                          (aGd (decide ((0 : Nat) + (4 : Nat) ≤ (4 : Nat)))
                                                                            (some
                                                                              (((4 : Int),
                                                                                  List.drop (0 : Nat) (List.take (Int.toNat (IntKind.wrap IntKind.i64 (y0 + (6 : Int)))) a0),
                                                                                  Prod.fst y61, (0 : Int)),
                                                                                (0 : Int)))))))))))))
                                          (aGd (decide ((0 : Int) ≤ IntKind.wrap IntKind.i64 (IntKind.wrap IntKind.i64 (y0 + (6 : Int)) - (1 : Int))))
                                            (aGd
                                              (decide
                                                (IntKind.wrap IntKind.i64 (IntKind.wrap IntKind.i64 (y0 + (6 : Int)) - (1 : Int)) ≤
                                                  Int.ofNat (List.length (List.drop (0 : Nat) (List.take (Int.toNat (IntKind.wrap IntKind.i64 (y0 + (6 : Int)))) a0)))))
                                              (onSome
                                                (F46 N
                                                  (List.drop (0 : Nat)
                                                      (List.take (Int.toNat (IntKind.wrap IntKind.i64 (IntKind.wrap IntKind.i64 (y0 + (6 : Int)) - (1 : Int))))
                                                        (List.drop (0 : Nat) (List.take (Int.toNat (IntKind.wrap IntKind.i64 (y0 + (6 : Int)))) a0))),
                                                    (4 : Int)))
                                                fun y62 =>
                                                aGd (decide ((2 : Nat) + (1 : Nat) ≤ (4 : Nat)))
                                                  (aIf (Prod.snd y62 != (0 : Int))
                                                    (aGd (decide ((0 : Nat) + (4 : Nat) ≤ (4 : Nat))) (some (((0 : Int), [], (0 : Int), (0 : Int)), (3 : Int))))
                                                    (aIf (decide ((1000000000 : Int) < Prod.fst y62))
                                                      (aGd (decide ((0 : Nat) + (4 : Nat) ≤ (4 : Nat))) (some (((0 : Int), [], (0 : Int), (0 : Int)), (3 : Int))))
                                                      (aGd (decide ((0 : Nat) + (4 : Nat) ≤ (4 : Nat)))
                                                        (some
                                                          (((4 : Int), List.drop (0 : Nat) (List.take (Int.toNat (IntKind.wrap IntKind.i64 (y0 + (6 : Int)))) a0), Prod.fst y62,
                                                              (0 : Int)),
                                                            (0 : Int)))))))))))
                                    (aIf (decide (IntKind.wrap IntKind.i64 (y0 + (6 : Int)) < Int.ofNat (List.length a0)))
                                      (onGet a0 (IntKind.wrap IntKind.i64 (y0 + (6 : Int))) fun z63 =>
                                        onSome (F44 N (Int.ofNat (UInt8.toNat z63))) fun y64 =>
                                          aIf y64 (aGd (decide ((0 : Nat) + (4 : Nat) ≤ (4 : Nat))) (some (((0 : Int), [], (0 : Int), (0 : Int)), (2 : Int))))
                                            (onGet a0 (IntKind.wrap IntKind.i64 (y0 + (6 : Int))) fun z65 =>
                                              onSome (F31 N (Int.ofNat (UInt8.toNat z65))) fun y66 =>
                                                aIf y66 (aGd (decide ((0 : Nat) + (4 : Nat) ≤ (4 : Nat))) (some (((0 : Int), [], (0 : Int), (0 : Int)), (2 : Int))))
                                                  (onGet a0 (IntKind.wrap IntKind.i64 (y0 + (6 : Int))) fun z67 =>
                                                    aIf (Int.ofNat (UInt8.toNat z67) == (95 : Int))
                                                      (aGd (decide ((0 : Nat) + (4 : Nat) ≤ (4 : Nat))) (some (((0 : Int), [], (0 : Int), (0 : Int)), (2 : Int))))
                                                      (onGet a0 (IntKind.wrap IntKind.i64 (y0 + (6 : Int))) fun z68 =>
                                                        aIf (Int.ofNat (UInt8.toNat z68) == (46 : Int))
                                                          (aGd (decide ((0 : Nat) + (4 : Nat) ≤ (4 : Nat))) (some (((0 : Int), [], (0 : Int), (0 : Int)), (2 : Int))))
                                                          (aGd (decide ((0 : Int) ≤ IntKind.wrap IntKind.i64 (IntKind.wrap IntKind.i64 (y0 + (6 : Int)) - (1 : Int))))
                                                            (aGd
                                                              (decide
                                                                (IntKind.wrap IntKind.i64 (IntKind.wrap IntKind.i64 (y0 + (6 : Int)) - (1 : Int)) ≤
                                                                  Int.ofNat
                                                                    (List.length (List.drop (0 : Nat) (List.take (Int.toNat (IntKind.wrap IntKind.i64 (y0 + (6 : Int)))) a0)))))
                                                              (onSome
                                                                (F46 N
                                                                  (List.drop (0 : Nat)
                                                                      (List.take (Int.toNat (IntKind.wrap IntKind.i64 (IntKind.wrap IntKind.i64 (y0 + (6 : Int)) - (1 : Int))))
                                                                        (List.drop (0 : Nat) (List.take (Int.toNat (IntKind.wrap IntKind.i64 (y0 + (6 : Int)))) a0))),
                                                                    (4 : Int)))
                                                                fun y69 =>
                                                                aGd (decide ((2 : Nat) + (1 : Nat) ≤ (4 : Nat)))
                                                                  (aIf (Prod.snd y69 != (0 : Int))
                                                                    (aGd (decide ((0 : Nat) + (4 : Nat) ≤ (4 : Nat))) (some (((0 : Int), [], (0 : Int), (0 : Int)), (3 : Int))))
                                                                    (aIf (decide ((1000000000 : Int) < Prod.fst y69))
                                                                      (aGd (decide ((0 : Nat) + (4 : Nat) ≤ (4 : Nat))) (some (((0 : Int), [], (0 : Int), (0 : Int)), (3 : Int))))
                                                                      (aGd (decide ((0 : Nat) + (4 : Nat) ≤ (4 : Nat)))
                                                                        (some
                                                                          (((4 : Int), List.drop (0 : Nat) (List.take (Int.toNat (IntKind.wrap IntKind.i64 (y0 + (6 : Int)))) a0),
                                                                              Prod.fst y69, (0 : Int)),
                                                                            (0 : Int)))))))))))))
                                      (aGd (decide ((0 : Int) ≤ IntKind.wrap IntKind.i64 (IntKind.wrap IntKind.i64 (y0 + (6 : Int)) - (1 : Int))))
                                        (aGd
                                          (decide
                                            (IntKind.wrap IntKind.i64 (IntKind.wrap IntKind.i64 (y0 + (6 : Int)) - (1 : Int)) ≤
                                              Int.ofNat (List.length (List.drop (0 : Nat) (List.take (Int.toNat (IntKind.wrap IntKind.i64 (y0 + (6 : Int)))) a0)))))
                                          (onSome
                                            (F46 N
                                              (List.drop (0 : Nat)
                                                  (List.take (Int.toNat (IntKind.wrap IntKind.i64 (IntKind.wrap IntKind.i64 (y0 + (6 : Int)) - (1 : Int))))
                                                    (List.drop (0 : Nat) (List.take (Int.toNat (IntKind.wrap IntKind.i64 (y0 + (6 : Int)))) a0))),
                                                (4 : Int)))
                                            fun y70 =>
                                            aGd (decide ((2 : Nat) + (1 : Nat) ≤ (4 : Nat)))
                                              (aIf (Prod.snd y70 != (0 : Int))
                                                (aGd (decide ((0 : Nat) + (4 : Nat) ≤ (4 : Nat))) (some (((0 : Int), [], (0 : Int), (0 : Int)), (3 : Int))))
                                                (aIf (decide ((1000000000 : Int) < Prod.fst y70))
                                                  (aGd (decide ((0 : Nat) + (4 : Nat) ≤ (4 : Nat))) (some (((0 : Int), [], (0 : Int), (0 : Int)), (3 : Int))))
                                                  (aGd (decide ((0 : Nat) + (4 : Nat) ≤ (4 : Nat)))
                                                    (some
                                                      (((4 : Int), List.drop (0 : Nat) (List.take (Int.toNat (IntKind.wrap IntKind.i64 (y0 + (6 : Int)))) a0), Prod.fst y70,
                                                          (0 : Int)),
                                                        (0 : Int)))))))))))
                                  (aIf (decide (IntKind.wrap IntKind.i64 (y0 + (6 : Int)) < Int.ofNat (List.length a0)))
                                    (onGet a0 (IntKind.wrap IntKind.i64 (y0 + (6 : Int))) fun z71 =>
                                      onSome (F44 N (Int.ofNat (UInt8.toNat z71))) fun y72 =>
                                        aIf y72 (aGd (decide ((0 : Nat) + (4 : Nat) ≤ (4 : Nat))) (some (((0 : Int), [], (0 : Int), (0 : Int)), (2 : Int))))
                                          (onGet a0 (IntKind.wrap IntKind.i64 (y0 + (6 : Int))) fun z73 =>
                                            onSome (F31 N (Int.ofNat (UInt8.toNat z73))) fun y74 =>
                                              aIf y74 (aGd (decide ((0 : Nat) + (4 : Nat) ≤ (4 : Nat))) (some (((0 : Int), [], (0 : Int), (0 : Int)), (2 : Int))))
                                                (onGet a0 (IntKind.wrap IntKind.i64 (y0 + (6 : Int))) fun z75 =>
                                                  aIf (Int.ofNat (UInt8.toNat z75) == (95 : Int))
                                                    (aGd (decide ((0 : Nat) + (4 : Nat) ≤ (4 : Nat))) (some (((0 : Int), [], (0 : Int), (0 : Int)), (2 : Int))))
                                                    (onGet a0 (IntKind.wrap IntKind.i64 (y0 + (6 : Int))) fun z76 =>
                                                      aIf (Int.ofNat (UInt8.toNat z76) == (46 : Int))
                                                        (aGd (decide ((0 : Nat) + (4 : Nat) ≤ (4 : Nat))) (some (((0 : Int), [], (0 : Int), (0 : Int)), (2 : Int))))
                                                        (aGd (decide ((0 : Int) ≤ IntKind.wrap IntKind.i64 (IntKind.wrap IntKind.i64 (y0 + (6 : Int)) - (1 : Int))))
                                                          (aGd
                                                            (decide
                                                              (IntKind.wrap IntKind.i64 (IntKind.wrap IntKind.i64 (y0 + (6 : Int)) - (1 : Int)) ≤
                                                                Int.ofNat
                                                                  (List.length (List.drop (0 : Nat) (List.take (Int.toNat (IntKind.wrap IntKind.i64 (y0 + (6 : Int)))) a0)))))
                                                            (onSome
                                                              (F46 N
                                                                (List.drop (0 : Nat)
                                                                    (List.take (Int.toNat (IntKind.wrap IntKind.i64 (IntKind.wrap IntKind.i64 (y0 + (6 : Int)) - (1 : Int))))
                                                                      (List.drop (0 : Nat) (List.take (Int.toNat (IntKind.wrap IntKind.i64 (y0 + (6 : Int)))) a0))),
                                                                  (4 : Int)))
                                                              fun y77 =>
                                                              aGd (decide ((2 : Nat) + (1 : Nat) ≤ (4 : Nat)))
                                                                (aIf (Prod.snd y77 != (0 : Int))
                                                                  (aGd (decide ((0 : Nat) + (4 : Nat) ≤ (4 : Nat))) (some (((0 : Int), [], (0 : Int), (0 : Int)), (3 : Int))))
                                                                  (aIf (decide ((1000000000 : Int) < Prod.fst y77))
                                                                    (aGd (decide ((0 : Nat) + (4 : Nat) ≤ (4 : Nat))) (some (((0 : Int), [], (0 : Int), (0 : Int)), (3 : Int))))
                                                                    (aGd (decide ((0 : Nat) + (4 : Nat) ≤ (4 : Nat)))
                                                                      (some
                                                                        (((4 : Int), List.drop (0 : Nat) (List.take (Int.toNat (IntKind.wrap IntKind.i64 (y0 + (6 : Int)))) a0),
                                                                            Prod.fst y77, (0 : Int)),
                                                                          (0 : Int)))))))))))))
                                    (aGd (decide ((0 : Int) ≤ IntKind.wrap IntKind.i64 (IntKind.wrap IntKind.i64 (y0 + (6 : Int)) - (1 : Int))))
                                      (aGd
                                        (decide
                                          (IntKind.wrap IntKind.i64 (IntKind.wrap IntKind.i64 (y0 + (6 : Int)) - (1 : Int)) ≤
                                            Int.ofNat (List.length (List.drop (0 : Nat) (List.take (Int.toNat (IntKind.wrap IntKind.i64 (y0 + (6 : Int)))) a0)))))
                                        (onSome
                                          (F46 N
                                            (List.drop (0 : Nat)
                                                (List.take (Int.toNat (IntKind.wrap IntKind.i64 (IntKind.wrap IntKind.i64 (y0 + (6 : Int)) - (1 : Int))))
                                                  (List.drop (0 : Nat) (List.take (Int.toNat (IntKind.wrap IntKind.i64 (y0 + (6 : Int)))) a0))),
                                              (4 : Int)))
                                          fun y78 =>
                                          aGd (decide ((2 : Nat) + (1 : Nat) ≤ (4 : Nat)))
                                            (aIf (Prod.snd y78 != (0 : Int))
                                              (aGd (decide ((0 : Nat) + (4 : Nat) ≤ (4 : Nat))) (some (((0 : Int), [], (0 : Int), (0 : Int)), (3 : Int))))
                                              (aIf (decide ((1000000000 : Int) < Prod.fst y78))
                                                (aGd (decide ((0 : Nat) + (4 : Nat) ≤ (4 : Nat))) (some (((0 : Int), [], (0 : Int), (0 : Int)), (3 : Int))))
                                                (aGd (decide ((0 : Nat) + (4 : Nat) ≤ (4 : Nat)))
                                                  (some
                                                    (((4 : Int), List.drop (0 : Nat) (List.take (Int.toNat (IntKind.wrap IntKind.i64 (y0 + (6 : Int)))) a0), Prod.fst y78,
                                                        (0 : Int)),
                                                      (0 : Int)))))))))))))))
                        (aGd (decide ((0 : Int) ≤ y0))
                          (aGd (decide (y0 ≤ Int.ofNat (List.length a0)))
                            (aGd (decide ((1 : Nat) + (1 : Nat) ≤ (4 : Nat)))
                              (aIf (!y1)
                                (aIf (decide ((1 : Int) < y0))
                                  (onGet a0 (0 : Int) fun z79 =>
                                    aIf (Int.ofNat (UInt8.toNat z79) == (48 : Int))
                                      (aGd (decide ((0 : Nat) + (4 : Nat) ≤ (4 : Nat))) (some (((0 : Int), [], (0 : Int), (0 : Int)), (2 : Int))))
                                      (aIf (decide (y0 < Int.ofNat (List.length a0)))
                                        (onGet a0 y0 fun z80 =>
                                          onSome (F44 N (Int.ofNat (UInt8.toNat z80))) fun y81 =>
                                            aIf y81 (aGd (decide ((0 : Nat) + (4 : Nat) ≤ (4 : Nat))) (some (((0 : Int), [], (0 : Int), (0 : Int)), (2 : Int))))
                                              (onGet a0 y0 fun z82 =>
                                                onSome (F31 N (Int.ofNat (UInt8.toNat z82))) fun y83 =>
                                                  aIf y83 (aGd (decide ((0 : Nat) + (4 : Nat) ≤ (4 : Nat))) (some (((0 : Int), [], (0 : Int), (0 : Int)), (2 : Int))))
                                                    (onGet a0 y0 fun z84 =>
                                                      aIf (Int.ofNat (UInt8.toNat z84) == (95 : Int))
                                                        (aGd (decide ((0 : Nat) + (4 : Nat) ≤ (4 : Nat))) (some (((0 : Int), [], (0 : Int), (0 : Int)), (2 : Int))))
                                                        (onGet a0 y0 fun z85 =>
                                                          aIf (Int.ofNat (UInt8.toNat z85) == (46 : Int))
                                                            (aGd (decide ((0 : Nat) + (4 : Nat) ≤ (4 : Nat))) (some (((0 : Int), [], (0 : Int), (0 : Int)), (2 : Int))))
                                                            (onSome (F47 N (List.drop (0 : Nat) (List.take (Int.toNat y0) a0))) fun y86 =>
                                                              aGd (decide ((2 : Nat) + (1 : Nat) ≤ (4 : Nat)))
                                                                (aIf (Prod.snd y86 != (0 : Int))
                                                                  (aGd (decide ((0 : Nat) + (4 : Nat) ≤ (4 : Nat))) (some (((0 : Int), [], (0 : Int), (0 : Int)), (3 : Int))))
                                                                  (aIf (decide ((1000000000000 : Int) < Prod.fst y86))
                                                                    (aGd (decide ((0 : Nat) + (4 : Nat) ≤ (4 : Nat))) (some (((0 : Int), [], (0 : Int), (0 : Int)), (3 : Int))))
                                                                    (aGd (decide ((0 : Nat) + (4 : Nat) ≤ (4 : Nat)))
                                                                      (some
                                                                        (((2 : Int), List.drop (0 : Nat) (List.take (Int.toNat y0) a0), Prod.fst y86, (0 : Int)),
                                                                          (0 : Int)))))))))))
                                        (onSome (F47 N (List.drop (0 : Nat) (List.take (Int.toNat y0) a0))) fun y87 =>
                                          aGd (decide ((2 : Nat) + (1 : Nat) ≤ (4 : Nat)))
                                            (aIf (Prod.snd y87 != (0 : Int))
                                              (aGd (decide ((0 : Nat) + (4 : Nat) ≤ (4 : Nat))) (some (((0 : Int), [], (0 : Int), (0 : Int)), (3 : Int))))
                                              (aIf (decide ((1000000000000 : Int) < Prod.fst y87))
                                                (aGd (decide ((0 : Nat) + (4 : Nat) ≤ (4 : Nat))) (some (((0 : Int), [], (0 : Int), (0 : Int)), (3 : Int))))
                                                (aGd (decide ((0 : Nat) + (4 : Nat) ≤ (4 : Nat)))
                                                  (some (((2 : Int), List.drop (0 : Nat) (List.take (Int.toNat y0) a0), Prod.fst y87, (0 : Int)), (0 : Int)))))))))
                                  (aIf (decide (y0 < Int.ofNat (List.length a0)))
                                    (onGet a0 y0 fun z88 =>
                                      onSome (F44 N (Int.ofNat (UInt8.toNat z88))) fun y89 =>
                                        aIf y89 (aGd (decide ((0 : Nat) + (4 : Nat) ≤ (4 : Nat))) (some (((0 : Int), [], (0 : Int), (0 : Int)), (2 : Int))))
                                          (onGet a0 y0 fun z90 =>
                                            onSome (F31 N (Int.ofNat (UInt8.toNat z90))) fun y91 =>
                                              aIf y91 (aGd (decide ((0 : Nat) + (4 : Nat) ≤ (4 : Nat))) (some (((0 : Int), [], (0 : Int), (0 : Int)), (2 : Int))))
                                                (onGet a0 y0 fun z92 =>
                                                  aIf (Int.ofNat (UInt8.toNat z92) == (95 : Int))
                                                    (aGd (decide ((0 : Nat) + (4 : Nat) ≤ (4 : Nat))) (some (((0 : Int), [], (0 : Int), (0 : Int)), (2 : Int))))
                                                    (onGet a0 y0 fun z93 =>
                                                      aIf (Int.ofNat (UInt8.toNat z93) == (46 : Int))
                                                        (aGd (decide ((0 : Nat) + (4 : Nat) ≤ (4 : Nat))) (some (((0 : Int), [], (0 : Int), (0 : Int)), (2 : Int))))
                                                        (onSome (F47 N (List.drop (0 : Nat) (List.take (Int.toNat y0) a0))) fun y94 =>
                                                          aGd (decide ((2 : Nat) + (1 : Nat) ≤ (4 : Nat)))
                                                            (aIf (Prod.snd y94 != (0 : Int))
                                                              (aGd (decide ((0 : Nat) + (4 : Nat) ≤ (4 : Nat))) (some (((0 : Int), [], (0 : Int), (0 : Int)), (3 : Int))))
                                                              (aIf (decide ((1000000000000 : Int) < Prod.fst y94))
                                                                (aGd (decide ((0 : Nat) + (4 : Nat) ≤ (4 : Nat))) (some (((0 : Int), [], (0 : Int), (0 : Int)), (3 : Int))))
                                                                (aGd (decide ((0 : Nat) + (4 : Nat) ≤ (4 : Nat)))
                                                                  (some
                                                                    (((2 : Int), List.drop (0 : Nat) (List.take (Int.toNat y0) a0), Prod.fst y94, (0 : Int)), (0 : Int)))))))))))
                                    (onSome (F47 N (List.drop (0 : Nat) (List.take (Int.toNat y0) a0))) fun y95 =>
                                      aGd (decide ((2 : Nat) + (1 : Nat) ≤ (4 : Nat)))
                                        (aIf (Prod.snd y95 != (0 : Int))
                                          (aGd (decide ((0 : Nat) + (4 : Nat) ≤ (4 : Nat))) (some (((0 : Int), [], (0 : Int), (0 : Int)), (3 : Int))))
                                          (aIf (decide ((1000000000000 : Int) < Prod.fst y95))
                                            (aGd (decide ((0 : Nat) + (4 : Nat) ≤ (4 : Nat))) (some (((0 : Int), [], (0 : Int), (0 : Int)), (3 : Int))))
                                            (aGd (decide ((0 : Nat) + (4 : Nat) ≤ (4 : Nat)))
                                              (some (((2 : Int), List.drop (0 : Nat) (List.take (Int.toNat y0) a0), Prod.fst y95, (0 : Int)), (0 : Int)))))))))
                                (aIf (decide (y0 < Int.ofNat (List.length a0)))
                                  (onGet a0 y0 fun z96 =>
                                    onSome (F44 N (Int.ofNat (UInt8.toNat z96))) fun y97 =>
                                      aIf y97 (aGd (decide ((0 : Nat) + (4 : Nat) ≤ (4 : Nat))) (some (((0 : Int), [], (0 : Int), (0 : Int)), (2 : Int))))
                                        (onGet a0 y0 fun z98 =>
                                          onSome (F31 N (Int.ofNat (UInt8.toNat z98))) fun y99 =>
                                            aIf y99 (aGd (decide ((0 : Nat) + (4 : Nat) ≤ (4 : Nat))) (some (((0 : Int), [], (0 : Int), (0 : Int)), (2 : Int))))
                                              (onGet a0 y0 fun z100 =>
                                                aIf (Int.ofNat (UInt8.toNat z100) == (95 : Int))
                                                  (aGd (decide ((0 : Nat) + (4 : Nat) ≤ (4 : Nat))) (some (((0 : Int), [], (0 : Int), (0 : Int)), (2 : Int))))
                                                  (onGet a0 y0 fun z101 =>
                                                    aIf (Int.ofNat (UInt8.toNat z101) == (46 : Int))
                                                      (aGd (decide ((0 : Nat) + (4 : Nat) ≤ (4 : Nat))) (some (((0 : Int), [], (0 : Int), (0 : Int)), (2 : Int))))
                                                      (onSome (F47 N (List.drop (0 : Nat) (List.take (Int.toNat y0) a0))) fun y102 =>
                                                        aGd (decide ((2 : Nat) + (1 : Nat) ≤ (4 : Nat)))
                                                          (aIf (Prod.snd y102 != (0 : Int))
                                                            (aGd (decide ((0 : Nat) + (4 : Nat) ≤ (4 : Nat))) (some (((0 : Int), [], (0 : Int), (0 : Int)), (3 : Int))))
                                                            (aIf (decide ((1000000000000 : Int) < Prod.fst y102))
                                                              (aGd (decide ((0 : Nat) + (4 : Nat) ≤ (4 : Nat))) (some (((0 : Int), [], (0 : Int), (0 : Int)), (3 : Int))))
                                                              (aGd (decide ((0 : Nat) + (4 : Nat) ≤ (4 : Nat)))
                                                                (some (((2 : Int), List.drop (0 : Nat) (List.take (Int.toNat y0) a0), Prod.fst y102, (0 : Int)), (0 : Int)))))))))))
                                  (onSome (F47 N (List.drop (0 : Nat) (List.take (Int.toNat y0) a0))) fun y103 =>
                                    aGd (decide ((2 : Nat) + (1 : Nat) ≤ (4 : Nat)))
                                      (aIf (Prod.snd y103 != (0 : Int)) (aGd (decide ((0 : Nat) + (4 : Nat) ≤ (4 : Nat))) (some (((0 : Int), [], (0 : Int), (0 : Int)), (3 : Int))))
                                        (aIf (decide ((1000000000000 : Int) < Prod.fst y103))
                                          (aGd (decide ((0 : Nat) + (4 : Nat) ≤ (4 : Nat))) (some (((0 : Int), [], (0 : Int), (0 : Int)), (3 : Int))))
                                          (aGd (decide ((0 : Nat) + (4 : Nat) ≤ (4 : Nat)))
                                            (some (((2 : Int), List.drop (0 : Nat) (List.take (Int.toNat y0) a0), Prod.fst y103, (0 : Int)), (0 : Int))))))))))))))))))) := by kernel_rfl
noncomputable def C32 (N : Nat) : Callee := mkCallee A32 R32 (F32 N)
theorem S32 (N : Nat) : Cok 32 (C32 N) := cok_of (l := (E32 N).calls) (O := O32 N) (cok_cons (S17 N) (cok_cons (S31 N) (cok_cons (S42 N) (cok_cons (S43 N) (cok_cons (S44 N) (cok_cons (S45 N) (cok_cons (S46 N) (cok_cons (S47 N) cok_nil)))))))) rfl Try.func32 rfl (by kernel_rfl) (by kernel_rfl)

-- function 80
def A80 : Cods (Int) := (codsOne (codInt .i32))
def R80 : Cod (Bool) := codBool
noncomputable def E80 (N : Nat) : Env := ⟨Try.prog, []⟩
def O80 (N : Nat) : Opts := ⟨N, [], []⟩
noncomputable def F80 (N : Nat) (a : Int) : Option (Bool) := aTyped (E80 N) (O80 N) Try.f80 A80 R80 a
theorem F80_eq (N : Nat) (a0 : Int) : F80 N a0 =
    aIf (decide ((0 : Int) ≤ a0))
  (aIf (decide (a0 < (55296 : Int))) (some true) (aIf (decide ((57343 : Int) < a0)) (aIf (decide (a0 ≤ (1114111 : Int))) (some true) (some false)) (some false)))
  (aIf (decide ((57343 : Int) < a0)) (aIf (decide (a0 ≤ (1114111 : Int))) (some true) (some false)) (some false)) := by kernel_rfl
noncomputable def C80 (N : Nat) : Callee := mkCallee A80 R80 (F80 N)
theorem S80 (N : Nat) : Cok 80 (C80 N) := cok_of (l := (E80 N).calls) (O := O80 N) cok_nil rfl Try.func80 rfl (by kernel_rfl) (by kernel_rfl)

-- function 65
def A65 : Cods ((List UInt8) × Int) := (codsCons codStr (codsOne (codInt .i32)))
def R65 : Cod (Int) := (codInt .i64)
noncomputable def E65 (N : Nat) : Env := ⟨Try.prog, [(79, C79 N), (80, C80 N)]⟩
def O65 (N : Nat) : Opts := ⟨N, [(38, ⟨[175], [], [], 1⟩), (5, ⟨[0, 7, 8, 9], [], [], 0⟩), (12, ⟨[0, 7, 8, 9, 12], [], [], 0⟩), (25, ⟨[0, 7, 8, 9, 14, 15], [], [], 1000000⟩), (29, ⟨[0, 7, 8, 9, 14, 15, 16], [], [], 1000000⟩)], []⟩
noncomputable def F65 (N : Nat) (a : (List UInt8) × Int) : Option (Int) := aTyped (E65 N) (O65 N) Try.f65 A65 R65 a
noncomputable def L65_38 (N : Nat) (n : Nat) (x0 : List UInt8) (x1 : Nat) : Option Int :=
  atLoop (E65 N) (O65 N) Try.f65 [(1 : Nat), (0 : Nat), (1 : Nat), (1 : Nat), (1 : Nat), (0 : Nat), (0 : Nat), (1 : Nat), (0 : Nat)] [] n
  { tmps := Tm.of (nat_lit 187) [((175 : Nat), AV.it (0 : Nat))], heap := [Blk.iter x0 x1] } fun x => Cod.dec R65 x some
noncomputable def L65_5 (N : Nat) (n : Nat) (x0 : List UInt8) (x1 : List UInt8) (x2 : Int) (x3 : Int) : Option Int :=
  atLoop (E65 N) (O65 N) Try.f65
  [(1 : Nat), (0 : Nat), (1 : Nat), (1 : Nat), (1 : Nat), (1 : Nat), (1 : Nat), (1 : Nat), (0 : Nat), (1 : Nat), (1 : Nat), (1 : Nat), (1 : Nat), (0 : Nat), (0 : Nat)] [] n
  {
    tmps :=
      Tm.of (nat_lit 187) [((0 : Nat), AV.p (PV.str x0)), ((7 : Nat), AV.p (PV.str x1)), ((8 : Nat), AV.p (PV.int IntKind.i64 x2)), ((9 : Nat), AV.p (PV.int IntKind.i64 x3))],
    heap := [] }
  fun x => Cod.dec R65 x some
noncomputable def L65_12 (N : Nat) (n : Nat) (m0 : Nat) (x0 : List UInt8) (x1 : List UInt8) (x2 : Int) (x3 : Int) (x4 : Int) : Option Int :=
  atLoop (E65 N) (O65 N) Try.f65
  [(1 : Nat), (0 : Nat), (1 : Nat), (1 : Nat), (1 : Nat), (1 : Nat), (1 : Nat), (1 : Nat), (0 : Nat), (1 : Nat), (1 : Nat), (1 : Nat), (1 : Nat), (0 : Nat), (0 : Nat), (0 : Nat),
    (1 : Nat), (0 : Nat), (0 : Nat), (1 : Nat), (0 : Nat), (1 : Nat), (0 : Nat)]
  [m0] n
  {
    tmps :=
      Tm.of (nat_lit 187)
        [((0 : Nat), AV.p (PV.str x0)), ((7 : Nat), AV.p (PV.str x1)), ((8 : Nat), AV.p (PV.int IntKind.i64 x2)), ((9 : Nat), AV.p (PV.int IntKind.i64 x3)),
          ((12 : Nat), AV.p (PV.int IntKind.i64 x4))],
    heap := [] }
  fun x => Cod.dec R65 x some
theorem L65_38_eq (N : Nat) (n : Nat) (x0 : List UInt8) (x1 : Nat) : L65_38 N (n + 1) x0 x1 =
    aIf (decide (x1 < List.length x0))
  (aIf (Int.ofNat (Prod.fst (Utf8.decode { data := List.toArray x0 } x1)) == (65533 : Int)) (some (Int.ofNat x1))
    (L65_38 N n x0 (x1 + Prod.snd (Utf8.decode { data := List.toArray x0 } x1))))
  (some (-1 : Int)) := by kernel_rfl
theorem L65_38_zero (N : Nat) (x0 : List UInt8) (x1 : Nat) : L65_38 N 0 x0 x1 = none := by kernel_rfl
theorem L65_5_eq (N : Nat) (n : Nat) (x0 : List UInt8) (x1 : List UInt8) (x2 : Int) (x3 : Int) : L65_5 N (n + 1) x0 x1 x2 x3 =
    aIf (decide (x3 < Int.ofNat (List.length x0)))
  (onGet x0 x3 fun z3 =>
    onGet x1 x2 fun z4 =>
      aIf (Int.ofNat (UInt8.toNat z3) != Int.ofNat (UInt8.toNat z4))
        (aGd (decide ((0 : Int) ≤ IntKind.wrap IntKind.i64 (x3 + (1 : Int))))
          (aGd (decide (IntKind.wrap IntKind.i64 (x3 + (1 : Int)) ≤ Int.ofNat (List.length x0)))
            (onGet x1 x2 fun z5 =>
              onSome (F79 N (List.drop (Int.toNat (IntKind.wrap IntKind.i64 (x3 + (1 : Int)))) (List.take (List.length x0) x0), Int.ofNat (UInt8.toNat z5))) fun y6 =>
                aIf (decide (y6 < (0 : Int))) (some (-1 : Int)) (L65_12 N N n x0 x1 x2 (IntKind.wrap IntKind.i64 (x3 + IntKind.wrap IntKind.i64 (y6 + (1 : Int)))) (1 : Int)))))
        (L65_12 N N n x0 x1 x2 x3 (1 : Int)))
  (some (-1 : Int)) := by kernel_rfl
theorem L65_5_zero (N : Nat) (x0 : List UInt8) (x1 : List UInt8) (x2 : Int) (x3 : Int) : L65_5 N 0 x0 x1 x2 x3 = none := by kernel_rfl
theorem L65_12_eq (N : Nat) (n : Nat) (m0 : Nat) (x0 : List UInt8) (x1 : List UInt8) (x2 : Int) (x3 : Int) (x4 : Int) : L65_12 N (n + 1) m0 x0 x1 x2 x3 x4 =
    aIf (decide (x4 < Int.ofNat (List.length x1)))
  (onGet x0 (IntKind.wrap IntKind.i64 (x3 - x4)) fun z7 =>
    onGet x1 (IntKind.wrap IntKind.i64 (x2 - x4)) fun z8 =>
      aIf (Int.ofNat (UInt8.toNat z7) != Int.ofNat (UInt8.toNat z8)) none (L65_12 N n m0 x0 x1 x2 x3 (IntKind.wrap IntKind.i64 (x4 + (1 : Int)))))
  (some (IntKind.wrap IntKind.i64 (x3 - x2))) := by kernel_rfl
theorem L65_12_zero (N : Nat) (m0 : Nat) (x0 : List UInt8) (x1 : List UInt8) (x2 : Int) (x3 : Int) (x4 : Int) : L65_12 N 0 m0 x0 x1 x2 x3 x4 = none := by kernel_rfl
theorem F65_eq (N : Nat) (a0 : List UInt8) (a1 : Int) : F65 N (a0, a1) =
    aIf (decide ((0 : Int) ≤ a1))
  (aIf (decide (a1 < (128 : Int))) (onSome (F79 N (a0, IntKind.wrap IntKind.u8 a1)) fun y0 => some y0)
    (aIf (a1 == (65533 : Int)) (L65_38 N N a0 (0 : Nat))
      (onSome (F80 N a1) fun y1 =>
        aIf (!y1) (some (-1 : Int))
          (L65_5 N N a0 (Array.toList (ByteArray.data (Utf8.encode a1)))
            (IntKind.wrap IntKind.i64 (Int.ofNat (List.length (Array.toList (ByteArray.data (Utf8.encode a1)))) - (1 : Int)))
            (IntKind.wrap IntKind.i64 (Int.ofNat (List.length (Array.toList (ByteArray.data (Utf8.encode a1)))) - (1 : Int)))))))
  (aIf (a1 == (65533 : Int)) (L65_38 N N a0 (0 : Nat))
    (onSome (F80 N a1) fun y2 =>
      aIf (!y2) (some (-1 : Int))
        (L65_5 N N a0 (Array.toList (ByteArray.data (Utf8.encode a1)))
          (IntKind.wrap IntKind.i64 (Int.ofNat (List.length (Array.toList (ByteArray.data (Utf8.encode a1)))) - (1 : Int)))
          (IntKind.wrap IntKind.i64 (Int.ofNat (List.length (Array.toList (ByteArray.data (Utf8.encode a1)))) - (1 : Int)))))) := by kernel_rfl
noncomputable def C65 (N : Nat) : Callee := mkCallee A65 R65 (F65 N)
theorem S65 (N : Nat) : Cok 65 (C65 N) := cok_of (l := (E65 N).calls) (O := O65 N) (cok_cons (S79 N) (cok_cons (S80 N) cok_nil)) rfl Try.func65 rfl (by kernel_rfl) (by kernel_rfl)

-- function 66
def A66 : Cods (Int) := (codsOne (codInt .i64))
def R66 : Cod (Bool) := codBool
noncomputable def E66 (N : Nat) : Env := ⟨Try.prog, []⟩
def O66 (N : Nat) : Opts := ⟨N, [], []⟩
noncomputable def F66 (N : Nat) (a : Int) : Option (Bool) := aTyped (E66 N) (O66 N) Try.f66 A66 R66 a
theorem F66_eq (N : Nat) (a0 : Int) : F66 N a0 =
    some (decide ((8 : Int) < a0)) := by kernel_rfl
noncomputable def C66 (N : Nat) : Callee := mkCallee A66 R66 (F66 N)
theorem S66 (N : Nat) : Cok 66 (C66 N) := cok_of (l := (E66 N).calls) (O := O66 N) cok_nil rfl Try.func66 rfl (by kernel_rfl) (by kernel_rfl)

-- function 48
def A48b : Cods ((List UInt8) × List UInt8) := (codsCons codStr (codsOne codStr))
def R48b : Cod (Int) := (codInt .i64)
noncomputable def E48b (N : Nat) : Env := ⟨Try.prog, [(65, C65 N), (66, C66 N)]⟩
def O48b (N : Nat) : Opts := ⟨N, [(12, ⟨[0, 6, 8], [], [], 1000000⟩), (18, ⟨[1, 45], [], [], 1⟩)], []⟩
noncomputable def F48b (N : Nat) (a : (List UInt8) × List UInt8) : Option (Int) := aTyped (E48b N) (O48b N) Try.f48 A48b R48b a
noncomputable def L48b_18 (N : Nat) (n : Nat) (x0 : List UInt8) (x1 : List UInt8) (x2 : Nat) : Option Int :=
  atLoop (E48b N) (O48b N) Try.f48 [(1 : Nat), (1 : Nat), (1 : Nat), (1 : Nat), (0 : Nat), (1 : Nat), (0 : Nat)] [] n
  { tmps := Tm.of (nat_lit 55) [((1 : Nat), AV.p (PV.str x0)), ((45 : Nat), AV.it (0 : Nat))], heap := [Blk.iter x1 x2] } fun x => Cod.dec R48b x some
theorem L48b_18_eq (N : Nat) (n : Nat) (x0 : List UInt8) (x1 : List UInt8) (x2 : Nat) : L48b_18 N (n + 1) x0 x1 x2 =
    aIf (decide (x2 < List.length x1))
  (onSome (F65 N (x0, Int.ofNat (Prod.fst (Utf8.decode { data := List.toArray x1 } x2)))) fun y4 =>
    aIf (decide ((0 : Int) ≤ y4)) (some (Int.ofNat x2)) (L48b_18 N n x0 x1 (x2 + Prod.snd (Utf8.decode { data := List.toArray x1 } x2))))
  (some (-1 : Int)) := by kernel_rfl
theorem L48b_18_zero (N : Nat) (x0 : List UInt8) (x1 : List UInt8) (x2 : Nat) : L48b_18 N 0 x0 x1 x2 = none := by kernel_rfl
theorem F48b_eq (N : Nat) (a0 : List UInt8) (a1 : List UInt8) : F48b N (a0, a1) =
    aIf (a1 == []) (some (-1 : Int))
  (aIf (Int.ofNat (List.length a1) == (1 : Int))
    (onGet a1 (0 : Int) fun z0 =>
      aIf (decide ((128 : Int) ≤ IntKind.wrap IntKind.i32 (Int.ofNat (UInt8.toNat z0)))) (onSome (F65 N (a0, (65533 : Int))) fun y1 => some y1)
        (onSome (F65 N (a0, IntKind.wrap IntKind.i32 (Int.ofNat (UInt8.toNat z0)))) fun y2 => some y2))
    (onSome (F66 N (Int.ofNat (List.length a0))) fun y3 => aIf y3 none (L48b_18 N N a1 a0 (0 : Nat)))) := by kernel_rfl
noncomputable def C48b (N : Nat) : Callee := mkCallee A48b R48b (F48b N)
theorem S48b (N : Nat) : Cok 48 (C48b N) := cok_of (l := (E48b N).calls) (O := O48b N) (cok_cons (S65 N) (cok_cons (S66 N) cok_nil)) rfl Try.func48 rfl (by kernel_rfl) (by kernel_rfl)

-- function 48
noncomputable def F48 (N : Nat) (a : (List UInt8) × List UInt8) : Option Int := match long8 a with | true => F48a N a | false => F48b N a
noncomputable def C48 (N : Nat) : Callee := mkCallee A48a R48a (F48 N)
theorem S48 (N : Nat) : Cok 48 (C48 N) := mkCallee_sel (A := A48a) (R := R48a) long8 (S48a N) (S48b N)

-- function 33
def A33 : Cods (List UInt8) := (codsOne codStr)
def R33 : Cod (((Int) × (List UInt8) × (Int) × Int) × Int) := (codTup (codsCons (codAgg (codsCons (codInt .i64) (codsCons codStr (codsCons (codInt .i64) (codsOne (codInt .i64)))))) (codsOne (codInt .i64))))
noncomputable def E33 (N : Nat) : Env := ⟨Try.prog, [(48, C48 N), (17, C17 N), (49, C49 N)]⟩
def O33 (N : Nat) : Opts := ⟨N, [], []⟩
noncomputable def F33 (N : Nat) (a : List UInt8) : Option (((Int) × (List UInt8) × (Int) × Int) × Int) := aTyped (E33 N) (O33 N) Try.f33 A33 R33 a
theorem F33_eq (N : Nat) (a0 : List UInt8) : F33 N a0 =
    aGd (decide ((1 : Int) ≤ Int.ofNat (List.length a0)))
  (onSome (F48 N (List.drop (1 : Nat) (List.take (List.length a0) a0), [(34 : UInt8), (10 : UInt8)])) fun y0 =>
    aIf (decide (y0 < (0 : Int))) (aGd (decide ((0 : Nat) + (4 : Nat) ≤ (4 : Nat))) (some (((0 : Int), [], (0 : Int), (0 : Int)), (5 : Int))))
      (onGet a0 (IntKind.wrap IntKind.i64 (y0 + (1 : Int))) fun z1 =>
        aIf (Int.ofNat (UInt8.toNat z1) == (10 : Int)) (aGd (decide ((0 : Nat) + (4 : Nat) ≤ (4 : Nat))) (some (((0 : Int), [], (0 : Int), (0 : Int)), (5 : Int))))
          (aGd (decide ((0 : Int) ≤ IntKind.wrap IntKind.i64 (y0 + (1 : Int))))
            (aGd (decide (IntKind.wrap IntKind.i64 (y0 + (1 : Int)) ≤ Int.ofNat (List.length a0)))
              (aGd (decide ((1 : Int) ≤ Int.ofNat (Int.toNat (IntKind.wrap IntKind.i64 (y0 + (1 : Int))))))
                (onSome (F17c N (List.drop (1 : Nat) (List.take (Int.toNat (IntKind.wrap IntKind.i64 (y0 + (1 : Int)))) a0), PUnit.unit)) fun y2 =>
                  aIf (decide (y2 < Int.ofNat (List.length (List.drop (1 : Nat) (List.take (Int.toNat (IntKind.wrap IntKind.i64 (y0 + (1 : Int)))) a0)))))
                    (aGd (decide ((0 : Nat) + (4 : Nat) ≤ (4 : Nat))) (some (((0 : Int), [], (0 : Int), (0 : Int)), (2 : Int))))
                    (aIf (decide ((64 : Int) < Int.ofNat (List.length (List.drop (1 : Nat) (List.take (Int.toNat (IntKind.wrap IntKind.i64 (y0 + (1 : Int)))) a0)))))
                      (aGd (decide ((0 : Nat) + (4 : Nat) ≤ (4 : Nat))) (some (((0 : Int), [], (0 : Int), (0 : Int)), (4 : Int))))
                      (aGd (decide ((0 : Nat) + (4 : Nat) ≤ (4 : Nat)))
                        (some (((6 : Int), List.drop (1 : Nat) (List.take (Int.toNat (IntKind.wrap IntKind.i64 (y0 + (1 : Int)))) a0), (0 : Int), (0 : Int)), (0 : Int))))))))))) := by kernel_rfl
noncomputable def C33 (N : Nat) : Callee := mkCallee A33 R33 (F33 N)
theorem S33 (N : Nat) : Cok 33 (C33 N) := cok_of (l := (E33 N).calls) (O := O33 N) (cok_cons (S48 N) (cok_cons (S17 N) (cok_cons (S49 N) cok_nil))) rfl Try.func33 rfl (by kernel_rfl) (by kernel_rfl)

-- function 34
def A34 : Cods (List UInt8) := (codsOne codStr)
def R34 : Cod (((Int) × (List UInt8) × (Int) × Int) × Int) := (codTup (codsCons (codAgg (codsCons (codInt .i64) (codsCons codStr (codsCons (codInt .i64) (codsOne (codInt .i64)))))) (codsOne (codInt .i64))))
noncomputable def E34 (N : Nat) : Env := ⟨Try.prog, []⟩
def O34 (N : Nat) : Opts := ⟨N, [], []⟩
noncomputable def F34 (N : Nat) (a : List UInt8) : Option (((Int) × (List UInt8) × (Int) × Int) × Int) := aTyped (E34 N) (O34 N) Try.f34 A34 R34 a
theorem F34_eq (N : Nat) (a0 : List UInt8) : F34 N a0 =
    onGet a0 (0 : Int) fun z0 =>
  aIf (Int.ofNat (UInt8.toNat z0) == (33 : Int))
    (aIf (decide (Int.ofNat (List.length a0) < (2 : Int))) (aGd (decide ((0 : Nat) + (4 : Nat) ≤ (4 : Nat))) (some (((0 : Int), [], (0 : Int), (0 : Int)), (2 : Int))))
      (onGet a0 (1 : Int) fun z1 =>
        aIf (Int.ofNat (UInt8.toNat z1) != (61 : Int)) (aGd (decide ((0 : Nat) + (4 : Nat) ≤ (4 : Nat))) (some (((0 : Int), [], (0 : Int), (0 : Int)), (2 : Int))))
          (aIf (decide ((1 : Int) < Int.ofNat (List.length a0)))
            (onGet a0 (1 : Int) fun z2 =>
              aIf (Int.ofNat (UInt8.toNat z2) == (61 : Int))
                (aGd (decide ((2 : Int) ≤ Int.ofNat (List.length a0)))
                  (aGd (decide ((0 : Nat) + (4 : Nat) ≤ (4 : Nat))) (some (((7 : Int), List.drop (0 : Nat) (List.take (2 : Nat) a0), (0 : Int), (0 : Int)), (0 : Int)))))
                (aGd (decide ((1 : Int) ≤ Int.ofNat (List.length a0)))
                  (aGd (decide ((0 : Nat) + (4 : Nat) ≤ (4 : Nat))) (some (((7 : Int), List.drop (0 : Nat) (List.take (1 : Nat) a0), (0 : Int), (0 : Int)), (0 : Int))))))
            (aGd (decide ((1 : Int) ≤ Int.ofNat (List.length a0)))
              (aGd (decide ((0 : Nat) + (4 : Nat) ≤ (4 : Nat))) (some (((7 : Int), List.drop (0 : Nat) (List.take (1 : Nat) a0), (0 : Int), (0 : Int)), (0 : Int))))))))
    (aIf (Int.ofNat (UInt8.toNat z0) == (60 : Int))
      (aIf (Int.ofNat (UInt8.toNat z0) == (60 : Int))
        (aIf (decide ((1 : Int) < Int.ofNat (List.length a0)))
          (onGet a0 (1 : Int) fun z3 =>
            aIf (Int.ofNat (UInt8.toNat z3) == (61 : Int))
              (aGd (decide ((2 : Int) ≤ Int.ofNat (List.length a0)))
                (aGd (decide ((0 : Nat) + (4 : Nat) ≤ (4 : Nat))) (some (((7 : Int), List.drop (0 : Nat) (List.take (2 : Nat) a0), (0 : Int), (0 : Int)), (0 : Int)))))
              (aGd (decide ((1 : Int) ≤ Int.ofNat (List.length a0)))
                (aGd (decide ((0 : Nat) + (4 : Nat) ≤ (4 : Nat))) (some (((7 : Int), List.drop (0 : Nat) (List.take (1 : Nat) a0), (0 : Int), (0 : Int)), (0 : Int))))))
          (aGd (decide ((1 : Int) ≤ Int.ofNat (List.length a0)))
            (aGd (decide ((0 : Nat) + (4 : Nat) ≤ (4 : Nat))) (some (((7 : Int), List.drop (0 : Nat) (List.take (1 : Nat) a0), (0 : Int), (0 : Int)), (0 : Int))))))
        (aIf (Int.ofNat (UInt8.toNat z0) == (40 : Int))
          (aIf (Int.ofNat (UInt8.toNat z0) == (40 : Int))
            (aGd (decide ((1 : Int) ≤ Int.ofNat (List.length a0)))
              (aGd (decide ((0 : Nat) + (4 : Nat) ≤ (4 : Nat))) (some (((7 : Int), List.drop (0 : Nat) (List.take (1 : Nat) a0), (0 : Int), (0 : Int)), (0 : Int)))))
            (aGd (decide ((0 : Nat) + (4 : Nat) ≤ (4 : Nat))) (some (((0 : Int), [], (0 : Int), (0 : Int)), (2 : Int)))))
          (aIf (Int.ofNat (UInt8.toNat z0) == (41 : Int))
            (aIf (Int.ofNat (UInt8.toNat z0) == (41 : Int))
              (aGd (decide ((1 : Int) ≤ Int.ofNat (List.length a0)))
                (aGd (decide ((0 : Nat) + (4 : Nat) ≤ (4 : Nat))) (some (((7 : Int), List.drop (0 : Nat) (List.take (1 : Nat) a0), (0 : Int), (0 : Int)), (0 : Int)))))
              (aGd (decide ((0 : Nat) + (4 : Nat) ≤ (4 : Nat))) (some (((0 : Int), [], (0 : Int), (0 : Int)), (2 : Int)))))
            (aIf (Int.ofNat (UInt8.toNat z0) == (44 : Int))
              (aIf (Int.ofNat (UInt8.toNat z0) == (44 : Int))
                (aGd (decide ((1 : Int) ≤ Int.ofNat (List.length a0)))
                  (aGd (decide ((0 : Nat) + (4 : Nat) ≤ (4 : Nat))) (some (((7 : Int), List.drop (0 : Nat) (List.take (1 : Nat) a0), (0 : Int), (0 : Int)), (0 : Int)))))
                (aGd (decide ((0 : Nat) + (4 : Nat) ≤ (4 : Nat))) (some (((0 : Int), [], (0 : Int), (0 : Int)), (2 : Int)))))
              (aIf (Int.ofNat (UInt8.toNat z0) == (58 : Int))
                (aIf (Int.ofNat (UInt8.toNat z0) == (58 : Int))
                  (aGd (decide ((1 : Int) ≤ Int.ofNat (List.length a0)))
                    (aGd (decide ((0 : Nat) + (4 : Nat) ≤ (4 : Nat))) (some (((7 : Int), List.drop (0 : Nat) (List.take (1 : Nat) a0), (0 : Int), (0 : Int)), (0 : Int)))))
                  (aGd (decide ((0 : Nat) + (4 : Nat) ≤ (4 : Nat))) (some (((0 : Int), [], (0 : Int), (0 : Int)), (2 : Int)))))
                (aIf (Int.ofNat (UInt8.toNat z0) == (43 : Int))
                  (aIf (Int.ofNat (UInt8.toNat z0) == (43 : Int))
                    (aGd (decide ((1 : Int) ≤ Int.ofNat (List.length a0)))
                      (aGd (decide ((0 : Nat) + (4 : Nat) ≤ (4 : Nat))) (some (((7 : Int), List.drop (0 : Nat) (List.take (1 : Nat) a0), (0 : Int), (0 : Int)), (0 : Int)))))
                    (aGd (decide ((0 : Nat) + (4 : Nat) ≤ (4 : Nat))) (some (((0 : Int), [], (0 : Int), (0 : Int)), (2 : Int)))))
                  (aIf (Int.ofNat (UInt8.toNat z0) == (45 : Int))
                    (aIf (Int.ofNat (UInt8.toNat z0) == (45 : Int))
                      (aGd (decide ((1 : Int) ≤ Int.ofNat (List.length a0)))
                        (aGd (decide ((0 : Nat) + (4 : Nat) ≤ (4 : Nat))) (some (((7 : Int), List.drop (0 : Nat) (List.take (1 : Nat) a0), (0 : Int), (0 : Int)), (0 : Int)))))
                      (aGd (decide ((0 : Nat) + (4 : Nat) ≤ (4 : Nat))) (some (((0 : Int), [], (0 : Int), (0 : Int)), (2 : Int)))))
                    (aIf (Int.ofNat (UInt8.toNat z0) == (42 : Int))
                      (aGd (decide ((1 : Int) ≤ Int.ofNat (List.length a0)))
                        (aGd (decide ((0 : Nat) + (4 : Nat) ≤ (4 : Nat))) (some (((7 : Int), List.drop (0 : Nat) (List.take (1 : Nat) a0), (0 : Int), (0 : Int)), (0 : Int)))))
                      (aGd (decide ((0 : Nat) + (4 : Nat) ≤ (4 : Nat))) (some (((0 : Int), [], (0 : Int), (0 : Int)), (2 : Int))))))))))))
      (aIf (Int.ofNat (UInt8.toNat z0) == (61 : Int))
        (aIf (decide ((1 : Int) < Int.ofNat (List.length a0)))
          (onGet a0 (1 : Int) fun z4 =>
            aIf (Int.ofNat (UInt8.toNat z4) == (61 : Int))
              (aGd (decide ((2 : Int) ≤ Int.ofNat (List.length a0)))
                (aGd (decide ((0 : Nat) + (4 : Nat) ≤ (4 : Nat))) (some (((7 : Int), List.drop (0 : Nat) (List.take (2 : Nat) a0), (0 : Int), (0 : Int)), (0 : Int)))))
              (aGd (decide ((1 : Int) ≤ Int.ofNat (List.length a0)))
                (aGd (decide ((0 : Nat) + (4 : Nat) ≤ (4 : Nat))) (some (((7 : Int), List.drop (0 : Nat) (List.take (1 : Nat) a0), (0 : Int), (0 : Int)), (0 : Int))))))
          (aGd (decide ((1 : Int) ≤ Int.ofNat (List.length a0)))
            (aGd (decide ((0 : Nat) + (4 : Nat) ≤ (4 : Nat))) (some (((7 : Int), List.drop (0 : Nat) (List.take (1 : Nat) a0), (0 : Int), (0 : Int)), (0 : Int))))))
        (aIf (Int.ofNat (UInt8.toNat z0) == (40 : Int))
          (aIf (Int.ofNat (UInt8.toNat z0) == (40 : Int))
            (aGd (decide ((1 : Int) ≤ Int.ofNat (List.length a0)))
              (aGd (decide ((0 : Nat) + (4 : Nat) ≤ (4 : Nat))) (some (((7 : Int), List.drop (0 : Nat) (List.take (1 : Nat) a0), (0 : Int), (0 : Int)), (0 : Int)))))
            (aGd (decide ((0 : Nat) + (4 : Nat) ≤ (4 : Nat))) (some (((0 : Int), [], (0 : Int), (0 : Int)), (2 : Int)))))
          (aIf (Int.ofNat (UInt8.toNat z0) == (41 : Int))
            (aIf (Int.ofNat (UInt8.toNat z0) == (41 : Int))
              (aGd (decide ((1 : Int) ≤ Int.ofNat (List.length a0)))
                (aGd (decide ((0 : Nat) + (4 : Nat) ≤ (4 : Nat))) (some (((7 : Int), List.drop (0 : Nat) (List.take (1 : Nat) a0), (0 : Int), (0 : Int)), (0 : Int)))))
              (aGd (decide ((0 : Nat) + (4 : Nat) ≤ (4 : Nat))) (some (((0 : Int), [], (0 : Int), (0 : Int)), (2 : Int)))))
            (aIf (Int.ofNat (UInt8.toNat z0) == (44 : Int))
              (aIf (Int.ofNat (UInt8.toNat z0) == (44 : Int))
                (aGd (decide ((1 : Int) ≤ Int.ofNat (List.length a0)))
                  (aGd (decide ((0 : Nat) + (4 : Nat) ≤ (4 : Nat))) (some (((7 : Int), List.drop (0 : Nat) (List.take (1 : Nat) a0), (0 : Int), (0 : Int)), (0 : Int)))))
                (aGd (decide ((0 : Nat) + (4 : Nat) ≤ (4 : Nat))) (some (((0 : Int), [], (0 : Int), (0 : Int)), (2 : Int)))))
              (aIf (Int.ofNat (UInt8.toNat z0) == (58 : Int))
                (aIf (Int.ofNat (UInt8.toNat z0) == (58 : Int))
                  (aGd (decide ((1 : Int) ≤ Int.ofNat (List.length a0)))
                    (aGd (decide ((0 : Nat) + (4 : Nat) ≤ (4 : Nat))) (some (((7 : Int), List.drop (0 : Nat) (List.take (1 : Nat) a0), (0 : Int), (0 : Int)), (0 : Int)))))
                  (aGd (decide ((0 : Nat) + (4 : Nat) ≤ (4 : Nat))) (some (((0 : Int), [], (0 : Int), (0 : Int)), (2 : Int)))))
                (aIf (Int.ofNat (UInt8.toNat z0) == (43 : Int))
                  (aIf (Int.ofNat (UInt8.toNat z0) == (43 : Int))
                    (aGd (decide ((1 : Int) ≤ Int.ofNat (List.length a0)))
                      (aGd (decide ((0 : Nat) + (4 : Nat) ≤ (4 : Nat))) (some (((7 : Int), List.drop (0 : Nat) (List.take (1 : Nat) a0), (0 : Int), (0 : Int)), (0 : Int)))))
                    (aGd (decide ((0 : Nat) + (4 : Nat) ≤ (4 : Nat))) (some (((0 : Int), [], (0 : Int), (0 : Int)), (2 : Int)))))
                  (aIf (Int.ofNat (UInt8.toNat z0) == (45 : Int))
                    (aIf (Int.ofNat (UInt8.toNat z0) == (45 : Int))
                      (aGd (decide ((1 : Int) ≤ Int.ofNat (List.length a0)))
                        (aGd (decide ((0 : Nat) + (4 : Nat) ≤ (4 : Nat))) (some (((7 : Int), List.drop (0 : Nat) (List.take (1 : Nat) a0), (0 : Int), (0 : Int)), (0 : Int)))))
                      (aGd (decide ((0 : Nat) + (4 : Nat) ≤ (4 : Nat))) (some (((0 : Int), [], (0 : Int), (0 : Int)), (2 : Int)))))
                    (aIf (Int.ofNat (UInt8.toNat z0) == (42 : Int))
                      (aGd (decide ((1 : Int) ≤ Int.ofNat (List.length a0)))
                        (aGd (decide ((0 : Nat) + (4 : Nat) ≤ (4 : Nat))) (some (((7 : Int), List.drop (0 : Nat) (List.take (1 : Nat) a0), (0 : Int), (0 : Int)), (0 : Int)))))
                      (aGd (decide ((0 : Nat) + (4 : Nat) ≤ (4 : Nat))) (some (((0 : Int), [], (0 : Int), (0 : Int)), (2 : Int))))))))))))) := by kernel_rfl
noncomputable def C34 (N : Nat) : Callee := mkCallee A34 R34 (F34 N)
theorem S34 (N : Nat) : Cok 34 (C34 N) := cok_of (l := (E34 N).calls) (O := O34 N) cok_nil rfl Try.func34 rfl (by kernel_rfl) (by kernel_rfl)

-- function 19
def A19 : Cods (List UInt8) := (codsOne codStr)
def R19 : Cod (((Int) × (List UInt8) × (Int) × Int) × (Int) × Int) := (codTup (codsCons (codAgg (codsCons (codInt .i64) (codsCons codStr (codsCons (codInt .i64) (codsOne (codInt .i64)))))) (codsCons (codInt .i64) (codsOne (codInt .i64)))))
noncomputable def E19 (N : Nat) : Env := ⟨Try.prog, [(21, C21 N), (17, C17 N), (22, C22 N), (31, C31 N), (32, C32 N), (33, C33 N), (34, C34 N)]⟩
def O19 (N : Nat) : Opts := ⟨N, [], []⟩
noncomputable def F19 (N : Nat) (a : List UInt8) : Option (((Int) × (List UInt8) × (Int) × Int) × (Int) × Int) := aTyped (E19 N) (O19 N) Try.f19 A19 R19 a
theorem F19_eq (N : Nat) (a0 : List UInt8) : F19 N a0 =
    onGet a0 (0 : Int) fun z0 =>
  aIf (Int.ofNat (UInt8.toNat z0) == (10 : Int)) (aGd (decide ((0 : Nat) + (4 : Nat) ≤ (4 : Nat))) (some (((8 : Int), [(10 : UInt8)], (0 : Int), (0 : Int)), (1 : Int), (0 : Int))))
    (onSome (F21 N (Int.ofNat (UInt8.toNat z0))) fun y1 =>
      aIf y1
        (onSome (F17b N (a0, PUnit.unit)) fun y2 =>
          aIf (decide ((16 : Int) < y2)) (aGd (decide ((0 : Nat) + (4 : Nat) ≤ (4 : Nat))) (some (((0 : Int), [], (0 : Int), (0 : Int)), (0 : Int), (4 : Int))))
            (aGd (decide ((0 : Int) ≤ y2))
              (aGd (decide (y2 ≤ Int.ofNat (List.length a0)))
                (aGd (decide ((0 : Nat) + (4 : Nat) ≤ (4 : Nat))) (some (((1 : Int), List.drop (0 : Nat) (List.take (Int.toNat y2) a0), (0 : Int), (0 : Int)), y2, (0 : Int)))))))
        (onSome (F31 N (Int.ofNat (UInt8.toNat z0))) fun y3 =>
          aIf y3
            (onSome (F32 N a0) fun y4 =>
              aGd (decide ((0 : Nat) + (4 : Nat) ≤ (4 : Nat)))
                (aGd (decide ((0 : Nat) + (4 : Nat) ≤ (4 : Nat)))
                  (some
                    ((Prod.fst (Prod.fst y4), Prod.fst (Prod.snd (Prod.fst y4)), Prod.fst (Prod.snd (Prod.snd (Prod.fst y4))), Prod.snd (Prod.snd (Prod.snd (Prod.fst y4)))),
                      Int.ofNat (List.length (Prod.fst (Prod.snd (Prod.fst y4)))), Prod.snd y4))))
            (aIf (Int.ofNat (UInt8.toNat z0) == (34 : Int))
              (onSome (F33 N a0) fun y5 =>
                aGd (decide ((0 : Nat) + (4 : Nat) ≤ (4 : Nat)))
                  (aGd (decide ((0 : Nat) + (4 : Nat) ≤ (4 : Nat)))
                    (some
                      ((Prod.fst (Prod.fst y5), Prod.fst (Prod.snd (Prod.fst y5)), Prod.fst (Prod.snd (Prod.snd (Prod.fst y5))), Prod.snd (Prod.snd (Prod.snd (Prod.fst y5)))),
                        IntKind.wrap IntKind.i64 (Int.ofNat (List.length (Prod.fst (Prod.snd (Prod.fst y5)))) + (2 : Int)), Prod.snd y5))))
              (onSome (F34 N a0) fun y6 =>
                aGd (decide ((0 : Nat) + (4 : Nat) ≤ (4 : Nat)))
                  (aGd (decide ((0 : Nat) + (4 : Nat) ≤ (4 : Nat)))
                    (some
                      ((Prod.fst (Prod.fst y6), Prod.fst (Prod.snd (Prod.fst y6)), Prod.fst (Prod.snd (Prod.snd (Prod.fst y6))), Prod.snd (Prod.snd (Prod.snd (Prod.fst y6)))),
                        Int.ofNat (List.length (Prod.fst (Prod.snd (Prod.fst y6)))), Prod.snd y6))))))) := by kernel_rfl
noncomputable def C19 (N : Nat) : Callee := mkCallee A19 R19 (F19 N)
theorem S19 (N : Nat) : Cok 19 (C19 N) := cok_of (l := (E19 N).calls) (O := O19 N) (cok_cons (S21 N) (cok_cons (S17 N) (cok_cons (S22 N) (cok_cons (S31 N) (cok_cons (S32 N) (cok_cons (S33 N) (cok_cons (S34 N) cok_nil))))))) rfl Try.func19 rfl (by kernel_rfl) (by kernel_rfl)

-- function 9
def A9 : Cods (List UInt8) := (codsOne codStr)
def R9 : Cod ((List PV) × (Int) × Int) := (codTup (codsCons (codSl 4) (codsCons (codInt .i64) (codsOne (codInt .i64)))))
noncomputable def E9 (N : Nat) : Env := ⟨Try.prog, [(17, C17 N), (18, C18 N), (19, C19 N)]⟩
def O9 (N : Nat) : Opts := ⟨N, [(5, ⟨[0, 5, 6], [(5, 30, 4)], [], 1⟩)], []⟩
noncomputable def F9 (N : Nat) (a : List UInt8) : Option ((List PV) × (Int) × Int) := aTyped (E9 N) (O9 N) Try.f9 A9 R9 a
noncomputable def L9_5 (N : Nat) (n : Nat) (x0 : List UInt8) (x1 : Int) (x2 : List PV) : Option (List PV × Int × Int) :=
  atLoop (E9 N) (O9 N) Try.f9 [(1 : Nat), (1 : Nat), (1 : Nat), (0 : Nat), (1 : Nat), (0 : Nat)] [] n
  { tmps := Tm.of (nat_lit 55) [((0 : Nat), AV.p (PV.str x0)), ((5 : Nat), AV.own (0 : Nat)), ((6 : Nat), AV.p (PV.int IntKind.i64 x1))],
    heap := [Blk.row (30 : Nat) (4 : Nat) x2] }
  fun x => Cod.dec R9 x some
theorem L9_5_eq (N : Nat) (n : Nat) (x0 : List UInt8) (x1 : Int) (x2 : List PV) : L9_5 N (n + 1) x0 x1 x2 =
    aIf (decide (x1 < Int.ofNat (List.length x0)))
  (onGet x0 x1 fun z0 =>
    aIf (Int.ofNat (UInt8.toNat z0) == (32 : Int))
      (aIf (Int.ofNat (UInt8.toNat z0) == (32 : Int))
        (aGd
          (keptUnder (1 : Nat) [((0 : Nat), AV.p (PV.str x0)), ((5 : Nat), AV.own (0 : Nat)), ((6 : Nat), AV.p (PV.int IntKind.i64 (IntKind.wrap IntKind.i64 (x1 + (1 : Int)))))] &&
            underH (1 : Nat) (List.take (1 : Nat) [Blk.row (30 : Nat) (4 : Nat) x2]))
          (L9_5 N n x0 (IntKind.wrap IntKind.i64 (x1 + (1 : Int))) x2))
        (aIf (Int.ofNat (UInt8.toNat z0) == (35 : Int))
          (aGd (decide ((0 : Int) ≤ x1))
            (aGd (decide (x1 ≤ Int.ofNat (List.length x0)))
              (onSome (F17d N (List.drop (Int.toNat x1) (List.take (List.length x0) x0), PUnit.unit)) fun y1 =>
                aGd
                  (keptUnder (1 : Nat)
                      [((0 : Nat), AV.p (PV.str x0)), ((5 : Nat), AV.own (0 : Nat)), ((6 : Nat), AV.p (PV.int IntKind.i64 (IntKind.wrap IntKind.i64 (x1 + y1))))] &&
                    underH (1 : Nat) (List.take (1 : Nat) [Blk.row (30 : Nat) (4 : Nat) x2]))
                  (L9_5 N n x0 (IntKind.wrap IntKind.i64 (x1 + y1)) x2))))
          (aGd (decide ((0 : Int) ≤ x1))
            (aGd (decide (x1 ≤ Int.ofNat (List.length x0)))
              (onSome (F19 N (List.drop (Int.toNat x1) (List.take (List.length x0) x0))) fun y2 =>
                aGd (decide ((0 : Nat) + (4 : Nat) ≤ (4 : Nat)))
                  (aIf (Prod.snd (Prod.snd y2) != (0 : Int)) (some ([], x1, Prod.snd (Prod.snd y2)))
                    (aGd (decide ((3 : Nat) + (1 : Nat) ≤ (4 : Nat)))
                      (aGd (decide ((List.length x2 + (1 : Nat)) * (41 : Nat) ≤ (140737488355328 : Nat)))
                        (aGd
                          (keptUnder (1 : Nat)
                              [((0 : Nat), AV.p (PV.str x0)), ((5 : Nat), AV.own (0 : Nat)),
                                ((6 : Nat), AV.p (PV.int IntKind.i64 (IntKind.wrap IntKind.i64 (x1 + Prod.fst (Prod.snd y2)))))] &&
                            underH (1 : Nat)
                              (List.take (1 : Nat)
                                [Blk.row (30 : Nat) (4 : Nat)
                                    (x2 ++
                                      [PV.agg
                                          [PV.int IntKind.i64 (Prod.fst (Prod.fst y2)), PV.str (Prod.fst (Prod.snd (Prod.fst y2))),
                                            PV.int IntKind.i64 (Prod.fst (Prod.snd (Prod.snd (Prod.fst y2)))), PV.int IntKind.i64 x1]]),
                                  Blk.box
                                    [AV.p (PV.int IntKind.i64 (Prod.fst (Prod.fst y2))), AV.p (PV.str (Prod.fst (Prod.snd (Prod.fst y2)))),
                                      AV.p (PV.int IntKind.i64 (Prod.fst (Prod.snd (Prod.snd (Prod.fst y2))))), AV.p (PV.int IntKind.i64 x1)]]))
                          (L9_5 N n x0 (IntKind.wrap IntKind.i64 (x1 + Prod.fst (Prod.snd y2)))
                            (x2 ++
                              [PV.agg
                                  [PV.int IntKind.i64 (Prod.fst (Prod.fst y2)), PV.str (Prod.fst (Prod.snd (Prod.fst y2))),
                                    PV.int IntKind.i64 (Prod.fst (Prod.snd (Prod.snd (Prod.fst y2)))), PV.int IntKind.i64 x1]])))))))))))
      (aIf (Int.ofNat (UInt8.toNat z0) == (9 : Int))
        (aGd
          (keptUnder (1 : Nat) [((0 : Nat), AV.p (PV.str x0)), ((5 : Nat), AV.own (0 : Nat)), ((6 : Nat), AV.p (PV.int IntKind.i64 (IntKind.wrap IntKind.i64 (x1 + (1 : Int)))))] &&
            underH (1 : Nat) (List.take (1 : Nat) [Blk.row (30 : Nat) (4 : Nat) x2]))
          (L9_5 N n x0 (IntKind.wrap IntKind.i64 (x1 + (1 : Int))) x2))
        (aIf (Int.ofNat (UInt8.toNat z0) == (35 : Int))
          (aGd (decide ((0 : Int) ≤ x1))
            (aGd (decide (x1 ≤ Int.ofNat (List.length x0)))
              (onSome (F17d N (List.drop (Int.toNat x1) (List.take (List.length x0) x0), PUnit.unit)) fun y3 =>
                aGd
                  (keptUnder (1 : Nat)
                      [((0 : Nat), AV.p (PV.str x0)), ((5 : Nat), AV.own (0 : Nat)), ((6 : Nat), AV.p (PV.int IntKind.i64 (IntKind.wrap IntKind.i64 (x1 + y3))))] &&
                    underH (1 : Nat) (List.take (1 : Nat) [Blk.row (30 : Nat) (4 : Nat) x2]))
                  (L9_5 N n x0 (IntKind.wrap IntKind.i64 (x1 + y3)) x2))))
          (aGd (decide ((0 : Int) ≤ x1))
            (aGd (decide (x1 ≤ Int.ofNat (List.length x0)))
              (onSome (F19 N (List.drop (Int.toNat x1) (List.take (List.length x0) x0))) fun y4 =>
                aGd (decide ((0 : Nat) + (4 : Nat) ≤ (4 : Nat)))
                  (aIf (Prod.snd (Prod.snd y4) != (0 : Int)) (some ([], x1, Prod.snd (Prod.snd y4)))
                    (aGd (decide ((3 : Nat) + (1 : Nat) ≤ (4 : Nat)))
                      (aGd (decide ((List.length x2 + (1 : Nat)) * (41 : Nat) ≤ (140737488355328 : Nat)))
                        (aGd
                          (keptUnder (1 : Nat)
                              [((0 : Nat), AV.p (PV.str x0)), ((5 : Nat), AV.own (0 : Nat)),
                                ((6 : Nat), AV.p (PV.int IntKind.i64 (IntKind.wrap IntKind.i64 (x1 + Prod.fst (Prod.snd y4)))))] &&
                            underH (1 : Nat)
                              (List.take (1 : Nat)
                                [Blk.row (30 : Nat) (4 : Nat)
                                    (x2 ++
                                      [PV.agg
                                          [PV.int IntKind.i64 (Prod.fst (Prod.fst y4)), PV.str (Prod.fst (Prod.snd (Prod.fst y4))),
                                            PV.int IntKind.i64 (Prod.fst (Prod.snd (Prod.snd (Prod.fst y4)))), PV.int IntKind.i64 x1]]),
                                  Blk.box
                                    [AV.p (PV.int IntKind.i64 (Prod.fst (Prod.fst y4))), AV.p (PV.str (Prod.fst (Prod.snd (Prod.fst y4)))),
                                      AV.p (PV.int IntKind.i64 (Prod.fst (Prod.snd (Prod.snd (Prod.fst y4))))), AV.p (PV.int IntKind.i64 x1)]]))
                          (L9_5 N n x0 (IntKind.wrap IntKind.i64 (x1 + Prod.fst (Prod.snd y4)))
                            (x2 ++
                              [PV.agg
                                  [PV.int IntKind.i64 (Prod.fst (Prod.fst y4)), PV.str (Prod.fst (Prod.snd (Prod.fst y4))),
                                    PV.int IntKind.i64 (Prod.fst (Prod.snd (Prod.snd (Prod.fst y4)))), PV.int IntKind.i64 x1]]))))))))))))
  (some (x2, (0 : Int), (0 : Int))) := by kernel_rfl
theorem L9_5_zero (N : Nat) (x0 : List UInt8) (x1 : Int) (x2 : List PV) : L9_5 N 0 x0 x1 x2 = none := by kernel_rfl
theorem F9_eq (N : Nat) (a0 : List UInt8) : F9 N a0 =
    aIf (decide ((65536 : Int) < Int.ofNat (List.length a0))) (some ([], (0 : Int), (4 : Int)))
  (aGd
    (keptUnder (1 : Nat) [((0 : Nat), AV.p (PV.str a0)), ((5 : Nat), AV.own (0 : Nat)), ((6 : Nat), AV.p (PV.int IntKind.i64 (0 : Int)))] &&
      underH (1 : Nat) (List.take (1 : Nat) [Blk.row (30 : Nat) (4 : Nat) []]))
    (L9_5 N N a0 (0 : Int) [])) := by kernel_rfl
noncomputable def C9 (N : Nat) : Callee := mkCallee A9 R9 (F9 N)
theorem S9 (N : Nat) : Cok 9 (C9 N) := cok_of (l := (E9 N).calls) (O := O9 N) (cok_cons (S17 N) (cok_cons (S18 N) (cok_cons (S19 N) cok_nil))) rfl Try.func9 rfl (by kernel_rfl) (by kernel_rfl)

-- function 12
def A12 : Cods (List UInt8) := (codsOne codStr)
def R12 : Cod (Bool) := codBool
noncomputable def E12 (N : Nat) : Env := ⟨Try.prog, [(21, C21 N), (17, C17 N), (22, C22 N), (23, C23 N)]⟩
def O12 (N : Nat) : Opts := ⟨N, [], []⟩
noncomputable def F12 (N : Nat) (a : List UInt8) : Option (Bool) := aTyped (E12 N) (O12 N) Try.f12 A12 R12 a
theorem F12_eq (N : Nat) (a0 : List UInt8) : F12 N a0 =
    aIf (!a0 == [])
  (aIf (decide (Int.ofNat (List.length a0) ≤ (16 : Int)))
    (onGet a0 (0 : Int) fun z0 =>
      onSome (F21 N (Int.ofNat (UInt8.toNat z0))) fun y1 =>
        aIf y1
          (onSome (F17b N (a0, PUnit.unit)) fun y2 =>
            aIf (y2 == Int.ofNat (List.length a0))
              (aGd (decide ((1 : Nat) + List.length a0 ≤ (9223372036854775807 : Nat)))
                (aGd (decide (List.length ((32 : UInt8) :: List.append [] a0) + (1 : Nat) ≤ (9223372036854775807 : Nat)))
                  (onSome
                    (F23 N
                      ([(32 : UInt8), (105 : UInt8), (102 : UInt8), (32 : UInt8), (116 : UInt8), (104 : UInt8), (101 : UInt8), (110 : UInt8), (32 : UInt8), (101 : UInt8),
                          (108 : UInt8), (115 : UInt8), (101 : UInt8), (32 : UInt8), (111 : UInt8), (114 : UInt8), (32 : UInt8), (97 : UInt8), (110 : UInt8), (100 : UInt8),
                          (32 : UInt8), (110 : UInt8), (111 : UInt8), (116 : UInt8), (32 : UInt8), (116 : UInt8), (114 : UInt8), (117 : UInt8), (101 : UInt8), (32 : UInt8),
                          (102 : UInt8), (97 : UInt8), (108 : UInt8), (115 : UInt8), (101 : UInt8), (32 : UInt8), (116 : UInt8), (111 : UInt8), (100 : UInt8), (97 : UInt8),
                          (121 : UInt8), (32 : UInt8), (115 : UInt8), (104 : UInt8), (97 : UInt8), (114 : UInt8), (101 : UInt8), (32 : UInt8), (100 : UInt8), (105 : UInt8),
                          (118 : UInt8), (32 : UInt8), (114 : UInt8), (111 : UInt8), (117 : UInt8), (110 : UInt8), (100 : UInt8), (32 : UInt8), (109 : UInt8), (105 : UInt8),
                          (110 : UInt8), (32 : UInt8), (109 : UInt8), (97 : UInt8), (120 : UInt8), (32 : UInt8), (112 : UInt8), (108 : UInt8), (117 : UInt8), (115 : UInt8),
                          (32 : UInt8), (109 : UInt8), (111 : UInt8), (110 : UInt8), (116 : UInt8), (104 : UInt8), (115 : UInt8), (32 : UInt8), (100 : UInt8), (97 : UInt8),
                          (121 : UInt8), (115 : UInt8), (32 : UInt8), (121 : UInt8), (101 : UInt8), (97 : UInt8), (114 : UInt8), (115 : UInt8), (32 : UInt8), (121 : UInt8),
                          (101 : UInt8), (97 : UInt8), (114 : UInt8), (32 : UInt8), (109 : UInt8), (111 : UInt8), (110 : UInt8), (116 : UInt8), (104 : UInt8), (32 : UInt8),
                          (116 : UInt8), (97 : UInt8), (98 : UInt8), (32 : UInt8), (98 : UInt8), (97 : UInt8), (110 : UInt8), (100 : UInt8), (32 : UInt8), (99 : UInt8),
                          (111 : UInt8), (117 : UInt8), (110 : UInt8), (116 : UInt8), (32 : UInt8), (115 : UInt8), (117 : UInt8), (109 : UInt8), (32 : UInt8), (97 : UInt8),
                          (108 : UInt8), (108 : UInt8), (32 : UInt8), (97 : UInt8), (110 : UInt8), (121 : UInt8), (32 : UInt8), (109 : UInt8), (111 : UInt8), (115 : UInt8),
                          (116 : UInt8), (32 : UInt8), (101 : UInt8), (110 : UInt8), (117 : UInt8), (109 : UInt8), (32 : UInt8), (116 : UInt8), (97 : UInt8), (98 : UInt8),
                          (108 : UInt8), (101 : UInt8), (32 : UInt8), (114 : UInt8), (111 : UInt8), (119 : UInt8), (32 : UInt8), (115 : UInt8), (99 : UInt8), (111 : UInt8),
                          (112 : UInt8), (101 : UInt8), (32 : UInt8), (109 : UInt8), (101 : UInt8), (109 : UInt8), (98 : UInt8), (101 : UInt8), (114 : UInt8), (115 : UInt8),
                          (32 : UInt8), (105 : UInt8), (110 : UInt8), (112 : UInt8), (117 : UInt8), (116 : UInt8), (32 : UInt8), (100 : UInt8), (101 : UInt8), (102 : UInt8),
                          (32 : UInt8), (114 : UInt8), (117 : UInt8), (108 : UInt8), (101 : UInt8), (32 : UInt8), (111 : UInt8), (102 : UInt8), (32 : UInt8), (111 : UInt8),
                          (118 : UInt8), (101 : UInt8), (114 : UInt8), (32 : UInt8), (112 : UInt8), (114 : UInt8), (105 : UInt8), (111 : UInt8), (32 : UInt8), (102 : UInt8),
                          (114 : UInt8), (111 : UInt8), (109 : UInt8), (32 : UInt8), (116 : UInt8), (111 : UInt8), (32 : UInt8), (101 : UInt8), (110 : UInt8), (100 : UInt8),
                          (32 : UInt8), (119 : UInt8), (104 : UInt8), (101 : UInt8), (110 : UInt8), (32 : UInt8), (105 : UInt8), (115 : UInt8), (32 : UInt8), (115 : UInt8),
                          (114 : UInt8), (99 : UInt8), (32 : UInt8), (98 : UInt8), (111 : UInt8), (111 : UInt8), (108 : UInt8), (32 : UInt8), (105 : UInt8), (110 : UInt8),
                          (116 : UInt8), (32 : UInt8), (109 : UInt8), (111 : UInt8), (110 : UInt8), (101 : UInt8), (121 : UInt8), (32 : UInt8), (114 : UInt8), (97 : UInt8),
                          (116 : UInt8), (101 : UInt8), (32 : UInt8), (100 : UInt8), (97 : UInt8), (116 : UInt8), (101 : UInt8), (32 : UInt8), (100 : UInt8), (111 : UInt8),
                          (119 : UInt8), (110 : UInt8), (32 : UInt8), (117 : UInt8), (112 : UInt8), (32 : UInt8), (122 : UInt8), (101 : UInt8), (114 : UInt8), (111 : UInt8),
                          (32 : UInt8), (97 : UInt8), (119 : UInt8), (97 : UInt8), (121 : UInt8), (32 : UInt8), (104 : UInt8), (97 : UInt8), (108 : UInt8), (102 : UInt8),
                          (32 : UInt8), (101 : UInt8), (118 : UInt8), (101 : UInt8), (110 : UInt8), (32 : UInt8)],
                        (32 : UInt8) :: List.append (List.append [] a0) [(32 : UInt8)]))
                    fun y3 => some !y3)))
              (some false))
          (some false))
    (some false))
  (some false) := by kernel_rfl
noncomputable def C12 (N : Nat) : Callee := mkCallee A12 R12 (F12 N)
theorem S12 (N : Nat) : Cok 12 (C12 N) := cok_of (l := (E12 N).calls) (O := O12 N) (cok_cons (S21 N) (cok_cons (S17 N) (cok_cons (S22 N) (cok_cons (S23 N) cok_nil)))) rfl Try.func12 rfl (by kernel_rfl) (by kernel_rfl)

-- function 8
def A8 : Cods (Unit) := codsNil
def R8 : Cod (Bool) := codBool
noncomputable def E8 (N : Nat) : Env := ⟨Try.prog, [(9, C9 N), (12, C12 N)]⟩
def O8 (N : Nat) : Opts := ⟨N, [], []⟩
noncomputable def F8 (N : Nat) (a : Unit) : Option (Bool) := aTyped (E8 N) (O8 N) Try.f8 A8 R8 a
theorem F8_eq (N : Nat)  : F8 N () =
    onSome
  (F9 N
    [(100 : UInt8), (101 : UInt8), (102 : UInt8), (32 : UInt8), (97 : UInt8), (50 : UInt8), (32 : UInt8), (60 : UInt8), (61 : UInt8), (32 : UInt8), (49 : UInt8), (50 : UInt8),
      (46 : UInt8), (53 : UInt8), (48 : UInt8), (32 : UInt8), (35 : UInt8), (32 : UInt8), (120 : UInt8)])
  fun y0 =>
  aIf (Prod.snd (Prod.snd y0) != (0 : Int)) (some false)
    (aIf (Prod.fst (Prod.snd y0) != (0 : Int)) (some false)
      (aIf (Int.ofNat (List.length (Prod.fst y0)) != (4 : Int)) (some false)
        (onSome (F9 N [(48 : UInt8), (48 : UInt8), (55 : UInt8)]) fun y1 =>
          onSome
            (F9 N
              [(49 : UInt8), (32 : UInt8), (50 : UInt8), (48 : UInt8), (50 : UInt8), (52 : UInt8), (45 : UInt8), (48 : UInt8), (50 : UInt8), (45 : UInt8), (51 : UInt8),
                (48 : UInt8)])
            fun y2 =>
            onSome (F9 N [(97 : UInt8), (32 : UInt8), (34 : UInt8), (98 : UInt8)]) fun y3 =>
              aIf (Prod.fst (Prod.snd y1) != (0 : Int)) (some false)
                (aIf (Prod.snd (Prod.snd y1) != (2 : Int)) (some false)
                  (aIf (Prod.fst (Prod.snd y2) != (2 : Int)) (some false)
                    (aIf (Prod.snd (Prod.snd y2) != (3 : Int)) (some false)
                      (aIf (Prod.fst (Prod.snd y3) != (2 : Int)) (some false)
                        (aIf (Prod.snd (Prod.snd y3) != (5 : Int)) (some false)
                          (onGet (Prod.fst y0) (1 : Int) fun z4 =>
                            onCons (List.take (4 : Nat) (List.drop (0 : Nat) (PV.cells z4))) fun h5 t6 =>
                              onInt IntKind.i64 h5 fun n7 =>
                                onCons t6 fun h8 t9 =>
                                  onStr h8 fun u10 =>
                                    onCons t9 fun h11 t12 =>
                                      onInt IntKind.i64 h11 fun n13 =>
                                        onCons t12 fun h14 t15 =>
                                          onInt IntKind.i64 h14 fun n16 =>
                                            onNil t15
                                              (aIf (n7 == (1 : Int) && (u10 == [(97 : UInt8), (50 : UInt8)] && (n13 == (0 : Int) && (n16 == (4 : Int) && true))))
                                                (onGet (Prod.fst y0) (3 : Int) fun z17 =>
                                                  onCons (List.take (4 : Nat) (List.drop (0 : Nat) (PV.cells z17))) fun h18 t19 =>
                                                    onInt IntKind.i64 h18 fun n20 =>
                                                      onCons t19 fun h21 t22 =>
                                                        onStr h21 fun u23 =>
                                                          onCons t22 fun h24 t25 =>
                                                            onInt IntKind.i64 h24 fun n26 =>
                                                              onCons t25 fun h27 t28 =>
                                                                onInt IntKind.i64 h27 fun n29 =>
                                                                  onNil t28
                                                                    (aIf
                                                                      (n20 == (3 : Int) &&
                                                                        (u23 == [(49 : UInt8), (50 : UInt8), (46 : UInt8), (53 : UInt8), (48 : UInt8)] &&
                                                                          (n26 == (1250 : Int) && (n29 == (10 : Int) && true))))
                                                                      (onSome (F12 N [(112 : UInt8), (114 : UInt8), (105 : UInt8), (111 : UInt8)]) fun y30 =>
                                                                        aIf (!y30) (onSome (F12 N [(97 : UInt8), (50 : UInt8)]) fun y31 => some y31) (some false))
                                                                      (some false)))
                                                (some false))))))))))) := by kernel_rfl
def G8 (a : Unit) : Option (Bool) := some true
theorem K8 : F8 400 = G8 := funext fun _ => by kernel_rfl
noncomputable def C8 (N : Nat) : Callee := mkCallee A8 R8 G8
theorem S8 (N : Nat) : Cok 8 (C8 N) := by
  unfold C8
  rw [← K8]
  exact cok_of (l := (E8 400).calls) (O := O8 400) (cok_cons (S9 400) (cok_cons (S12 400) cok_nil)) rfl Try.func8 rfl (by kernel_rfl) (by kernel_rfl)

end Go.Proofs.Ytmnedpfilckilaa
