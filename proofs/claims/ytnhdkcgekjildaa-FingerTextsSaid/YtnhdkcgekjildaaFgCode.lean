/-
  The plain functions that runs of the code are: written by wip/gen/gen.py.
-/
import Derived.Test.YtnhdkcgekjildaaAmLaw
import Derived.Test.YtnhdkcgekjildaaFgSpec
import Derived.Test.YtnhdkcgekjildaaChecked
import Derived.KernelRfl
namespace Go.Proofs.Ytnhdkcgekjildaa
open Go.AM
set_option autoImplicit false
set_option linter.unusedVariables false
set_option maxRecDepth 100000
def Γ8 : ASpec := fun _ _ _ => none
theorem spec8 : SpecOK Try.prog Γ8 := by
  intro f vs hp v hp' h
  simp [Γ8] at h
def ir8_0 : IR := (.reg [⟨none, .mov 21 (.t 3)⟩,
    ⟨none, .bin 22 .shr (.t 21) (.c (.int .u64 1))⟩,
    ⟨none, .mov 23 (.t 5)⟩,
    ⟨none, .un 24 .neg (.t 23)⟩,
    ⟨none, .bin 25 .and (.c (.int .u64 13933329357911598997)) (.t 24)⟩,
    ⟨none, .bin 26 .xor (.t 22) (.t 25)⟩,
    ⟨none, .mov 3 (.t 26)⟩] [])
def ir8_1 : IR := (.reg [⟨none, .bin 27 .add (.t 17) (.c (.int .i64 1))⟩,
    ⟨none, .mov 17 (.t 27)⟩] [])
def ir8_2 : IR := (.seq (.block 3 (.seq (.reg [⟨none, .mov 19 (.t 3)⟩,
    ⟨none, .bin 20 .and (.t 19) (.c (.int .u64 1))⟩,
    ⟨none, .mov 5 (.t 20)⟩] []) ir8_0)) ir8_1)
def ir8_3 : IR := (.seq (.cond (.t 18) .skip (.exit 2)) ir8_2)
def ir8_4 : IR := (.seq (.reg [⟨none, .bin 18 .lss (.t 17) (.c (.int .i64 8))⟩] []) ir8_3)
def ir8_5 : IR := (.block 2 (.loop [0, 3, 7, 8, 17] ir8_4))
def ir8_6 : IR := (.seq (.reg [⟨none, .mov 17 (.c (.int .i64 0))⟩] []) ir8_5)
def ir8_7 : IR := (.seq (.reg [⟨none, .mov 11 (.t 3)⟩,
    ⟨none, .mov 12 (.t 0)⟩,
    ⟨none, .mov 13 (.t 4)⟩,
    ⟨none, .idx 14 (.t 12) (.t 13)⟩,
    ⟨none, .cvi 15 .u64 (.t 14)⟩,
    ⟨none, .bin 16 .xor (.t 11) (.t 15)⟩,
    ⟨none, .mov 3 (.t 16)⟩] []) ir8_6)
def ir8_8 : IR := (.reg [⟨none, .bin 28 .add (.t 8) (.c (.int .i64 1))⟩,
    ⟨none, .mov 8 (.t 28)⟩] [])
def ir8_9 : IR := (.seq (.block 1 (.seq (.reg [⟨none, .mov 10 (.t 8)⟩,
    ⟨none, .mov 4 (.t 10)⟩] []) ir8_7)) ir8_8)
def ir8_10 : IR := (.seq (.cond (.t 9) .skip (.exit 0)) ir8_9)
def ir8_11 : IR := (.seq (.reg [⟨none, .bin 9 .lss (.t 8) (.t 7)⟩] []) ir8_10)
def ir8_12 : IR := (.block 0 (.loop [0, 3, 7, 8] ir8_11))
def ir8_13 : IR := .ret
def ir8_14 : IR := (.seq (.reg [⟨none, .mov 29 (.t 3)⟩,
    ⟨none, .mov 2 (.t 29)⟩] []) ir8_13)
def ir8_15 : IR := (.seq (.seq (.reg [⟨none, .mov 6 (.t 0)⟩,
    ⟨none, .lens 7 (.t 6)⟩,
    ⟨none, .mov 8 (.c (.int .i64 0))⟩] []) ir8_12) ir8_14)
def ir8_16 : IR := (.seq (.reg [⟨none, .mov 3 (.c (.int .u64 13933329357911598997))⟩] []) ir8_15)
def ir8 : IR := (.seq (.reg [⟨none, .mov 2 (.c (.int .u64 0))⟩] []) ir8_16)
def rs8 : List RV := [.t 2]
theorem chk8 : (chkCode Try.prog ir8 (Try.f8.body.getD .skip) && chkRes Try.prog rs8 Try.f8.results.toList) = true := by kernel_rfl
theorem body8 : Try.f8.body = some (Try.f8.body.getD .skip) := by kernel_rfl
def mk8_0 (x : (List UInt8 × Int × Int × Int)) : St := { env := [.str x.1, .undef, .undef, .int .u64 x.2.1, .undef, .undef, .undef, .int .i64 x.2.2.1, .int .i64 x.2.2.2, .undef, .undef, .undef, .undef, .undef, .undef, .undef, .undef, .undef, .undef, .undef, .undef, .undef, .undef, .undef, .undef, .undef, .undef, .undef, .undef, .undef], hp := [] }
def mk8_1 (x : (List UInt8 × Int × Int × Int × Int)) : St := { env := [.str x.1, .undef, .undef, .int .u64 x.2.1, .undef, .undef, .undef, .int .i64 x.2.2.1, .int .i64 x.2.2.2.1, .undef, .undef, .undef, .undef, .undef, .undef, .undef, .undef, .int .i64 x.2.2.2.2, .undef, .undef, .undef, .undef, .undef, .undef, .undef, .undef, .undef, .undef, .undef, .undef], hp := [] }
def F8_1 (N : Nat) (again0 : St → Option (V × List AObj)) : (St → Option (V × List AObj)) → St → Option (V × List AObj) := fun again1 s => run Γ8 N ir8_4 (kloop again1 [0, 3, 7, 8, 17] (kblock 2 (kblock 1 (kseq (run Γ8 N ir8_8) (kloop again0 [0, 3, 7, 8] (kblock 0 (kseq (run Γ8 N ir8_14) (fin rs8)))))))) s
def B8_1 (N : Nat) (again0 : (List UInt8 × Int × Int × Int) → Option (V × List AObj)) (again1 : (List UInt8 × Int × Int × Int × Int) → Option (V × List AObj)) (x : (List UInt8 × Int × Int × Int × Int)) : Option (V × List AObj) :=
  let v0 : List UInt8 := x.1
  let v3 : Int := x.2.1
  let v7 : Int := x.2.2.1
  let v8 : Int := x.2.2.2.1
  let v17 : Int := x.2.2.2.2
  cond (decide (v17 < 8)) (
    chk (decide (0 ≤ 1)) (
      let x4 : Int := (IntKind.wrap .u64 (0 - (bitsI .and .u64 v3 1)))
      let x5 : Int := (bitsI .and .u64 13933329357911598997 x4)
      let x6 : Int := (bitsI .xor .u64 (shrI .u64 v3 1) x5)
      let x7 : Int := (IntKind.wrap .i64 (v17 + 1))
      again1 (v0, x6, v7, v8, x7))) (
    let x8 : Int := (IntKind.wrap .i64 (v8 + 1))
    again0 (v0, v3, v7, x8))
theorem FB8_1 (N : Nat) (again0 : St → Option (V × List AObj)) : ∀ (again1 : St → Option (V × List AObj)) (x : (List UInt8 × Int × Int × Int × Int)), F8_1 N again0 again1 (mk8_1 x) = B8_1 N (fun y => again0 (mk8_0 y)) (fun y => again1 (mk8_1 y)) x := by
  intro again1 x
  kernel_rfl
def F8_0 (N : Nat) : (St → Option (V × List AObj)) → St → Option (V × List AObj) := fun again0 s => run Γ8 N ir8_11 (kloop again0 [0, 3, 7, 8] (kblock 0 (kseq (run Γ8 N ir8_14) (fin rs8)))) s
def BA8_0 (N : Nat) (again0 : (List UInt8 × Int × Int × Int) → Option (V × List AObj)) (q1 : (List UInt8 × Int × Int × Int × Int) → Option (V × List AObj)) (x : (List UInt8 × Int × Int × Int)) : Option (V × List AObj) :=
  let v0 : List UInt8 := x.1
  let v3 : Int := x.2.1
  let v7 : Int := x.2.2.1
  let v8 : Int := x.2.2.2
  cond (decide (v8 < v7)) (
    chk ((decide (0 ≤ v8) && decide (v8 < ↑(List.length v0)))) (
      let x2 : Int := (↑(UInt8.toNat (List.getD v0 (Int.toNat v8) 0)) : Int)
      let x3 : Int := (bitsI .xor .u64 v3 (IntKind.wrap .u64 x2))
      q1 (v0, x3, v7, v8, 0))) (
    some (.int .u64 v3, []))
def B8_0 (N : Nat) (again0 : (List UInt8 × Int × Int × Int) → Option (V × List AObj)) (x : (List UInt8 × Int × Int × Int)) : Option (V × List AObj) := BA8_0 N again0 (fun z => iterL N (B8_1 N again0) z) x
theorem FB8_0 (N : Nat) : ∀ (again0 : St → Option (V × List AObj)) (x : (List UInt8 × Int × Int × Int)), F8_0 N again0 (mk8_0 x) = B8_0 N (fun y => again0 (mk8_0 y)) x := by
  intro again0 x
  have h : F8_0 N again0 (mk8_0 x) = BA8_0 N (fun y => again0 (mk8_0 y)) (fun z => loopN N (F8_1 N again0) (mk8_1 z)) x := by kernel_rfl
  have e1 : (fun z => loopN N (F8_1 N again0) (mk8_1 z)) = (fun z => iterL N (B8_1 N (fun y => again0 (mk8_0 y))) z) := funext fun z => loop_eq (mk8_1) (F8_1 N again0) (B8_1 N (fun y => again0 (mk8_0 y))) (FB8_1 N again0) N z
  rw [h, e1]
  rfl
/-- proclitic/finger.Of -/
def sa8 (N : Nat) (p0 : List UInt8) (q0 : (List UInt8 × Int × Int × Int) → Option (V × List AObj)) : Option (V × List AObj) :=
  let x1 : Int := (↑(List.length p0) : Int)
  q0 (p0, 13933329357911598997, x1, 0)
def sh8 (N : Nat) (p0 : List UInt8) : Option (V × List AObj) := sa8 N p0 (fun z => iterL N (B8_0 N) z)
theorem run8 (N : Nat) (p0 : List UInt8) : callF Γ8 N 30 rs8 ir8 [.str p0] [] = sh8 N p0 := by
  have h : callF Γ8 N 30 rs8 ir8 [.str p0] [] = sa8 N p0 (fun z => loopN N (F8_0 N) (mk8_0 z)) := by kernel_rfl
  have e0 : (fun z => loopN N (F8_0 N) (mk8_0 z)) = (fun z => iterL N (B8_0 N) z) := funext fun z => loop_eq (mk8_0) (F8_0 N) (B8_0 N) (FB8_0 N) N z
  rw [h, e0]
  rfl
theorem ok8 (hΓ : SpecOK Try.prog Γ8) (N : Nat) (p0 : List UInt8) {v : V} {hp : List AObj} (h : sh8 N p0 = some (v, hp)) : PureOK Try.prog 8 [.str p0] v := by
  have hc := chk8
  simp only [Bool.and_eq_true] at hc
  exact ⟨hp, fnOK_of hΓ Try.func8 body8 hc.1 hc.2 (by decide) ((run8 N p0).trans h)⟩

def Γ9 : ASpec := fun _ _ _ => none
theorem spec9 : SpecOK Try.prog Γ9 := by
  intro f vs hp v hp' h
  simp [Γ9] at h
def ir9_0 : IR := (.cond (.t 9) .skip (.exit 0))
def ir9_1 : IR := (.cond (.t 19) .skip (.exit 2))
def ir9_2 : IR := (.cond (.t 24) (.reg [⟨none, .mov 25 (.t 3)⟩,
    ⟨none, .bin 26 .quo (.t 25) (.c (.int .u64 2))⟩,
    ⟨none, .bin 27 .xor (.t 26) (.c (.int .u64 13933329357911598997))⟩,
    ⟨none, .mov 3 (.t 27)⟩] []) (.reg [⟨none, .mov 28 (.t 3)⟩,
    ⟨none, .bin 29 .quo (.t 28) (.c (.int .u64 2))⟩,
    ⟨none, .mov 3 (.t 29)⟩] []))
def ir9_3 : IR := (.reg [⟨none, .mov 20 (.t 5)⟩,
    ⟨none, .bin 21 .add (.t 20) (.c (.int .i64 1))⟩,
    ⟨none, .mov 5 (.t 21)⟩] [])
def ir9_4 : IR := (.seq (.block 3 (.seq (.reg [⟨none, .mov 22 (.t 3)⟩,
    ⟨none, .bin 23 .rem (.t 22) (.c (.int .u64 2))⟩,
    ⟨none, .bin 24 .eql (.t 23) (.c (.int .u64 1))⟩] []) ir9_2)) ir9_3)
def ir9_5 : IR := (.seq (.seq (.reg [⟨none, .mov 18 (.t 5)⟩,
    ⟨none, .bin 19 .lss (.t 18) (.c (.int .i64 8))⟩] []) ir9_1) ir9_4)
def ir9_6 : IR := (.block 2 (.loop [0, 3, 4, 5] ir9_5))
def ir9_7 : IR := (.seq (.reg [⟨none, .mov 5 (.c (.int .i64 0))⟩] []) ir9_6)
def ir9_8 : IR := (.reg [⟨none, .mov 10 (.t 4)⟩,
    ⟨none, .bin 11 .add (.t 10) (.c (.int .i64 1))⟩,
    ⟨none, .mov 4 (.t 11)⟩] [])
def ir9_9 : IR := (.seq (.block 1 (.seq (.reg [⟨none, .mov 12 (.t 3)⟩,
    ⟨none, .mov 13 (.t 0)⟩,
    ⟨none, .mov 14 (.t 4)⟩,
    ⟨none, .idx 15 (.t 13) (.t 14)⟩,
    ⟨none, .cvi 16 .u64 (.t 15)⟩,
    ⟨none, .bin 17 .xor (.t 12) (.t 16)⟩,
    ⟨none, .mov 3 (.t 17)⟩] []) ir9_7)) ir9_8)
def ir9_10 : IR := (.seq (.seq (.reg [⟨none, .mov 6 (.t 4)⟩,
    ⟨none, .mov 7 (.t 0)⟩,
    ⟨none, .lens 8 (.t 7)⟩,
    ⟨none, .bin 9 .lss (.t 6) (.t 8)⟩] []) ir9_0) ir9_9)
def ir9_11 : IR := (.block 0 (.loop [0, 3, 4] ir9_10))
def ir9_12 : IR := .ret
def ir9_13 : IR := (.seq (.reg [⟨none, .mov 30 (.t 3)⟩,
    ⟨none, .mov 2 (.t 30)⟩] []) ir9_12)
def ir9_14 : IR := (.seq (.seq (.reg [⟨none, .mov 4 (.c (.int .i64 0))⟩] []) ir9_11) ir9_13)
def ir9_15 : IR := (.seq (.reg [⟨none, .mov 3 (.c (.int .u64 13933329357911598997))⟩] []) ir9_14)
def ir9 : IR := (.seq (.reg [⟨none, .mov 2 (.c (.int .u64 0))⟩] []) ir9_15)
def rs9 : List RV := [.t 2]
theorem chk9 : (chkCode Try.prog ir9 (Try.f9.body.getD .skip) && chkRes Try.prog rs9 Try.f9.results.toList) = true := by kernel_rfl
theorem body9 : Try.f9.body = some (Try.f9.body.getD .skip) := by kernel_rfl
def mk9_0 (x : (List UInt8 × Int × Int)) : St := { env := [.str x.1, .undef, .undef, .int .u64 x.2.1, .int .i64 x.2.2, .undef, .undef, .undef, .undef, .undef, .undef, .undef, .undef, .undef, .undef, .undef, .undef, .undef, .undef, .undef, .undef, .undef, .undef, .undef, .undef, .undef, .undef, .undef, .undef, .undef, .undef], hp := [] }
def mk9_1 (x : (List UInt8 × Int × Int × Int)) : St := { env := [.str x.1, .undef, .undef, .int .u64 x.2.1, .int .i64 x.2.2.1, .int .i64 x.2.2.2, .undef, .undef, .undef, .undef, .undef, .undef, .undef, .undef, .undef, .undef, .undef, .undef, .undef, .undef, .undef, .undef, .undef, .undef, .undef, .undef, .undef, .undef, .undef, .undef, .undef], hp := [] }
def F9_1 (N : Nat) (again0 : St → Option (V × List AObj)) : (St → Option (V × List AObj)) → St → Option (V × List AObj) := fun again1 s => run Γ9 N ir9_5 (kloop again1 [0, 3, 4, 5] (kblock 2 (kblock 1 (kseq (run Γ9 N ir9_8) (kloop again0 [0, 3, 4] (kblock 0 (kseq (run Γ9 N ir9_13) (fin rs9)))))))) s
def B9_1 (N : Nat) (again0 : (List UInt8 × Int × Int) → Option (V × List AObj)) (again1 : (List UInt8 × Int × Int × Int) → Option (V × List AObj)) (x : (List UInt8 × Int × Int × Int)) : Option (V × List AObj) :=
  let v0 : List UInt8 := x.1
  let v3 : Int := x.2.1
  let v4 : Int := x.2.2.1
  let v5 : Int := x.2.2.2
  cond (decide (v5 < 8)) (
    chk ((!(2 == 0))) (
      cond ((Int.tmod v3 2) == 1) (
        chk ((!(2 == 0))) (
          let x4 : Int := (IntKind.wrap .u64 (Int.tdiv v3 2))
          let x5 : Int := (bitsI .xor .u64 x4 13933329357911598997)
          let x6 : Int := (IntKind.wrap .i64 (v5 + 1))
          again1 (v0, x5, v4, x6))) (
        chk ((!(2 == 0))) (
          let x7 : Int := (IntKind.wrap .u64 (Int.tdiv v3 2))
          let x8 : Int := (IntKind.wrap .i64 (v5 + 1))
          again1 (v0, x7, v4, x8))))) (
    let x9 : Int := (IntKind.wrap .i64 (v4 + 1))
    again0 (v0, v3, x9))
theorem FB9_1 (N : Nat) (again0 : St → Option (V × List AObj)) : ∀ (again1 : St → Option (V × List AObj)) (x : (List UInt8 × Int × Int × Int)), F9_1 N again0 again1 (mk9_1 x) = B9_1 N (fun y => again0 (mk9_0 y)) (fun y => again1 (mk9_1 y)) x := by
  intro again1 x
  kernel_rfl
def F9_0 (N : Nat) : (St → Option (V × List AObj)) → St → Option (V × List AObj) := fun again0 s => run Γ9 N ir9_10 (kloop again0 [0, 3, 4] (kblock 0 (kseq (run Γ9 N ir9_13) (fin rs9)))) s
def BA9_0 (N : Nat) (again0 : (List UInt8 × Int × Int) → Option (V × List AObj)) (q1 : (List UInt8 × Int × Int × Int) → Option (V × List AObj)) (x : (List UInt8 × Int × Int)) : Option (V × List AObj) :=
  let v0 : List UInt8 := x.1
  let v3 : Int := x.2.1
  let v4 : Int := x.2.2
  let x1 : Int := (↑(List.length v0) : Int)
  cond (decide (v4 < x1)) (
    chk ((decide (0 ≤ v4) && decide (v4 < ↑(List.length v0)))) (
      let x2 : Int := (↑(UInt8.toNat (List.getD v0 (Int.toNat v4) 0)) : Int)
      let x3 : Int := (bitsI .xor .u64 v3 (IntKind.wrap .u64 x2))
      q1 (v0, x3, v4, 0))) (
    some (.int .u64 v3, []))
def B9_0 (N : Nat) (again0 : (List UInt8 × Int × Int) → Option (V × List AObj)) (x : (List UInt8 × Int × Int)) : Option (V × List AObj) := BA9_0 N again0 (fun z => iterL N (B9_1 N again0) z) x
theorem FB9_0 (N : Nat) : ∀ (again0 : St → Option (V × List AObj)) (x : (List UInt8 × Int × Int)), F9_0 N again0 (mk9_0 x) = B9_0 N (fun y => again0 (mk9_0 y)) x := by
  intro again0 x
  have h : F9_0 N again0 (mk9_0 x) = BA9_0 N (fun y => again0 (mk9_0 y)) (fun z => loopN N (F9_1 N again0) (mk9_1 z)) x := by kernel_rfl
  have e1 : (fun z => loopN N (F9_1 N again0) (mk9_1 z)) = (fun z => iterL N (B9_1 N (fun y => again0 (mk9_0 y))) z) := funext fun z => loop_eq (mk9_1) (F9_1 N again0) (B9_1 N (fun y => again0 (mk9_0 y))) (FB9_1 N again0) N z
  rw [h, e1]
  rfl
/-- proclitic/procliticref1.Finger -/
def sa9 (N : Nat) (p0 : List UInt8) (q0 : (List UInt8 × Int × Int) → Option (V × List AObj)) : Option (V × List AObj) :=
  q0 (p0, 13933329357911598997, 0)
def sh9 (N : Nat) (p0 : List UInt8) : Option (V × List AObj) := sa9 N p0 (fun z => iterL N (B9_0 N) z)
theorem run9 (N : Nat) (p0 : List UInt8) : callF Γ9 N 31 rs9 ir9 [.str p0] [] = sh9 N p0 := by
  have h : callF Γ9 N 31 rs9 ir9 [.str p0] [] = sa9 N p0 (fun z => loopN N (F9_0 N) (mk9_0 z)) := by kernel_rfl
  have e0 : (fun z => loopN N (F9_0 N) (mk9_0 z)) = (fun z => iterL N (B9_0 N) z) := funext fun z => loop_eq (mk9_0) (F9_0 N) (B9_0 N) (FB9_0 N) N z
  rw [h, e0]
  rfl
theorem ok9 (hΓ : SpecOK Try.prog Γ9) (N : Nat) (p0 : List UInt8) {v : V} {hp : List AObj} (h : sh9 N p0 = some (v, hp)) : PureOK Try.prog 9 [.str p0] v := by
  have hc := chk9
  simp only [Bool.and_eq_true] at hc
  exact ⟨hp, fnOK_of hΓ Try.func9 body9 hc.1 hc.2 (by decide) ((run9 N p0).trans h)⟩

def Γ10 : ASpec := fun _ _ _ => none
theorem spec10 : SpecOK Try.prog Γ10 := by
  intro f vs hp v hp' h
  simp [Γ10] at h
def ir10_0 : IR := (.cond (.t 6) .skip (.exit 0))
def ir10_1 : IR := (.reg [⟨none, .mov 7 (.t 4)⟩,
    ⟨none, .bin 8 .sub (.t 7) (.c (.int .i64 4))⟩,
    ⟨none, .mov 4 (.t 8)⟩] [])
def ir10_2 : IR := (.seq (.block 1 (.reg [⟨none, .mov 9 (.tk 3)⟩,
    ⟨none, .mov 10 (.t 0)⟩,
    ⟨none, .mov 11 (.t 4)⟩,
    ⟨none, .bin 12 .shr (.t 10) (.t 11)⟩,
    ⟨none, .bin 13 .and (.t 12) (.c (.int .u64 15))⟩,
    ⟨none, .idx 14 (.c (.str ([48, 49, 50, 51, 52, 53, 54, 55, 56, 57, 97, 98, 99, 100, 101, 102] : List UInt8))) (.t 13)⟩,
    ⟨none, .bsl 15 .u8 [(.t 14)]⟩,
    ⟨none, .app 16 .u8 (.tk 9) (.t 15)⟩,
    ⟨none, .mov 3 (.tk 16)⟩] [])) ir10_1)
def ir10_3 : IR := (.seq (.seq (.reg [⟨none, .mov 5 (.t 4)⟩,
    ⟨none, .bin 6 .geq (.t 5) (.c (.int .i64 0))⟩] []) ir10_0) ir10_2)
def ir10_4 : IR := (.block 0 (.loop [0, 3, 4] ir10_3))
def ir10_5 : IR := .ret
def ir10_6 : IR := (.seq (.reg [⟨none, .mov 17 (.t 3)⟩,
    ⟨none, .b2s 18 (.t 17)⟩,
    ⟨none, .mov 2 (.t 18)⟩] []) ir10_5)
def ir10_7 : IR := (.seq (.seq (.reg [⟨none, .mov 4 (.c (.int .i64 60))⟩] []) ir10_4) ir10_6)
def ir10_8 : IR := (.seq (.reg [⟨none, .mov 3 (.c (.sl .u8 true ([] : List (Ty .u8))))⟩] []) ir10_7)
def ir10 : IR := (.seq (.reg [⟨none, .mov 2 (.c (.str ([] : List UInt8)))⟩] []) ir10_8)
def rs10 : List RV := [.t 2]
theorem chk10 : (chkCode Try.prog ir10 (Try.f10.body.getD .skip) && chkRes Try.prog rs10 Try.f10.results.toList) = true := by kernel_rfl
theorem body10 : Try.f10.body = some (Try.f10.body.getD .skip) := by kernel_rfl
def mk10_0 (x : (Int × List (Ty .u8) × Int)) : St := { env := [.int .u64 x.1, .undef, .undef, .sl .u8 true x.2.1, .int .i64 x.2.2, .undef, .undef, .undef, .undef, .undef, .undef, .undef, .undef, .undef, .undef, .undef, .undef, .undef, .undef], hp := [] }
def F10_0 (N : Nat) : (St → Option (V × List AObj)) → St → Option (V × List AObj) := fun again0 s => run Γ10 N ir10_3 (kloop again0 [0, 3, 4] (kblock 0 (kseq (run Γ10 N ir10_6) (fin rs10)))) s
def B10_0 (N : Nat) (again0 : (Int × List (Ty .u8) × Int) → Option (V × List AObj)) (x : (Int × List (Ty .u8) × Int)) : Option (V × List AObj) :=
  let v0 : Int := x.1
  let v3 : List (Ty .u8) := x.2.1
  let v4 : Int := x.2.2
  cond (decide (0 ≤ v4)) (
    chk (decide (0 ≤ v4)) (
      let x1 : Int := (bitsI .and .u64 (shrI .u64 v0 v4) 15)
      chk ((decide (0 ≤ x1) && decide (x1 < ↑(List.length ([48, 49, 50, 51, 52, 53, 54, 55, 56, 57, 97, 98, 99, 100, 101, 102] : List UInt8))))) (
        let x2 : Int := (↑(UInt8.toNat (List.getD ([48, 49, 50, 51, 52, 53, 54, 55, 56, 57, 97, 98, 99, 100, 101, 102] : List UInt8) (Int.toNat x1) 0)) : Int)
        chk (decide ((List.length v3 + List.length ([(UInt8.ofNat (Int.toNat x2))] : List (Ty .u8))) * EK.bytes .u8 ≤ reach)) (
          let x3 : List (Ty .u8) := (v3 ++ ([(UInt8.ofNat (Int.toNat x2))] : List (Ty .u8)))
          let x4 : Int := (IntKind.wrap .i64 (v4 - 4))
          again0 (v0, x3, x4))))) (
    some (.str v3, []))
theorem FB10_0 (N : Nat) : ∀ (again0 : St → Option (V × List AObj)) (x : (Int × List (Ty .u8) × Int)), F10_0 N again0 (mk10_0 x) = B10_0 N (fun y => again0 (mk10_0 y)) x := by
  intro again0 x
  kernel_rfl
/-- proclitic/finger.Text -/
def sa10 (N : Nat) (p0 : Int) (q0 : (Int × List (Ty .u8) × Int) → Option (V × List AObj)) : Option (V × List AObj) :=
  q0 (p0, ([] : List (Ty .u8)), 60)
def sh10 (N : Nat) (p0 : Int) : Option (V × List AObj) := sa10 N p0 (fun z => iterL N (B10_0 N) z)
theorem run10 (N : Nat) (p0 : Int) : callF Γ10 N 19 rs10 ir10 [.int .u64 p0] [] = sh10 N p0 := by
  have h : callF Γ10 N 19 rs10 ir10 [.int .u64 p0] [] = sa10 N p0 (fun z => loopN N (F10_0 N) (mk10_0 z)) := by kernel_rfl
  have e0 : (fun z => loopN N (F10_0 N) (mk10_0 z)) = (fun z => iterL N (B10_0 N) z) := funext fun z => loop_eq (mk10_0) (F10_0 N) (B10_0 N) (FB10_0 N) N z
  rw [h, e0]
  rfl
theorem ok10 (hΓ : SpecOK Try.prog Γ10) (N : Nat) (p0 : Int) {v : V} {hp : List AObj} (h : sh10 N p0 = some (v, hp)) : PureOK Try.prog 10 [.int .u64 p0] v := by
  have hc := chk10
  simp only [Bool.and_eq_true] at hc
  exact ⟨hp, fnOK_of hΓ Try.func10 body10 hc.1 hc.2 (by decide) ((run10 N p0).trans h)⟩

def Γ11 : ASpec := fun _ _ _ => none
theorem spec11 : SpecOK Try.prog Γ11 := by
  intro f vs hp v hp' h
  simp [Γ11] at h
def ir11_0 : IR := (.cond (.t 9) .skip (.exit 0))
def ir11_1 : IR := (.reg [⟨none, .mov 20 (.t 0)⟩,
    ⟨none, .bin 21 .quo (.t 20) (.c (.int .u64 16))⟩,
    ⟨none, .mov 0 (.t 21)⟩] [])
def ir11_2 : IR := (.reg [⟨none, .mov 10 (.t 6)⟩,
    ⟨none, .bin 11 .add (.t 10) (.c (.int .i64 1))⟩,
    ⟨none, .mov 6 (.t 11)⟩] [])
def ir11_3 : IR := (.seq (.block 1 (.seq (.reg [⟨none, .mov 12 (.t 0)⟩,
    ⟨none, .bin 13 .rem (.t 12) (.c (.int .u64 16))⟩,
    ⟨none, .mov 14 (.t 0)⟩,
    ⟨none, .bin 15 .rem (.t 14) (.c (.int .u64 16))⟩,
    ⟨none, .bin 16 .add (.t 15) (.c (.int .u64 1))⟩,
    ⟨none, .subs 17 (.c (.str ([48, 49, 50, 51, 52, 53, 54, 55, 56, 57, 97, 98, 99, 100, 101, 102] : List UInt8))) (some (.t 13)) (some (.t 16))⟩,
    ⟨none, .mov 18 (.t 5)⟩,
    ⟨none, .bin 19 .add (.t 17) (.t 18)⟩,
    ⟨none, .mov 5 (.t 19)⟩] []) ir11_1)) ir11_2)
def ir11_4 : IR := (.seq (.seq (.reg [⟨none, .mov 7 (.t 6)⟩,
    ⟨none, .mov 8 (.t 1)⟩,
    ⟨none, .bin 9 .lss (.t 7) (.t 8)⟩] []) ir11_0) ir11_3)
def ir11_5 : IR := (.block 0 (.loop [0, 1, 5, 6] ir11_4))
def ir11_6 : IR := .ret
def ir11_7 : IR := (.seq (.reg [⟨none, .mov 22 (.t 5)⟩,
    ⟨none, .mov 4 (.t 22)⟩] []) ir11_6)
def ir11_8 : IR := (.seq (.seq (.reg [⟨none, .mov 6 (.c (.int .i64 0))⟩] []) ir11_5) ir11_7)
def ir11_9 : IR := (.seq (.reg [⟨none, .mov 5 (.c (.str ([] : List UInt8)))⟩] []) ir11_8)
def ir11 : IR := (.seq (.reg [⟨none, .mov 4 (.c (.str ([] : List UInt8)))⟩] []) ir11_9)
def rs11 : List RV := [.t 4]
theorem chk11 : (chkCode Try.prog ir11 (Try.f11.body.getD .skip) && chkRes Try.prog rs11 Try.f11.results.toList) = true := by kernel_rfl
theorem body11 : Try.f11.body = some (Try.f11.body.getD .skip) := by kernel_rfl
def mk11_0 (x : (Int × Int × List UInt8 × Int)) : St := { env := [.int .u64 x.1, .int .i64 x.2.1, .undef, .undef, .undef, .str x.2.2.1, .int .i64 x.2.2.2, .undef, .undef, .undef, .undef, .undef, .undef, .undef, .undef, .undef, .undef, .undef, .undef, .undef, .undef, .undef, .undef], hp := [] }
def F11_0 (N : Nat) : (St → Option (V × List AObj)) → St → Option (V × List AObj) := fun again0 s => run Γ11 N ir11_4 (kloop again0 [0, 1, 5, 6] (kblock 0 (kseq (run Γ11 N ir11_7) (fin rs11)))) s
def B11_0 (N : Nat) (again0 : (Int × Int × List UInt8 × Int) → Option (V × List AObj)) (x : (Int × Int × List UInt8 × Int)) : Option (V × List AObj) :=
  let v0 : Int := x.1
  let v1 : Int := x.2.1
  let v5 : List UInt8 := x.2.2.1
  let v6 : Int := x.2.2.2
  cond (decide (v6 < v1)) (
    chk ((!(16 == 0))) (
      chk ((!(16 == 0))) (
        let x1 : Int := (IntKind.wrap .u64 ((Int.tmod v0 16) + 1))
        chk ((decide (0 ≤ x1) && decide (x1 ≤ (↑(List.length ([48, 49, 50, 51, 52, 53, 54, 55, 56, 57, 97, 98, 99, 100, 101, 102] : List UInt8)) : Int)) && (decide (0 ≤ (Int.tmod v0 16)) && decide ((Int.tmod v0 16) ≤ x1)))) (
          let x2 : List UInt8 := (List.drop (Int.toNat (Int.tmod v0 16)) (List.take (Int.toNat x1) ([48, 49, 50, 51, 52, 53, 54, 55, 56, 57, 97, 98, 99, 100, 101, 102] : List UInt8)))
          chk (decide (List.length x2 + List.length v5 ≤ maxI)) (
            chk ((!(16 == 0))) (
              let x3 : Int := (IntKind.wrap .u64 (Int.tdiv v0 16))
              let x4 : Int := (IntKind.wrap .i64 (v6 + 1))
              again0 (x3, v1, (x2 ++ v5), x4))))))) (
    some (.str v5, []))
theorem FB11_0 (N : Nat) : ∀ (again0 : St → Option (V × List AObj)) (x : (Int × Int × List UInt8 × Int)), F11_0 N again0 (mk11_0 x) = B11_0 N (fun y => again0 (mk11_0 y)) x := by
  intro again0 x
  kernel_rfl
/-- proclitic/procliticref1.Hex -/
def sa11 (N : Nat) (p0 : Int) (p1 : Int) (q0 : (Int × Int × List UInt8 × Int) → Option (V × List AObj)) : Option (V × List AObj) :=
  q0 (p0, p1, ([] : List UInt8), 0)
def sh11 (N : Nat) (p0 : Int) (p1 : Int) : Option (V × List AObj) := sa11 N p0 p1 (fun z => iterL N (B11_0 N) z)
theorem run11 (N : Nat) (p0 : Int) (p1 : Int) : callF Γ11 N 23 rs11 ir11 [.int .u64 p0, .int .i64 p1] [] = sh11 N p0 p1 := by
  have h : callF Γ11 N 23 rs11 ir11 [.int .u64 p0, .int .i64 p1] [] = sa11 N p0 p1 (fun z => loopN N (F11_0 N) (mk11_0 z)) := by kernel_rfl
  have e0 : (fun z => loopN N (F11_0 N) (mk11_0 z)) = (fun z => iterL N (B11_0 N) z) := funext fun z => loop_eq (mk11_0) (F11_0 N) (B11_0 N) (FB11_0 N) N z
  rw [h, e0]
  rfl
theorem ok11 (hΓ : SpecOK Try.prog Γ11) (N : Nat) (p0 : Int) (p1 : Int) {v : V} {hp : List AObj} (h : sh11 N p0 p1 = some (v, hp)) : PureOK Try.prog 11 [.int .u64 p0, .int .i64 p1] v := by
  have hc := chk11
  simp only [Bool.and_eq_true] at hc
  exact ⟨hp, fnOK_of hΓ Try.func11 body11 hc.1 hc.2 (by decide) ((run11 N p0 p1).trans h)⟩

def Γ7 : ASpec := fun f vs hp => match f, vs, hp with
  | 8, [.str a0], hp => some (true, .int .u64 (↑(fpOf a0) : Int), hp)
  | 10, [.int .u64 a0], hp => some (true, .str (hexN (Int.toNat a0) 16), hp)
  | _, _, _ => none
theorem spec7 (h8 : ∀ (a0 : List UInt8), PureOK Try.prog 8 [.str a0] (.int .u64 (↑(fpOf a0) : Int))) (h10 : ∀ (a0 : Int), PureOK Try.prog 10 [.int .u64 a0] (.str (hexN (Int.toNat a0) 16))) : SpecOK Try.prog Γ7 := by
  intro f vs hp v hp' h
  unfold Γ7 at h
  split at h
  · simp only [Option.some.injEq, Prod.mk.injEq] at h
    obtain ⟨hc, rfl, rfl⟩ := h
    exact (h8 _).frame rfl rfl _
  · simp only [Option.some.injEq, Prod.mk.injEq] at h
    obtain ⟨hc, rfl, rfl⟩ := h
    exact (h10 _).frame rfl rfl _
  · simp at h
def ir7_0 : IR := .ret
def ir7_1 : IR := (.seq (.reg [⟨none, .call (some 1) 8 [(.c (.str ([] : List UInt8)))]⟩,
    ⟨none, .bin 2 .eql (.t 1) (.c (.int .u64 13933329357911598997))⟩,
    ⟨none, .mov 3 (.t 2)⟩,
    ⟨some (3, true), .call (some 4) 10 [(.c (.int .u64 13933329357911598997))]⟩,
    ⟨some (3, true), .bin 5 .eql (.t 4) (.c (.str ([99, 49, 53, 100, 50, 49, 51, 97, 97, 52, 100, 55, 97, 55, 57, 53] : List UInt8)))⟩,
    ⟨none, .pick 6 (.t 3) (.t 5) (.c (.bool false))⟩,
    ⟨none, .mov 0 (.t 6)⟩] []) ir7_0)
def ir7 : IR := (.seq (.reg [⟨none, .mov 0 (.c (.bool false))⟩] []) ir7_1)
def rs7 : List RV := [.t 0]
theorem chk7 : (chkCode Try.prog ir7 (Try.f7.body.getD .skip) && chkRes Try.prog rs7 Try.f7.results.toList) = true := by kernel_rfl
theorem body7 : Try.f7.body = some (Try.f7.body.getD .skip) := by kernel_rfl
/-- proclitic/procliticlaw5.begun -/
def sa7 (N : Nat)   : Option (V × List AObj) :=
  let x1 : Int := (↑(fpOf ([] : List UInt8)) : Int)
  let x2 : Bool := (x1 == 13933329357911598997)
  cond x2 (
    let x3 : List UInt8 := (hexN (Int.toNat 13933329357911598997) 16)
    let x4 : Bool := decide (x3 = ([99, 49, 53, 100, 50, 49, 51, 97, 97, 52, 100, 55, 97, 55, 57, 53] : List UInt8))
    some (.bool x4, [])) (
    some (.bool false, []))
def sh7 (N : Nat)  : Option (V × List AObj) := sa7 N 
theorem run7 (N : Nat)  : callF Γ7 N 7 rs7 ir7 [] [] = sh7 N  := by kernel_rfl
theorem ok7 (hΓ : SpecOK Try.prog Γ7) (N : Nat)  {v : V} {hp : List AObj} (h : sh7 N  = some (v, hp)) : PureOK Try.prog 7 [] v := by
  have hc := chk7
  simp only [Bool.and_eq_true] at hc
  exact ⟨hp, fnOK_of hΓ Try.func7 body7 hc.1 hc.2 (by decide) ((run7 N ).trans h)⟩

def Γ3 : ASpec := fun f vs hp => match f, vs, hp with
  | 7, [], hp => some (true, .bool true, hp)
  | 8, [.str a0], hp => some (true, .int .u64 (↑(fpOf a0) : Int), hp)
  | 9, [.str a0], hp => some (true, .int .u64 (↑(fpOf a0) : Int), hp)
  | 10, [.int .u64 a0], hp => some (true, .str (hexN (Int.toNat a0) 16), hp)
  | 11, [.int .u64 a0, .int .i64 a1], hp => some (decide (a1 = 16), .str (hexN (Int.toNat a0) (Int.toNat a1)), hp)
  | _, _, _ => none
theorem spec3 (h7 : PureOK Try.prog 7 [] (.bool true)) (h8 : ∀ (a0 : List UInt8), PureOK Try.prog 8 [.str a0] (.int .u64 (↑(fpOf a0) : Int))) (h9 : ∀ (a0 : List UInt8), PureOK Try.prog 9 [.str a0] (.int .u64 (↑(fpOf a0) : Int))) (h10 : ∀ (a0 : Int), PureOK Try.prog 10 [.int .u64 a0] (.str (hexN (Int.toNat a0) 16))) (h11 : ∀ (a0 : Int) (a1 : Int), (decide (a1 = 16)) = true → PureOK Try.prog 11 [.int .u64 a0, .int .i64 a1] (.str (hexN (Int.toNat a0) (Int.toNat a1)))) : SpecOK Try.prog Γ3 := by
  intro f vs hp v hp' h
  unfold Γ3 at h
  split at h
  · simp only [Option.some.injEq, Prod.mk.injEq] at h
    obtain ⟨hc, rfl, rfl⟩ := h
    exact (h7 ).frame rfl rfl _
  · simp only [Option.some.injEq, Prod.mk.injEq] at h
    obtain ⟨hc, rfl, rfl⟩ := h
    exact (h8 _).frame rfl rfl _
  · simp only [Option.some.injEq, Prod.mk.injEq] at h
    obtain ⟨hc, rfl, rfl⟩ := h
    exact (h9 _).frame rfl rfl _
  · simp only [Option.some.injEq, Prod.mk.injEq] at h
    obtain ⟨hc, rfl, rfl⟩ := h
    exact (h10 _).frame rfl rfl _
  · simp only [Option.some.injEq, Prod.mk.injEq] at h
    obtain ⟨hc, rfl, rfl⟩ := h
    exact (h11 _ _ hc).frame rfl rfl _
  · simp at h
def ir3_0 : IR := .ret
def ir3_1 : IR := (.cond (.t 6) (.seq (.reg [⟨none, .mov 4 (.c (.bool false))⟩] []) ir3_0) .skip)
def ir3_2 : IR := .ret
def ir3_3 : IR := (.cond (.t 9) (.seq (.reg [⟨none, .mov 4 (.c (.bool true))⟩] []) ir3_2) .skip)
def ir3_4 : IR := .ret
def ir3_5 : IR := (.seq (.reg [⟨none, .mov 10 (.t 0)⟩,
    ⟨none, .call (some 11) 8 [(.t 10)]⟩,
    ⟨none, .mov 12 (.t 0)⟩,
    ⟨none, .call (some 13) 9 [(.t 12)]⟩,
    ⟨none, .bin 14 .eql (.t 11) (.t 13)⟩,
    ⟨none, .mov 15 (.t 14)⟩,
    ⟨some (15, true), .mov 16 (.t 1)⟩,
    ⟨some (15, true), .call (some 17) 10 [(.t 16)]⟩,
    ⟨some (15, true), .mov 18 (.t 1)⟩,
    ⟨some (15, true), .call (some 19) 11 [(.t 18), (.c (.int .i64 16))]⟩,
    ⟨some (15, true), .bin 20 .eql (.t 17) (.t 19)⟩,
    ⟨none, .pick 21 (.t 15) (.t 20) (.c (.bool false))⟩,
    ⟨none, .mov 4 (.t 21)⟩] []) ir3_4)
def ir3_6 : IR := (.seq (.seq (.reg [⟨none, .mov 7 (.t 0)⟩,
    ⟨none, .lens 8 (.t 7)⟩,
    ⟨none, .bin 9 .gtr (.t 8) (.c (.int .i64 100))⟩] []) ir3_3) ir3_5)
def ir3_7 : IR := (.seq (.seq (.reg [⟨none, .call (some 5) 7 []⟩,
    ⟨none, .un 6 .not (.t 5)⟩] []) ir3_1) ir3_6)
def ir3 : IR := (.seq (.reg [⟨none, .mov 4 (.c (.bool false))⟩] []) ir3_7)
def rs3 : List RV := [.t 4]
theorem chk3 : (chkCode Try.prog ir3 (Try.f3.body.getD .skip) && chkRes Try.prog rs3 Try.f3.results.toList) = true := by kernel_rfl
theorem body3 : Try.f3.body = some (Try.f3.body.getD .skip) := by kernel_rfl
/-- proclitic/procliticlaw5.FingerAll -/
def sa3 (N : Nat) (p0 : List UInt8) (p1 : Int)  : Option (V × List AObj) :=
  let x1 : Int := (↑(List.length p0) : Int)
  cond (decide (100 < x1)) (
    some (.bool true, [])) (
    let x2 : Bool := ((↑(fpOf p0) : Int) == (↑(fpOf p0) : Int))
    cond x2 (
      chk (decide (16 = 16)) (
        let x3 : List UInt8 := (hexN (Int.toNat p1) (Int.toNat 16))
        let x4 : Bool := decide ((hexN (Int.toNat p1) 16) = x3)
        some (.bool x4, []))) (
      some (.bool false, [])))
def sh3 (N : Nat) (p0 : List UInt8) (p1 : Int) : Option (V × List AObj) := sa3 N p0 p1
theorem run3 (N : Nat) (p0 : List UInt8) (p1 : Int) : callF Γ3 N 22 rs3 ir3 [.str p0, .int .u64 p1] [] = sh3 N p0 p1 := by kernel_rfl
theorem ok3 (hΓ : SpecOK Try.prog Γ3) (N : Nat) (p0 : List UInt8) (p1 : Int) {v : V} {hp : List AObj} (h : sh3 N p0 p1 = some (v, hp)) : PureOK Try.prog 3 [.str p0, .int .u64 p1] v := by
  have hc := chk3
  simp only [Bool.and_eq_true] at hc
  exact ⟨hp, fnOK_of hΓ Try.func3 body3 hc.1 hc.2 (by decide) ((run3 N p0 p1).trans h)⟩

def Γ6 : ASpec := fun f vs hp => match f, vs, hp with
  | 7, [], hp => some (true, .bool true, hp)
  | 10, [.int .u64 a0], hp => some (true, .str (hexN (Int.toNat a0) 16), hp)
  | _, _, _ => none
theorem spec6 (h7 : PureOK Try.prog 7 [] (.bool true)) (h10 : ∀ (a0 : Int), PureOK Try.prog 10 [.int .u64 a0] (.str (hexN (Int.toNat a0) 16))) : SpecOK Try.prog Γ6 := by
  intro f vs hp v hp' h
  unfold Γ6 at h
  split at h
  · simp only [Option.some.injEq, Prod.mk.injEq] at h
    obtain ⟨hc, rfl, rfl⟩ := h
    exact (h7 ).frame rfl rfl _
  · simp only [Option.some.injEq, Prod.mk.injEq] at h
    obtain ⟨hc, rfl, rfl⟩ := h
    exact (h10 _).frame rfl rfl _
  · simp at h
def ir6_0 : IR := .ret
def ir6_1 : IR := (.cond (.t 8) (.seq (.reg [⟨none, .mov 2 (.c (.bool false))⟩] []) ir6_0) .skip)
def ir6_2 : IR := .ret
def ir6_3 : IR := (.cond (.t 13) (.seq (.reg [⟨none, .mov 2 (.c (.bool false))⟩] []) ir6_2) .skip)
def ir6_4 : IR := (.cond (.t 15) .skip (.exit 0))
def ir6_5 : IR := .ret
def ir6_6 : IR := (.cond (.t 34) (.reg [⟨none, .mov 41 (.t 4)⟩,
    ⟨none, .bin 42 .shl (.t 41) (.c (.int .u64 4))⟩,
    ⟨none, .mov 43 (.t 6)⟩,
    ⟨none, .bin 44 .sub (.t 43) (.c (.int .u8 97))⟩,
    ⟨none, .bin 45 .add (.t 44) (.c (.int .u8 10))⟩,
    ⟨none, .cvi 46 .u64 (.t 45)⟩,
    ⟨none, .bin 47 .or (.t 42) (.t 46)⟩,
    ⟨none, .mov 4 (.t 47)⟩] []) (.seq (.reg [⟨none, .mov 2 (.c (.bool false))⟩] []) ir6_5))
def ir6_7 : IR := (.cond (.t 21) (.reg [⟨none, .mov 28 (.t 4)⟩,
    ⟨none, .bin 29 .shl (.t 28) (.c (.int .u64 4))⟩,
    ⟨none, .mov 30 (.t 6)⟩,
    ⟨none, .bin 31 .sub (.t 30) (.c (.int .u8 48))⟩,
    ⟨none, .cvi 32 .u64 (.t 31)⟩,
    ⟨none, .bin 33 .or (.t 29) (.t 32)⟩,
    ⟨none, .mov 4 (.t 33)⟩] []) (.seq (.reg [⟨none, .mov 35 (.t 6)⟩,
    ⟨none, .bin 36 .geq (.t 35) (.c (.int .u8 97))⟩,
    ⟨none, .mov 37 (.t 36)⟩,
    ⟨some (37, true), .mov 38 (.t 6)⟩,
    ⟨some (37, true), .bin 39 .leq (.t 38) (.c (.int .u8 102))⟩,
    ⟨none, .pick 40 (.t 37) (.t 39) (.c (.bool false))⟩,
    ⟨none, .mov 34 (.t 40)⟩] []) ir6_6))
def ir6_8 : IR := (.block 2 (.seq (.reg [⟨none, .mov 22 (.t 6)⟩,
    ⟨none, .bin 23 .geq (.t 22) (.c (.int .u8 48))⟩,
    ⟨none, .mov 24 (.t 23)⟩,
    ⟨some (24, true), .mov 25 (.t 6)⟩,
    ⟨some (24, true), .bin 26 .leq (.t 25) (.c (.int .u8 57))⟩,
    ⟨none, .pick 27 (.t 24) (.t 26) (.c (.bool false))⟩,
    ⟨none, .mov 21 (.t 27)⟩] []) ir6_7))
def ir6_9 : IR := (.reg [⟨none, .mov 16 (.t 5)⟩,
    ⟨none, .bin 17 .add (.t 16) (.c (.int .i64 1))⟩,
    ⟨none, .mov 5 (.t 17)⟩] [])
def ir6_10 : IR := (.seq (.block 1 (.seq (.reg [⟨none, .mov 18 (.t 3)⟩,
    ⟨none, .mov 19 (.t 5)⟩,
    ⟨none, .idx 20 (.t 18) (.t 19)⟩,
    ⟨none, .mov 6 (.t 20)⟩] []) ir6_8)) ir6_9)
def ir6_11 : IR := (.seq (.seq (.reg [⟨none, .mov 14 (.t 5)⟩,
    ⟨none, .bin 15 .lss (.t 14) (.c (.int .i64 16))⟩] []) ir6_4) ir6_10)
def ir6_12 : IR := (.block 0 (.loop [0, 3, 4, 5] ir6_11))
def ir6_13 : IR := .ret
def ir6_14 : IR := (.seq (.reg [⟨none, .mov 48 (.t 4)⟩,
    ⟨none, .mov 49 (.t 0)⟩,
    ⟨none, .bin 50 .eql (.t 48) (.t 49)⟩,
    ⟨none, .mov 2 (.t 50)⟩] []) ir6_13)
def ir6_15 : IR := (.seq (.seq (.reg [⟨none, .mov 5 (.c (.int .i64 0))⟩] []) ir6_12) ir6_14)
def ir6_16 : IR := (.seq (.reg [⟨none, .mov 4 (.c (.int .u64 0))⟩] []) ir6_15)
def ir6_17 : IR := (.seq (.seq (.reg [⟨none, .mov 11 (.t 3)⟩,
    ⟨none, .lens 12 (.t 11)⟩,
    ⟨none, .bin 13 .neq (.t 12) (.c (.int .i64 16))⟩] []) ir6_3) ir6_16)
def ir6_18 : IR := (.seq (.reg [⟨none, .mov 9 (.t 0)⟩,
    ⟨none, .call (some 10) 10 [(.t 9)]⟩,
    ⟨none, .mov 3 (.t 10)⟩] []) ir6_17)
def ir6_19 : IR := (.seq (.seq (.reg [⟨none, .call (some 7) 7 []⟩,
    ⟨none, .un 8 .not (.t 7)⟩] []) ir6_1) ir6_18)
def ir6 : IR := (.seq (.reg [⟨none, .mov 2 (.c (.bool false))⟩] []) ir6_19)
def rs6 : List RV := [.t 2]
theorem chk6 : (chkCode Try.prog ir6 (Try.f6.body.getD .skip) && chkRes Try.prog rs6 Try.f6.results.toList) = true := by kernel_rfl
theorem body6 : Try.f6.body = some (Try.f6.body.getD .skip) := by kernel_rfl
def mk6_0 (x : (Int × List UInt8 × Int × Int)) : St := { env := [.int .u64 x.1, .undef, .undef, .str x.2.1, .int .u64 x.2.2.1, .int .i64 x.2.2.2, .undef, .undef, .undef, .undef, .undef, .undef, .undef, .undef, .undef, .undef, .undef, .undef, .undef, .undef, .undef, .undef, .undef, .undef, .undef, .undef, .undef, .undef, .undef, .undef, .undef, .undef, .undef, .undef, .undef, .undef, .undef, .undef, .undef, .undef, .undef, .undef, .undef, .undef, .undef, .undef, .undef, .undef, .undef, .undef, .undef], hp := [] }
def F6_0 (N : Nat) : (St → Option (V × List AObj)) → St → Option (V × List AObj) := fun again0 s => run Γ6 N ir6_11 (kloop again0 [0, 3, 4, 5] (kblock 0 (kseq (run Γ6 N ir6_14) (fin rs6)))) s
def B6_0 (N : Nat) (again0 : (Int × List UInt8 × Int × Int) → Option (V × List AObj)) (x : (Int × List UInt8 × Int × Int)) : Option (V × List AObj) :=
  let v0 : Int := x.1
  let v3 : List UInt8 := x.2.1
  let v4 : Int := x.2.2.1
  let v5 : Int := x.2.2.2
  cond (decide (v5 < 16)) (
    chk ((decide (0 ≤ v5) && decide (v5 < ↑(List.length v3)))) (
      let x2 : Int := (↑(UInt8.toNat (List.getD v3 (Int.toNat v5) 0)) : Int)
      cond (decide (48 ≤ x2)) (
        cond (decide (x2 ≤ 57)) (
          chk (decide (0 ≤ 4)) (
            let x3 : Int := (IntKind.wrap .u8 (x2 - 48))
            let x4 : Int := (bitsI .or .u64 (shlI .u64 v4 4) (IntKind.wrap .u64 x3))
            let x5 : Int := (IntKind.wrap .i64 (v5 + 1))
            again0 (v0, v3, x4, x5))) (
          cond (decide (97 ≤ x2)) (
            cond (decide (x2 ≤ 102)) (
              chk (decide (0 ≤ 4)) (
                let x6 : Int := (IntKind.wrap .u8 (x2 - 97))
                let x7 : Int := (IntKind.wrap .u8 (x6 + 10))
                let x8 : Int := (bitsI .or .u64 (shlI .u64 v4 4) (IntKind.wrap .u64 x7))
                let x9 : Int := (IntKind.wrap .i64 (v5 + 1))
                again0 (v0, v3, x8, x9))) (
              some (.bool false, []))) (
            some (.bool false, [])))) (
        cond (decide (97 ≤ x2)) (
          cond (decide (x2 ≤ 102)) (
            chk (decide (0 ≤ 4)) (
              let x10 : Int := (IntKind.wrap .u8 (x2 - 97))
              let x11 : Int := (IntKind.wrap .u8 (x10 + 10))
              let x12 : Int := (bitsI .or .u64 (shlI .u64 v4 4) (IntKind.wrap .u64 x11))
              let x13 : Int := (IntKind.wrap .i64 (v5 + 1))
              again0 (v0, v3, x12, x13))) (
            some (.bool false, []))) (
          some (.bool false, []))))) (
    some (.bool (v4 == v0), []))
theorem FB6_0 (N : Nat) : ∀ (again0 : St → Option (V × List AObj)) (x : (Int × List UInt8 × Int × Int)), F6_0 N again0 (mk6_0 x) = B6_0 N (fun y => again0 (mk6_0 y)) x := by
  intro again0 x
  kernel_rfl
/-- proclitic/procliticlaw5.FingerTexts -/
def sa6 (N : Nat) (p0 : Int) (q0 : (Int × List UInt8 × Int × Int) → Option (V × List AObj)) : Option (V × List AObj) :=
  let x1 : Int := (↑(List.length (hexN (Int.toNat p0) 16)) : Int)
  cond (!(x1 == 16)) (
    some (.bool false, [])) (
    q0 (p0, (hexN (Int.toNat p0) 16), 0, 0))
def sh6 (N : Nat) (p0 : Int) : Option (V × List AObj) := sa6 N p0 (fun z => iterL N (B6_0 N) z)
theorem run6 (N : Nat) (p0 : Int) : callF Γ6 N 51 rs6 ir6 [.int .u64 p0] [] = sh6 N p0 := by
  have h : callF Γ6 N 51 rs6 ir6 [.int .u64 p0] [] = sa6 N p0 (fun z => loopN N (F6_0 N) (mk6_0 z)) := by kernel_rfl
  have e0 : (fun z => loopN N (F6_0 N) (mk6_0 z)) = (fun z => iterL N (B6_0 N) z) := funext fun z => loop_eq (mk6_0) (F6_0 N) (B6_0 N) (FB6_0 N) N z
  rw [h, e0]
  rfl
theorem ok6 (hΓ : SpecOK Try.prog Γ6) (N : Nat) (p0 : Int) {v : V} {hp : List AObj} (h : sh6 N p0 = some (v, hp)) : PureOK Try.prog 6 [.int .u64 p0] v := by
  have hc := chk6
  simp only [Bool.and_eq_true] at hc
  exact ⟨hp, fnOK_of hΓ Try.func6 body6 hc.1 hc.2 (by decide) ((run6 N p0).trans h)⟩

end Go.Proofs.Ytnhdkcgekjildaa
