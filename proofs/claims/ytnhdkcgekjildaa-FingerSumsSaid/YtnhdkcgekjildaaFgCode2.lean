/-
  The plain functions that runs of the code are: written by wip/gen/gen.py.
-/
import Derived.Test.YtnhdkcgekjildaaAmLaw
import Derived.Test.YtnhdkcgekjildaaFgSpec
import Derived.Test.YtnhdkcgekjildaaChecked
import Derived.KernelRfl
namespace Go.Proofs.Ytnhdkcgekjildaa
open Go.AM
set_option autoImplicit false
set_option linter.unusedVariables false
set_option linter.unusedSimpArgs false
set_option maxRecDepth 100000
abbrev i_finger_Of : FuncId := 8
abbrev i_finger_Text : FuncId := 10
abbrev i_law5_begun : FuncId := 7
abbrev i_law5_FingerOne : FuncId := 4
abbrev i_law5_FingerSums : FuncId := 5
def G_finger_Of : Nat → List V → Option (Bool × V) := fun _ _ => none
def Γ_finger_Of : ASpec := liftG G_finger_Of
theorem pureS_finger_Of : PureS Γ_finger_Of [] := liftG_pure _ _
theorem spec_finger_Of  : SpecOK Try.prog Γ_finger_Of := by
  intro f vs hp v hp' h
  obtain ⟨h, -⟩ := liftG_inv h
  simp [G_finger_Of] at h
def ir_finger_Of_0 : IR := (.reg [⟨none, .mov 21 (.t 3)⟩,
    ⟨none, .bin 22 .shr (.t 21) (.c (.int .u64 1))⟩,
    ⟨none, .mov 23 (.t 5)⟩,
    ⟨none, .un 24 .neg (.t 23)⟩,
    ⟨none, .bin 25 .and (.c (.int .u64 13933329357911598997)) (.t 24)⟩,
    ⟨none, .bin 26 .xor (.t 22) (.t 25)⟩,
    ⟨none, .mov 3 (.t 26)⟩] [])
def ir_finger_Of_1 : IR := (.reg [⟨none, .bin 27 .add (.t 17) (.c (.int .i64 1))⟩,
    ⟨none, .mov 17 (.t 27)⟩] [])
def ir_finger_Of_2 : IR := (.seq (.block 3 (.seq (.reg [⟨none, .mov 19 (.t 3)⟩,
    ⟨none, .bin 20 .and (.t 19) (.c (.int .u64 1))⟩,
    ⟨none, .mov 5 (.t 20)⟩] []) ir_finger_Of_0)) ir_finger_Of_1)
def ir_finger_Of_3 : IR := (.seq (.cond (.t 18) .skip (.exit 2)) ir_finger_Of_2)
def ir_finger_Of_4 : IR := (.seq (.reg [⟨none, .bin 18 .lss (.t 17) (.c (.int .i64 8))⟩] []) ir_finger_Of_3)
def ir_finger_Of_5 : IR := (.block 2 (.loop [0, 3, 7, 8, 17] 0 ir_finger_Of_4))
def ir_finger_Of_6 : IR := (.seq (.reg [⟨none, .mov 17 (.c (.int .i64 0))⟩] []) ir_finger_Of_5)
def ir_finger_Of_7 : IR := (.seq (.reg [⟨none, .mov 11 (.t 3)⟩,
    ⟨none, .mov 12 (.t 0)⟩,
    ⟨none, .mov 13 (.t 4)⟩,
    ⟨none, .idx 14 (.t 12) (.t 13)⟩,
    ⟨none, .cvi 15 .u64 (.t 14)⟩,
    ⟨none, .bin 16 .xor (.t 11) (.t 15)⟩,
    ⟨none, .mov 3 (.t 16)⟩] []) ir_finger_Of_6)
def ir_finger_Of_8 : IR := (.reg [⟨none, .bin 28 .add (.t 8) (.c (.int .i64 1))⟩,
    ⟨none, .mov 8 (.t 28)⟩] [])
def ir_finger_Of_9 : IR := (.seq (.block 1 (.seq (.reg [⟨none, .mov 10 (.t 8)⟩,
    ⟨none, .mov 4 (.t 10)⟩] []) ir_finger_Of_7)) ir_finger_Of_8)
def ir_finger_Of_10 : IR := (.seq (.cond (.t 9) .skip (.exit 0)) ir_finger_Of_9)
def ir_finger_Of_11 : IR := (.seq (.reg [⟨none, .bin 9 .lss (.t 8) (.t 7)⟩] []) ir_finger_Of_10)
def ir_finger_Of_12 : IR := (.block 0 (.loop [0, 3, 7, 8] 0 ir_finger_Of_11))
def ir_finger_Of_13 : IR := .ret
def ir_finger_Of_14 : IR := (.seq (.reg [⟨none, .mov 29 (.t 3)⟩,
    ⟨none, .mov 2 (.t 29)⟩] []) ir_finger_Of_13)
def ir_finger_Of_15 : IR := (.seq (.seq (.reg [⟨none, .mov 6 (.t 0)⟩,
    ⟨none, .lens 7 (.t 6)⟩,
    ⟨none, .mov 8 (.c (.int .i64 0))⟩] []) ir_finger_Of_12) ir_finger_Of_14)
def ir_finger_Of_16 : IR := (.seq (.reg [⟨none, .mov 3 (.c (.int .u64 13933329357911598997))⟩] []) ir_finger_Of_15)
def ir_finger_Of : IR := (.seq (.reg [⟨none, .mov 2 (.c (.int .u64 0))⟩] []) ir_finger_Of_16)
def rs_finger_Of : List RV := [.t 2]
theorem chk_finger_Of : (chkCode Try.prog [] 0 ir_finger_Of (Try.f8.body.getD .skip) && chkRes Try.prog rs_finger_Of Try.f8.results.toList) = true := by kernel_rfl
theorem body_finger_Of : Try.f8.body = some (Try.f8.body.getD .skip) := by kernel_rfl
def mk_finger_Of_0 (x : (List UInt8 × Int × Int × Int)) : St := { env := [.str x.1, .undef, .undef, .int .u64 x.2.1, .undef, .undef, .undef, .int .i64 x.2.2.1, .int .i64 x.2.2.2, .undef, .undef, .undef, .undef, .undef, .undef, .undef, .undef, .undef, .undef, .undef, .undef, .undef, .undef, .undef, .undef, .undef, .undef, .undef, .undef, .undef], hp := [] }
def mk_finger_Of_1 (x : (List UInt8 × Int × Int × Int × Int)) : St := { env := [.str x.1, .undef, .undef, .int .u64 x.2.1, .undef, .undef, .undef, .int .i64 x.2.2.1, .int .i64 x.2.2.2.1, .undef, .undef, .undef, .undef, .undef, .undef, .undef, .undef, .int .i64 x.2.2.2.2, .undef, .undef, .undef, .undef, .undef, .undef, .undef, .undef, .undef, .undef, .undef, .undef], hp := [] }
def F_finger_Of_1 (N : Nat) (again0 : St → Option (V × List AObj)) : (St → Option (V × List AObj)) → St → Option (V × List AObj) := fun again1 s => run Γ_finger_Of N ir_finger_Of_4 (kloop again1 [0, 3, 7, 8, 17] 0 (kblock 2 (kblock 1 (kseq (run Γ_finger_Of N ir_finger_Of_8) (kloop again0 [0, 3, 7, 8] 0 (kblock 0 (kseq (run Γ_finger_Of N ir_finger_Of_14) (fin rs_finger_Of)))))))) s
def B_finger_Of_1 (N : Nat) (again0 : (List UInt8 × Int × Int × Int) → Option (V × List AObj)) (again1 : (List UInt8 × Int × Int × Int × Int) → Option (V × List AObj)) (x : (List UInt8 × Int × Int × Int × Int)) : Option (V × List AObj) :=
  let v0 : List UInt8 := x.1
  let v3 : Int := x.2.1
  let v7 : Int := x.2.2.1
  let v8 : Int := x.2.2.2.1
  let v17 : Int := x.2.2.2.2
  cond (decide (v17 < 8)) (
    let x4 : Int := (IntKind.wrap .u64 (0 - (bitsI .and .u64 v3 1)))
    let x5 : Int := (bitsI .and .u64 13933329357911598997 x4)
    let x6 : Int := (bitsI .xor .u64 (shrI .u64 v3 1) x5)
    let x7 : Int := (IntKind.wrap .i64 (v17 + 1))
    again1 (v0, x6, v7, v8, x7)) (
    let x8 : Int := (IntKind.wrap .i64 (v8 + 1))
    again0 (v0, v3, v7, x8))
theorem FB_finger_Of_1 (N : Nat) (again0 : St → Option (V × List AObj)) : ∀ (again1 : St → Option (V × List AObj)) (x : (List UInt8 × Int × Int × Int × Int)), F_finger_Of_1 N again0 again1 (mk_finger_Of_1 x) = B_finger_Of_1 N (fun y => again0 (mk_finger_Of_0 y)) (fun y => again1 (mk_finger_Of_1 y)) x := by
  intro again1 x
  kernel_rfl
def F_finger_Of_0 (N : Nat) : (St → Option (V × List AObj)) → St → Option (V × List AObj) := fun again0 s => run Γ_finger_Of N ir_finger_Of_11 (kloop again0 [0, 3, 7, 8] 0 (kblock 0 (kseq (run Γ_finger_Of N ir_finger_Of_14) (fin rs_finger_Of)))) s
def BA_finger_Of_0 (N : Nat) (again0 : (List UInt8 × Int × Int × Int) → Option (V × List AObj)) (q1 : (List UInt8 × Int × Int × Int × Int) → Option (V × List AObj)) (x : (List UInt8 × Int × Int × Int)) : Option (V × List AObj) :=
  let v0 : List UInt8 := x.1
  let v3 : Int := x.2.1
  let v7 : Int := x.2.2.1
  let v8 : Int := x.2.2.2
  cond (decide (v8 < v7)) (
    chk ((decide (0 ≤ v8) && decide (v8 < ↑(List.length v0)))) (
      let x2 : Int := (↑(UInt8.toNat (List.getD v0 (Int.toNat v8) 0)) : Int)
      let x3 : Int := (bitsI .xor .u64 v3 (IntKind.wrap .u64 x2))
      q1 (v0, x3, v7, v8, 0))) (
    some (.int .u64 v3, []))
def B_finger_Of_0 (N : Nat) (again0 : (List UInt8 × Int × Int × Int) → Option (V × List AObj)) (x : (List UInt8 × Int × Int × Int)) : Option (V × List AObj) := BA_finger_Of_0 N again0 (fun z => iterL N (B_finger_Of_1 N again0) z) x
theorem FB_finger_Of_0 (N : Nat) : ∀ (again0 : St → Option (V × List AObj)) (x : (List UInt8 × Int × Int × Int)), F_finger_Of_0 N again0 (mk_finger_Of_0 x) = B_finger_Of_0 N (fun y => again0 (mk_finger_Of_0 y)) x := by
  intro again0 x
  have h : F_finger_Of_0 N again0 (mk_finger_Of_0 x) = BA_finger_Of_0 N (fun y => again0 (mk_finger_Of_0 y)) (fun z => loopN N (F_finger_Of_1 N again0) (mk_finger_Of_1 z)) x := by kernel_rfl
  have e1 : (fun z => loopN N (F_finger_Of_1 N again0) (mk_finger_Of_1 z)) = (fun z => iterL N (B_finger_Of_1 N (fun y => again0 (mk_finger_Of_0 y))) z) := funext fun z => loop_eq (mk_finger_Of_1) (F_finger_Of_1 N again0) (B_finger_Of_1 N (fun y => again0 (mk_finger_Of_0 y))) (FB_finger_Of_1 N again0) N z
  rw [h, e1]
  rfl
/-- proclitic/finger.Of -/
def sa_finger_Of (N : Nat) (p0 : List UInt8) (q0 : (List UInt8 × Int × Int × Int) → Option (V × List AObj)) : Option (V × List AObj) :=
  let x1 : Int := (↑(List.length p0) : Int)
  q0 (p0, 13933329357911598997, x1, 0)
def sh_finger_Of (N : Nat) (p0 : List UInt8) : Option (V × List AObj) := sa_finger_Of N p0 (fun z => iterL N (B_finger_Of_0 N) z)
theorem run_finger_Of (N : Nat) (p0 : List UInt8) : callF Γ_finger_Of N 30 rs_finger_Of ir_finger_Of [.str p0] [] = sh_finger_Of N p0 := by
  have h : callF Γ_finger_Of N 30 rs_finger_Of ir_finger_Of [.str p0] [] = sa_finger_Of N p0 (fun z => loopN N (F_finger_Of_0 N) (mk_finger_Of_0 z)) := by kernel_rfl
  have e0 : (fun z => loopN N (F_finger_Of_0 N) (mk_finger_Of_0 z)) = (fun z => iterL N (B_finger_Of_0 N) z) := funext fun z => loop_eq (mk_finger_Of_0) (F_finger_Of_0 N) (B_finger_Of_0 N) (FB_finger_Of_0 N) N z
  rw [h, e0]
  rfl
theorem ok_finger_Of (hΓ : SpecOK Try.prog Γ_finger_Of) (N : Nat) (p0 : List UInt8) {v : V} {hp : List AObj} (h : sh_finger_Of N p0 = some (v, hp)) : PureOK Try.prog i_finger_Of [.str p0] v := by
  have hc := chk_finger_Of
  simp only [Bool.and_eq_true] at hc
  exact ⟨hp, fnOK_of hΓ pureS_finger_Of Try.func8 body_finger_Of hc.1 hc.2 (by decide) ((run_finger_Of N p0).trans h)⟩

def G_finger_Text : Nat → List V → Option (Bool × V) := fun _ _ => none
def Γ_finger_Text : ASpec := liftG G_finger_Text
theorem pureS_finger_Text : PureS Γ_finger_Text [] := liftG_pure _ _
theorem spec_finger_Text  : SpecOK Try.prog Γ_finger_Text := by
  intro f vs hp v hp' h
  obtain ⟨h, -⟩ := liftG_inv h
  simp [G_finger_Text] at h
def ir_finger_Text_0 : IR := (.cond (.t 6) .skip (.exit 0))
def ir_finger_Text_1 : IR := (.reg [⟨none, .mov 7 (.t 4)⟩,
    ⟨none, .bin 8 .sub (.t 7) (.c (.int .i64 4))⟩,
    ⟨none, .mov 4 (.t 8)⟩] [])
def ir_finger_Text_2 : IR := (.seq (.block 1 (.reg [⟨none, .mov 9 (.tk 3)⟩,
    ⟨none, .mov 10 (.t 0)⟩,
    ⟨none, .mov 11 (.t 4)⟩,
    ⟨none, .bin 12 .shr (.t 10) (.t 11)⟩,
    ⟨none, .bin 13 .and (.t 12) (.c (.int .u64 15))⟩,
    ⟨none, .idx 14 (.c (.str ([48, 49, 50, 51, 52, 53, 54, 55, 56, 57, 97, 98, 99, 100, 101, 102] : List UInt8))) (.t 13)⟩,
    ⟨none, .bsl 15 .u8 [(.t 14)]⟩,
    ⟨none, .app 16 .u8 (.tk 9) (.t 15)⟩,
    ⟨none, .mov 3 (.tk 16)⟩] [])) ir_finger_Text_1)
def ir_finger_Text_3 : IR := (.seq (.seq (.reg [⟨none, .mov 5 (.t 4)⟩,
    ⟨none, .bin 6 .geq (.t 5) (.c (.int .i64 0))⟩] []) ir_finger_Text_0) ir_finger_Text_2)
def ir_finger_Text_4 : IR := (.block 0 (.loop [0, 3, 4] 0 ir_finger_Text_3))
def ir_finger_Text_5 : IR := .ret
def ir_finger_Text_6 : IR := (.seq (.reg [⟨none, .mov 17 (.t 3)⟩,
    ⟨none, .b2s 18 (.t 17)⟩,
    ⟨none, .mov 2 (.t 18)⟩] []) ir_finger_Text_5)
def ir_finger_Text_7 : IR := (.seq (.seq (.reg [⟨none, .mov 4 (.c (.int .i64 60))⟩] []) ir_finger_Text_4) ir_finger_Text_6)
def ir_finger_Text_8 : IR := (.seq (.reg [⟨none, .mov 3 (.c (.sl .u8 true ([] : List UInt8)))⟩] []) ir_finger_Text_7)
def ir_finger_Text : IR := (.seq (.reg [⟨none, .mov 2 (.c (.str ([] : List UInt8)))⟩] []) ir_finger_Text_8)
def rs_finger_Text : List RV := [.t 2]
theorem chk_finger_Text : (chkCode Try.prog [] 0 ir_finger_Text (Try.f10.body.getD .skip) && chkRes Try.prog rs_finger_Text Try.f10.results.toList) = true := by kernel_rfl
theorem body_finger_Text : Try.f10.body = some (Try.f10.body.getD .skip) := by kernel_rfl
def mk_finger_Text_0 (x : (Int × List UInt8 × Int)) : St := { env := [.int .u64 x.1, .undef, .undef, .sl .u8 true x.2.1, .int .i64 x.2.2, .undef, .undef, .undef, .undef, .undef, .undef, .undef, .undef, .undef, .undef, .undef, .undef, .undef, .undef], hp := [] }
def F_finger_Text_0 (N : Nat) : (St → Option (V × List AObj)) → St → Option (V × List AObj) := fun again0 s => run Γ_finger_Text N ir_finger_Text_3 (kloop again0 [0, 3, 4] 0 (kblock 0 (kseq (run Γ_finger_Text N ir_finger_Text_6) (fin rs_finger_Text)))) s
def B_finger_Text_0 (N : Nat) (again0 : (Int × List UInt8 × Int) → Option (V × List AObj)) (x : (Int × List UInt8 × Int)) : Option (V × List AObj) :=
  let v0 : Int := x.1
  let v3 : List UInt8 := x.2.1
  let v4 : Int := x.2.2
  cond (decide (0 ≤ v4)) (
    chk (decide (0 ≤ v4)) (
      let x1 : Int := (bitsI .and .u64 (shrI .u64 v0 v4) 15)
      chk ((decide (0 ≤ x1) && decide (x1 < ↑(List.length ([48, 49, 50, 51, 52, 53, 54, 55, 56, 57, 97, 98, 99, 100, 101, 102] : List UInt8))))) (
        let x2 : Int := (↑(UInt8.toNat (List.getD ([48, 49, 50, 51, 52, 53, 54, 55, 56, 57, 97, 98, 99, 100, 101, 102] : List UInt8) (Int.toNat x1) 0)) : Int)
        chk (decide ((List.length v3 + List.length ([(UInt8.ofNat (Int.toNat x2))] : List UInt8)) * 1 ≤ 140737488355328)) (
          let x3 : List UInt8 := (v3 ++ ([(UInt8.ofNat (Int.toNat x2))] : List UInt8))
          let x4 : Int := (IntKind.wrap .i64 (v4 - 4))
          again0 (v0, x3, x4))))) (
    some (.str v3, []))
theorem FB_finger_Text_0 (N : Nat) : ∀ (again0 : St → Option (V × List AObj)) (x : (Int × List UInt8 × Int)), F_finger_Text_0 N again0 (mk_finger_Text_0 x) = B_finger_Text_0 N (fun y => again0 (mk_finger_Text_0 y)) x := by
  intro again0 x
  kernel_rfl
/-- proclitic/finger.Text -/
def sa_finger_Text (N : Nat) (p0 : Int) (q0 : (Int × List UInt8 × Int) → Option (V × List AObj)) : Option (V × List AObj) :=
  q0 (p0, ([] : List UInt8), 60)
def sh_finger_Text (N : Nat) (p0 : Int) : Option (V × List AObj) := sa_finger_Text N p0 (fun z => iterL N (B_finger_Text_0 N) z)
theorem run_finger_Text (N : Nat) (p0 : Int) : callF Γ_finger_Text N 19 rs_finger_Text ir_finger_Text [.int .u64 p0] [] = sh_finger_Text N p0 := by
  have h : callF Γ_finger_Text N 19 rs_finger_Text ir_finger_Text [.int .u64 p0] [] = sa_finger_Text N p0 (fun z => loopN N (F_finger_Text_0 N) (mk_finger_Text_0 z)) := by kernel_rfl
  have e0 : (fun z => loopN N (F_finger_Text_0 N) (mk_finger_Text_0 z)) = (fun z => iterL N (B_finger_Text_0 N) z) := funext fun z => loop_eq (mk_finger_Text_0) (F_finger_Text_0 N) (B_finger_Text_0 N) (FB_finger_Text_0 N) N z
  rw [h, e0]
  rfl
theorem ok_finger_Text (hΓ : SpecOK Try.prog Γ_finger_Text) (N : Nat) (p0 : Int) {v : V} {hp : List AObj} (h : sh_finger_Text N p0 = some (v, hp)) : PureOK Try.prog i_finger_Text [.int .u64 p0] v := by
  have hc := chk_finger_Text
  simp only [Bool.and_eq_true] at hc
  exact ⟨hp, fnOK_of hΓ pureS_finger_Text Try.func10 body_finger_Text hc.1 hc.2 (by decide) ((run_finger_Text N p0).trans h)⟩

def G_law5_begun : Nat → List V → Option (Bool × V) := fun f vs => match f, vs with
  | 8, [.str a0] => some (true, .int .u64 (↑(fpOf a0) : Int))
  | 10, [.int .u64 a0] => some (true, .str (hexN (Int.toNat a0) 16))
  | _, _ => none
def Γ_law5_begun : ASpec := liftG G_law5_begun
theorem pureS_law5_begun : PureS Γ_law5_begun [] := liftG_pure _ _
theorem spec_law5_begun (h_finger_Of : ∀ (a0 : List UInt8), PureOK Try.prog i_finger_Of [.str a0] (.int .u64 (↑(fpOf a0) : Int))) (h_finger_Text : ∀ (a0 : Int), PureOK Try.prog i_finger_Text [.int .u64 a0] (.str (hexN (Int.toNat a0) 16))) : SpecOK Try.prog Γ_law5_begun := by
  intro f vs hp v hp' h0
  obtain ⟨h, he⟩ := liftG_inv h0
  subst he
  unfold G_law5_begun at h
  split at h
  · simp only [Option.some.injEq, Prod.mk.injEq] at h
    obtain ⟨hc, rfl⟩ := h
    exact (h_finger_Of _).frame rfl rfl _
  · simp only [Option.some.injEq, Prod.mk.injEq] at h
    obtain ⟨hc, rfl⟩ := h
    exact (h_finger_Text _).frame rfl rfl _
  · simp at h
def ir_law5_begun_0 : IR := .ret
def ir_law5_begun_1 : IR := (.seq (.reg [⟨none, .call (some 1) 8 [(.c (.str ([] : List UInt8)))]⟩,
    ⟨none, .bin 2 .eql (.t 1) (.c (.int .u64 13933329357911598997))⟩,
    ⟨none, .mov 3 (.t 2)⟩,
    ⟨some (3, true), .call (some 4) 10 [(.c (.int .u64 13933329357911598997))]⟩,
    ⟨some (3, true), .bin 5 .eql (.t 4) (.c (.str ([99, 49, 53, 100, 50, 49, 51, 97, 97, 52, 100, 55, 97, 55, 57, 53] : List UInt8)))⟩,
    ⟨none, .pick 6 (.t 3) (.t 5) (.c (.bool false))⟩,
    ⟨none, .mov 0 (.t 6)⟩] []) ir_law5_begun_0)
def ir_law5_begun : IR := (.seq (.reg [⟨none, .mov 0 (.c (.bool false))⟩] []) ir_law5_begun_1)
def rs_law5_begun : List RV := [.t 0]
theorem chk_law5_begun : (chkCode Try.prog [] 0 ir_law5_begun (Try.f7.body.getD .skip) && chkRes Try.prog rs_law5_begun Try.f7.results.toList) = true := by kernel_rfl
theorem body_law5_begun : Try.f7.body = some (Try.f7.body.getD .skip) := by kernel_rfl
/-- proclitic/procliticlaw5.begun -/
def sa_law5_begun (N : Nat)   : Option (V × List AObj) :=
  let x1 : Int := (↑(fpOf ([] : List UInt8)) : Int)
  let x2 : Bool := (x1 == 13933329357911598997)
  cond x2 (
    let x3 : List UInt8 := (hexN (Int.toNat 13933329357911598997) 16)
    let x4 : Bool := decide (x3 = ([99, 49, 53, 100, 50, 49, 51, 97, 97, 52, 100, 55, 97, 55, 57, 53] : List UInt8))
    some (.bool x4, [])) (
    some (.bool false, []))
def sh_law5_begun (N : Nat)  : Option (V × List AObj) := sa_law5_begun N 
theorem run_law5_begun (N : Nat)  : callF Γ_law5_begun N 7 rs_law5_begun ir_law5_begun [] [] = sh_law5_begun N  := by kernel_rfl
theorem ok_law5_begun (hΓ : SpecOK Try.prog Γ_law5_begun) (N : Nat)  {v : V} {hp : List AObj} (h : sh_law5_begun N  = some (v, hp)) : PureOK Try.prog i_law5_begun [] v := by
  have hc := chk_law5_begun
  simp only [Bool.and_eq_true] at hc
  exact ⟨hp, fnOK_of hΓ pureS_law5_begun Try.func7 body_law5_begun hc.1 hc.2 (by decide) ((run_law5_begun N ).trans h)⟩

def G_law5_FingerOne : Nat → List V → Option (Bool × V) := fun f vs => match f, vs with
  | 7, [] => some (true, .bool true)
  | 8, [.str a0] => some (true, .int .u64 (↑(fpOf a0) : Int))
  | _, _ => none
def Γ_law5_FingerOne : ASpec := liftG G_law5_FingerOne
theorem pureS_law5_FingerOne : PureS Γ_law5_FingerOne [] := liftG_pure _ _
theorem spec_law5_FingerOne (h_law5_begun : PureOK Try.prog i_law5_begun [] (.bool true)) (h_finger_Of : ∀ (a0 : List UInt8), PureOK Try.prog i_finger_Of [.str a0] (.int .u64 (↑(fpOf a0) : Int))) : SpecOK Try.prog Γ_law5_FingerOne := by
  intro f vs hp v hp' h0
  obtain ⟨h, he⟩ := liftG_inv h0
  subst he
  unfold G_law5_FingerOne at h
  split at h
  · simp only [Option.some.injEq, Prod.mk.injEq] at h
    obtain ⟨hc, rfl⟩ := h
    exact (h_law5_begun ).frame rfl rfl _
  · simp only [Option.some.injEq, Prod.mk.injEq] at h
    obtain ⟨hc, rfl⟩ := h
    exact (h_finger_Of _).frame rfl rfl _
  · simp at h
def ir_law5_FingerOne_0 : IR := .ret
def ir_law5_FingerOne_1 : IR := (.cond (.t 15) (.seq (.reg [⟨none, .mov 8 (.c (.bool false))⟩] []) ir_law5_FingerOne_0) .skip)
def ir_law5_FingerOne_2 : IR := .ret
def ir_law5_FingerOne_3 : IR := (.cond (.t 23) (.seq (.reg [⟨none, .mov 8 (.c (.bool true))⟩] []) ir_law5_FingerOne_2) .skip)
def ir_law5_FingerOne_4 : IR := .ret
def ir_law5_FingerOne_5 : IR := (.seq (.reg [⟨none, .mov 57 (.t 9)⟩,
    ⟨none, .o2s 58 (.t 57)⟩,
    ⟨none, .call (some 59) 8 [(.t 58)]⟩,
    ⟨none, .mov 60 (.t 0)⟩,
    ⟨none, .call (some 61) 8 [(.t 60)]⟩,
    ⟨none, .bin 62 .neq (.t 59) (.t 61)⟩,
    ⟨none, .mov 63 (.t 62)⟩,
    ⟨some (63, true), .mov 64 (.t 11)⟩,
    ⟨some (63, true), .o2s 65 (.t 64)⟩,
    ⟨some (63, true), .call (some 66) 8 [(.t 65)]⟩,
    ⟨some (63, true), .mov 67 (.t 0)⟩,
    ⟨some (63, true), .call (some 68) 8 [(.t 67)]⟩,
    ⟨some (63, true), .bin 69 .eql (.t 66) (.t 68)⟩,
    ⟨some (63, true), .mov 70 (.t 13)⟩,
    ⟨some (63, true), .mov 71 (.t 3)⟩,
    ⟨some (63, true), .bin 72 .eql (.t 70) (.t 71)⟩,
    ⟨some (63, true), .beq 73 false (.t 69) (.t 72)⟩,
    ⟨none, .pick 74 (.t 63) (.t 73) (.c (.bool false))⟩,
    ⟨none, .mov 8 (.t 74)⟩] []) ir_law5_FingerOne_4)
def ir_law5_FingerOne_6 : IR := (.seq (.reg [⟨none, .mov 53 (.t 11)⟩,
    ⟨none, .mov 54 (.t 12)⟩,
    ⟨none, .mov 55 (.t 3)⟩,
    ⟨none, .ixo 56 (.t 53) (.t 54)⟩,
    ⟨none, .sto none (.t 56) (.t 55)⟩] []) ir_law5_FingerOne_5)
def ir_law5_FingerOne_7 : IR := (.seq (.reg [⟨none, .mov 49 (.t 11)⟩,
    ⟨none, .mov 50 (.t 12)⟩,
    ⟨none, .ixo 51 (.t 49) (.t 50)⟩,
    ⟨none, .ldo 52 (.t 51)⟩,
    ⟨none, .mov 13 (.t 52)⟩] []) ir_law5_FingerOne_6)
def ir_law5_FingerOne_8 : IR := (.seq (.reg [⟨none, .mov 44 (.t 2)⟩,
    ⟨none, .cvi 45 .i64 (.t 44)⟩,
    ⟨none, .mov 46 (.t 11)⟩,
    ⟨none, .leno 47 (.t 46)⟩,
    ⟨none, .bin 48 .rem (.t 45) (.t 47)⟩,
    ⟨none, .mov 12 (.t 48)⟩] []) ir_law5_FingerOne_7)
def ir_law5_FingerOne_9 : IR := (.seq (.reg [⟨none, .mov 42 (.t 0)⟩,
    ⟨none, .s2o 43 (.t 42)⟩,
    ⟨none, .mov 11 (.t 43)⟩] []) ir_law5_FingerOne_8)
def ir_law5_FingerOne_10 : IR := (.seq (.reg [⟨none, .mov 32 (.t 9)⟩,
    ⟨none, .mov 33 (.t 10)⟩,
    ⟨none, .bin 34 .quo (.t 33) (.c (.int .i64 8))⟩,
    ⟨none, .ixo 35 (.t 32) (.t 34)⟩,
    ⟨none, .ldo 36 (.t 35)⟩,
    ⟨none, .mov 37 (.t 10)⟩,
    ⟨none, .bin 38 .rem (.t 37) (.c (.int .i64 8))⟩,
    ⟨none, .bin 39 .shl (.c (.int .u8 1)) (.t 38)⟩,
    ⟨none, .bin 40 .xor (.t 36) (.t 39)⟩,
    ⟨none, .ixo 41 (.t 32) (.t 34)⟩,
    ⟨none, .sto none (.t 41) (.t 40)⟩] [[], [], [1], [0, 1, 2], [0, 1, 2, 3], [], [5], [5, 6], [0, 1, 2, 3, 4, 5, 6, 7], [0, 1, 2, 3, 4, 5, 6, 7, 8], [0, 1, 2, 3, 4, 5, 6, 7, 8, 9]]) ir_law5_FingerOne_9)
def ir_law5_FingerOne_11 : IR := (.seq (.reg [⟨none, .mov 26 (.t 1)⟩,
    ⟨none, .cvi 27 .i64 (.t 26)⟩,
    ⟨none, .mov 28 (.t 9)⟩,
    ⟨none, .leno 29 (.t 28)⟩,
    ⟨none, .bin 30 .mul (.c (.int .i64 8)) (.t 29)⟩,
    ⟨none, .bin 31 .rem (.t 27) (.t 30)⟩,
    ⟨none, .mov 10 (.t 31)⟩] []) ir_law5_FingerOne_10)
def ir_law5_FingerOne_12 : IR := (.seq (.reg [⟨none, .mov 24 (.t 0)⟩,
    ⟨none, .s2o 25 (.t 24)⟩,
    ⟨none, .mov 9 (.t 25)⟩] []) ir_law5_FingerOne_11)
def ir_law5_FingerOne_13 : IR := (.seq (.seq (.reg [⟨none, .mov 16 (.t 0)⟩,
    ⟨none, .lens 17 (.t 16)⟩,
    ⟨none, .bin 18 .gtr (.t 17) (.c (.int .i64 100))⟩,
    ⟨none, .mov 19 (.t 18)⟩,
    ⟨some (19, false), .mov 20 (.t 0)⟩,
    ⟨some (19, false), .lens 21 (.t 20)⟩,
    ⟨some (19, false), .bin 22 .eql (.t 21) (.c (.int .i64 0))⟩,
    ⟨none, .pick 23 (.t 19) (.c (.bool true)) (.t 22)⟩] []) ir_law5_FingerOne_3) ir_law5_FingerOne_12)
def ir_law5_FingerOne_14 : IR := (.seq (.seq (.reg [⟨none, .call (some 14) 7 []⟩,
    ⟨none, .un 15 .not (.t 14)⟩] []) ir_law5_FingerOne_1) ir_law5_FingerOne_13)
def ir_law5_FingerOne : IR := (.seq (.reg [⟨none, .mov 8 (.c (.bool false))⟩] []) ir_law5_FingerOne_14)
def rs_law5_FingerOne : List RV := [.t 8]
theorem chk_law5_FingerOne : (chkCode Try.prog [] 0 ir_law5_FingerOne (Try.f4.body.getD .skip) && chkRes Try.prog rs_law5_FingerOne Try.f4.results.toList) = true := by kernel_rfl
theorem body_law5_FingerOne : Try.f4.body = some (Try.f4.body.getD .skip) := by kernel_rfl
/-- proclitic/procliticlaw5.FingerOne -/
def sa_law5_FingerOne (N : Nat) (p0 : List UInt8) (p1 : Int) (p2 : Int) (p3 : Int)  : Option (V × List AObj) :=
  let x1 : Int := (↑(List.length p0) : Int)
  cond (decide (100 < x1)) (
    some (.bool true, [])) (
    let x2 : Int := (↑(List.length p0) : Int)
    cond (x2 == 0) (
      some (.bool true, [])) (
      let x3 : Int := (↑(List.length p0) : Int)
      let x4 : Int := (IntKind.wrap .i64 (8 * x3))
      chk ((!(x4 == 0))) (
        let x5 : Int := (Int.tmod (IntKind.wrap .i64 p1) x4)
        let x6 : Int := (IntKind.wrap .i64 (Int.tdiv x5 8))
        chk ((decide (0 ≤ (x6 : Int)) && decide ((x6 : Int) < ↑(List.length p0)))) (
          chk (decide ((Int.toNat x6) < List.length p0)) (
            let x7 : Int := (↑(UInt8.toNat (List.getD p0 (Int.toNat x6) 0)) : Int)
            chk (decide (0 ≤ (Int.tmod x5 8))) (
              let x8 : Int := (shlI .u8 1 (Int.tmod x5 8))
              chk ((decide (0 ≤ (x6 : Int)) && decide ((x6 : Int) < ↑(List.length p0)))) (
                chk (decide ((Int.toNat x6) < List.length p0)) (
                  let x9 : Int := (↑(List.length p0) : Int)
                  chk ((!(x9 == 0))) (
                    let x10 : Int := (Int.tmod (IntKind.wrap .i64 p2) x9)
                    chk ((decide (0 ≤ (x10 : Int)) && decide ((x10 : Int) < ↑(List.length p0)))) (
                      chk (decide ((Int.toNat x10) < List.length p0)) (
                        let x11 : Int := (↑(UInt8.toNat (List.getD p0 (Int.toNat x10) 0)) : Int)
                        chk ((decide (0 ≤ (x10 : Int)) && decide ((x10 : Int) < ↑(List.length p0)))) (
                          chk (decide ((Int.toNat x10) < List.length p0)) (
                            chk (decide ((List.length p0) ≤ List.length (List.set p0 (Int.toNat x6) (UInt8.ofNat (Int.toNat (bitsI .xor .u8 x7 x8)))))) (
                              let x12 : List UInt8 := (List.take (List.length p0) (List.set p0 (Int.toNat x6) (UInt8.ofNat (Int.toNat (bitsI .xor .u8 x7 x8)))))
                              let x13 : Bool := (!((↑(fpOf x12) : Int) == (↑(fpOf p0) : Int)))
                              cond x13 (
                                chk (decide ((List.length p0) ≤ List.length (List.set p0 (Int.toNat x10) (UInt8.ofNat (Int.toNat p3))))) (
                                  let x14 : List UInt8 := (List.take (List.length p0) (List.set p0 (Int.toNat x10) (UInt8.ofNat (Int.toNat p3))))
                                  let x15 : Bool := ((↑(fpOf x14) : Int) == (↑(fpOf p0) : Int))
                                  some (.bool (x15 == (x11 == p3)), [some [.rb (List.set p0 (Int.toNat x6) (UInt8.ofNat (Int.toNat (bitsI .xor .u8 x7 x8))))], some [.rb (List.set p0 (Int.toNat x10) (UInt8.ofNat (Int.toNat p3)))]]))) (
                                some (.bool false, [some [.rb (List.set p0 (Int.toNat x6) (UInt8.ofNat (Int.toNat (bitsI .xor .u8 x7 x8))))], some [.rb (List.set p0 (Int.toNat x10) (UInt8.ofNat (Int.toNat p3)))]]))))))))))))))))
def sh_law5_FingerOne (N : Nat) (p0 : List UInt8) (p1 : Int) (p2 : Int) (p3 : Int) : Option (V × List AObj) := sa_law5_FingerOne N p0 p1 p2 p3
theorem run_law5_FingerOne (N : Nat) (p0 : List UInt8) (p1 : Int) (p2 : Int) (p3 : Int) : callF Γ_law5_FingerOne N 75 rs_law5_FingerOne ir_law5_FingerOne [.str p0, .int .u16 p1, .int .u8 p2, .int .u8 p3] [] = sh_law5_FingerOne N p0 p1 p2 p3 := by kernel_rfl
theorem ok_law5_FingerOne (hΓ : SpecOK Try.prog Γ_law5_FingerOne) (N : Nat) (p0 : List UInt8) (p1 : Int) (p2 : Int) (p3 : Int) {v : V} {hp : List AObj} (h : sh_law5_FingerOne N p0 p1 p2 p3 = some (v, hp)) : PureOK Try.prog i_law5_FingerOne [.str p0, .int .u16 p1, .int .u8 p2, .int .u8 p3] v := by
  have hc := chk_law5_FingerOne
  simp only [Bool.and_eq_true] at hc
  exact ⟨hp, fnOK_of hΓ pureS_law5_FingerOne Try.func4 body_law5_FingerOne hc.1 hc.2 (by decide) ((run_law5_FingerOne N p0 p1 p2 p3).trans h)⟩

def G_law5_FingerSums : Nat → List V → Option (Bool × V) := fun f vs => match f, vs with
  | 7, [] => some (true, .bool true)
  | 8, [.str a0] => some (true, .int .u64 (↑(fpOf a0) : Int))
  | _, _ => none
def Γ_law5_FingerSums : ASpec := liftG G_law5_FingerSums
theorem pureS_law5_FingerSums : PureS Γ_law5_FingerSums [] := liftG_pure _ _
theorem spec_law5_FingerSums (h_law5_begun : PureOK Try.prog i_law5_begun [] (.bool true)) (h_finger_Of : ∀ (a0 : List UInt8), PureOK Try.prog i_finger_Of [.str a0] (.int .u64 (↑(fpOf a0) : Int))) : SpecOK Try.prog Γ_law5_FingerSums := by
  intro f vs hp v hp' h0
  obtain ⟨h, he⟩ := liftG_inv h0
  subst he
  unfold G_law5_FingerSums at h
  split at h
  · simp only [Option.some.injEq, Prod.mk.injEq] at h
    obtain ⟨hc, rfl⟩ := h
    exact (h_law5_begun ).frame rfl rfl _
  · simp only [Option.some.injEq, Prod.mk.injEq] at h
    obtain ⟨hc, rfl⟩ := h
    exact (h_finger_Of _).frame rfl rfl _
  · simp at h
def ir_law5_FingerSums_0 : IR := .ret
def ir_law5_FingerSums_1 : IR := (.cond (.t 10) (.seq (.reg [⟨none, .mov 4 (.c (.bool false))⟩] []) ir_law5_FingerSums_0) .skip)
def ir_law5_FingerSums_2 : IR := (.cond (.t 22) .skip (.exit 0))
def ir_law5_FingerSums_3 : IR := (.reg [⟨none, .mov 23 (.t 8)⟩,
    ⟨none, .bin 24 .add (.t 23) (.c (.int .i64 1))⟩,
    ⟨none, .mov 8 (.t 24)⟩] [])
def ir_law5_FingerSums_4 : IR := (.seq (.block 1 (.reg [⟨none, .mov 25 (.t 6)⟩,
    ⟨none, .mov 26 (.t 8)⟩,
    ⟨none, .mov 27 (.t 0)⟩,
    ⟨none, .mov 28 (.t 8)⟩,
    ⟨none, .idx 29 (.t 27) (.t 28)⟩,
    ⟨none, .mov 30 (.t 1)⟩,
    ⟨none, .mov 31 (.t 8)⟩,
    ⟨none, .idx 32 (.t 30) (.t 31)⟩,
    ⟨none, .bin 33 .xor (.t 29) (.t 32)⟩,
    ⟨none, .ixo 34 (.t 25) (.t 26)⟩,
    ⟨none, .sto none (.t 34) (.t 33)⟩] [[], [], [], [], [2, 3], [], [], [5, 6], [2, 3, 4, 5, 6, 7], [0, 1, 2, 3, 4, 5, 6, 7, 8], [0, 1, 2, 3, 4, 5, 6, 7, 8, 9]])) ir_law5_FingerSums_3)
def ir_law5_FingerSums_5 : IR := (.seq (.seq (.reg [⟨none, .mov 20 (.t 8)⟩,
    ⟨none, .mov 21 (.t 5)⟩,
    ⟨none, .bin 22 .lss (.t 20) (.t 21)⟩] []) ir_law5_FingerSums_2) ir_law5_FingerSums_4)
def ir_law5_FingerSums_6 : IR := (.block 0 (.loop [0, 1, 5, 6, 7, 8] 1 ir_law5_FingerSums_5))
def ir_law5_FingerSums_7 : IR := .ret
def ir_law5_FingerSums_8 : IR := (.seq (.reg [⟨none, .mov 35 (.t 0)⟩,
    ⟨none, .mov 36 (.t 5)⟩,
    ⟨none, .subs 37 (.t 35) none (some (.t 36))⟩,
    ⟨none, .call (some 38) 8 [(.t 37)]⟩,
    ⟨none, .mov 39 (.t 1)⟩,
    ⟨none, .mov 40 (.t 5)⟩,
    ⟨none, .subs 41 (.t 39) none (some (.t 40))⟩,
    ⟨none, .call (some 42) 8 [(.t 41)]⟩,
    ⟨none, .bin 43 .xor (.t 38) (.t 42)⟩,
    ⟨none, .mov 44 (.t 6)⟩,
    ⟨none, .o2s 45 (.t 44)⟩,
    ⟨none, .call (some 46) 8 [(.t 45)]⟩,
    ⟨none, .mov 47 (.t 7)⟩,
    ⟨none, .b2s 48 (.t 47)⟩,
    ⟨none, .call (some 49) 8 [(.t 48)]⟩,
    ⟨none, .bin 50 .xor (.t 46) (.t 49)⟩,
    ⟨none, .bin 51 .eql (.t 43) (.t 50)⟩,
    ⟨none, .mov 4 (.t 51)⟩] [[], [], [0, 1], [0, 1, 2], [], [], [4, 5], [0, 1, 2, 3, 4, 5, 6], [0, 1, 2, 3, 4, 5, 6, 7], [], [9], [0, 1, 2, 3, 4, 5, 6, 7, 9, 10], [], [12], [0, 1, 2, 3, 4, 5, 6, 7, 9, 10, 11, 12, 13], [0, 1, 2, 3, 4, 5, 6, 7, 9, 10, 11, 12, 13, 14], [0, 1, 2, 3, 4, 5, 6, 7, 8, 9, 10, 11, 12, 13, 14, 15], [0, 1, 2, 3, 4, 5, 6, 7, 8, 9, 10, 11, 12, 13, 14, 15, 16]]) ir_law5_FingerSums_7)
def ir_law5_FingerSums_9 : IR := (.seq (.seq (.reg [⟨none, .mov 8 (.c (.int .i64 0))⟩] []) ir_law5_FingerSums_6) ir_law5_FingerSums_8)
def ir_law5_FingerSums_10 : IR := (.seq (.reg [⟨none, .mov 16 (.t 5)⟩,
    ⟨none, .mko 17 (.t 16)⟩,
    ⟨none, .mov 18 (.t 5)⟩,
    ⟨none, .mks 19 .u8 (.t 18)⟩,
    ⟨none, .mov 6 (.t 17)⟩,
    ⟨none, .mov 7 (.t 19)⟩] [[], [0], [], [2], [0, 1], [0, 1, 2, 3, 4]]) ir_law5_FingerSums_9)
def ir_law5_FingerSums_11 : IR := (.seq (.reg [⟨none, .mov 11 (.t 0)⟩,
    ⟨none, .lens 12 (.t 11)⟩,
    ⟨none, .mov 13 (.t 1)⟩,
    ⟨none, .lens 14 (.t 13)⟩,
    ⟨none, .mn3 15 (.t 12) (.t 14) (.c (.int .i64 40))⟩,
    ⟨none, .mov 5 (.t 15)⟩] []) ir_law5_FingerSums_10)
def ir_law5_FingerSums_12 : IR := (.seq (.seq (.reg [⟨none, .call (some 9) 7 []⟩,
    ⟨none, .un 10 .not (.t 9)⟩] []) ir_law5_FingerSums_1) ir_law5_FingerSums_11)
def ir_law5_FingerSums : IR := (.seq (.reg [⟨none, .mov 4 (.c (.bool false))⟩] []) ir_law5_FingerSums_12)
def rs_law5_FingerSums : List RV := [.t 4]
theorem chk_law5_FingerSums : (chkCode Try.prog [] 0 ir_law5_FingerSums (Try.f5.body.getD .skip) && chkRes Try.prog rs_law5_FingerSums Try.f5.results.toList) = true := by kernel_rfl
theorem body_law5_FingerSums : Try.f5.body = some (Try.f5.body.getD .skip) := by kernel_rfl
def mk_law5_FingerSums_0 (x : (List UInt8 × List UInt8 × Int × Nat × List UInt8 × Int × List UInt8)) : St := { env := [.str x.1, .str x.2.1, .undef, .undef, .undef, .int .i64 x.2.2.1, .so 0 x.2.2.2.1, .sl .u8 false x.2.2.2.2.1, .int .i64 x.2.2.2.2.2.1, .undef, .undef, .undef, .undef, .undef, .undef, .undef, .undef, .undef, .undef, .undef, .undef, .undef, .undef, .undef, .undef, .undef, .undef, .undef, .undef, .undef, .undef, .undef, .undef, .undef, .undef, .undef, .undef, .undef, .undef, .undef, .undef, .undef, .undef, .undef, .undef, .undef, .undef, .undef, .undef, .undef, .undef, .undef], hp := [some [.rb x.2.2.2.2.2.2]] }
def F_law5_FingerSums_0 (N : Nat) : (St → Option (V × List AObj)) → St → Option (V × List AObj) := fun again0 s => run Γ_law5_FingerSums N ir_law5_FingerSums_5 (kloop again0 [0, 1, 5, 6, 7, 8] 1 (kblock 0 (kseq (run Γ_law5_FingerSums N ir_law5_FingerSums_8) (fin rs_law5_FingerSums)))) s
def B_law5_FingerSums_0 (N : Nat) (again0 : (List UInt8 × List UInt8 × Int × Nat × List UInt8 × Int × List UInt8) → Option (V × List AObj)) (x : (List UInt8 × List UInt8 × Int × Nat × List UInt8 × Int × List UInt8)) : Option (V × List AObj) :=
  let v0 : List UInt8 := x.1
  let v1 : List UInt8 := x.2.1
  let v5 : Int := x.2.2.1
  let v6 : Nat := x.2.2.2.1
  let v7 : List UInt8 := x.2.2.2.2.1
  let v8 : Int := x.2.2.2.2.2.1
  let o0_0 : List UInt8 := x.2.2.2.2.2.2
  cond (decide (v8 < v5)) (
    chk ((decide (0 ≤ v8) && decide (v8 < ↑(List.length v0)))) (
      let x5 : Int := (↑(UInt8.toNat (List.getD v0 (Int.toNat v8) 0)) : Int)
      chk ((decide (0 ≤ v8) && decide (v8 < ↑(List.length v1)))) (
        let x6 : Int := (↑(UInt8.toNat (List.getD v1 (Int.toNat v8) 0)) : Int)
        chk ((decide (0 ≤ (v8 : Int)) && decide ((v8 : Int) < ↑v6))) (
          chk (decide ((Int.toNat v8) < List.length o0_0)) (
            let x7 : Int := (IntKind.wrap .i64 (v8 + 1))
            again0 (v0, v1, v5, v6, v7, x7, (List.set o0_0 (Int.toNat v8) (UInt8.ofNat (Int.toNat (bitsI .xor .u8 x5 x6)))))))))) (
    chk ((decide (0 ≤ v5) && decide (v5 ≤ (↑(List.length v0) : Int)))) (
      let x8 : List UInt8 := (List.drop 0 (List.take (Int.toNat v5) v0))
      chk ((decide (0 ≤ v5) && decide (v5 ≤ (↑(List.length v1) : Int)))) (
        let x9 : List UInt8 := (List.drop 0 (List.take (Int.toNat v5) v1))
        let x10 : Int := (bitsI .xor .u64 (↑(fpOf x8) : Int) (↑(fpOf x9) : Int))
        chk (decide (v6 ≤ List.length o0_0)) (
          let x11 : Int := (↑(fpOf (List.take v6 o0_0)) : Int)
          let x12 : Int := (bitsI .xor .u64 x11 (↑(fpOf v7) : Int))
          some (.bool (x10 == x12), [some [.rb o0_0]])))))
theorem FB_law5_FingerSums_0 (N : Nat) : ∀ (again0 : St → Option (V × List AObj)) (x : (List UInt8 × List UInt8 × Int × Nat × List UInt8 × Int × List UInt8)), F_law5_FingerSums_0 N again0 (mk_law5_FingerSums_0 x) = B_law5_FingerSums_0 N (fun y => again0 (mk_law5_FingerSums_0 y)) x := by
  intro again0 x
  kernel_rfl
/-- proclitic/procliticlaw5.FingerSums -/
def sa_law5_FingerSums (N : Nat) (p0 : List UInt8) (p1 : List UInt8) (q0 : (List UInt8 × List UInt8 × Int × Nat × List UInt8 × Int × List UInt8) → Option (V × List AObj)) : Option (V × List AObj) :=
  let x1 : Int := (↑(List.length p0) : Int)
  let x2 : Int := (↑(List.length p1) : Int)
  let x3 : Int := (if 40 < (if x2 < x1 then x2 else x1) then 40 else (if x2 < x1 then x2 else x1))
  chk ((decide (0 ≤ (x3 : Int)) && decide ((x3 : Int) ≤ 140737488355328))) (
    chk ((decide (0 ≤ x3) && decide (x3 * 1 ≤ 140737488355328))) (
      let x4 : List UInt8 := (List.replicate (Int.toNat x3) (dflt .u8))
      q0 (p0, p1, x3, (Int.toNat x3), x4, 0, (List.replicate (Int.toNat x3) 0))))
def sh_law5_FingerSums (N : Nat) (p0 : List UInt8) (p1 : List UInt8) : Option (V × List AObj) := sa_law5_FingerSums N p0 p1 (fun z => iterL N (B_law5_FingerSums_0 N) z)
theorem run_law5_FingerSums (N : Nat) (p0 : List UInt8) (p1 : List UInt8) : callF Γ_law5_FingerSums N 52 rs_law5_FingerSums ir_law5_FingerSums [.str p0, .str p1] [] = sh_law5_FingerSums N p0 p1 := by
  have h : callF Γ_law5_FingerSums N 52 rs_law5_FingerSums ir_law5_FingerSums [.str p0, .str p1] [] = sa_law5_FingerSums N p0 p1 (fun z => loopN N (F_law5_FingerSums_0 N) (mk_law5_FingerSums_0 z)) := by kernel_rfl
  have e0 : (fun z => loopN N (F_law5_FingerSums_0 N) (mk_law5_FingerSums_0 z)) = (fun z => iterL N (B_law5_FingerSums_0 N) z) := funext fun z => loop_eq (mk_law5_FingerSums_0) (F_law5_FingerSums_0 N) (B_law5_FingerSums_0 N) (FB_law5_FingerSums_0 N) N z
  rw [h, e0]
  rfl
theorem ok_law5_FingerSums (hΓ : SpecOK Try.prog Γ_law5_FingerSums) (N : Nat) (p0 : List UInt8) (p1 : List UInt8) {v : V} {hp : List AObj} (h : sh_law5_FingerSums N p0 p1 = some (v, hp)) : PureOK Try.prog i_law5_FingerSums [.str p0, .str p1] v := by
  have hc := chk_law5_FingerSums
  simp only [Bool.and_eq_true] at hc
  exact ⟨hp, fnOK_of hΓ pureS_law5_FingerSums Try.func5 body_law5_FingerSums hc.1 hc.2 (by decide) ((run_law5_FingerSums N p0 p1).trans h)⟩

end Go.Proofs.Ytnhdkcgekjildaa
