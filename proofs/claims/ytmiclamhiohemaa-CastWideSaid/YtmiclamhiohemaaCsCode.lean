/-
  The plain functions that runs of the code are: written by wip/gen/gen.py.
-/
import Derived.Test.YtmiclamhiohemaaAmLaw
import Derived.Test.YtmiclamhiohemaaCsSpec
import Derived.Test.YtmiclamhiohemaaChecked
import Derived.KernelRfl
namespace Go.Proofs.Ytmiclamhiohemaa
open Go.AM
set_option autoImplicit false
set_option linter.unusedVariables false
set_option maxRecDepth 100000
abbrev i_math_bits_Len64 : FuncId := 37
abbrev i_cast_Double : FuncId := 15
abbrev i_cast_Fits : FuncId := 22
abbrev i_cast_Float : FuncId := 17
abbrev i_cast_From : FuncId := 23
abbrev i_cast_To : FuncId := 24
abbrev i_cast_Widen : FuncId := 19
abbrev i_cast_Wire : FuncId := 21
abbrev i_cast_drawn : FuncId := 38
abbrev i_cast_nearest : FuncId := 35
abbrev i_law2_CastBack : FuncId := 4
abbrev i_law2_CastFloats : FuncId := 3
abbrev i_law2_CastGo : FuncId := 5
abbrev i_law2_CastOrder : FuncId := 7
abbrev i_law2_CastSmall : FuncId := 6
abbrev i_law2_CastWide : FuncId := 8
abbrev i_law2_begun : FuncId := 14
abbrev i_law2_step : FuncId := 25
abbrev i_ref1_Double : FuncId := 16
abbrev i_ref1_Float : FuncId := 18
abbrev i_ref1_Widen : FuncId := 20
abbrev i_ref1_near : FuncId := 36
noncomputable def G_math_bits_Len64 : Nat → List V → Option (Bool × V) := fun _ _ => none
noncomputable def Γ_math_bits_Len64 : ASpec := liftG G_math_bits_Len64
theorem pureS_math_bits_Len64 : PureS Γ_math_bits_Len64 [] := liftG_pure _ _
theorem spec_math_bits_Len64 : SpecOK Try.prog Γ_math_bits_Len64 := by
  intro f vs hp v hp' h
  obtain ⟨h, -⟩ := liftG_inv h
  simp [G_math_bits_Len64] at h
noncomputable def ir_math_bits_Len64_0 : IR := (.reg [⟨none, .mov 2 (.c (.int .i64 32))⟩] [])
noncomputable def ir_math_bits_Len64_1 : IR := (.cond (.t 4) (.seq (.reg [⟨none, .mov 5 (.t 0)⟩,
    ⟨none, .bin 6 .shr (.t 5) (.c (.int .u64 32))⟩,
    ⟨none, .mov 0 (.t 6)⟩] []) ir_math_bits_Len64_0) .skip)
noncomputable def ir_math_bits_Len64_2 : IR := (.reg [⟨none, .mov 11 (.t 2)⟩,
    ⟨none, .bin 12 .add (.t 11) (.c (.int .i64 16))⟩,
    ⟨none, .mov 2 (.t 12)⟩] [])
noncomputable def ir_math_bits_Len64_3 : IR := (.cond (.t 8) (.seq (.reg [⟨none, .mov 9 (.t 0)⟩,
    ⟨none, .bin 10 .shr (.t 9) (.c (.int .u64 16))⟩,
    ⟨none, .mov 0 (.t 10)⟩] []) ir_math_bits_Len64_2) .skip)
noncomputable def ir_math_bits_Len64_4 : IR := (.reg [⟨none, .mov 17 (.t 2)⟩,
    ⟨none, .bin 18 .add (.t 17) (.c (.int .i64 8))⟩,
    ⟨none, .mov 2 (.t 18)⟩] [])
noncomputable def ir_math_bits_Len64_5 : IR := (.cond (.t 14) (.seq (.reg [⟨none, .mov 15 (.t 0)⟩,
    ⟨none, .bin 16 .shr (.t 15) (.c (.int .u64 8))⟩,
    ⟨none, .mov 0 (.t 16)⟩] []) ir_math_bits_Len64_4) .skip)
noncomputable def ir_math_bits_Len64_6 : IR := .ret
noncomputable def ir_math_bits_Len64_7 : IR := (.seq (.reg [⟨none, .mov 19 (.t 2)⟩,
    ⟨none, .mov 20 (.t 0)⟩,
    ⟨none, .cvi 21 .u8 (.t 20)⟩,
    ⟨none, .idx 22 (.c (.str ([0, 1, 2, 2, 3, 3, 3, 3, 4, 4, 4, 4, 4, 4, 4, 4, 5, 5, 5, 5, 5, 5, 5, 5, 5, 5, 5, 5, 5, 5, 5, 5, 6, 6, 6, 6, 6, 6, 6, 6, 6, 6, 6, 6, 6, 6, 6, 6, 6, 6, 6, 6, 6, 6, 6, 6, 6, 6, 6, 6, 6, 6, 6, 6, 7, 7, 7, 7, 7, 7, 7, 7, 7, 7, 7, 7, 7, 7, 7, 7, 7, 7, 7, 7, 7, 7, 7, 7, 7, 7, 7, 7, 7, 7, 7, 7, 7, 7, 7, 7, 7, 7, 7, 7, 7, 7, 7, 7, 7, 7, 7, 7, 7, 7, 7, 7, 7, 7, 7, 7, 7, 7, 7, 7, 7, 7, 7, 7, 8, 8, 8, 8, 8, 8, 8, 8, 8, 8, 8, 8, 8, 8, 8, 8, 8, 8, 8, 8, 8, 8, 8, 8, 8, 8, 8, 8, 8, 8, 8, 8, 8, 8, 8, 8, 8, 8, 8, 8, 8, 8, 8, 8, 8, 8, 8, 8, 8, 8, 8, 8, 8, 8, 8, 8, 8, 8, 8, 8, 8, 8, 8, 8, 8, 8, 8, 8, 8, 8, 8, 8, 8, 8, 8, 8, 8, 8, 8, 8, 8, 8, 8, 8, 8, 8, 8, 8, 8, 8, 8, 8, 8, 8, 8, 8, 8, 8, 8, 8, 8, 8, 8, 8, 8, 8, 8, 8, 8, 8, 8, 8, 8, 8, 8, 8, 8, 8, 8, 8, 8, 8, 8, 8, 8, 8, 8, 8] : List UInt8))) (.t 21)⟩,
    ⟨none, .cvi 23 .i64 (.t 22)⟩,
    ⟨none, .bin 24 .add (.t 19) (.t 23)⟩,
    ⟨none, .mov 2 (.t 24)⟩] []) ir_math_bits_Len64_6)
noncomputable def ir_math_bits_Len64_8 : IR := (.seq (.seq (.reg [⟨none, .mov 13 (.t 0)⟩,
    ⟨none, .bin 14 .geq (.t 13) (.c (.int .u64 256))⟩] []) ir_math_bits_Len64_5) ir_math_bits_Len64_7)
noncomputable def ir_math_bits_Len64_9 : IR := (.seq (.seq (.reg [⟨none, .mov 7 (.t 0)⟩,
    ⟨none, .bin 8 .geq (.t 7) (.c (.int .u64 65536))⟩] []) ir_math_bits_Len64_3) ir_math_bits_Len64_8)
noncomputable def ir_math_bits_Len64_10 : IR := (.seq (.seq (.reg [⟨none, .mov 3 (.t 0)⟩,
    ⟨none, .bin 4 .geq (.t 3) (.c (.int .u64 4294967296))⟩] []) ir_math_bits_Len64_1) ir_math_bits_Len64_9)
noncomputable def ir_math_bits_Len64 : IR := (.seq (.reg [⟨none, .mov 2 (.c (.int .i64 0))⟩] []) ir_math_bits_Len64_10)
noncomputable def rs_math_bits_Len64 : List RV := [.t 2]
theorem chk_math_bits_Len64 : (chkCode Try.prog [] 0 ir_math_bits_Len64 (Try.f37.body.getD .skip) && chkRes Try.prog rs_math_bits_Len64 Try.f37.results.toList) = true := by kernel_rfl
theorem body_math_bits_Len64 : Try.f37.body = some (Try.f37.body.getD .skip) := by kernel_rfl
/-- math/bits.Len64 -/
noncomputable def sa_math_bits_Len64 (N : Nat) (p0 : Int)  : Option (V × List AObj) :=
  cond (decide (4294967296 ≤ p0)) (
    let x1 : Bool := decide (65536 ≤ (shrI .u64 p0 32))
    cond x1 (
      let x2 : Int := (shrI .u64 (shrI .u64 p0 32) 16)
      let x3 : Int := (IntKind.wrap .i64 (32 + 16))
      cond (decide (256 ≤ x2)) (
        let x4 : Int := (IntKind.wrap .i64 (x3 + 8))
        let x5 : Int := (IntKind.wrap .u8 (shrI .u64 x2 8))
        chk ((decide (0 ≤ x5) && decide (x5 < ↑(List.length ([0, 1, 2, 2, 3, 3, 3, 3, 4, 4, 4, 4, 4, 4, 4, 4, 5, 5, 5, 5, 5, 5, 5, 5, 5, 5, 5, 5, 5, 5, 5, 5, 6, 6, 6, 6, 6, 6, 6, 6, 6, 6, 6, 6, 6, 6, 6, 6, 6, 6, 6, 6, 6, 6, 6, 6, 6, 6, 6, 6, 6, 6, 6, 6, 7, 7, 7, 7, 7, 7, 7, 7, 7, 7, 7, 7, 7, 7, 7, 7, 7, 7, 7, 7, 7, 7, 7, 7, 7, 7, 7, 7, 7, 7, 7, 7, 7, 7, 7, 7, 7, 7, 7, 7, 7, 7, 7, 7, 7, 7, 7, 7, 7, 7, 7, 7, 7, 7, 7, 7, 7, 7, 7, 7, 7, 7, 7, 7, 8, 8, 8, 8, 8, 8, 8, 8, 8, 8, 8, 8, 8, 8, 8, 8, 8, 8, 8, 8, 8, 8, 8, 8, 8, 8, 8, 8, 8, 8, 8, 8, 8, 8, 8, 8, 8, 8, 8, 8, 8, 8, 8, 8, 8, 8, 8, 8, 8, 8, 8, 8, 8, 8, 8, 8, 8, 8, 8, 8, 8, 8, 8, 8, 8, 8, 8, 8, 8, 8, 8, 8, 8, 8, 8, 8, 8, 8, 8, 8, 8, 8, 8, 8, 8, 8, 8, 8, 8, 8, 8, 8, 8, 8, 8, 8, 8, 8, 8, 8, 8, 8, 8, 8, 8, 8, 8, 8, 8, 8, 8, 8, 8, 8, 8, 8, 8, 8, 8, 8, 8, 8, 8, 8, 8, 8, 8, 8] : List UInt8))))) (
          let x6 : Int := (↑(UInt8.toNat (List.getD ([0, 1, 2, 2, 3, 3, 3, 3, 4, 4, 4, 4, 4, 4, 4, 4, 5, 5, 5, 5, 5, 5, 5, 5, 5, 5, 5, 5, 5, 5, 5, 5, 6, 6, 6, 6, 6, 6, 6, 6, 6, 6, 6, 6, 6, 6, 6, 6, 6, 6, 6, 6, 6, 6, 6, 6, 6, 6, 6, 6, 6, 6, 6, 6, 7, 7, 7, 7, 7, 7, 7, 7, 7, 7, 7, 7, 7, 7, 7, 7, 7, 7, 7, 7, 7, 7, 7, 7, 7, 7, 7, 7, 7, 7, 7, 7, 7, 7, 7, 7, 7, 7, 7, 7, 7, 7, 7, 7, 7, 7, 7, 7, 7, 7, 7, 7, 7, 7, 7, 7, 7, 7, 7, 7, 7, 7, 7, 7, 8, 8, 8, 8, 8, 8, 8, 8, 8, 8, 8, 8, 8, 8, 8, 8, 8, 8, 8, 8, 8, 8, 8, 8, 8, 8, 8, 8, 8, 8, 8, 8, 8, 8, 8, 8, 8, 8, 8, 8, 8, 8, 8, 8, 8, 8, 8, 8, 8, 8, 8, 8, 8, 8, 8, 8, 8, 8, 8, 8, 8, 8, 8, 8, 8, 8, 8, 8, 8, 8, 8, 8, 8, 8, 8, 8, 8, 8, 8, 8, 8, 8, 8, 8, 8, 8, 8, 8, 8, 8, 8, 8, 8, 8, 8, 8, 8, 8, 8, 8, 8, 8, 8, 8, 8, 8, 8, 8, 8, 8, 8, 8, 8, 8, 8, 8, 8, 8, 8, 8, 8, 8, 8, 8, 8, 8, 8, 8] : List UInt8) (Int.toNat x5) 0)) : Int)
          let x7 : Int := (IntKind.wrap .i64 (x4 + (IntKind.wrap .i64 x6)))
          some (.int .i64 x7, []))) (
        chk ((decide (0 ≤ (IntKind.wrap .u8 x2)) && decide ((IntKind.wrap .u8 x2) < ↑(List.length ([0, 1, 2, 2, 3, 3, 3, 3, 4, 4, 4, 4, 4, 4, 4, 4, 5, 5, 5, 5, 5, 5, 5, 5, 5, 5, 5, 5, 5, 5, 5, 5, 6, 6, 6, 6, 6, 6, 6, 6, 6, 6, 6, 6, 6, 6, 6, 6, 6, 6, 6, 6, 6, 6, 6, 6, 6, 6, 6, 6, 6, 6, 6, 6, 7, 7, 7, 7, 7, 7, 7, 7, 7, 7, 7, 7, 7, 7, 7, 7, 7, 7, 7, 7, 7, 7, 7, 7, 7, 7, 7, 7, 7, 7, 7, 7, 7, 7, 7, 7, 7, 7, 7, 7, 7, 7, 7, 7, 7, 7, 7, 7, 7, 7, 7, 7, 7, 7, 7, 7, 7, 7, 7, 7, 7, 7, 7, 7, 8, 8, 8, 8, 8, 8, 8, 8, 8, 8, 8, 8, 8, 8, 8, 8, 8, 8, 8, 8, 8, 8, 8, 8, 8, 8, 8, 8, 8, 8, 8, 8, 8, 8, 8, 8, 8, 8, 8, 8, 8, 8, 8, 8, 8, 8, 8, 8, 8, 8, 8, 8, 8, 8, 8, 8, 8, 8, 8, 8, 8, 8, 8, 8, 8, 8, 8, 8, 8, 8, 8, 8, 8, 8, 8, 8, 8, 8, 8, 8, 8, 8, 8, 8, 8, 8, 8, 8, 8, 8, 8, 8, 8, 8, 8, 8, 8, 8, 8, 8, 8, 8, 8, 8, 8, 8, 8, 8, 8, 8, 8, 8, 8, 8, 8, 8, 8, 8, 8, 8, 8, 8, 8, 8, 8, 8, 8, 8] : List UInt8))))) (
          let x8 : Int := (↑(UInt8.toNat (List.getD ([0, 1, 2, 2, 3, 3, 3, 3, 4, 4, 4, 4, 4, 4, 4, 4, 5, 5, 5, 5, 5, 5, 5, 5, 5, 5, 5, 5, 5, 5, 5, 5, 6, 6, 6, 6, 6, 6, 6, 6, 6, 6, 6, 6, 6, 6, 6, 6, 6, 6, 6, 6, 6, 6, 6, 6, 6, 6, 6, 6, 6, 6, 6, 6, 7, 7, 7, 7, 7, 7, 7, 7, 7, 7, 7, 7, 7, 7, 7, 7, 7, 7, 7, 7, 7, 7, 7, 7, 7, 7, 7, 7, 7, 7, 7, 7, 7, 7, 7, 7, 7, 7, 7, 7, 7, 7, 7, 7, 7, 7, 7, 7, 7, 7, 7, 7, 7, 7, 7, 7, 7, 7, 7, 7, 7, 7, 7, 7, 8, 8, 8, 8, 8, 8, 8, 8, 8, 8, 8, 8, 8, 8, 8, 8, 8, 8, 8, 8, 8, 8, 8, 8, 8, 8, 8, 8, 8, 8, 8, 8, 8, 8, 8, 8, 8, 8, 8, 8, 8, 8, 8, 8, 8, 8, 8, 8, 8, 8, 8, 8, 8, 8, 8, 8, 8, 8, 8, 8, 8, 8, 8, 8, 8, 8, 8, 8, 8, 8, 8, 8, 8, 8, 8, 8, 8, 8, 8, 8, 8, 8, 8, 8, 8, 8, 8, 8, 8, 8, 8, 8, 8, 8, 8, 8, 8, 8, 8, 8, 8, 8, 8, 8, 8, 8, 8, 8, 8, 8, 8, 8, 8, 8, 8, 8, 8, 8, 8, 8, 8, 8, 8, 8, 8, 8, 8, 8] : List UInt8) (Int.toNat (IntKind.wrap .u8 x2)) 0)) : Int)
          let x9 : Int := (IntKind.wrap .i64 (x3 + (IntKind.wrap .i64 x8)))
          some (.int .i64 x9, [])))) (
      let x10 : Bool := decide (256 ≤ (shrI .u64 p0 32))
      cond x10 (
        let x11 : Int := (shrI .u64 (shrI .u64 p0 32) 8)
        let x12 : Int := (IntKind.wrap .i64 (32 + 8))
        chk ((decide (0 ≤ (IntKind.wrap .u8 x11)) && decide ((IntKind.wrap .u8 x11) < ↑(List.length ([0, 1, 2, 2, 3, 3, 3, 3, 4, 4, 4, 4, 4, 4, 4, 4, 5, 5, 5, 5, 5, 5, 5, 5, 5, 5, 5, 5, 5, 5, 5, 5, 6, 6, 6, 6, 6, 6, 6, 6, 6, 6, 6, 6, 6, 6, 6, 6, 6, 6, 6, 6, 6, 6, 6, 6, 6, 6, 6, 6, 6, 6, 6, 6, 7, 7, 7, 7, 7, 7, 7, 7, 7, 7, 7, 7, 7, 7, 7, 7, 7, 7, 7, 7, 7, 7, 7, 7, 7, 7, 7, 7, 7, 7, 7, 7, 7, 7, 7, 7, 7, 7, 7, 7, 7, 7, 7, 7, 7, 7, 7, 7, 7, 7, 7, 7, 7, 7, 7, 7, 7, 7, 7, 7, 7, 7, 7, 7, 8, 8, 8, 8, 8, 8, 8, 8, 8, 8, 8, 8, 8, 8, 8, 8, 8, 8, 8, 8, 8, 8, 8, 8, 8, 8, 8, 8, 8, 8, 8, 8, 8, 8, 8, 8, 8, 8, 8, 8, 8, 8, 8, 8, 8, 8, 8, 8, 8, 8, 8, 8, 8, 8, 8, 8, 8, 8, 8, 8, 8, 8, 8, 8, 8, 8, 8, 8, 8, 8, 8, 8, 8, 8, 8, 8, 8, 8, 8, 8, 8, 8, 8, 8, 8, 8, 8, 8, 8, 8, 8, 8, 8, 8, 8, 8, 8, 8, 8, 8, 8, 8, 8, 8, 8, 8, 8, 8, 8, 8, 8, 8, 8, 8, 8, 8, 8, 8, 8, 8, 8, 8, 8, 8, 8, 8, 8, 8] : List UInt8))))) (
          let x13 : Int := (↑(UInt8.toNat (List.getD ([0, 1, 2, 2, 3, 3, 3, 3, 4, 4, 4, 4, 4, 4, 4, 4, 5, 5, 5, 5, 5, 5, 5, 5, 5, 5, 5, 5, 5, 5, 5, 5, 6, 6, 6, 6, 6, 6, 6, 6, 6, 6, 6, 6, 6, 6, 6, 6, 6, 6, 6, 6, 6, 6, 6, 6, 6, 6, 6, 6, 6, 6, 6, 6, 7, 7, 7, 7, 7, 7, 7, 7, 7, 7, 7, 7, 7, 7, 7, 7, 7, 7, 7, 7, 7, 7, 7, 7, 7, 7, 7, 7, 7, 7, 7, 7, 7, 7, 7, 7, 7, 7, 7, 7, 7, 7, 7, 7, 7, 7, 7, 7, 7, 7, 7, 7, 7, 7, 7, 7, 7, 7, 7, 7, 7, 7, 7, 7, 8, 8, 8, 8, 8, 8, 8, 8, 8, 8, 8, 8, 8, 8, 8, 8, 8, 8, 8, 8, 8, 8, 8, 8, 8, 8, 8, 8, 8, 8, 8, 8, 8, 8, 8, 8, 8, 8, 8, 8, 8, 8, 8, 8, 8, 8, 8, 8, 8, 8, 8, 8, 8, 8, 8, 8, 8, 8, 8, 8, 8, 8, 8, 8, 8, 8, 8, 8, 8, 8, 8, 8, 8, 8, 8, 8, 8, 8, 8, 8, 8, 8, 8, 8, 8, 8, 8, 8, 8, 8, 8, 8, 8, 8, 8, 8, 8, 8, 8, 8, 8, 8, 8, 8, 8, 8, 8, 8, 8, 8, 8, 8, 8, 8, 8, 8, 8, 8, 8, 8, 8, 8, 8, 8, 8, 8, 8, 8] : List UInt8) (Int.toNat (IntKind.wrap .u8 x11)) 0)) : Int)
          let x14 : Int := (IntKind.wrap .i64 (x12 + (IntKind.wrap .i64 x13)))
          some (.int .i64 x14, []))) (
        let x15 : Int := (IntKind.wrap .u8 (shrI .u64 p0 32))
        chk ((decide (0 ≤ x15) && decide (x15 < ↑(List.length ([0, 1, 2, 2, 3, 3, 3, 3, 4, 4, 4, 4, 4, 4, 4, 4, 5, 5, 5, 5, 5, 5, 5, 5, 5, 5, 5, 5, 5, 5, 5, 5, 6, 6, 6, 6, 6, 6, 6, 6, 6, 6, 6, 6, 6, 6, 6, 6, 6, 6, 6, 6, 6, 6, 6, 6, 6, 6, 6, 6, 6, 6, 6, 6, 7, 7, 7, 7, 7, 7, 7, 7, 7, 7, 7, 7, 7, 7, 7, 7, 7, 7, 7, 7, 7, 7, 7, 7, 7, 7, 7, 7, 7, 7, 7, 7, 7, 7, 7, 7, 7, 7, 7, 7, 7, 7, 7, 7, 7, 7, 7, 7, 7, 7, 7, 7, 7, 7, 7, 7, 7, 7, 7, 7, 7, 7, 7, 7, 8, 8, 8, 8, 8, 8, 8, 8, 8, 8, 8, 8, 8, 8, 8, 8, 8, 8, 8, 8, 8, 8, 8, 8, 8, 8, 8, 8, 8, 8, 8, 8, 8, 8, 8, 8, 8, 8, 8, 8, 8, 8, 8, 8, 8, 8, 8, 8, 8, 8, 8, 8, 8, 8, 8, 8, 8, 8, 8, 8, 8, 8, 8, 8, 8, 8, 8, 8, 8, 8, 8, 8, 8, 8, 8, 8, 8, 8, 8, 8, 8, 8, 8, 8, 8, 8, 8, 8, 8, 8, 8, 8, 8, 8, 8, 8, 8, 8, 8, 8, 8, 8, 8, 8, 8, 8, 8, 8, 8, 8, 8, 8, 8, 8, 8, 8, 8, 8, 8, 8, 8, 8, 8, 8, 8, 8, 8, 8] : List UInt8))))) (
          let x16 : Int := (↑(UInt8.toNat (List.getD ([0, 1, 2, 2, 3, 3, 3, 3, 4, 4, 4, 4, 4, 4, 4, 4, 5, 5, 5, 5, 5, 5, 5, 5, 5, 5, 5, 5, 5, 5, 5, 5, 6, 6, 6, 6, 6, 6, 6, 6, 6, 6, 6, 6, 6, 6, 6, 6, 6, 6, 6, 6, 6, 6, 6, 6, 6, 6, 6, 6, 6, 6, 6, 6, 7, 7, 7, 7, 7, 7, 7, 7, 7, 7, 7, 7, 7, 7, 7, 7, 7, 7, 7, 7, 7, 7, 7, 7, 7, 7, 7, 7, 7, 7, 7, 7, 7, 7, 7, 7, 7, 7, 7, 7, 7, 7, 7, 7, 7, 7, 7, 7, 7, 7, 7, 7, 7, 7, 7, 7, 7, 7, 7, 7, 7, 7, 7, 7, 8, 8, 8, 8, 8, 8, 8, 8, 8, 8, 8, 8, 8, 8, 8, 8, 8, 8, 8, 8, 8, 8, 8, 8, 8, 8, 8, 8, 8, 8, 8, 8, 8, 8, 8, 8, 8, 8, 8, 8, 8, 8, 8, 8, 8, 8, 8, 8, 8, 8, 8, 8, 8, 8, 8, 8, 8, 8, 8, 8, 8, 8, 8, 8, 8, 8, 8, 8, 8, 8, 8, 8, 8, 8, 8, 8, 8, 8, 8, 8, 8, 8, 8, 8, 8, 8, 8, 8, 8, 8, 8, 8, 8, 8, 8, 8, 8, 8, 8, 8, 8, 8, 8, 8, 8, 8, 8, 8, 8, 8, 8, 8, 8, 8, 8, 8, 8, 8, 8, 8, 8, 8, 8, 8, 8, 8, 8, 8] : List UInt8) (Int.toNat x15) 0)) : Int)
          let x17 : Int := (IntKind.wrap .i64 (32 + (IntKind.wrap .i64 x16)))
          some (.int .i64 x17, []))))) (
    cond (decide (65536 ≤ p0)) (
      let x18 : Int := (IntKind.wrap .i64 (0 + 16))
      let x19 : Bool := decide (256 ≤ (shrI .u64 p0 16))
      cond x19 (
        let x20 : Int := (shrI .u64 (shrI .u64 p0 16) 8)
        let x21 : Int := (IntKind.wrap .i64 (x18 + 8))
        chk ((decide (0 ≤ (IntKind.wrap .u8 x20)) && decide ((IntKind.wrap .u8 x20) < ↑(List.length ([0, 1, 2, 2, 3, 3, 3, 3, 4, 4, 4, 4, 4, 4, 4, 4, 5, 5, 5, 5, 5, 5, 5, 5, 5, 5, 5, 5, 5, 5, 5, 5, 6, 6, 6, 6, 6, 6, 6, 6, 6, 6, 6, 6, 6, 6, 6, 6, 6, 6, 6, 6, 6, 6, 6, 6, 6, 6, 6, 6, 6, 6, 6, 6, 7, 7, 7, 7, 7, 7, 7, 7, 7, 7, 7, 7, 7, 7, 7, 7, 7, 7, 7, 7, 7, 7, 7, 7, 7, 7, 7, 7, 7, 7, 7, 7, 7, 7, 7, 7, 7, 7, 7, 7, 7, 7, 7, 7, 7, 7, 7, 7, 7, 7, 7, 7, 7, 7, 7, 7, 7, 7, 7, 7, 7, 7, 7, 7, 8, 8, 8, 8, 8, 8, 8, 8, 8, 8, 8, 8, 8, 8, 8, 8, 8, 8, 8, 8, 8, 8, 8, 8, 8, 8, 8, 8, 8, 8, 8, 8, 8, 8, 8, 8, 8, 8, 8, 8, 8, 8, 8, 8, 8, 8, 8, 8, 8, 8, 8, 8, 8, 8, 8, 8, 8, 8, 8, 8, 8, 8, 8, 8, 8, 8, 8, 8, 8, 8, 8, 8, 8, 8, 8, 8, 8, 8, 8, 8, 8, 8, 8, 8, 8, 8, 8, 8, 8, 8, 8, 8, 8, 8, 8, 8, 8, 8, 8, 8, 8, 8, 8, 8, 8, 8, 8, 8, 8, 8, 8, 8, 8, 8, 8, 8, 8, 8, 8, 8, 8, 8, 8, 8, 8, 8, 8, 8] : List UInt8))))) (
          let x22 : Int := (↑(UInt8.toNat (List.getD ([0, 1, 2, 2, 3, 3, 3, 3, 4, 4, 4, 4, 4, 4, 4, 4, 5, 5, 5, 5, 5, 5, 5, 5, 5, 5, 5, 5, 5, 5, 5, 5, 6, 6, 6, 6, 6, 6, 6, 6, 6, 6, 6, 6, 6, 6, 6, 6, 6, 6, 6, 6, 6, 6, 6, 6, 6, 6, 6, 6, 6, 6, 6, 6, 7, 7, 7, 7, 7, 7, 7, 7, 7, 7, 7, 7, 7, 7, 7, 7, 7, 7, 7, 7, 7, 7, 7, 7, 7, 7, 7, 7, 7, 7, 7, 7, 7, 7, 7, 7, 7, 7, 7, 7, 7, 7, 7, 7, 7, 7, 7, 7, 7, 7, 7, 7, 7, 7, 7, 7, 7, 7, 7, 7, 7, 7, 7, 7, 8, 8, 8, 8, 8, 8, 8, 8, 8, 8, 8, 8, 8, 8, 8, 8, 8, 8, 8, 8, 8, 8, 8, 8, 8, 8, 8, 8, 8, 8, 8, 8, 8, 8, 8, 8, 8, 8, 8, 8, 8, 8, 8, 8, 8, 8, 8, 8, 8, 8, 8, 8, 8, 8, 8, 8, 8, 8, 8, 8, 8, 8, 8, 8, 8, 8, 8, 8, 8, 8, 8, 8, 8, 8, 8, 8, 8, 8, 8, 8, 8, 8, 8, 8, 8, 8, 8, 8, 8, 8, 8, 8, 8, 8, 8, 8, 8, 8, 8, 8, 8, 8, 8, 8, 8, 8, 8, 8, 8, 8, 8, 8, 8, 8, 8, 8, 8, 8, 8, 8, 8, 8, 8, 8, 8, 8, 8, 8] : List UInt8) (Int.toNat (IntKind.wrap .u8 x20)) 0)) : Int)
          let x23 : Int := (IntKind.wrap .i64 (x21 + (IntKind.wrap .i64 x22)))
          some (.int .i64 x23, []))) (
        let x24 : Int := (IntKind.wrap .u8 (shrI .u64 p0 16))
        chk ((decide (0 ≤ x24) && decide (x24 < ↑(List.length ([0, 1, 2, 2, 3, 3, 3, 3, 4, 4, 4, 4, 4, 4, 4, 4, 5, 5, 5, 5, 5, 5, 5, 5, 5, 5, 5, 5, 5, 5, 5, 5, 6, 6, 6, 6, 6, 6, 6, 6, 6, 6, 6, 6, 6, 6, 6, 6, 6, 6, 6, 6, 6, 6, 6, 6, 6, 6, 6, 6, 6, 6, 6, 6, 7, 7, 7, 7, 7, 7, 7, 7, 7, 7, 7, 7, 7, 7, 7, 7, 7, 7, 7, 7, 7, 7, 7, 7, 7, 7, 7, 7, 7, 7, 7, 7, 7, 7, 7, 7, 7, 7, 7, 7, 7, 7, 7, 7, 7, 7, 7, 7, 7, 7, 7, 7, 7, 7, 7, 7, 7, 7, 7, 7, 7, 7, 7, 7, 8, 8, 8, 8, 8, 8, 8, 8, 8, 8, 8, 8, 8, 8, 8, 8, 8, 8, 8, 8, 8, 8, 8, 8, 8, 8, 8, 8, 8, 8, 8, 8, 8, 8, 8, 8, 8, 8, 8, 8, 8, 8, 8, 8, 8, 8, 8, 8, 8, 8, 8, 8, 8, 8, 8, 8, 8, 8, 8, 8, 8, 8, 8, 8, 8, 8, 8, 8, 8, 8, 8, 8, 8, 8, 8, 8, 8, 8, 8, 8, 8, 8, 8, 8, 8, 8, 8, 8, 8, 8, 8, 8, 8, 8, 8, 8, 8, 8, 8, 8, 8, 8, 8, 8, 8, 8, 8, 8, 8, 8, 8, 8, 8, 8, 8, 8, 8, 8, 8, 8, 8, 8, 8, 8, 8, 8, 8, 8] : List UInt8))))) (
          let x25 : Int := (↑(UInt8.toNat (List.getD ([0, 1, 2, 2, 3, 3, 3, 3, 4, 4, 4, 4, 4, 4, 4, 4, 5, 5, 5, 5, 5, 5, 5, 5, 5, 5, 5, 5, 5, 5, 5, 5, 6, 6, 6, 6, 6, 6, 6, 6, 6, 6, 6, 6, 6, 6, 6, 6, 6, 6, 6, 6, 6, 6, 6, 6, 6, 6, 6, 6, 6, 6, 6, 6, 7, 7, 7, 7, 7, 7, 7, 7, 7, 7, 7, 7, 7, 7, 7, 7, 7, 7, 7, 7, 7, 7, 7, 7, 7, 7, 7, 7, 7, 7, 7, 7, 7, 7, 7, 7, 7, 7, 7, 7, 7, 7, 7, 7, 7, 7, 7, 7, 7, 7, 7, 7, 7, 7, 7, 7, 7, 7, 7, 7, 7, 7, 7, 7, 8, 8, 8, 8, 8, 8, 8, 8, 8, 8, 8, 8, 8, 8, 8, 8, 8, 8, 8, 8, 8, 8, 8, 8, 8, 8, 8, 8, 8, 8, 8, 8, 8, 8, 8, 8, 8, 8, 8, 8, 8, 8, 8, 8, 8, 8, 8, 8, 8, 8, 8, 8, 8, 8, 8, 8, 8, 8, 8, 8, 8, 8, 8, 8, 8, 8, 8, 8, 8, 8, 8, 8, 8, 8, 8, 8, 8, 8, 8, 8, 8, 8, 8, 8, 8, 8, 8, 8, 8, 8, 8, 8, 8, 8, 8, 8, 8, 8, 8, 8, 8, 8, 8, 8, 8, 8, 8, 8, 8, 8, 8, 8, 8, 8, 8, 8, 8, 8, 8, 8, 8, 8, 8, 8, 8, 8, 8, 8] : List UInt8) (Int.toNat x24) 0)) : Int)
          let x26 : Int := (IntKind.wrap .i64 (x18 + (IntKind.wrap .i64 x25)))
          some (.int .i64 x26, [])))) (
      cond (decide (256 ≤ p0)) (
        let x27 : Int := (IntKind.wrap .i64 (0 + 8))
        let x28 : Int := (IntKind.wrap .u8 (shrI .u64 p0 8))
        chk ((decide (0 ≤ x28) && decide (x28 < ↑(List.length ([0, 1, 2, 2, 3, 3, 3, 3, 4, 4, 4, 4, 4, 4, 4, 4, 5, 5, 5, 5, 5, 5, 5, 5, 5, 5, 5, 5, 5, 5, 5, 5, 6, 6, 6, 6, 6, 6, 6, 6, 6, 6, 6, 6, 6, 6, 6, 6, 6, 6, 6, 6, 6, 6, 6, 6, 6, 6, 6, 6, 6, 6, 6, 6, 7, 7, 7, 7, 7, 7, 7, 7, 7, 7, 7, 7, 7, 7, 7, 7, 7, 7, 7, 7, 7, 7, 7, 7, 7, 7, 7, 7, 7, 7, 7, 7, 7, 7, 7, 7, 7, 7, 7, 7, 7, 7, 7, 7, 7, 7, 7, 7, 7, 7, 7, 7, 7, 7, 7, 7, 7, 7, 7, 7, 7, 7, 7, 7, 8, 8, 8, 8, 8, 8, 8, 8, 8, 8, 8, 8, 8, 8, 8, 8, 8, 8, 8, 8, 8, 8, 8, 8, 8, 8, 8, 8, 8, 8, 8, 8, 8, 8, 8, 8, 8, 8, 8, 8, 8, 8, 8, 8, 8, 8, 8, 8, 8, 8, 8, 8, 8, 8, 8, 8, 8, 8, 8, 8, 8, 8, 8, 8, 8, 8, 8, 8, 8, 8, 8, 8, 8, 8, 8, 8, 8, 8, 8, 8, 8, 8, 8, 8, 8, 8, 8, 8, 8, 8, 8, 8, 8, 8, 8, 8, 8, 8, 8, 8, 8, 8, 8, 8, 8, 8, 8, 8, 8, 8, 8, 8, 8, 8, 8, 8, 8, 8, 8, 8, 8, 8, 8, 8, 8, 8, 8, 8] : List UInt8))))) (
          let x29 : Int := (↑(UInt8.toNat (List.getD ([0, 1, 2, 2, 3, 3, 3, 3, 4, 4, 4, 4, 4, 4, 4, 4, 5, 5, 5, 5, 5, 5, 5, 5, 5, 5, 5, 5, 5, 5, 5, 5, 6, 6, 6, 6, 6, 6, 6, 6, 6, 6, 6, 6, 6, 6, 6, 6, 6, 6, 6, 6, 6, 6, 6, 6, 6, 6, 6, 6, 6, 6, 6, 6, 7, 7, 7, 7, 7, 7, 7, 7, 7, 7, 7, 7, 7, 7, 7, 7, 7, 7, 7, 7, 7, 7, 7, 7, 7, 7, 7, 7, 7, 7, 7, 7, 7, 7, 7, 7, 7, 7, 7, 7, 7, 7, 7, 7, 7, 7, 7, 7, 7, 7, 7, 7, 7, 7, 7, 7, 7, 7, 7, 7, 7, 7, 7, 7, 8, 8, 8, 8, 8, 8, 8, 8, 8, 8, 8, 8, 8, 8, 8, 8, 8, 8, 8, 8, 8, 8, 8, 8, 8, 8, 8, 8, 8, 8, 8, 8, 8, 8, 8, 8, 8, 8, 8, 8, 8, 8, 8, 8, 8, 8, 8, 8, 8, 8, 8, 8, 8, 8, 8, 8, 8, 8, 8, 8, 8, 8, 8, 8, 8, 8, 8, 8, 8, 8, 8, 8, 8, 8, 8, 8, 8, 8, 8, 8, 8, 8, 8, 8, 8, 8, 8, 8, 8, 8, 8, 8, 8, 8, 8, 8, 8, 8, 8, 8, 8, 8, 8, 8, 8, 8, 8, 8, 8, 8, 8, 8, 8, 8, 8, 8, 8, 8, 8, 8, 8, 8, 8, 8, 8, 8, 8, 8] : List UInt8) (Int.toNat x28) 0)) : Int)
          let x30 : Int := (IntKind.wrap .i64 (x27 + (IntKind.wrap .i64 x29)))
          some (.int .i64 x30, []))) (
        chk ((decide (0 ≤ (IntKind.wrap .u8 p0)) && decide ((IntKind.wrap .u8 p0) < ↑(List.length ([0, 1, 2, 2, 3, 3, 3, 3, 4, 4, 4, 4, 4, 4, 4, 4, 5, 5, 5, 5, 5, 5, 5, 5, 5, 5, 5, 5, 5, 5, 5, 5, 6, 6, 6, 6, 6, 6, 6, 6, 6, 6, 6, 6, 6, 6, 6, 6, 6, 6, 6, 6, 6, 6, 6, 6, 6, 6, 6, 6, 6, 6, 6, 6, 7, 7, 7, 7, 7, 7, 7, 7, 7, 7, 7, 7, 7, 7, 7, 7, 7, 7, 7, 7, 7, 7, 7, 7, 7, 7, 7, 7, 7, 7, 7, 7, 7, 7, 7, 7, 7, 7, 7, 7, 7, 7, 7, 7, 7, 7, 7, 7, 7, 7, 7, 7, 7, 7, 7, 7, 7, 7, 7, 7, 7, 7, 7, 7, 8, 8, 8, 8, 8, 8, 8, 8, 8, 8, 8, 8, 8, 8, 8, 8, 8, 8, 8, 8, 8, 8, 8, 8, 8, 8, 8, 8, 8, 8, 8, 8, 8, 8, 8, 8, 8, 8, 8, 8, 8, 8, 8, 8, 8, 8, 8, 8, 8, 8, 8, 8, 8, 8, 8, 8, 8, 8, 8, 8, 8, 8, 8, 8, 8, 8, 8, 8, 8, 8, 8, 8, 8, 8, 8, 8, 8, 8, 8, 8, 8, 8, 8, 8, 8, 8, 8, 8, 8, 8, 8, 8, 8, 8, 8, 8, 8, 8, 8, 8, 8, 8, 8, 8, 8, 8, 8, 8, 8, 8, 8, 8, 8, 8, 8, 8, 8, 8, 8, 8, 8, 8, 8, 8, 8, 8, 8, 8] : List UInt8))))) (
          let x31 : Int := (↑(UInt8.toNat (List.getD ([0, 1, 2, 2, 3, 3, 3, 3, 4, 4, 4, 4, 4, 4, 4, 4, 5, 5, 5, 5, 5, 5, 5, 5, 5, 5, 5, 5, 5, 5, 5, 5, 6, 6, 6, 6, 6, 6, 6, 6, 6, 6, 6, 6, 6, 6, 6, 6, 6, 6, 6, 6, 6, 6, 6, 6, 6, 6, 6, 6, 6, 6, 6, 6, 7, 7, 7, 7, 7, 7, 7, 7, 7, 7, 7, 7, 7, 7, 7, 7, 7, 7, 7, 7, 7, 7, 7, 7, 7, 7, 7, 7, 7, 7, 7, 7, 7, 7, 7, 7, 7, 7, 7, 7, 7, 7, 7, 7, 7, 7, 7, 7, 7, 7, 7, 7, 7, 7, 7, 7, 7, 7, 7, 7, 7, 7, 7, 7, 8, 8, 8, 8, 8, 8, 8, 8, 8, 8, 8, 8, 8, 8, 8, 8, 8, 8, 8, 8, 8, 8, 8, 8, 8, 8, 8, 8, 8, 8, 8, 8, 8, 8, 8, 8, 8, 8, 8, 8, 8, 8, 8, 8, 8, 8, 8, 8, 8, 8, 8, 8, 8, 8, 8, 8, 8, 8, 8, 8, 8, 8, 8, 8, 8, 8, 8, 8, 8, 8, 8, 8, 8, 8, 8, 8, 8, 8, 8, 8, 8, 8, 8, 8, 8, 8, 8, 8, 8, 8, 8, 8, 8, 8, 8, 8, 8, 8, 8, 8, 8, 8, 8, 8, 8, 8, 8, 8, 8, 8, 8, 8, 8, 8, 8, 8, 8, 8, 8, 8, 8, 8, 8, 8, 8, 8, 8, 8] : List UInt8) (Int.toNat (IntKind.wrap .u8 p0)) 0)) : Int)
          let x32 : Int := (IntKind.wrap .i64 (0 + (IntKind.wrap .i64 x31)))
          some (.int .i64 x32, [])))))
noncomputable def sh_math_bits_Len64 (N : Nat) (p0 : Int) : Option (V × List AObj) := sa_math_bits_Len64 N p0
theorem run_math_bits_Len64 (N : Nat) (p0 : Int) : callF Γ_math_bits_Len64 N 25 rs_math_bits_Len64 ir_math_bits_Len64 [.int .u64 p0] [] = sh_math_bits_Len64 N p0 := by kernel_rfl
theorem ok_math_bits_Len64 (hΓ : SpecOK Try.prog Γ_math_bits_Len64) (N : Nat) (p0 : Int) {v : V} {hp : List AObj} (h : sh_math_bits_Len64 N p0 = some (v, hp)) : PureOK Try.prog i_math_bits_Len64 [.int .u64 p0] v := by
  have hc := chk_math_bits_Len64
  simp only [Bool.and_eq_true] at hc
  exact ⟨hp, fnOK_of hΓ pureS_math_bits_Len64 Try.func37 body_math_bits_Len64 hc.1 hc.2 (by decide) ((run_math_bits_Len64 N p0).trans h)⟩

noncomputable def G_cast_drawn : Nat → List V → Option (Bool × V) := fun _ _ => none
noncomputable def Γ_cast_drawn : ASpec := liftG G_cast_drawn
theorem pureS_cast_drawn : PureS Γ_cast_drawn [] := liftG_pure _ _
theorem spec_cast_drawn : SpecOK Try.prog Γ_cast_drawn := by
  intro f vs hp v hp' h
  obtain ⟨h, -⟩ := liftG_inv h
  simp [G_cast_drawn] at h
noncomputable def ir_cast_drawn_0 : IR := .ret
noncomputable def ir_cast_drawn_1 : IR := (.seq (.reg [⟨none, .mov 3 (.t 0)⟩,
    ⟨none, .cvi 4 .u32 (.t 3)⟩,
    ⟨none, .cvi 5 .i32 (.t 4)⟩,
    ⟨none, .cvi 6 .i64 (.t 5)⟩,
    ⟨none, .cvi 7 .u64 (.t 6)⟩,
    ⟨none, .mov 2 (.t 7)⟩] []) ir_cast_drawn_0)
noncomputable def ir_cast_drawn : IR := (.seq (.reg [⟨none, .mov 2 (.c (.int .u64 0))⟩] []) ir_cast_drawn_1)
noncomputable def rs_cast_drawn : List RV := [.t 2]
theorem chk_cast_drawn : (chkCode Try.prog [] 0 ir_cast_drawn (Try.f38.body.getD .skip) && chkRes Try.prog rs_cast_drawn Try.f38.results.toList) = true := by kernel_rfl
theorem body_cast_drawn : Try.f38.body = some (Try.f38.body.getD .skip) := by kernel_rfl
/-- proclitic/cast.drawn -/
noncomputable def sa_cast_drawn (N : Nat) (p0 : Int)  : Option (V × List AObj) :=
  let x1 : Int := (IntKind.wrap .i32 (IntKind.wrap .u32 p0))
  let x2 : Int := (IntKind.wrap .u64 (IntKind.wrap .i64 x1))
  some (.int .u64 x2, [])
noncomputable def sh_cast_drawn (N : Nat) (p0 : Int) : Option (V × List AObj) := sa_cast_drawn N p0
theorem run_cast_drawn (N : Nat) (p0 : Int) : callF Γ_cast_drawn N 8 rs_cast_drawn ir_cast_drawn [.int .u64 p0] [] = sh_cast_drawn N p0 := by kernel_rfl
theorem ok_cast_drawn (hΓ : SpecOK Try.prog Γ_cast_drawn) (N : Nat) (p0 : Int) {v : V} {hp : List AObj} (h : sh_cast_drawn N p0 = some (v, hp)) : PureOK Try.prog i_cast_drawn [.int .u64 p0] v := by
  have hc := chk_cast_drawn
  simp only [Bool.and_eq_true] at hc
  exact ⟨hp, fnOK_of hΓ pureS_cast_drawn Try.func38 body_cast_drawn hc.1 hc.2 (by decide) ((run_cast_drawn N p0).trans h)⟩

noncomputable def G_cast_Wire : Nat → List V → Option (Bool × V) := fun _ _ => none
noncomputable def Γ_cast_Wire : ASpec := liftG G_cast_Wire
theorem pureS_cast_Wire : PureS Γ_cast_Wire [] := liftG_pure _ _
theorem spec_cast_Wire : SpecOK Try.prog Γ_cast_Wire := by
  intro f vs hp v hp' h
  obtain ⟨h, -⟩ := liftG_inv h
  simp [G_cast_Wire] at h
noncomputable def ir_cast_Wire_0 : IR := (.cond (.t 4) .skip (.reg [⟨none, .bin 7 .eql (.t 3) (.c (.int .i64 12))⟩,
    ⟨none, .mov 4 (.t 7)⟩] []))
noncomputable def ir_cast_Wire_1 : IR := (.cond (.t 4) .skip (.seq (.reg [⟨none, .bin 6 .eql (.t 3) (.c (.int .i64 10))⟩,
    ⟨none, .mov 4 (.t 6)⟩] []) ir_cast_Wire_0))
noncomputable def ir_cast_Wire_2 : IR := .ret
noncomputable def ir_cast_Wire_3 : IR := (.cond (.t 8) .skip (.reg [⟨none, .bin 11 .eql (.t 3) (.c (.int .i64 11))⟩,
    ⟨none, .mov 8 (.t 11)⟩] []))
noncomputable def ir_cast_Wire_4 : IR := (.cond (.t 8) .skip (.seq (.reg [⟨none, .bin 10 .eql (.t 3) (.c (.int .i64 9))⟩,
    ⟨none, .mov 8 (.t 10)⟩] []) ir_cast_Wire_3))
noncomputable def ir_cast_Wire_5 : IR := .ret
noncomputable def ir_cast_Wire_6 : IR := (.cond (.t 12) .skip (.reg [⟨none, .bin 15 .eql (.t 3) (.c (.int .i64 16))⟩,
    ⟨none, .mov 12 (.t 15)⟩] []))
noncomputable def ir_cast_Wire_7 : IR := (.cond (.t 12) .skip (.seq (.reg [⟨none, .bin 14 .eql (.t 3) (.c (.int .i64 15))⟩,
    ⟨none, .mov 12 (.t 14)⟩] []) ir_cast_Wire_6))
noncomputable def ir_cast_Wire_8 : IR := .ret
noncomputable def ir_cast_Wire_9 : IR := (.cond (.t 16) .skip (.reg [⟨none, .bin 24 .eql (.t 3) (.c (.int .i64 17))⟩,
    ⟨none, .mov 16 (.t 24)⟩] []))
noncomputable def ir_cast_Wire_10 : IR := (.cond (.t 16) .skip (.seq (.reg [⟨none, .bin 23 .eql (.t 3) (.c (.int .i64 13))⟩,
    ⟨none, .mov 16 (.t 23)⟩] []) ir_cast_Wire_9))
noncomputable def ir_cast_Wire_11 : IR := (.cond (.t 16) .skip (.seq (.reg [⟨none, .bin 22 .eql (.t 3) (.c (.int .i64 8))⟩,
    ⟨none, .mov 16 (.t 22)⟩] []) ir_cast_Wire_10))
noncomputable def ir_cast_Wire_12 : IR := (.cond (.t 16) .skip (.seq (.reg [⟨none, .bin 21 .eql (.t 3) (.c (.int .i64 7))⟩,
    ⟨none, .mov 16 (.t 21)⟩] []) ir_cast_Wire_11))
noncomputable def ir_cast_Wire_13 : IR := (.cond (.t 16) .skip (.seq (.reg [⟨none, .bin 20 .eql (.t 3) (.c (.int .i64 6))⟩,
    ⟨none, .mov 16 (.t 20)⟩] []) ir_cast_Wire_12))
noncomputable def ir_cast_Wire_14 : IR := (.cond (.t 16) .skip (.seq (.reg [⟨none, .bin 19 .eql (.t 3) (.c (.int .i64 5))⟩,
    ⟨none, .mov 16 (.t 19)⟩] []) ir_cast_Wire_13))
noncomputable def ir_cast_Wire_15 : IR := (.cond (.t 16) .skip (.seq (.reg [⟨none, .bin 18 .eql (.t 3) (.c (.int .i64 4))⟩,
    ⟨none, .mov 16 (.t 18)⟩] []) ir_cast_Wire_14))
noncomputable def ir_cast_Wire_16 : IR := .ret
noncomputable def ir_cast_Wire_17 : IR := (.cond (.t 16) (.seq (.reg [⟨none, .mov 2 (.c (.int .i64 0))⟩] []) ir_cast_Wire_16) .skip)
noncomputable def ir_cast_Wire_18 : IR := (.cond (.t 12) (.seq (.reg [⟨none, .mov 2 (.c (.int .i64 2))⟩] []) ir_cast_Wire_8) (.seq (.seq (.reg [⟨none, .bin 17 .eql (.t 3) (.c (.int .i64 3))⟩,
    ⟨none, .mov 16 (.t 17)⟩] []) ir_cast_Wire_15) ir_cast_Wire_17))
noncomputable def ir_cast_Wire_19 : IR := (.cond (.t 8) (.seq (.reg [⟨none, .mov 2 (.c (.int .i64 5))⟩] []) ir_cast_Wire_5) (.seq (.seq (.reg [⟨none, .bin 13 .eql (.t 3) (.c (.int .i64 14))⟩,
    ⟨none, .mov 12 (.t 13)⟩] []) ir_cast_Wire_7) ir_cast_Wire_18))
noncomputable def ir_cast_Wire_20 : IR := (.cond (.t 4) (.seq (.reg [⟨none, .mov 2 (.c (.int .i64 1))⟩] []) ir_cast_Wire_2) (.seq (.seq (.reg [⟨none, .bin 9 .eql (.t 3) (.c (.int .i64 2))⟩,
    ⟨none, .mov 8 (.t 9)⟩] []) ir_cast_Wire_4) ir_cast_Wire_19))
noncomputable def ir_cast_Wire_21 : IR := (.block 0 (.seq (.seq (.reg [⟨none, .bin 5 .eql (.t 3) (.c (.int .i64 1))⟩,
    ⟨none, .mov 4 (.t 5)⟩] []) ir_cast_Wire_1) ir_cast_Wire_20))
noncomputable def ir_cast_Wire_22 : IR := .ret
noncomputable def ir_cast_Wire_23 : IR := (.seq (.reg [⟨none, .mov 2 (.c (.int .i64 (-1)))⟩] []) ir_cast_Wire_22)
noncomputable def ir_cast_Wire_24 : IR := (.seq (.seq (.reg [⟨none, .mov 3 (.t 0)⟩] []) ir_cast_Wire_21) ir_cast_Wire_23)
noncomputable def ir_cast_Wire : IR := (.seq (.reg [⟨none, .mov 2 (.c (.int .i64 0))⟩] []) ir_cast_Wire_24)
noncomputable def rs_cast_Wire : List RV := [.t 2]
theorem chk_cast_Wire : (chkCode Try.prog [] 0 ir_cast_Wire (Try.f21.body.getD .skip) && chkRes Try.prog rs_cast_Wire Try.f21.results.toList) = true := by kernel_rfl
theorem body_cast_Wire : Try.f21.body = some (Try.f21.body.getD .skip) := by kernel_rfl
/-- proclitic/cast.Wire -/
noncomputable def sa_cast_Wire (N : Nat) (p0 : Int)  : Option (V × List AObj) :=
  cond (p0 == 1) (
    cond (p0 == 1) (
      some (.int .i64 1, [])) (
      cond (p0 == 2) (
        cond (p0 == 2) (
          some (.int .i64 5, [])) (
          cond (p0 == 14) (
            cond (p0 == 14) (
              some (.int .i64 2, [])) (
              cond (p0 == 3) (
                cond (p0 == 3) (
                  some (.int .i64 0, [])) (
                  some (.int .i64 (-1), []))) (
                cond (p0 == 4) (
                  cond (p0 == 4) (
                    some (.int .i64 0, [])) (
                    some (.int .i64 (-1), []))) (
                  cond (p0 == 5) (
                    cond (p0 == 5) (
                      some (.int .i64 0, [])) (
                      some (.int .i64 (-1), []))) (
                    cond (p0 == 6) (
                      cond (p0 == 6) (
                        some (.int .i64 0, [])) (
                        some (.int .i64 (-1), []))) (
                      cond (p0 == 7) (
                        cond (p0 == 7) (
                          some (.int .i64 0, [])) (
                          some (.int .i64 (-1), []))) (
                        cond (p0 == 8) (
                          cond (p0 == 8) (
                            some (.int .i64 0, [])) (
                            some (.int .i64 (-1), []))) (
                          cond (p0 == 13) (
                            cond (p0 == 13) (
                              some (.int .i64 0, [])) (
                              some (.int .i64 (-1), []))) (
                            cond (p0 == 17) (
                              some (.int .i64 0, [])) (
                              some (.int .i64 (-1), []))))))))))) (
            cond (p0 == 15) (
              cond (p0 == 15) (
                some (.int .i64 2, [])) (
                cond (p0 == 3) (
                  cond (p0 == 3) (
                    some (.int .i64 0, [])) (
                    some (.int .i64 (-1), []))) (
                  cond (p0 == 4) (
                    cond (p0 == 4) (
                      some (.int .i64 0, [])) (
                      some (.int .i64 (-1), []))) (
                    cond (p0 == 5) (
                      cond (p0 == 5) (
                        some (.int .i64 0, [])) (
                        some (.int .i64 (-1), []))) (
                      cond (p0 == 6) (
                        cond (p0 == 6) (
                          some (.int .i64 0, [])) (
                          some (.int .i64 (-1), []))) (
                        cond (p0 == 7) (
                          cond (p0 == 7) (
                            some (.int .i64 0, [])) (
                            some (.int .i64 (-1), []))) (
                          cond (p0 == 8) (
                            cond (p0 == 8) (
                              some (.int .i64 0, [])) (
                              some (.int .i64 (-1), []))) (
                            cond (p0 == 13) (
                              cond (p0 == 13) (
                                some (.int .i64 0, [])) (
                                some (.int .i64 (-1), []))) (
                              cond (p0 == 17) (
                                some (.int .i64 0, [])) (
                                some (.int .i64 (-1), []))))))))))) (
              cond (p0 == 16) (
                some (.int .i64 2, [])) (
                cond (p0 == 3) (
                  cond (p0 == 3) (
                    some (.int .i64 0, [])) (
                    some (.int .i64 (-1), []))) (
                  cond (p0 == 4) (
                    cond (p0 == 4) (
                      some (.int .i64 0, [])) (
                      some (.int .i64 (-1), []))) (
                    cond (p0 == 5) (
                      cond (p0 == 5) (
                        some (.int .i64 0, [])) (
                        some (.int .i64 (-1), []))) (
                      cond (p0 == 6) (
                        cond (p0 == 6) (
                          some (.int .i64 0, [])) (
                          some (.int .i64 (-1), []))) (
                        cond (p0 == 7) (
                          cond (p0 == 7) (
                            some (.int .i64 0, [])) (
                            some (.int .i64 (-1), []))) (
                          cond (p0 == 8) (
                            cond (p0 == 8) (
                              some (.int .i64 0, [])) (
                              some (.int .i64 (-1), []))) (
                            cond (p0 == 13) (
                              cond (p0 == 13) (
                                some (.int .i64 0, [])) (
                                some (.int .i64 (-1), []))) (
                              cond (p0 == 17) (
                                some (.int .i64 0, [])) (
                                some (.int .i64 (-1), [])))))))))))))) (
        cond (p0 == 9) (
          cond (p0 == 9) (
            some (.int .i64 5, [])) (
            cond (p0 == 14) (
              cond (p0 == 14) (
                some (.int .i64 2, [])) (
                cond (p0 == 3) (
                  cond (p0 == 3) (
                    some (.int .i64 0, [])) (
                    some (.int .i64 (-1), []))) (
                  cond (p0 == 4) (
                    cond (p0 == 4) (
                      some (.int .i64 0, [])) (
                      some (.int .i64 (-1), []))) (
                    cond (p0 == 5) (
                      cond (p0 == 5) (
                        some (.int .i64 0, [])) (
                        some (.int .i64 (-1), []))) (
                      cond (p0 == 6) (
                        cond (p0 == 6) (
                          some (.int .i64 0, [])) (
                          some (.int .i64 (-1), []))) (
                        cond (p0 == 7) (
                          cond (p0 == 7) (
                            some (.int .i64 0, [])) (
                            some (.int .i64 (-1), []))) (
                          cond (p0 == 8) (
                            cond (p0 == 8) (
                              some (.int .i64 0, [])) (
                              some (.int .i64 (-1), []))) (
                            cond (p0 == 13) (
                              cond (p0 == 13) (
                                some (.int .i64 0, [])) (
                                some (.int .i64 (-1), []))) (
                              cond (p0 == 17) (
                                some (.int .i64 0, [])) (
                                some (.int .i64 (-1), []))))))))))) (
              cond (p0 == 15) (
                cond (p0 == 15) (
                  some (.int .i64 2, [])) (
                  cond (p0 == 3) (
                    cond (p0 == 3) (
                      some (.int .i64 0, [])) (
                      some (.int .i64 (-1), []))) (
                    cond (p0 == 4) (
                      cond (p0 == 4) (
                        some (.int .i64 0, [])) (
                        some (.int .i64 (-1), []))) (
                      cond (p0 == 5) (
                        cond (p0 == 5) (
                          some (.int .i64 0, [])) (
                          some (.int .i64 (-1), []))) (
                        cond (p0 == 6) (
                          cond (p0 == 6) (
                            some (.int .i64 0, [])) (
                            some (.int .i64 (-1), []))) (
                          cond (p0 == 7) (
                            cond (p0 == 7) (
                              some (.int .i64 0, [])) (
                              some (.int .i64 (-1), []))) (
                            cond (p0 == 8) (
                              cond (p0 == 8) (
                                some (.int .i64 0, [])) (
                                some (.int .i64 (-1), []))) (
                              cond (p0 == 13) (
                                cond (p0 == 13) (
                                  some (.int .i64 0, [])) (
                                  some (.int .i64 (-1), []))) (
                                cond (p0 == 17) (
                                  some (.int .i64 0, [])) (
                                  some (.int .i64 (-1), []))))))))))) (
                cond (p0 == 16) (
                  some (.int .i64 2, [])) (
                  cond (p0 == 3) (
                    cond (p0 == 3) (
                      some (.int .i64 0, [])) (
                      some (.int .i64 (-1), []))) (
                    cond (p0 == 4) (
                      cond (p0 == 4) (
                        some (.int .i64 0, [])) (
                        some (.int .i64 (-1), []))) (
                      cond (p0 == 5) (
                        cond (p0 == 5) (
                          some (.int .i64 0, [])) (
                          some (.int .i64 (-1), []))) (
                        cond (p0 == 6) (
                          cond (p0 == 6) (
                            some (.int .i64 0, [])) (
                            some (.int .i64 (-1), []))) (
                          cond (p0 == 7) (
                            cond (p0 == 7) (
                              some (.int .i64 0, [])) (
                              some (.int .i64 (-1), []))) (
                            cond (p0 == 8) (
                              cond (p0 == 8) (
                                some (.int .i64 0, [])) (
                                some (.int .i64 (-1), []))) (
                              cond (p0 == 13) (
                                cond (p0 == 13) (
                                  some (.int .i64 0, [])) (
                                  some (.int .i64 (-1), []))) (
                                cond (p0 == 17) (
                                  some (.int .i64 0, [])) (
                                  some (.int .i64 (-1), [])))))))))))))) (
          cond (p0 == 11) (
            some (.int .i64 5, [])) (
            cond (p0 == 14) (
              cond (p0 == 14) (
                some (.int .i64 2, [])) (
                cond (p0 == 3) (
                  cond (p0 == 3) (
                    some (.int .i64 0, [])) (
                    some (.int .i64 (-1), []))) (
                  cond (p0 == 4) (
                    cond (p0 == 4) (
                      some (.int .i64 0, [])) (
                      some (.int .i64 (-1), []))) (
                    cond (p0 == 5) (
                      cond (p0 == 5) (
                        some (.int .i64 0, [])) (
                        some (.int .i64 (-1), []))) (
                      cond (p0 == 6) (
                        cond (p0 == 6) (
                          some (.int .i64 0, [])) (
                          some (.int .i64 (-1), []))) (
                        cond (p0 == 7) (
                          cond (p0 == 7) (
                            some (.int .i64 0, [])) (
                            some (.int .i64 (-1), []))) (
                          cond (p0 == 8) (
                            cond (p0 == 8) (
                              some (.int .i64 0, [])) (
                              some (.int .i64 (-1), []))) (
                            cond (p0 == 13) (
                              cond (p0 == 13) (
                                some (.int .i64 0, [])) (
                                some (.int .i64 (-1), []))) (
                              cond (p0 == 17) (
                                some (.int .i64 0, [])) (
                                some (.int .i64 (-1), []))))))))))) (
              cond (p0 == 15) (
                cond (p0 == 15) (
                  some (.int .i64 2, [])) (
                  cond (p0 == 3) (
                    cond (p0 == 3) (
                      some (.int .i64 0, [])) (
                      some (.int .i64 (-1), []))) (
                    cond (p0 == 4) (
                      cond (p0 == 4) (
                        some (.int .i64 0, [])) (
                        some (.int .i64 (-1), []))) (
                      cond (p0 == 5) (
                        cond (p0 == 5) (
                          some (.int .i64 0, [])) (
                          some (.int .i64 (-1), []))) (
                        cond (p0 == 6) (
                          cond (p0 == 6) (
                            some (.int .i64 0, [])) (
                            some (.int .i64 (-1), []))) (
                          cond (p0 == 7) (
                            cond (p0 == 7) (
                              some (.int .i64 0, [])) (
                              some (.int .i64 (-1), []))) (
                            cond (p0 == 8) (
                              cond (p0 == 8) (
                                some (.int .i64 0, [])) (
                                some (.int .i64 (-1), []))) (
                              cond (p0 == 13) (
                                cond (p0 == 13) (
                                  some (.int .i64 0, [])) (
                                  some (.int .i64 (-1), []))) (
                                cond (p0 == 17) (
                                  some (.int .i64 0, [])) (
                                  some (.int .i64 (-1), []))))))))))) (
                cond (p0 == 16) (
                  some (.int .i64 2, [])) (
                  cond (p0 == 3) (
                    cond (p0 == 3) (
                      some (.int .i64 0, [])) (
                      some (.int .i64 (-1), []))) (
                    cond (p0 == 4) (
                      cond (p0 == 4) (
                        some (.int .i64 0, [])) (
                        some (.int .i64 (-1), []))) (
                      cond (p0 == 5) (
                        cond (p0 == 5) (
                          some (.int .i64 0, [])) (
                          some (.int .i64 (-1), []))) (
                        cond (p0 == 6) (
                          cond (p0 == 6) (
                            some (.int .i64 0, [])) (
                            some (.int .i64 (-1), []))) (
                          cond (p0 == 7) (
                            cond (p0 == 7) (
                              some (.int .i64 0, [])) (
                              some (.int .i64 (-1), []))) (
                            cond (p0 == 8) (
                              cond (p0 == 8) (
                                some (.int .i64 0, [])) (
                                some (.int .i64 (-1), []))) (
                              cond (p0 == 13) (
                                cond (p0 == 13) (
                                  some (.int .i64 0, [])) (
                                  some (.int .i64 (-1), []))) (
                                cond (p0 == 17) (
                                  some (.int .i64 0, [])) (
                                  some (.int .i64 (-1), []))))))))))))))))) (
    cond (p0 == 10) (
      cond (p0 == 10) (
        some (.int .i64 1, [])) (
        cond (p0 == 2) (
          cond (p0 == 2) (
            some (.int .i64 5, [])) (
            cond (p0 == 14) (
              cond (p0 == 14) (
                some (.int .i64 2, [])) (
                cond (p0 == 3) (
                  cond (p0 == 3) (
                    some (.int .i64 0, [])) (
                    some (.int .i64 (-1), []))) (
                  cond (p0 == 4) (
                    cond (p0 == 4) (
                      some (.int .i64 0, [])) (
                      some (.int .i64 (-1), []))) (
                    cond (p0 == 5) (
                      cond (p0 == 5) (
                        some (.int .i64 0, [])) (
                        some (.int .i64 (-1), []))) (
                      cond (p0 == 6) (
                        cond (p0 == 6) (
                          some (.int .i64 0, [])) (
                          some (.int .i64 (-1), []))) (
                        cond (p0 == 7) (
                          cond (p0 == 7) (
                            some (.int .i64 0, [])) (
                            some (.int .i64 (-1), []))) (
                          cond (p0 == 8) (
                            cond (p0 == 8) (
                              some (.int .i64 0, [])) (
                              some (.int .i64 (-1), []))) (
                            cond (p0 == 13) (
                              cond (p0 == 13) (
                                some (.int .i64 0, [])) (
                                some (.int .i64 (-1), []))) (
                              cond (p0 == 17) (
                                some (.int .i64 0, [])) (
                                some (.int .i64 (-1), []))))))))))) (
              cond (p0 == 15) (
                cond (p0 == 15) (
                  some (.int .i64 2, [])) (
                  cond (p0 == 3) (
                    cond (p0 == 3) (
                      some (.int .i64 0, [])) (
                      some (.int .i64 (-1), []))) (
                    cond (p0 == 4) (
                      cond (p0 == 4) (
                        some (.int .i64 0, [])) (
                        some (.int .i64 (-1), []))) (
                      cond (p0 == 5) (
                        cond (p0 == 5) (
                          some (.int .i64 0, [])) (
                          some (.int .i64 (-1), []))) (
                        cond (p0 == 6) (
                          cond (p0 == 6) (
                            some (.int .i64 0, [])) (
                            some (.int .i64 (-1), []))) (
                          cond (p0 == 7) (
                            cond (p0 == 7) (
                              some (.int .i64 0, [])) (
                              some (.int .i64 (-1), []))) (
                            cond (p0 == 8) (
                              cond (p0 == 8) (
                                some (.int .i64 0, [])) (
                                some (.int .i64 (-1), []))) (
                              cond (p0 == 13) (
                                cond (p0 == 13) (
                                  some (.int .i64 0, [])) (
                                  some (.int .i64 (-1), []))) (
                                cond (p0 == 17) (
                                  some (.int .i64 0, [])) (
                                  some (.int .i64 (-1), []))))))))))) (
                cond (p0 == 16) (
                  some (.int .i64 2, [])) (
                  cond (p0 == 3) (
                    cond (p0 == 3) (
                      some (.int .i64 0, [])) (
                      some (.int .i64 (-1), []))) (
                    cond (p0 == 4) (
                      cond (p0 == 4) (
                        some (.int .i64 0, [])) (
                        some (.int .i64 (-1), []))) (
                      cond (p0 == 5) (
                        cond (p0 == 5) (
                          some (.int .i64 0, [])) (
                          some (.int .i64 (-1), []))) (
                        cond (p0 == 6) (
                          cond (p0 == 6) (
                            some (.int .i64 0, [])) (
                            some (.int .i64 (-1), []))) (
                          cond (p0 == 7) (
                            cond (p0 == 7) (
                              some (.int .i64 0, [])) (
                              some (.int .i64 (-1), []))) (
                            cond (p0 == 8) (
                              cond (p0 == 8) (
                                some (.int .i64 0, [])) (
                                some (.int .i64 (-1), []))) (
                              cond (p0 == 13) (
                                cond (p0 == 13) (
                                  some (.int .i64 0, [])) (
                                  some (.int .i64 (-1), []))) (
                                cond (p0 == 17) (
                                  some (.int .i64 0, [])) (
                                  some (.int .i64 (-1), [])))))))))))))) (
          cond (p0 == 9) (
            cond (p0 == 9) (
              some (.int .i64 5, [])) (
              cond (p0 == 14) (
                cond (p0 == 14) (
                  some (.int .i64 2, [])) (
                  cond (p0 == 3) (
                    cond (p0 == 3) (
                      some (.int .i64 0, [])) (
                      some (.int .i64 (-1), []))) (
                    cond (p0 == 4) (
                      cond (p0 == 4) (
                        some (.int .i64 0, [])) (
                        some (.int .i64 (-1), []))) (
                      cond (p0 == 5) (
                        cond (p0 == 5) (
                          some (.int .i64 0, [])) (
                          some (.int .i64 (-1), []))) (
                        cond (p0 == 6) (
                          cond (p0 == 6) (
                            some (.int .i64 0, [])) (
                            some (.int .i64 (-1), []))) (
                          cond (p0 == 7) (
                            cond (p0 == 7) (
                              some (.int .i64 0, [])) (
                              some (.int .i64 (-1), []))) (
                            cond (p0 == 8) (
                              cond (p0 == 8) (
                                some (.int .i64 0, [])) (
                                some (.int .i64 (-1), []))) (
                              cond (p0 == 13) (
                                cond (p0 == 13) (
                                  some (.int .i64 0, [])) (
                                  some (.int .i64 (-1), []))) (
                                cond (p0 == 17) (
                                  some (.int .i64 0, [])) (
                                  some (.int .i64 (-1), []))))))))))) (
                cond (p0 == 15) (
                  cond (p0 == 15) (
                    some (.int .i64 2, [])) (
                    cond (p0 == 3) (
                      cond (p0 == 3) (
                        some (.int .i64 0, [])) (
                        some (.int .i64 (-1), []))) (
                      cond (p0 == 4) (
                        cond (p0 == 4) (
                          some (.int .i64 0, [])) (
                          some (.int .i64 (-1), []))) (
                        cond (p0 == 5) (
                          cond (p0 == 5) (
                            some (.int .i64 0, [])) (
                            some (.int .i64 (-1), []))) (
                          cond (p0 == 6) (
                            cond (p0 == 6) (
                              some (.int .i64 0, [])) (
                              some (.int .i64 (-1), []))) (
                            cond (p0 == 7) (
                              cond (p0 == 7) (
                                some (.int .i64 0, [])) (
                                some (.int .i64 (-1), []))) (
                              cond (p0 == 8) (
                                cond (p0 == 8) (
                                  some (.int .i64 0, [])) (
                                  some (.int .i64 (-1), []))) (
                                cond (p0 == 13) (
                                  cond (p0 == 13) (
                                    some (.int .i64 0, [])) (
                                    some (.int .i64 (-1), []))) (
                                  cond (p0 == 17) (
                                    some (.int .i64 0, [])) (
                                    some (.int .i64 (-1), []))))))))))) (
                  cond (p0 == 16) (
                    some (.int .i64 2, [])) (
                    cond (p0 == 3) (
                      cond (p0 == 3) (
                        some (.int .i64 0, [])) (
                        some (.int .i64 (-1), []))) (
                      cond (p0 == 4) (
                        cond (p0 == 4) (
                          some (.int .i64 0, [])) (
                          some (.int .i64 (-1), []))) (
                        cond (p0 == 5) (
                          cond (p0 == 5) (
                            some (.int .i64 0, [])) (
                            some (.int .i64 (-1), []))) (
                          cond (p0 == 6) (
                            cond (p0 == 6) (
                              some (.int .i64 0, [])) (
                              some (.int .i64 (-1), []))) (
                            cond (p0 == 7) (
                              cond (p0 == 7) (
                                some (.int .i64 0, [])) (
                                some (.int .i64 (-1), []))) (
                              cond (p0 == 8) (
                                cond (p0 == 8) (
                                  some (.int .i64 0, [])) (
                                  some (.int .i64 (-1), []))) (
                                cond (p0 == 13) (
                                  cond (p0 == 13) (
                                    some (.int .i64 0, [])) (
                                    some (.int .i64 (-1), []))) (
                                  cond (p0 == 17) (
                                    some (.int .i64 0, [])) (
                                    some (.int .i64 (-1), [])))))))))))))) (
            cond (p0 == 11) (
              some (.int .i64 5, [])) (
              cond (p0 == 14) (
                cond (p0 == 14) (
                  some (.int .i64 2, [])) (
                  cond (p0 == 3) (
                    cond (p0 == 3) (
                      some (.int .i64 0, [])) (
                      some (.int .i64 (-1), []))) (
                    cond (p0 == 4) (
                      cond (p0 == 4) (
                        some (.int .i64 0, [])) (
                        some (.int .i64 (-1), []))) (
                      cond (p0 == 5) (
                        cond (p0 == 5) (
                          some (.int .i64 0, [])) (
                          some (.int .i64 (-1), []))) (
                        cond (p0 == 6) (
                          cond (p0 == 6) (
                            some (.int .i64 0, [])) (
                            some (.int .i64 (-1), []))) (
                          cond (p0 == 7) (
                            cond (p0 == 7) (
                              some (.int .i64 0, [])) (
                              some (.int .i64 (-1), []))) (
                            cond (p0 == 8) (
                              cond (p0 == 8) (
                                some (.int .i64 0, [])) (
                                some (.int .i64 (-1), []))) (
                              cond (p0 == 13) (
                                cond (p0 == 13) (
                                  some (.int .i64 0, [])) (
                                  some (.int .i64 (-1), []))) (
                                cond (p0 == 17) (
                                  some (.int .i64 0, [])) (
                                  some (.int .i64 (-1), []))))))))))) (
                cond (p0 == 15) (
                  cond (p0 == 15) (
                    some (.int .i64 2, [])) (
                    cond (p0 == 3) (
                      cond (p0 == 3) (
                        some (.int .i64 0, [])) (
                        some (.int .i64 (-1), []))) (
                      cond (p0 == 4) (
                        cond (p0 == 4) (
                          some (.int .i64 0, [])) (
                          some (.int .i64 (-1), []))) (
                        cond (p0 == 5) (
                          cond (p0 == 5) (
                            some (.int .i64 0, [])) (
                            some (.int .i64 (-1), []))) (
                          cond (p0 == 6) (
                            cond (p0 == 6) (
                              some (.int .i64 0, [])) (
                              some (.int .i64 (-1), []))) (
                            cond (p0 == 7) (
                              cond (p0 == 7) (
                                some (.int .i64 0, [])) (
                                some (.int .i64 (-1), []))) (
                              cond (p0 == 8) (
                                cond (p0 == 8) (
                                  some (.int .i64 0, [])) (
                                  some (.int .i64 (-1), []))) (
                                cond (p0 == 13) (
                                  cond (p0 == 13) (
                                    some (.int .i64 0, [])) (
                                    some (.int .i64 (-1), []))) (
                                  cond (p0 == 17) (
                                    some (.int .i64 0, [])) (
                                    some (.int .i64 (-1), []))))))))))) (
                  cond (p0 == 16) (
                    some (.int .i64 2, [])) (
                    cond (p0 == 3) (
                      cond (p0 == 3) (
                        some (.int .i64 0, [])) (
                        some (.int .i64 (-1), []))) (
                      cond (p0 == 4) (
                        cond (p0 == 4) (
                          some (.int .i64 0, [])) (
                          some (.int .i64 (-1), []))) (
                        cond (p0 == 5) (
                          cond (p0 == 5) (
                            some (.int .i64 0, [])) (
                            some (.int .i64 (-1), []))) (
                          cond (p0 == 6) (
                            cond (p0 == 6) (
                              some (.int .i64 0, [])) (
                              some (.int .i64 (-1), []))) (
                            cond (p0 == 7) (
                              cond (p0 == 7) (
                                some (.int .i64 0, [])) (
                                some (.int .i64 (-1), []))) (
                              cond (p0 == 8) (
                                cond (p0 == 8) (
                                  some (.int .i64 0, [])) (
                                  some (.int .i64 (-1), []))) (
                                cond (p0 == 13) (
                                  cond (p0 == 13) (
                                    some (.int .i64 0, [])) (
                                    some (.int .i64 (-1), []))) (
                                  cond (p0 == 17) (
                                    some (.int .i64 0, [])) (
                                    some (.int .i64 (-1), []))))))))))))))))) (
      cond (p0 == 12) (
        some (.int .i64 1, [])) (
        cond (p0 == 2) (
          cond (p0 == 2) (
            some (.int .i64 5, [])) (
            cond (p0 == 14) (
              cond (p0 == 14) (
                some (.int .i64 2, [])) (
                cond (p0 == 3) (
                  cond (p0 == 3) (
                    some (.int .i64 0, [])) (
                    some (.int .i64 (-1), []))) (
                  cond (p0 == 4) (
                    cond (p0 == 4) (
                      some (.int .i64 0, [])) (
                      some (.int .i64 (-1), []))) (
                    cond (p0 == 5) (
                      cond (p0 == 5) (
                        some (.int .i64 0, [])) (
                        some (.int .i64 (-1), []))) (
                      cond (p0 == 6) (
                        cond (p0 == 6) (
                          some (.int .i64 0, [])) (
                          some (.int .i64 (-1), []))) (
                        cond (p0 == 7) (
                          cond (p0 == 7) (
                            some (.int .i64 0, [])) (
                            some (.int .i64 (-1), []))) (
                          cond (p0 == 8) (
                            cond (p0 == 8) (
                              some (.int .i64 0, [])) (
                              some (.int .i64 (-1), []))) (
                            cond (p0 == 13) (
                              cond (p0 == 13) (
                                some (.int .i64 0, [])) (
                                some (.int .i64 (-1), []))) (
                              cond (p0 == 17) (
                                some (.int .i64 0, [])) (
                                some (.int .i64 (-1), []))))))))))) (
              cond (p0 == 15) (
                cond (p0 == 15) (
                  some (.int .i64 2, [])) (
                  cond (p0 == 3) (
                    cond (p0 == 3) (
                      some (.int .i64 0, [])) (
                      some (.int .i64 (-1), []))) (
                    cond (p0 == 4) (
                      cond (p0 == 4) (
                        some (.int .i64 0, [])) (
                        some (.int .i64 (-1), []))) (
                      cond (p0 == 5) (
                        cond (p0 == 5) (
                          some (.int .i64 0, [])) (
                          some (.int .i64 (-1), []))) (
                        cond (p0 == 6) (
                          cond (p0 == 6) (
                            some (.int .i64 0, [])) (
                            some (.int .i64 (-1), []))) (
                          cond (p0 == 7) (
                            cond (p0 == 7) (
                              some (.int .i64 0, [])) (
                              some (.int .i64 (-1), []))) (
                            cond (p0 == 8) (
                              cond (p0 == 8) (
                                some (.int .i64 0, [])) (
                                some (.int .i64 (-1), []))) (
                              cond (p0 == 13) (
                                cond (p0 == 13) (
                                  some (.int .i64 0, [])) (
                                  some (.int .i64 (-1), []))) (
                                cond (p0 == 17) (
                                  some (.int .i64 0, [])) (
                                  some (.int .i64 (-1), []))))))))))) (
                cond (p0 == 16) (
                  some (.int .i64 2, [])) (
                  cond (p0 == 3) (
                    cond (p0 == 3) (
                      some (.int .i64 0, [])) (
                      some (.int .i64 (-1), []))) (
                    cond (p0 == 4) (
                      cond (p0 == 4) (
                        some (.int .i64 0, [])) (
                        some (.int .i64 (-1), []))) (
                      cond (p0 == 5) (
                        cond (p0 == 5) (
                          some (.int .i64 0, [])) (
                          some (.int .i64 (-1), []))) (
                        cond (p0 == 6) (
                          cond (p0 == 6) (
                            some (.int .i64 0, [])) (
                            some (.int .i64 (-1), []))) (
                          cond (p0 == 7) (
                            cond (p0 == 7) (
                              some (.int .i64 0, [])) (
                              some (.int .i64 (-1), []))) (
                            cond (p0 == 8) (
                              cond (p0 == 8) (
                                some (.int .i64 0, [])) (
                                some (.int .i64 (-1), []))) (
                              cond (p0 == 13) (
                                cond (p0 == 13) (
                                  some (.int .i64 0, [])) (
                                  some (.int .i64 (-1), []))) (
                                cond (p0 == 17) (
                                  some (.int .i64 0, [])) (
                                  some (.int .i64 (-1), [])))))))))))))) (
          cond (p0 == 9) (
            cond (p0 == 9) (
              some (.int .i64 5, [])) (
              cond (p0 == 14) (
                cond (p0 == 14) (
                  some (.int .i64 2, [])) (
                  cond (p0 == 3) (
                    cond (p0 == 3) (
                      some (.int .i64 0, [])) (
                      some (.int .i64 (-1), []))) (
                    cond (p0 == 4) (
                      cond (p0 == 4) (
                        some (.int .i64 0, [])) (
                        some (.int .i64 (-1), []))) (
                      cond (p0 == 5) (
                        cond (p0 == 5) (
                          some (.int .i64 0, [])) (
                          some (.int .i64 (-1), []))) (
                        cond (p0 == 6) (
                          cond (p0 == 6) (
                            some (.int .i64 0, [])) (
                            some (.int .i64 (-1), []))) (
                          cond (p0 == 7) (
                            cond (p0 == 7) (
                              some (.int .i64 0, [])) (
                              some (.int .i64 (-1), []))) (
                            cond (p0 == 8) (
                              cond (p0 == 8) (
                                some (.int .i64 0, [])) (
                                some (.int .i64 (-1), []))) (
                              cond (p0 == 13) (
                                cond (p0 == 13) (
                                  some (.int .i64 0, [])) (
                                  some (.int .i64 (-1), []))) (
                                cond (p0 == 17) (
                                  some (.int .i64 0, [])) (
                                  some (.int .i64 (-1), []))))))))))) (
                cond (p0 == 15) (
                  cond (p0 == 15) (
                    some (.int .i64 2, [])) (
                    cond (p0 == 3) (
                      cond (p0 == 3) (
                        some (.int .i64 0, [])) (
                        some (.int .i64 (-1), []))) (
                      cond (p0 == 4) (
                        cond (p0 == 4) (
                          some (.int .i64 0, [])) (
                          some (.int .i64 (-1), []))) (
                        cond (p0 == 5) (
                          cond (p0 == 5) (
                            some (.int .i64 0, [])) (
                            some (.int .i64 (-1), []))) (
                          cond (p0 == 6) (
                            cond (p0 == 6) (
                              some (.int .i64 0, [])) (
                              some (.int .i64 (-1), []))) (
                            cond (p0 == 7) (
                              cond (p0 == 7) (
                                some (.int .i64 0, [])) (
                                some (.int .i64 (-1), []))) (
                              cond (p0 == 8) (
                                cond (p0 == 8) (
                                  some (.int .i64 0, [])) (
                                  some (.int .i64 (-1), []))) (
                                cond (p0 == 13) (
                                  cond (p0 == 13) (
                                    some (.int .i64 0, [])) (
                                    some (.int .i64 (-1), []))) (
                                  cond (p0 == 17) (
                                    some (.int .i64 0, [])) (
                                    some (.int .i64 (-1), []))))))))))) (
                  cond (p0 == 16) (
                    some (.int .i64 2, [])) (
                    cond (p0 == 3) (
                      cond (p0 == 3) (
                        some (.int .i64 0, [])) (
                        some (.int .i64 (-1), []))) (
                      cond (p0 == 4) (
                        cond (p0 == 4) (
                          some (.int .i64 0, [])) (
                          some (.int .i64 (-1), []))) (
                        cond (p0 == 5) (
                          cond (p0 == 5) (
                            some (.int .i64 0, [])) (
                            some (.int .i64 (-1), []))) (
                          cond (p0 == 6) (
                            cond (p0 == 6) (
                              some (.int .i64 0, [])) (
                              some (.int .i64 (-1), []))) (
                            cond (p0 == 7) (
                              cond (p0 == 7) (
                                some (.int .i64 0, [])) (
                                some (.int .i64 (-1), []))) (
                              cond (p0 == 8) (
                                cond (p0 == 8) (
                                  some (.int .i64 0, [])) (
                                  some (.int .i64 (-1), []))) (
                                cond (p0 == 13) (
                                  cond (p0 == 13) (
                                    some (.int .i64 0, [])) (
                                    some (.int .i64 (-1), []))) (
                                  cond (p0 == 17) (
                                    some (.int .i64 0, [])) (
                                    some (.int .i64 (-1), [])))))))))))))) (
            cond (p0 == 11) (
              some (.int .i64 5, [])) (
              cond (p0 == 14) (
                cond (p0 == 14) (
                  some (.int .i64 2, [])) (
                  cond (p0 == 3) (
                    cond (p0 == 3) (
                      some (.int .i64 0, [])) (
                      some (.int .i64 (-1), []))) (
                    cond (p0 == 4) (
                      cond (p0 == 4) (
                        some (.int .i64 0, [])) (
                        some (.int .i64 (-1), []))) (
                      cond (p0 == 5) (
                        cond (p0 == 5) (
                          some (.int .i64 0, [])) (
                          some (.int .i64 (-1), []))) (
                        cond (p0 == 6) (
                          cond (p0 == 6) (
                            some (.int .i64 0, [])) (
                            some (.int .i64 (-1), []))) (
                          cond (p0 == 7) (
                            cond (p0 == 7) (
                              some (.int .i64 0, [])) (
                              some (.int .i64 (-1), []))) (
                            cond (p0 == 8) (
                              cond (p0 == 8) (
                                some (.int .i64 0, [])) (
                                some (.int .i64 (-1), []))) (
                              cond (p0 == 13) (
                                cond (p0 == 13) (
                                  some (.int .i64 0, [])) (
                                  some (.int .i64 (-1), []))) (
                                cond (p0 == 17) (
                                  some (.int .i64 0, [])) (
                                  some (.int .i64 (-1), []))))))))))) (
                cond (p0 == 15) (
                  cond (p0 == 15) (
                    some (.int .i64 2, [])) (
                    cond (p0 == 3) (
                      cond (p0 == 3) (
                        some (.int .i64 0, [])) (
                        some (.int .i64 (-1), []))) (
                      cond (p0 == 4) (
                        cond (p0 == 4) (
                          some (.int .i64 0, [])) (
                          some (.int .i64 (-1), []))) (
                        cond (p0 == 5) (
                          cond (p0 == 5) (
                            some (.int .i64 0, [])) (
                            some (.int .i64 (-1), []))) (
                          cond (p0 == 6) (
                            cond (p0 == 6) (
                              some (.int .i64 0, [])) (
                              some (.int .i64 (-1), []))) (
                            cond (p0 == 7) (
                              cond (p0 == 7) (
                                some (.int .i64 0, [])) (
                                some (.int .i64 (-1), []))) (
                              cond (p0 == 8) (
                                cond (p0 == 8) (
                                  some (.int .i64 0, [])) (
                                  some (.int .i64 (-1), []))) (
                                cond (p0 == 13) (
                                  cond (p0 == 13) (
                                    some (.int .i64 0, [])) (
                                    some (.int .i64 (-1), []))) (
                                  cond (p0 == 17) (
                                    some (.int .i64 0, [])) (
                                    some (.int .i64 (-1), []))))))))))) (
                  cond (p0 == 16) (
                    some (.int .i64 2, [])) (
                    cond (p0 == 3) (
                      cond (p0 == 3) (
                        some (.int .i64 0, [])) (
                        some (.int .i64 (-1), []))) (
                      cond (p0 == 4) (
                        cond (p0 == 4) (
                          some (.int .i64 0, [])) (
                          some (.int .i64 (-1), []))) (
                        cond (p0 == 5) (
                          cond (p0 == 5) (
                            some (.int .i64 0, [])) (
                            some (.int .i64 (-1), []))) (
                          cond (p0 == 6) (
                            cond (p0 == 6) (
                              some (.int .i64 0, [])) (
                              some (.int .i64 (-1), []))) (
                            cond (p0 == 7) (
                              cond (p0 == 7) (
                                some (.int .i64 0, [])) (
                                some (.int .i64 (-1), []))) (
                              cond (p0 == 8) (
                                cond (p0 == 8) (
                                  some (.int .i64 0, [])) (
                                  some (.int .i64 (-1), []))) (
                                cond (p0 == 13) (
                                  cond (p0 == 13) (
                                    some (.int .i64 0, [])) (
                                    some (.int .i64 (-1), []))) (
                                  cond (p0 == 17) (
                                    some (.int .i64 0, [])) (
                                    some (.int .i64 (-1), []))))))))))))))))))
noncomputable def sh_cast_Wire (N : Nat) (p0 : Int) : Option (V × List AObj) := sa_cast_Wire N p0
theorem run_cast_Wire (N : Nat) (p0 : Int) : callF Γ_cast_Wire N 25 rs_cast_Wire ir_cast_Wire [.int .i64 p0] [] = sh_cast_Wire N p0 := by kernel_rfl
theorem ok_cast_Wire (hΓ : SpecOK Try.prog Γ_cast_Wire) (N : Nat) (p0 : Int) {v : V} {hp : List AObj} (h : sh_cast_Wire N p0 = some (v, hp)) : PureOK Try.prog i_cast_Wire [.int .i64 p0] v := by
  have hc := chk_cast_Wire
  simp only [Bool.and_eq_true] at hc
  exact ⟨hp, fnOK_of hΓ pureS_cast_Wire Try.func21 body_cast_Wire hc.1 hc.2 (by decide) ((run_cast_Wire N p0).trans h)⟩

noncomputable def G_cast_From : Nat → List V → Option (Bool × V) := fun f vs => match f, vs with
  | 38, [.int .u64 a0] => some (true, .int .u64 (drawR a0))
  | _, _ => none
noncomputable def Γ_cast_From : ASpec := liftG G_cast_From
theorem pureS_cast_From : PureS Γ_cast_From [] := liftG_pure _ _
theorem spec_cast_From (h_cast_drawn : ∀ (a0 : Int), PureOK Try.prog i_cast_drawn [.int .u64 a0] (.int .u64 (drawR a0))) : SpecOK Try.prog Γ_cast_From := by
  intro f vs hp v hp' h0
  obtain ⟨h, he⟩ := liftG_inv h0
  subst he
  unfold G_cast_From at h
  split at h
  · simp only [Option.some.injEq, Prod.mk.injEq] at h
    obtain ⟨hc, rfl⟩ := h
    exact (h_cast_drawn _).frame rfl rfl _
  · simp at h
noncomputable def ir_cast_From_0 : IR := (.cond (.t 7) .skip (.reg [⟨none, .bin 10 .eql (.t 6) (.c (.int .i64 11))⟩,
    ⟨none, .mov 7 (.t 10)⟩] []))
noncomputable def ir_cast_From_1 : IR := (.cond (.t 7) .skip (.seq (.reg [⟨none, .bin 9 .eql (.t 6) (.c (.int .i64 17))⟩,
    ⟨none, .mov 7 (.t 9)⟩] []) ir_cast_From_0))
noncomputable def ir_cast_From_2 : IR := .ret
noncomputable def ir_cast_From_3 : IR := (.cond (.t 13) .skip (.reg [⟨none, .bin 16 .eql (.t 6) (.c (.int .i64 2))⟩,
    ⟨none, .mov 13 (.t 16)⟩] []))
noncomputable def ir_cast_From_4 : IR := (.cond (.t 13) .skip (.seq (.reg [⟨none, .bin 15 .eql (.t 6) (.c (.int .i64 9))⟩,
    ⟨none, .mov 13 (.t 15)⟩] []) ir_cast_From_3))
noncomputable def ir_cast_From_5 : IR := .ret
noncomputable def ir_cast_From_6 : IR := .ret
noncomputable def ir_cast_From_7 : IR := .ret
noncomputable def ir_cast_From_8 : IR := (.seq (.reg [⟨none, .mov 28 (.t 5)⟩,
    ⟨none, .bin 29 .shr (.t 28) (.c (.int .u64 1))⟩,
    ⟨none, .mov 30 (.t 5)⟩,
    ⟨none, .bin 31 .and (.t 30) (.c (.int .u32 1))⟩,
    ⟨none, .un 32 .neg (.t 31)⟩,
    ⟨none, .bin 33 .xor (.t 29) (.t 32)⟩,
    ⟨none, .cvi 34 .u64 (.t 33)⟩,
    ⟨none, .call (some 35) 38 [(.t 34)]⟩,
    ⟨none, .mov 4 (.t 35)⟩] []) ir_cast_From_7)
noncomputable def ir_cast_From_9 : IR := .ret
noncomputable def ir_cast_From_10 : IR := (.cond (.t 36) (.seq (.reg [⟨none, .mov 38 (.t 1)⟩,
    ⟨none, .bin 39 .shr (.t 38) (.c (.int .u64 1))⟩,
    ⟨none, .mov 40 (.t 1)⟩,
    ⟨none, .bin 41 .and (.t 40) (.c (.int .u64 1))⟩,
    ⟨none, .un 42 .neg (.t 41)⟩,
    ⟨none, .bin 43 .xor (.t 39) (.t 42)⟩,
    ⟨none, .mov 4 (.t 43)⟩] []) ir_cast_From_9) .skip)
noncomputable def ir_cast_From_11 : IR := (.cond (.t 24) (.seq (.reg [⟨none, .mov 26 (.t 1)⟩,
    ⟨none, .cvi 27 .u32 (.t 26)⟩,
    ⟨none, .mov 5 (.t 27)⟩] []) ir_cast_From_8) (.seq (.reg [⟨none, .bin 37 .eql (.t 6) (.c (.int .i64 8))⟩,
    ⟨none, .mov 36 (.t 37)⟩] []) ir_cast_From_10))
noncomputable def ir_cast_From_12 : IR := (.cond (.t 20) (.seq (.reg [⟨none, .mov 22 (.t 1)⟩,
    ⟨none, .mx 23 true (.t 22) (.c (.int .u64 1))⟩,
    ⟨none, .mov 4 (.t 23)⟩] []) ir_cast_From_6) (.seq (.reg [⟨none, .bin 25 .eql (.t 6) (.c (.int .i64 7))⟩,
    ⟨none, .mov 24 (.t 25)⟩] []) ir_cast_From_11))
noncomputable def ir_cast_From_13 : IR := (.cond (.t 13) (.seq (.reg [⟨none, .mov 17 (.t 1)⟩,
    ⟨none, .cvi 18 .u32 (.t 17)⟩,
    ⟨none, .cvi 19 .u64 (.t 18)⟩,
    ⟨none, .mov 4 (.t 19)⟩] []) ir_cast_From_5) (.seq (.reg [⟨none, .bin 21 .eql (.t 6) (.c (.int .i64 13))⟩,
    ⟨none, .mov 20 (.t 21)⟩] []) ir_cast_From_12))
noncomputable def ir_cast_From_14 : IR := (.cond (.t 7) (.seq (.reg [⟨none, .mov 11 (.t 1)⟩,
    ⟨none, .call (some 12) 38 [(.t 11)]⟩,
    ⟨none, .mov 4 (.t 12)⟩] []) ir_cast_From_2) (.seq (.seq (.reg [⟨none, .bin 14 .eql (.t 6) (.c (.int .i64 5))⟩,
    ⟨none, .mov 13 (.t 14)⟩] []) ir_cast_From_4) ir_cast_From_13))
noncomputable def ir_cast_From_15 : IR := (.block 0 (.seq (.seq (.reg [⟨none, .bin 8 .eql (.t 6) (.c (.int .i64 3))⟩,
    ⟨none, .mov 7 (.t 8)⟩] []) ir_cast_From_1) ir_cast_From_14))
noncomputable def ir_cast_From_16 : IR := .ret
noncomputable def ir_cast_From_17 : IR := (.seq (.reg [⟨none, .mov 44 (.t 1)⟩,
    ⟨none, .mov 4 (.t 44)⟩] []) ir_cast_From_16)
noncomputable def ir_cast_From_18 : IR := (.seq (.seq (.reg [⟨none, .mov 6 (.t 0)⟩] []) ir_cast_From_15) ir_cast_From_17)
noncomputable def ir_cast_From : IR := (.seq (.reg [⟨none, .mov 4 (.c (.int .u64 0))⟩] []) ir_cast_From_18)
noncomputable def rs_cast_From : List RV := [.t 4]
theorem chk_cast_From : (chkCode Try.prog [] 0 ir_cast_From (Try.f23.body.getD .skip) && chkRes Try.prog rs_cast_From Try.f23.results.toList) = true := by kernel_rfl
theorem body_cast_From : Try.f23.body = some (Try.f23.body.getD .skip) := by kernel_rfl
/-- proclitic/cast.From -/
noncomputable def sa_cast_From (N : Nat) (p0 : Int) (p1 : Int)  : Option (V × List AObj) :=
  cond (p0 == 3) (
    cond (p0 == 3) (
      some (.int .u64 (drawR p1), [])) (
      cond (p0 == 5) (
        cond (p0 == 5) (
          let x1 : Int := (IntKind.wrap .u64 (IntKind.wrap .u32 p1))
          some (.int .u64 x1, [])) (
          cond (p0 == 13) (
            let x2 : Int := (if 1 < p1 then 1 else p1)
            some (.int .u64 x2, [])) (
            cond (p0 == 7) (
              let x3 : Int := (shrI .u32 (IntKind.wrap .u32 p1) 1)
              let x4 : Int := (bitsI .and .u32 (IntKind.wrap .u32 p1) 1)
              let x5 : Int := (IntKind.wrap .u32 (0 - x4))
              let x6 : Int := (IntKind.wrap .u64 (bitsI .xor .u32 x3 x5))
              some (.int .u64 (drawR x6), [])) (
              cond (p0 == 8) (
                let x7 : Int := (IntKind.wrap .u64 (0 - (bitsI .and .u64 p1 1)))
                let x8 : Int := (bitsI .xor .u64 (shrI .u64 p1 1) x7)
                some (.int .u64 x8, [])) (
                some (.int .u64 p1, [])))))) (
        cond (p0 == 9) (
          cond (p0 == 9) (
            let x9 : Int := (IntKind.wrap .u64 (IntKind.wrap .u32 p1))
            some (.int .u64 x9, [])) (
            cond (p0 == 13) (
              let x10 : Int := (if 1 < p1 then 1 else p1)
              some (.int .u64 x10, [])) (
              cond (p0 == 7) (
                let x11 : Int := (shrI .u32 (IntKind.wrap .u32 p1) 1)
                let x12 : Int := (bitsI .and .u32 (IntKind.wrap .u32 p1) 1)
                let x13 : Int := (IntKind.wrap .u32 (0 - x12))
                let x14 : Int := (bitsI .xor .u32 x11 x13)
                let x15 : Int := (drawR (IntKind.wrap .u64 x14))
                some (.int .u64 x15, [])) (
                cond (p0 == 8) (
                  let x16 : Int := (IntKind.wrap .u64 (0 - (bitsI .and .u64 p1 1)))
                  let x17 : Int := (bitsI .xor .u64 (shrI .u64 p1 1) x16)
                  some (.int .u64 x17, [])) (
                  some (.int .u64 p1, [])))))) (
          cond (p0 == 2) (
            let x18 : Int := (IntKind.wrap .u64 (IntKind.wrap .u32 p1))
            some (.int .u64 x18, [])) (
            cond (p0 == 13) (
              let x19 : Int := (if 1 < p1 then 1 else p1)
              some (.int .u64 x19, [])) (
              cond (p0 == 7) (
                let x20 : Int := (shrI .u32 (IntKind.wrap .u32 p1) 1)
                let x21 : Int := (bitsI .and .u32 (IntKind.wrap .u32 p1) 1)
                let x22 : Int := (IntKind.wrap .u32 (0 - x21))
                let x23 : Int := (bitsI .xor .u32 x20 x22)
                let x24 : Int := (drawR (IntKind.wrap .u64 x23))
                some (.int .u64 x24, [])) (
                cond (p0 == 8) (
                  let x25 : Int := (IntKind.wrap .u64 (0 - (bitsI .and .u64 p1 1)))
                  let x26 : Int := (bitsI .xor .u64 (shrI .u64 p1 1) x25)
                  some (.int .u64 x26, [])) (
                  some (.int .u64 p1, []))))))))) (
    cond (p0 == 17) (
      cond (p0 == 17) (
        some (.int .u64 (drawR p1), [])) (
        cond (p0 == 5) (
          cond (p0 == 5) (
            let x27 : Int := (IntKind.wrap .u64 (IntKind.wrap .u32 p1))
            some (.int .u64 x27, [])) (
            cond (p0 == 13) (
              let x28 : Int := (if 1 < p1 then 1 else p1)
              some (.int .u64 x28, [])) (
              cond (p0 == 7) (
                let x29 : Int := (shrI .u32 (IntKind.wrap .u32 p1) 1)
                let x30 : Int := (bitsI .and .u32 (IntKind.wrap .u32 p1) 1)
                let x31 : Int := (IntKind.wrap .u32 (0 - x30))
                let x32 : Int := (bitsI .xor .u32 x29 x31)
                let x33 : Int := (drawR (IntKind.wrap .u64 x32))
                some (.int .u64 x33, [])) (
                cond (p0 == 8) (
                  let x34 : Int := (IntKind.wrap .u64 (0 - (bitsI .and .u64 p1 1)))
                  let x35 : Int := (bitsI .xor .u64 (shrI .u64 p1 1) x34)
                  some (.int .u64 x35, [])) (
                  some (.int .u64 p1, [])))))) (
          cond (p0 == 9) (
            cond (p0 == 9) (
              let x36 : Int := (IntKind.wrap .u64 (IntKind.wrap .u32 p1))
              some (.int .u64 x36, [])) (
              cond (p0 == 13) (
                let x37 : Int := (if 1 < p1 then 1 else p1)
                some (.int .u64 x37, [])) (
                cond (p0 == 7) (
                  let x38 : Int := (shrI .u32 (IntKind.wrap .u32 p1) 1)
                  let x39 : Int := (bitsI .and .u32 (IntKind.wrap .u32 p1) 1)
                  let x40 : Int := (IntKind.wrap .u32 (0 - x39))
                  let x41 : Int := (bitsI .xor .u32 x38 x40)
                  let x42 : Int := (drawR (IntKind.wrap .u64 x41))
                  some (.int .u64 x42, [])) (
                  cond (p0 == 8) (
                    let x43 : Int := (IntKind.wrap .u64 (0 - (bitsI .and .u64 p1 1)))
                    let x44 : Int := (bitsI .xor .u64 (shrI .u64 p1 1) x43)
                    some (.int .u64 x44, [])) (
                    some (.int .u64 p1, [])))))) (
            cond (p0 == 2) (
              let x45 : Int := (IntKind.wrap .u64 (IntKind.wrap .u32 p1))
              some (.int .u64 x45, [])) (
              cond (p0 == 13) (
                let x46 : Int := (if 1 < p1 then 1 else p1)
                some (.int .u64 x46, [])) (
                cond (p0 == 7) (
                  let x47 : Int := (shrI .u32 (IntKind.wrap .u32 p1) 1)
                  let x48 : Int := (bitsI .and .u32 (IntKind.wrap .u32 p1) 1)
                  let x49 : Int := (IntKind.wrap .u32 (0 - x48))
                  let x50 : Int := (bitsI .xor .u32 x47 x49)
                  let x51 : Int := (drawR (IntKind.wrap .u64 x50))
                  some (.int .u64 x51, [])) (
                  cond (p0 == 8) (
                    let x52 : Int := (IntKind.wrap .u64 (0 - (bitsI .and .u64 p1 1)))
                    let x53 : Int := (bitsI .xor .u64 (shrI .u64 p1 1) x52)
                    some (.int .u64 x53, [])) (
                    some (.int .u64 p1, []))))))))) (
      cond (p0 == 11) (
        some (.int .u64 (drawR p1), [])) (
        cond (p0 == 5) (
          cond (p0 == 5) (
            let x54 : Int := (IntKind.wrap .u64 (IntKind.wrap .u32 p1))
            some (.int .u64 x54, [])) (
            cond (p0 == 13) (
              let x55 : Int := (if 1 < p1 then 1 else p1)
              some (.int .u64 x55, [])) (
              cond (p0 == 7) (
                let x56 : Int := (shrI .u32 (IntKind.wrap .u32 p1) 1)
                let x57 : Int := (bitsI .and .u32 (IntKind.wrap .u32 p1) 1)
                let x58 : Int := (IntKind.wrap .u32 (0 - x57))
                let x59 : Int := (bitsI .xor .u32 x56 x58)
                let x60 : Int := (drawR (IntKind.wrap .u64 x59))
                some (.int .u64 x60, [])) (
                cond (p0 == 8) (
                  let x61 : Int := (IntKind.wrap .u64 (0 - (bitsI .and .u64 p1 1)))
                  let x62 : Int := (bitsI .xor .u64 (shrI .u64 p1 1) x61)
                  some (.int .u64 x62, [])) (
                  some (.int .u64 p1, [])))))) (
          cond (p0 == 9) (
            cond (p0 == 9) (
              let x63 : Int := (IntKind.wrap .u64 (IntKind.wrap .u32 p1))
              some (.int .u64 x63, [])) (
              cond (p0 == 13) (
                let x64 : Int := (if 1 < p1 then 1 else p1)
                some (.int .u64 x64, [])) (
                cond (p0 == 7) (
                  let x65 : Int := (shrI .u32 (IntKind.wrap .u32 p1) 1)
                  let x66 : Int := (bitsI .and .u32 (IntKind.wrap .u32 p1) 1)
                  let x67 : Int := (IntKind.wrap .u32 (0 - x66))
                  let x68 : Int := (bitsI .xor .u32 x65 x67)
                  let x69 : Int := (drawR (IntKind.wrap .u64 x68))
                  some (.int .u64 x69, [])) (
                  cond (p0 == 8) (
                    let x70 : Int := (IntKind.wrap .u64 (0 - (bitsI .and .u64 p1 1)))
                    let x71 : Int := (bitsI .xor .u64 (shrI .u64 p1 1) x70)
                    some (.int .u64 x71, [])) (
                    some (.int .u64 p1, [])))))) (
            cond (p0 == 2) (
              let x72 : Int := (IntKind.wrap .u64 (IntKind.wrap .u32 p1))
              some (.int .u64 x72, [])) (
              cond (p0 == 13) (
                let x73 : Int := (if 1 < p1 then 1 else p1)
                some (.int .u64 x73, [])) (
                cond (p0 == 7) (
                  let x74 : Int := (shrI .u32 (IntKind.wrap .u32 p1) 1)
                  let x75 : Int := (bitsI .and .u32 (IntKind.wrap .u32 p1) 1)
                  let x76 : Int := (IntKind.wrap .u32 (0 - x75))
                  let x77 : Int := (bitsI .xor .u32 x74 x76)
                  let x78 : Int := (drawR (IntKind.wrap .u64 x77))
                  some (.int .u64 x78, [])) (
                  cond (p0 == 8) (
                    let x79 : Int := (IntKind.wrap .u64 (0 - (bitsI .and .u64 p1 1)))
                    let x80 : Int := (bitsI .xor .u64 (shrI .u64 p1 1) x79)
                    some (.int .u64 x80, [])) (
                    some (.int .u64 p1, []))))))))))
noncomputable def sh_cast_From (N : Nat) (p0 : Int) (p1 : Int) : Option (V × List AObj) := sa_cast_From N p0 p1
theorem run_cast_From (N : Nat) (p0 : Int) (p1 : Int) : callF Γ_cast_From N 45 rs_cast_From ir_cast_From [.int .i64 p0, .int .u64 p1] [] = sh_cast_From N p0 p1 := by kernel_rfl
theorem ok_cast_From (hΓ : SpecOK Try.prog Γ_cast_From) (N : Nat) (p0 : Int) (p1 : Int) {v : V} {hp : List AObj} (h : sh_cast_From N p0 p1 = some (v, hp)) : PureOK Try.prog i_cast_From [.int .i64 p0, .int .u64 p1] v := by
  have hc := chk_cast_From
  simp only [Bool.and_eq_true] at hc
  exact ⟨hp, fnOK_of hΓ pureS_cast_From Try.func23 body_cast_From hc.1 hc.2 (by decide) ((run_cast_From N p0 p1).trans h)⟩

noncomputable def G_cast_To : Nat → List V → Option (Bool × V) := fun f vs => match f, vs with
  | 38, [.int .u64 a0] => some (true, .int .u64 (drawR a0))
  | _, _ => none
noncomputable def Γ_cast_To : ASpec := liftG G_cast_To
theorem pureS_cast_To : PureS Γ_cast_To [] := liftG_pure _ _
theorem spec_cast_To (h_cast_drawn : ∀ (a0 : Int), PureOK Try.prog i_cast_drawn [.int .u64 a0] (.int .u64 (drawR a0))) : SpecOK Try.prog Γ_cast_To := by
  intro f vs hp v hp' h0
  obtain ⟨h, he⟩ := liftG_inv h0
  subst he
  unfold G_cast_To at h
  split at h
  · simp only [Option.some.injEq, Prod.mk.injEq] at h
    obtain ⟨hc, rfl⟩ := h
    exact (h_cast_drawn _).frame rfl rfl _
  · simp at h
noncomputable def ir_cast_To_0 : IR := (.cond (.t 8) .skip (.reg [⟨none, .bin 10 .eql (.t 7) (.c (.int .i64 17))⟩,
    ⟨none, .mov 8 (.t 10)⟩] []))
noncomputable def ir_cast_To_1 : IR := .ret
noncomputable def ir_cast_To_2 : IR := (.cond (.t 13) .skip (.reg [⟨none, .bin 17 .eql (.t 7) (.c (.int .i64 11))⟩,
    ⟨none, .mov 13 (.t 17)⟩] []))
noncomputable def ir_cast_To_3 : IR := (.cond (.t 13) .skip (.seq (.reg [⟨none, .bin 16 .eql (.t 7) (.c (.int .i64 2))⟩,
    ⟨none, .mov 13 (.t 16)⟩] []) ir_cast_To_2))
noncomputable def ir_cast_To_4 : IR := (.cond (.t 13) .skip (.seq (.reg [⟨none, .bin 15 .eql (.t 7) (.c (.int .i64 9))⟩,
    ⟨none, .mov 13 (.t 15)⟩] []) ir_cast_To_3))
noncomputable def ir_cast_To_5 : IR := .ret
noncomputable def ir_cast_To_6 : IR := .ret
noncomputable def ir_cast_To_7 : IR := .ret
noncomputable def ir_cast_To_8 : IR := (.seq (.reg [⟨none, .mov 30 (.t 5)⟩,
    ⟨none, .bin 31 .shl (.t 30) (.c (.int .u64 1))⟩,
    ⟨none, .mov 32 (.t 5)⟩,
    ⟨none, .bin 33 .shr (.t 32) (.c (.int .u64 31))⟩,
    ⟨none, .bin 34 .xor (.t 31) (.t 33)⟩,
    ⟨none, .cvi 35 .u32 (.t 34)⟩,
    ⟨none, .cvi 36 .u64 (.t 35)⟩,
    ⟨none, .mov 4 (.t 36)⟩] []) ir_cast_To_7)
noncomputable def ir_cast_To_9 : IR := .ret
noncomputable def ir_cast_To_10 : IR := (.seq (.reg [⟨none, .mov 41 (.t 6)⟩,
    ⟨none, .bin 42 .shl (.t 41) (.c (.int .u64 1))⟩,
    ⟨none, .mov 43 (.t 6)⟩,
    ⟨none, .bin 44 .shr (.t 43) (.c (.int .u64 63))⟩,
    ⟨none, .bin 45 .xor (.t 42) (.t 44)⟩,
    ⟨none, .cvi 46 .u64 (.t 45)⟩,
    ⟨none, .mov 4 (.t 46)⟩] []) ir_cast_To_9)
noncomputable def ir_cast_To_11 : IR := (.cond (.t 37) (.seq (.reg [⟨none, .mov 39 (.t 1)⟩,
    ⟨none, .cvi 40 .i64 (.t 39)⟩,
    ⟨none, .mov 6 (.t 40)⟩] []) ir_cast_To_10) .skip)
noncomputable def ir_cast_To_12 : IR := (.cond (.t 25) (.seq (.reg [⟨none, .mov 27 (.t 1)⟩,
    ⟨none, .cvi 28 .u32 (.t 27)⟩,
    ⟨none, .cvi 29 .i32 (.t 28)⟩,
    ⟨none, .mov 5 (.t 29)⟩] []) ir_cast_To_8) (.seq (.reg [⟨none, .bin 38 .eql (.t 7) (.c (.int .i64 8))⟩,
    ⟨none, .mov 37 (.t 38)⟩] []) ir_cast_To_11))
noncomputable def ir_cast_To_13 : IR := (.cond (.t 21) (.seq (.reg [⟨none, .mov 23 (.t 1)⟩,
    ⟨none, .mx 24 true (.t 23) (.c (.int .u64 1))⟩,
    ⟨none, .mov 4 (.t 24)⟩] []) ir_cast_To_6) (.seq (.reg [⟨none, .bin 26 .eql (.t 7) (.c (.int .i64 7))⟩,
    ⟨none, .mov 25 (.t 26)⟩] []) ir_cast_To_12))
noncomputable def ir_cast_To_14 : IR := (.cond (.t 13) (.seq (.reg [⟨none, .mov 18 (.t 1)⟩,
    ⟨none, .cvi 19 .u32 (.t 18)⟩,
    ⟨none, .cvi 20 .u64 (.t 19)⟩,
    ⟨none, .mov 4 (.t 20)⟩] []) ir_cast_To_5) (.seq (.reg [⟨none, .bin 22 .eql (.t 7) (.c (.int .i64 13))⟩,
    ⟨none, .mov 21 (.t 22)⟩] []) ir_cast_To_13))
noncomputable def ir_cast_To_15 : IR := (.cond (.t 8) (.seq (.reg [⟨none, .mov 11 (.t 1)⟩,
    ⟨none, .call (some 12) 38 [(.t 11)]⟩,
    ⟨none, .mov 4 (.t 12)⟩] []) ir_cast_To_1) (.seq (.seq (.reg [⟨none, .bin 14 .eql (.t 7) (.c (.int .i64 5))⟩,
    ⟨none, .mov 13 (.t 14)⟩] []) ir_cast_To_4) ir_cast_To_14))
noncomputable def ir_cast_To_16 : IR := (.block 0 (.seq (.seq (.reg [⟨none, .bin 9 .eql (.t 7) (.c (.int .i64 3))⟩,
    ⟨none, .mov 8 (.t 9)⟩] []) ir_cast_To_0) ir_cast_To_15))
noncomputable def ir_cast_To_17 : IR := .ret
noncomputable def ir_cast_To_18 : IR := (.seq (.reg [⟨none, .mov 47 (.t 1)⟩,
    ⟨none, .mov 4 (.t 47)⟩] []) ir_cast_To_17)
noncomputable def ir_cast_To_19 : IR := (.seq (.seq (.reg [⟨none, .mov 7 (.t 0)⟩] []) ir_cast_To_16) ir_cast_To_18)
noncomputable def ir_cast_To : IR := (.seq (.reg [⟨none, .mov 4 (.c (.int .u64 0))⟩] []) ir_cast_To_19)
noncomputable def rs_cast_To : List RV := [.t 4]
theorem chk_cast_To : (chkCode Try.prog [] 0 ir_cast_To (Try.f24.body.getD .skip) && chkRes Try.prog rs_cast_To Try.f24.results.toList) = true := by kernel_rfl
theorem body_cast_To : Try.f24.body = some (Try.f24.body.getD .skip) := by kernel_rfl
/-- proclitic/cast.To -/
noncomputable def sa_cast_To (N : Nat) (p0 : Int) (p1 : Int)  : Option (V × List AObj) :=
  cond (p0 == 3) (
    cond (p0 == 3) (
      some (.int .u64 (drawR p1), [])) (
      cond (p0 == 5) (
        cond (p0 == 5) (
          let x1 : Int := (IntKind.wrap .u64 (IntKind.wrap .u32 p1))
          some (.int .u64 x1, [])) (
          cond (p0 == 13) (
            let x2 : Int := (if 1 < p1 then 1 else p1)
            some (.int .u64 x2, [])) (
            cond (p0 == 7) (
              let x3 : Int := (IntKind.wrap .i32 (IntKind.wrap .u32 p1))
              let x4 : Int := (bitsI .xor .i32 (shlI .i32 x3 1) (shrI .i32 x3 31))
              let x5 : Int := (IntKind.wrap .u64 (IntKind.wrap .u32 x4))
              some (.int .u64 x5, [])) (
              cond (p0 == 8) (
                let x6 : Int := (shlI .i64 (IntKind.wrap .i64 p1) 1)
                let x7 : Int := (shrI .i64 (IntKind.wrap .i64 p1) 63)
                let x8 : Int := (IntKind.wrap .u64 (bitsI .xor .i64 x6 x7))
                some (.int .u64 x8, [])) (
                some (.int .u64 p1, [])))))) (
        cond (p0 == 9) (
          cond (p0 == 9) (
            let x9 : Int := (IntKind.wrap .u64 (IntKind.wrap .u32 p1))
            some (.int .u64 x9, [])) (
            cond (p0 == 13) (
              let x10 : Int := (if 1 < p1 then 1 else p1)
              some (.int .u64 x10, [])) (
              cond (p0 == 7) (
                let x11 : Int := (IntKind.wrap .i32 (IntKind.wrap .u32 p1))
                let x12 : Int := (bitsI .xor .i32 (shlI .i32 x11 1) (shrI .i32 x11 31))
                let x13 : Int := (IntKind.wrap .u64 (IntKind.wrap .u32 x12))
                some (.int .u64 x13, [])) (
                cond (p0 == 8) (
                  let x14 : Int := (shlI .i64 (IntKind.wrap .i64 p1) 1)
                  let x15 : Int := (shrI .i64 (IntKind.wrap .i64 p1) 63)
                  let x16 : Int := (bitsI .xor .i64 x14 x15)
                  some (.int .u64 (IntKind.wrap .u64 x16), [])) (
                  some (.int .u64 p1, [])))))) (
          cond (p0 == 2) (
            cond (p0 == 2) (
              let x17 : Int := (IntKind.wrap .u64 (IntKind.wrap .u32 p1))
              some (.int .u64 x17, [])) (
              cond (p0 == 13) (
                let x18 : Int := (if 1 < p1 then 1 else p1)
                some (.int .u64 x18, [])) (
                cond (p0 == 7) (
                  let x19 : Int := (IntKind.wrap .i32 (IntKind.wrap .u32 p1))
                  let x20 : Int := (bitsI .xor .i32 (shlI .i32 x19 1) (shrI .i32 x19 31))
                  let x21 : Int := (IntKind.wrap .u64 (IntKind.wrap .u32 x20))
                  some (.int .u64 x21, [])) (
                  cond (p0 == 8) (
                    let x22 : Int := (shlI .i64 (IntKind.wrap .i64 p1) 1)
                    let x23 : Int := (shrI .i64 (IntKind.wrap .i64 p1) 63)
                    let x24 : Int := (bitsI .xor .i64 x22 x23)
                    some (.int .u64 (IntKind.wrap .u64 x24), [])) (
                    some (.int .u64 p1, [])))))) (
            cond (p0 == 11) (
              let x25 : Int := (IntKind.wrap .u64 (IntKind.wrap .u32 p1))
              some (.int .u64 x25, [])) (
              cond (p0 == 13) (
                let x26 : Int := (if 1 < p1 then 1 else p1)
                some (.int .u64 x26, [])) (
                cond (p0 == 7) (
                  let x27 : Int := (IntKind.wrap .i32 (IntKind.wrap .u32 p1))
                  let x28 : Int := (bitsI .xor .i32 (shlI .i32 x27 1) (shrI .i32 x27 31))
                  let x29 : Int := (IntKind.wrap .u64 (IntKind.wrap .u32 x28))
                  some (.int .u64 x29, [])) (
                  cond (p0 == 8) (
                    let x30 : Int := (shlI .i64 (IntKind.wrap .i64 p1) 1)
                    let x31 : Int := (shrI .i64 (IntKind.wrap .i64 p1) 63)
                    let x32 : Int := (bitsI .xor .i64 x30 x31)
                    some (.int .u64 (IntKind.wrap .u64 x32), [])) (
                    some (.int .u64 p1, [])))))))))) (
    cond (p0 == 17) (
      some (.int .u64 (drawR p1), [])) (
      cond (p0 == 5) (
        cond (p0 == 5) (
          let x33 : Int := (IntKind.wrap .u64 (IntKind.wrap .u32 p1))
          some (.int .u64 x33, [])) (
          cond (p0 == 13) (
            let x34 : Int := (if 1 < p1 then 1 else p1)
            some (.int .u64 x34, [])) (
            cond (p0 == 7) (
              let x35 : Int := (IntKind.wrap .i32 (IntKind.wrap .u32 p1))
              let x36 : Int := (bitsI .xor .i32 (shlI .i32 x35 1) (shrI .i32 x35 31))
              let x37 : Int := (IntKind.wrap .u64 (IntKind.wrap .u32 x36))
              some (.int .u64 x37, [])) (
              cond (p0 == 8) (
                let x38 : Int := (shlI .i64 (IntKind.wrap .i64 p1) 1)
                let x39 : Int := (shrI .i64 (IntKind.wrap .i64 p1) 63)
                let x40 : Int := (bitsI .xor .i64 x38 x39)
                some (.int .u64 (IntKind.wrap .u64 x40), [])) (
                some (.int .u64 p1, [])))))) (
        cond (p0 == 9) (
          cond (p0 == 9) (
            let x41 : Int := (IntKind.wrap .u64 (IntKind.wrap .u32 p1))
            some (.int .u64 x41, [])) (
            cond (p0 == 13) (
              let x42 : Int := (if 1 < p1 then 1 else p1)
              some (.int .u64 x42, [])) (
              cond (p0 == 7) (
                let x43 : Int := (IntKind.wrap .i32 (IntKind.wrap .u32 p1))
                let x44 : Int := (bitsI .xor .i32 (shlI .i32 x43 1) (shrI .i32 x43 31))
                let x45 : Int := (IntKind.wrap .u64 (IntKind.wrap .u32 x44))
                some (.int .u64 x45, [])) (
                cond (p0 == 8) (
                  let x46 : Int := (shlI .i64 (IntKind.wrap .i64 p1) 1)
                  let x47 : Int := (shrI .i64 (IntKind.wrap .i64 p1) 63)
                  let x48 : Int := (bitsI .xor .i64 x46 x47)
                  some (.int .u64 (IntKind.wrap .u64 x48), [])) (
                  some (.int .u64 p1, [])))))) (
          cond (p0 == 2) (
            cond (p0 == 2) (
              let x49 : Int := (IntKind.wrap .u64 (IntKind.wrap .u32 p1))
              some (.int .u64 x49, [])) (
              cond (p0 == 13) (
                let x50 : Int := (if 1 < p1 then 1 else p1)
                some (.int .u64 x50, [])) (
                cond (p0 == 7) (
                  let x51 : Int := (IntKind.wrap .i32 (IntKind.wrap .u32 p1))
                  let x52 : Int := (bitsI .xor .i32 (shlI .i32 x51 1) (shrI .i32 x51 31))
                  let x53 : Int := (IntKind.wrap .u64 (IntKind.wrap .u32 x52))
                  some (.int .u64 x53, [])) (
                  cond (p0 == 8) (
                    let x54 : Int := (shlI .i64 (IntKind.wrap .i64 p1) 1)
                    let x55 : Int := (shrI .i64 (IntKind.wrap .i64 p1) 63)
                    let x56 : Int := (bitsI .xor .i64 x54 x55)
                    some (.int .u64 (IntKind.wrap .u64 x56), [])) (
                    some (.int .u64 p1, [])))))) (
            cond (p0 == 11) (
              let x57 : Int := (IntKind.wrap .u64 (IntKind.wrap .u32 p1))
              some (.int .u64 x57, [])) (
              cond (p0 == 13) (
                let x58 : Int := (if 1 < p1 then 1 else p1)
                some (.int .u64 x58, [])) (
                cond (p0 == 7) (
                  let x59 : Int := (IntKind.wrap .i32 (IntKind.wrap .u32 p1))
                  let x60 : Int := (bitsI .xor .i32 (shlI .i32 x59 1) (shrI .i32 x59 31))
                  let x61 : Int := (IntKind.wrap .u64 (IntKind.wrap .u32 x60))
                  some (.int .u64 x61, [])) (
                  cond (p0 == 8) (
                    let x62 : Int := (shlI .i64 (IntKind.wrap .i64 p1) 1)
                    let x63 : Int := (shrI .i64 (IntKind.wrap .i64 p1) 63)
                    let x64 : Int := (bitsI .xor .i64 x62 x63)
                    some (.int .u64 (IntKind.wrap .u64 x64), [])) (
                    some (.int .u64 p1, []))))))))))
noncomputable def sh_cast_To (N : Nat) (p0 : Int) (p1 : Int) : Option (V × List AObj) := sa_cast_To N p0 p1
theorem run_cast_To (N : Nat) (p0 : Int) (p1 : Int) : callF Γ_cast_To N 48 rs_cast_To ir_cast_To [.int .i64 p0, .int .u64 p1] [] = sh_cast_To N p0 p1 := by kernel_rfl
theorem ok_cast_To (hΓ : SpecOK Try.prog Γ_cast_To) (N : Nat) (p0 : Int) (p1 : Int) {v : V} {hp : List AObj} (h : sh_cast_To N p0 p1 = some (v, hp)) : PureOK Try.prog i_cast_To [.int .i64 p0, .int .u64 p1] v := by
  have hc := chk_cast_To
  simp only [Bool.and_eq_true] at hc
  exact ⟨hp, fnOK_of hΓ pureS_cast_To Try.func24 body_cast_To hc.1 hc.2 (by decide) ((run_cast_To N p0 p1).trans h)⟩

noncomputable def G_cast_Fits : Nat → List V → Option (Bool × V) := fun f vs => match f, vs with
  | 38, [.int .u64 a0] => some (true, .int .u64 (drawR a0))
  | _, _ => none
noncomputable def Γ_cast_Fits : ASpec := liftG G_cast_Fits
theorem pureS_cast_Fits : PureS Γ_cast_Fits [] := liftG_pure _ _
theorem spec_cast_Fits (h_cast_drawn : ∀ (a0 : Int), PureOK Try.prog i_cast_drawn [.int .u64 a0] (.int .u64 (drawR a0))) : SpecOK Try.prog Γ_cast_Fits := by
  intro f vs hp v hp' h0
  obtain ⟨h, he⟩ := liftG_inv h0
  subst he
  unfold G_cast_Fits at h
  split at h
  · simp only [Option.some.injEq, Prod.mk.injEq] at h
    obtain ⟨hc, rfl⟩ := h
    exact (h_cast_drawn _).frame rfl rfl _
  · simp at h
noncomputable def ir_cast_Fits_0 : IR := (.cond (.t 6) .skip (.reg [⟨none, .bin 10 .eql (.t 5) (.c (.int .i64 17))⟩,
    ⟨none, .mov 6 (.t 10)⟩] []))
noncomputable def ir_cast_Fits_1 : IR := (.cond (.t 6) .skip (.seq (.reg [⟨none, .bin 9 .eql (.t 5) (.c (.int .i64 11))⟩,
    ⟨none, .mov 6 (.t 9)⟩] []) ir_cast_Fits_0))
noncomputable def ir_cast_Fits_2 : IR := (.cond (.t 6) .skip (.seq (.reg [⟨none, .bin 8 .eql (.t 5) (.c (.int .i64 7))⟩,
    ⟨none, .mov 6 (.t 8)⟩] []) ir_cast_Fits_1))
noncomputable def ir_cast_Fits_3 : IR := .ret
noncomputable def ir_cast_Fits_4 : IR := (.cond (.t 15) .skip (.reg [⟨none, .bin 18 .eql (.t 5) (.c (.int .i64 2))⟩,
    ⟨none, .mov 15 (.t 18)⟩] []))
noncomputable def ir_cast_Fits_5 : IR := (.cond (.t 15) .skip (.seq (.reg [⟨none, .bin 17 .eql (.t 5) (.c (.int .i64 9))⟩,
    ⟨none, .mov 15 (.t 17)⟩] []) ir_cast_Fits_4))
noncomputable def ir_cast_Fits_6 : IR := .ret
noncomputable def ir_cast_Fits_7 : IR := .ret
noncomputable def ir_cast_Fits_8 : IR := (.cond (.t 26) .skip (.reg [⟨none, .bin 32 .eql (.t 5) (.c (.int .i64 1))⟩,
    ⟨none, .mov 26 (.t 32)⟩] []))
noncomputable def ir_cast_Fits_9 : IR := (.cond (.t 26) .skip (.seq (.reg [⟨none, .bin 31 .eql (.t 5) (.c (.int .i64 10))⟩,
    ⟨none, .mov 26 (.t 31)⟩] []) ir_cast_Fits_8))
noncomputable def ir_cast_Fits_10 : IR := (.cond (.t 26) .skip (.seq (.reg [⟨none, .bin 30 .eql (.t 5) (.c (.int .i64 6))⟩,
    ⟨none, .mov 26 (.t 30)⟩] []) ir_cast_Fits_9))
noncomputable def ir_cast_Fits_11 : IR := (.cond (.t 26) .skip (.seq (.reg [⟨none, .bin 29 .eql (.t 5) (.c (.int .i64 12))⟩,
    ⟨none, .mov 26 (.t 29)⟩] []) ir_cast_Fits_10))
noncomputable def ir_cast_Fits_12 : IR := (.cond (.t 26) .skip (.seq (.reg [⟨none, .bin 28 .eql (.t 5) (.c (.int .i64 8))⟩,
    ⟨none, .mov 26 (.t 28)⟩] []) ir_cast_Fits_11))
noncomputable def ir_cast_Fits_13 : IR := .ret
noncomputable def ir_cast_Fits_14 : IR := (.cond (.t 26) (.seq (.reg [⟨none, .mov 4 (.c (.bool true))⟩] []) ir_cast_Fits_13) .skip)
noncomputable def ir_cast_Fits_15 : IR := (.cond (.t 22) (.seq (.reg [⟨none, .mov 24 (.t 1)⟩,
    ⟨none, .bin 25 .leq (.t 24) (.c (.int .u64 1))⟩,
    ⟨none, .mov 4 (.t 25)⟩] []) ir_cast_Fits_7) (.seq (.seq (.reg [⟨none, .bin 27 .eql (.t 5) (.c (.int .i64 4))⟩,
    ⟨none, .mov 26 (.t 27)⟩] []) ir_cast_Fits_12) ir_cast_Fits_14))
noncomputable def ir_cast_Fits_16 : IR := (.cond (.t 15) (.seq (.reg [⟨none, .mov 19 (.t 1)⟩,
    ⟨none, .bin 20 .shr (.t 19) (.c (.int .u64 32))⟩,
    ⟨none, .bin 21 .eql (.t 20) (.c (.int .u64 0))⟩,
    ⟨none, .mov 4 (.t 21)⟩] []) ir_cast_Fits_6) (.seq (.reg [⟨none, .bin 23 .eql (.t 5) (.c (.int .i64 13))⟩,
    ⟨none, .mov 22 (.t 23)⟩] []) ir_cast_Fits_15))
noncomputable def ir_cast_Fits_17 : IR := (.cond (.t 6) (.seq (.reg [⟨none, .mov 11 (.t 1)⟩,
    ⟨none, .mov 12 (.t 1)⟩,
    ⟨none, .call (some 13) 38 [(.t 12)]⟩,
    ⟨none, .bin 14 .eql (.t 11) (.t 13)⟩,
    ⟨none, .mov 4 (.t 14)⟩] []) ir_cast_Fits_3) (.seq (.seq (.reg [⟨none, .bin 16 .eql (.t 5) (.c (.int .i64 5))⟩,
    ⟨none, .mov 15 (.t 16)⟩] []) ir_cast_Fits_5) ir_cast_Fits_16))
noncomputable def ir_cast_Fits_18 : IR := (.block 0 (.seq (.seq (.reg [⟨none, .bin 7 .eql (.t 5) (.c (.int .i64 3))⟩,
    ⟨none, .mov 6 (.t 7)⟩] []) ir_cast_Fits_2) ir_cast_Fits_17))
noncomputable def ir_cast_Fits_19 : IR := .ret
noncomputable def ir_cast_Fits_20 : IR := (.seq (.reg [⟨none, .mov 4 (.c (.bool false))⟩] []) ir_cast_Fits_19)
noncomputable def ir_cast_Fits_21 : IR := (.seq (.seq (.reg [⟨none, .mov 5 (.t 0)⟩] []) ir_cast_Fits_18) ir_cast_Fits_20)
noncomputable def ir_cast_Fits : IR := (.seq (.reg [⟨none, .mov 4 (.c (.bool false))⟩] []) ir_cast_Fits_21)
noncomputable def rs_cast_Fits : List RV := [.t 4]
theorem chk_cast_Fits : (chkCode Try.prog [] 0 ir_cast_Fits (Try.f22.body.getD .skip) && chkRes Try.prog rs_cast_Fits Try.f22.results.toList) = true := by kernel_rfl
theorem body_cast_Fits : Try.f22.body = some (Try.f22.body.getD .skip) := by kernel_rfl
/-- proclitic/cast.Fits -/
noncomputable def sa_cast_Fits (N : Nat) (p0 : Int) (p1 : Int)  : Option (V × List AObj) :=
  cond (p0 == 3) (
    cond (p0 == 3) (
      some (.bool (p1 == (drawR p1)), [])) (
      cond (p0 == 5) (
        cond (p0 == 5) (
          some (.bool ((shrI .u64 p1 32) == 0), [])) (
          cond (p0 == 13) (
            some (.bool (decide (p1 ≤ 1)), [])) (
            cond (p0 == 4) (
              cond (p0 == 4) (
                some (.bool true, [])) (
                some (.bool false, []))) (
              cond (p0 == 8) (
                cond (p0 == 8) (
                  some (.bool true, [])) (
                  some (.bool false, []))) (
                cond (p0 == 12) (
                  cond (p0 == 12) (
                    some (.bool true, [])) (
                    some (.bool false, []))) (
                  cond (p0 == 6) (
                    cond (p0 == 6) (
                      some (.bool true, [])) (
                      some (.bool false, []))) (
                    cond (p0 == 10) (
                      cond (p0 == 10) (
                        some (.bool true, [])) (
                        some (.bool false, []))) (
                      cond (p0 == 1) (
                        some (.bool true, [])) (
                        some (.bool false, [])))))))))) (
        cond (p0 == 9) (
          cond (p0 == 9) (
            some (.bool ((shrI .u64 p1 32) == 0), [])) (
            cond (p0 == 13) (
              some (.bool (decide (p1 ≤ 1)), [])) (
              cond (p0 == 4) (
                cond (p0 == 4) (
                  some (.bool true, [])) (
                  some (.bool false, []))) (
                cond (p0 == 8) (
                  cond (p0 == 8) (
                    some (.bool true, [])) (
                    some (.bool false, []))) (
                  cond (p0 == 12) (
                    cond (p0 == 12) (
                      some (.bool true, [])) (
                      some (.bool false, []))) (
                    cond (p0 == 6) (
                      cond (p0 == 6) (
                        some (.bool true, [])) (
                        some (.bool false, []))) (
                      cond (p0 == 10) (
                        cond (p0 == 10) (
                          some (.bool true, [])) (
                          some (.bool false, []))) (
                        cond (p0 == 1) (
                          some (.bool true, [])) (
                          some (.bool false, [])))))))))) (
          cond (p0 == 2) (
            some (.bool ((shrI .u64 p1 32) == 0), [])) (
            cond (p0 == 13) (
              some (.bool (decide (p1 ≤ 1)), [])) (
              cond (p0 == 4) (
                cond (p0 == 4) (
                  some (.bool true, [])) (
                  some (.bool false, []))) (
                cond (p0 == 8) (
                  cond (p0 == 8) (
                    some (.bool true, [])) (
                    some (.bool false, []))) (
                  cond (p0 == 12) (
                    cond (p0 == 12) (
                      some (.bool true, [])) (
                      some (.bool false, []))) (
                    cond (p0 == 6) (
                      cond (p0 == 6) (
                        some (.bool true, [])) (
                        some (.bool false, []))) (
                      cond (p0 == 10) (
                        cond (p0 == 10) (
                          some (.bool true, [])) (
                          some (.bool false, []))) (
                        cond (p0 == 1) (
                          some (.bool true, [])) (
                          some (.bool false, []))))))))))))) (
    cond (p0 == 7) (
      cond (p0 == 7) (
        some (.bool (p1 == (drawR p1)), [])) (
        cond (p0 == 5) (
          cond (p0 == 5) (
            some (.bool ((shrI .u64 p1 32) == 0), [])) (
            cond (p0 == 13) (
              some (.bool (decide (p1 ≤ 1)), [])) (
              cond (p0 == 4) (
                cond (p0 == 4) (
                  some (.bool true, [])) (
                  some (.bool false, []))) (
                cond (p0 == 8) (
                  cond (p0 == 8) (
                    some (.bool true, [])) (
                    some (.bool false, []))) (
                  cond (p0 == 12) (
                    cond (p0 == 12) (
                      some (.bool true, [])) (
                      some (.bool false, []))) (
                    cond (p0 == 6) (
                      cond (p0 == 6) (
                        some (.bool true, [])) (
                        some (.bool false, []))) (
                      cond (p0 == 10) (
                        cond (p0 == 10) (
                          some (.bool true, [])) (
                          some (.bool false, []))) (
                        cond (p0 == 1) (
                          some (.bool true, [])) (
                          some (.bool false, [])))))))))) (
          cond (p0 == 9) (
            cond (p0 == 9) (
              some (.bool ((shrI .u64 p1 32) == 0), [])) (
              cond (p0 == 13) (
                some (.bool (decide (p1 ≤ 1)), [])) (
                cond (p0 == 4) (
                  cond (p0 == 4) (
                    some (.bool true, [])) (
                    some (.bool false, []))) (
                  cond (p0 == 8) (
                    cond (p0 == 8) (
                      some (.bool true, [])) (
                      some (.bool false, []))) (
                    cond (p0 == 12) (
                      cond (p0 == 12) (
                        some (.bool true, [])) (
                        some (.bool false, []))) (
                      cond (p0 == 6) (
                        cond (p0 == 6) (
                          some (.bool true, [])) (
                          some (.bool false, []))) (
                        cond (p0 == 10) (
                          cond (p0 == 10) (
                            some (.bool true, [])) (
                            some (.bool false, []))) (
                          cond (p0 == 1) (
                            some (.bool true, [])) (
                            some (.bool false, [])))))))))) (
            cond (p0 == 2) (
              some (.bool ((shrI .u64 p1 32) == 0), [])) (
              cond (p0 == 13) (
                some (.bool (decide (p1 ≤ 1)), [])) (
                cond (p0 == 4) (
                  cond (p0 == 4) (
                    some (.bool true, [])) (
                    some (.bool false, []))) (
                  cond (p0 == 8) (
                    cond (p0 == 8) (
                      some (.bool true, [])) (
                      some (.bool false, []))) (
                    cond (p0 == 12) (
                      cond (p0 == 12) (
                        some (.bool true, [])) (
                        some (.bool false, []))) (
                      cond (p0 == 6) (
                        cond (p0 == 6) (
                          some (.bool true, [])) (
                          some (.bool false, []))) (
                        cond (p0 == 10) (
                          cond (p0 == 10) (
                            some (.bool true, [])) (
                            some (.bool false, []))) (
                          cond (p0 == 1) (
                            some (.bool true, [])) (
                            some (.bool false, []))))))))))))) (
      cond (p0 == 11) (
        cond (p0 == 11) (
          some (.bool (p1 == (drawR p1)), [])) (
          cond (p0 == 5) (
            cond (p0 == 5) (
              some (.bool ((shrI .u64 p1 32) == 0), [])) (
              cond (p0 == 13) (
                some (.bool (decide (p1 ≤ 1)), [])) (
                cond (p0 == 4) (
                  cond (p0 == 4) (
                    some (.bool true, [])) (
                    some (.bool false, []))) (
                  cond (p0 == 8) (
                    cond (p0 == 8) (
                      some (.bool true, [])) (
                      some (.bool false, []))) (
                    cond (p0 == 12) (
                      cond (p0 == 12) (
                        some (.bool true, [])) (
                        some (.bool false, []))) (
                      cond (p0 == 6) (
                        cond (p0 == 6) (
                          some (.bool true, [])) (
                          some (.bool false, []))) (
                        cond (p0 == 10) (
                          cond (p0 == 10) (
                            some (.bool true, [])) (
                            some (.bool false, []))) (
                          cond (p0 == 1) (
                            some (.bool true, [])) (
                            some (.bool false, [])))))))))) (
            cond (p0 == 9) (
              cond (p0 == 9) (
                some (.bool ((shrI .u64 p1 32) == 0), [])) (
                cond (p0 == 13) (
                  some (.bool (decide (p1 ≤ 1)), [])) (
                  cond (p0 == 4) (
                    cond (p0 == 4) (
                      some (.bool true, [])) (
                      some (.bool false, []))) (
                    cond (p0 == 8) (
                      cond (p0 == 8) (
                        some (.bool true, [])) (
                        some (.bool false, []))) (
                      cond (p0 == 12) (
                        cond (p0 == 12) (
                          some (.bool true, [])) (
                          some (.bool false, []))) (
                        cond (p0 == 6) (
                          cond (p0 == 6) (
                            some (.bool true, [])) (
                            some (.bool false, []))) (
                          cond (p0 == 10) (
                            cond (p0 == 10) (
                              some (.bool true, [])) (
                              some (.bool false, []))) (
                            cond (p0 == 1) (
                              some (.bool true, [])) (
                              some (.bool false, [])))))))))) (
              cond (p0 == 2) (
                some (.bool ((shrI .u64 p1 32) == 0), [])) (
                cond (p0 == 13) (
                  some (.bool (decide (p1 ≤ 1)), [])) (
                  cond (p0 == 4) (
                    cond (p0 == 4) (
                      some (.bool true, [])) (
                      some (.bool false, []))) (
                    cond (p0 == 8) (
                      cond (p0 == 8) (
                        some (.bool true, [])) (
                        some (.bool false, []))) (
                      cond (p0 == 12) (
                        cond (p0 == 12) (
                          some (.bool true, [])) (
                          some (.bool false, []))) (
                        cond (p0 == 6) (
                          cond (p0 == 6) (
                            some (.bool true, [])) (
                            some (.bool false, []))) (
                          cond (p0 == 10) (
                            cond (p0 == 10) (
                              some (.bool true, [])) (
                              some (.bool false, []))) (
                            cond (p0 == 1) (
                              some (.bool true, [])) (
                              some (.bool false, []))))))))))))) (
        cond (p0 == 17) (
          some (.bool (p1 == (drawR p1)), [])) (
          cond (p0 == 5) (
            cond (p0 == 5) (
              some (.bool ((shrI .u64 p1 32) == 0), [])) (
              cond (p0 == 13) (
                some (.bool (decide (p1 ≤ 1)), [])) (
                cond (p0 == 4) (
                  cond (p0 == 4) (
                    some (.bool true, [])) (
                    some (.bool false, []))) (
                  cond (p0 == 8) (
                    cond (p0 == 8) (
                      some (.bool true, [])) (
                      some (.bool false, []))) (
                    cond (p0 == 12) (
                      cond (p0 == 12) (
                        some (.bool true, [])) (
                        some (.bool false, []))) (
                      cond (p0 == 6) (
                        cond (p0 == 6) (
                          some (.bool true, [])) (
                          some (.bool false, []))) (
                        cond (p0 == 10) (
                          cond (p0 == 10) (
                            some (.bool true, [])) (
                            some (.bool false, []))) (
                          cond (p0 == 1) (
                            some (.bool true, [])) (
                            some (.bool false, [])))))))))) (
            cond (p0 == 9) (
              cond (p0 == 9) (
                some (.bool ((shrI .u64 p1 32) == 0), [])) (
                cond (p0 == 13) (
                  some (.bool (decide (p1 ≤ 1)), [])) (
                  cond (p0 == 4) (
                    cond (p0 == 4) (
                      some (.bool true, [])) (
                      some (.bool false, []))) (
                    cond (p0 == 8) (
                      cond (p0 == 8) (
                        some (.bool true, [])) (
                        some (.bool false, []))) (
                      cond (p0 == 12) (
                        cond (p0 == 12) (
                          some (.bool true, [])) (
                          some (.bool false, []))) (
                        cond (p0 == 6) (
                          cond (p0 == 6) (
                            some (.bool true, [])) (
                            some (.bool false, []))) (
                          cond (p0 == 10) (
                            cond (p0 == 10) (
                              some (.bool true, [])) (
                              some (.bool false, []))) (
                            cond (p0 == 1) (
                              some (.bool true, [])) (
                              some (.bool false, [])))))))))) (
              cond (p0 == 2) (
                some (.bool ((shrI .u64 p1 32) == 0), [])) (
                cond (p0 == 13) (
                  some (.bool (decide (p1 ≤ 1)), [])) (
                  cond (p0 == 4) (
                    cond (p0 == 4) (
                      some (.bool true, [])) (
                      some (.bool false, []))) (
                    cond (p0 == 8) (
                      cond (p0 == 8) (
                        some (.bool true, [])) (
                        some (.bool false, []))) (
                      cond (p0 == 12) (
                        cond (p0 == 12) (
                          some (.bool true, [])) (
                          some (.bool false, []))) (
                        cond (p0 == 6) (
                          cond (p0 == 6) (
                            some (.bool true, [])) (
                            some (.bool false, []))) (
                          cond (p0 == 10) (
                            cond (p0 == 10) (
                              some (.bool true, [])) (
                              some (.bool false, []))) (
                            cond (p0 == 1) (
                              some (.bool true, [])) (
                              some (.bool false, [])))))))))))))))
noncomputable def sh_cast_Fits (N : Nat) (p0 : Int) (p1 : Int) : Option (V × List AObj) := sa_cast_Fits N p0 p1
theorem run_cast_Fits (N : Nat) (p0 : Int) (p1 : Int) : callF Γ_cast_Fits N 33 rs_cast_Fits ir_cast_Fits [.int .i64 p0, .int .u64 p1] [] = sh_cast_Fits N p0 p1 := by kernel_rfl
theorem ok_cast_Fits (hΓ : SpecOK Try.prog Γ_cast_Fits) (N : Nat) (p0 : Int) (p1 : Int) {v : V} {hp : List AObj} (h : sh_cast_Fits N p0 p1 = some (v, hp)) : PureOK Try.prog i_cast_Fits [.int .i64 p0, .int .u64 p1] v := by
  have hc := chk_cast_Fits
  simp only [Bool.and_eq_true] at hc
  exact ⟨hp, fnOK_of hΓ pureS_cast_Fits Try.func22 body_cast_Fits hc.1 hc.2 (by decide) ((run_cast_Fits N p0 p1).trans h)⟩

noncomputable def G_cast_nearest : Nat → List V → Option (Bool × V) := fun f vs => match f, vs with
  | 37, [.int .u64 a0] => some (true, .int .i64 (lenR a0))
  | _, _ => none
noncomputable def Γ_cast_nearest : ASpec := liftG G_cast_nearest
theorem pureS_cast_nearest : PureS Γ_cast_nearest [] := liftG_pure _ _
theorem spec_cast_nearest (h_math_bits_Len64 : ∀ (a0 : Int), PureOK Try.prog i_math_bits_Len64 [.int .u64 a0] (.int .i64 (lenR a0))) : SpecOK Try.prog Γ_cast_nearest := by
  intro f vs hp v hp' h0
  obtain ⟨h, he⟩ := liftG_inv h0
  subst he
  unfold G_cast_nearest at h
  split at h
  · simp only [Option.some.injEq, Prod.mk.injEq] at h
    obtain ⟨hc, rfl⟩ := h
    exact (h_math_bits_Len64 _).frame rfl rfl _
  · simp at h
noncomputable def ir_cast_nearest_0 : IR := (.cond (.t 14) (.reg [⟨none, .mov 15 (.t 7)⟩,
    ⟨none, .un 16 .neg (.t 15)⟩,
    ⟨none, .mov 4 (.c (.bool true))⟩,
    ⟨none, .mov 7 (.t 16)⟩] []) .skip)
noncomputable def ir_cast_nearest_1 : IR := .ret
noncomputable def ir_cast_nearest_2 : IR := (.cond (.t 22) (.seq (.reg [⟨none, .mov 23 (.t 4)⟩,
    ⟨none, .mov 24 (.t 5)⟩,
    ⟨none, .mov 25 (.t 7)⟩,
    ⟨none, .mov 26 (.t 1)⟩,
    ⟨none, .mov 27 (.t 5)⟩,
    ⟨none, .bin 28 .sub (.t 26) (.t 27)⟩,
    ⟨none, .bin 29 .shl (.t 25) (.t 28)⟩,
    ⟨none, .mov 4 (.t 23)⟩,
    ⟨none, .mov 5 (.t 24)⟩,
    ⟨none, .mov 6 (.t 29)⟩] [[], [], [], [], [], [3, 4], [2, 3, 4, 5], [0, 4], [0, 1, 4, 7], [0, 1, 2, 3, 4, 5, 6, 7, 8]]) ir_cast_nearest_1) .skip)
noncomputable def ir_cast_nearest_3 : IR := (.cond (.t 56) (.reg [⟨none, .mov 57 (.t 6)⟩,
    ⟨none, .bin 58 .add (.t 57) (.c (.int .u64 1))⟩,
    ⟨none, .mov 6 (.t 58)⟩] []) .skip)
noncomputable def ir_cast_nearest_4 : IR := (.cond (.t 63) (.reg [⟨none, .mov 64 (.t 6)⟩,
    ⟨none, .bin 65 .shr (.t 64) (.c (.int .u64 1))⟩,
    ⟨none, .mov 66 (.t 5)⟩,
    ⟨none, .bin 67 .add (.t 66) (.c (.int .i64 1))⟩,
    ⟨none, .mov 6 (.t 65)⟩,
    ⟨none, .mov 5 (.t 67)⟩] []) .skip)
noncomputable def ir_cast_nearest_5 : IR := .ret
noncomputable def ir_cast_nearest_6 : IR := (.seq (.reg [⟨none, .mov 68 (.t 4)⟩,
    ⟨none, .mov 69 (.t 5)⟩,
    ⟨none, .mov 70 (.t 6)⟩,
    ⟨none, .mov 4 (.t 68)⟩,
    ⟨none, .mov 5 (.t 69)⟩,
    ⟨none, .mov 6 (.t 70)⟩] []) ir_cast_nearest_5)
noncomputable def ir_cast_nearest_7 : IR := (.seq (.seq (.reg [⟨none, .mov 59 (.t 6)⟩,
    ⟨none, .mov 60 (.t 1)⟩,
    ⟨none, .bin 61 .add (.t 60) (.c (.int .i64 1))⟩,
    ⟨none, .bin 62 .shr (.t 59) (.t 61)⟩,
    ⟨none, .bin 63 .neq (.t 62) (.c (.int .u64 0))⟩] []) ir_cast_nearest_4) ir_cast_nearest_6)
noncomputable def ir_cast_nearest_8 : IR := (.seq (.seq (.reg [⟨none, .mov 44 (.t 9)⟩,
    ⟨none, .mov 45 (.t 10)⟩,
    ⟨none, .bin 46 .gtr (.t 44) (.t 45)⟩,
    ⟨none, .mov 47 (.t 46)⟩,
    ⟨some (47, false), .mov 48 (.t 9)⟩,
    ⟨some (47, false), .mov 49 (.t 10)⟩,
    ⟨some (47, false), .bin 50 .eql (.t 48) (.t 49)⟩,
    ⟨some (47, false), .mov 51 (.t 50)⟩,
    ⟨some (51, true), .mov 52 (.t 6)⟩,
    ⟨some (51, true), .bin 53 .and (.t 52) (.c (.int .u64 1))⟩,
    ⟨some (51, true), .bin 54 .eql (.t 53) (.c (.int .u64 1))⟩,
    ⟨some (47, false), .pick 55 (.t 51) (.t 54) (.c (.bool false))⟩,
    ⟨none, .pick 56 (.t 47) (.c (.bool true)) (.t 55)⟩] []) ir_cast_nearest_3) ir_cast_nearest_7)
noncomputable def ir_cast_nearest_9 : IR := (.seq (.reg [⟨none, .mov 36 (.t 7)⟩,
    ⟨none, .mov 37 (.t 8)⟩,
    ⟨none, .bin 38 .shl (.c (.int .u64 1)) (.t 37)⟩,
    ⟨none, .bin 39 .sub (.t 38) (.c (.int .u64 1))⟩,
    ⟨none, .bin 40 .and (.t 36) (.t 39)⟩,
    ⟨none, .mov 41 (.t 8)⟩,
    ⟨none, .bin 42 .sub (.t 41) (.c (.int .i64 1))⟩,
    ⟨none, .bin 43 .shl (.c (.int .u64 1)) (.t 42)⟩,
    ⟨none, .mov 9 (.t 40)⟩,
    ⟨none, .mov 10 (.t 43)⟩] [[], [], [1], [1, 2], [0, 1, 2, 3], [], [5], [5, 6], [0, 1, 2, 3, 4], [0, 1, 2, 3, 4, 5, 6, 7, 8]]) ir_cast_nearest_8)
noncomputable def ir_cast_nearest_10 : IR := (.seq (.reg [⟨none, .mov 33 (.t 7)⟩,
    ⟨none, .mov 34 (.t 8)⟩,
    ⟨none, .bin 35 .shr (.t 33) (.t 34)⟩,
    ⟨none, .mov 6 (.t 35)⟩] []) ir_cast_nearest_9)
noncomputable def ir_cast_nearest_11 : IR := (.seq (.reg [⟨none, .mov 30 (.t 5)⟩,
    ⟨none, .mov 31 (.t 1)⟩,
    ⟨none, .bin 32 .sub (.t 30) (.t 31)⟩,
    ⟨none, .mov 8 (.t 32)⟩] []) ir_cast_nearest_10)
noncomputable def ir_cast_nearest_12 : IR := (.seq (.seq (.reg [⟨none, .mov 20 (.t 5)⟩,
    ⟨none, .mov 21 (.t 1)⟩,
    ⟨none, .bin 22 .leq (.t 20) (.t 21)⟩] []) ir_cast_nearest_2) ir_cast_nearest_11)
noncomputable def ir_cast_nearest_13 : IR := (.seq (.reg [⟨none, .mov 17 (.t 7)⟩,
    ⟨none, .call (some 18) 37 [(.t 17)]⟩,
    ⟨none, .bin 19 .sub (.t 18) (.c (.int .i64 1))⟩,
    ⟨none, .mov 5 (.t 19)⟩] []) ir_cast_nearest_12)
noncomputable def ir_cast_nearest_14 : IR := (.seq (.seq (.reg [⟨none, .mov 13 (.t 0)⟩,
    ⟨none, .bin 14 .lss (.t 13) (.c (.int .i64 0))⟩] []) ir_cast_nearest_0) ir_cast_nearest_13)
noncomputable def ir_cast_nearest_15 : IR := (.seq (.reg [⟨none, .mov 11 (.t 0)⟩,
    ⟨none, .cvi 12 .u64 (.t 11)⟩,
    ⟨none, .mov 7 (.t 12)⟩] []) ir_cast_nearest_14)
noncomputable def ir_cast_nearest : IR := (.seq (.reg [⟨none, .mov 4 (.c (.bool false))⟩,
    ⟨none, .mov 5 (.c (.int .i64 0))⟩,
    ⟨none, .mov 6 (.c (.int .u64 0))⟩] []) ir_cast_nearest_15)
noncomputable def rs_cast_nearest : List RV := [.t 4, .t 5, .t 6]
theorem chk_cast_nearest : (chkCode Try.prog [] 0 ir_cast_nearest (Try.f35.body.getD .skip) && chkRes Try.prog rs_cast_nearest Try.f35.results.toList) = true := by kernel_rfl
theorem body_cast_nearest : Try.f35.body = some (Try.f35.body.getD .skip) := by kernel_rfl
/-- proclitic/cast.nearest -/
noncomputable def sa_cast_nearest (N : Nat) (p0 : Int) (p1 : Int)  : Option (V × List AObj) :=
  cond (decide (p0 < 0)) (
    let x1 : Int := (IntKind.wrap .u64 (0 - (IntKind.wrap .u64 p0)))
    let x2 : Int := (IntKind.wrap .i64 ((lenR x1) - 1))
    cond (decide (x2 ≤ p1)) (
      let x3 : Int := (IntKind.wrap .i64 (p1 - x2))
      chk (decide (0 ≤ x3)) (
        some (.tup [.bool true, .int .i64 x2, .int .u64 (shlI .u64 x1 x3)], []))) (
      let x4 : Int := (IntKind.wrap .i64 (x2 - p1))
      chk (decide (0 ≤ x4)) (
        chk (decide (0 ≤ x4)) (
          let x5 : Int := (IntKind.wrap .u64 ((shlI .u64 1 x4) - 1))
          let x6 : Int := (IntKind.wrap .i64 (x4 - 1))
          chk (decide (0 ≤ x6)) (
            let x7 : Bool := decide ((shlI .u64 1 x6) < (bitsI .and .u64 x1 x5))
            cond x7 (
              let x8 : Int := (IntKind.wrap .u64 ((shrI .u64 x1 x4) + 1))
              let x9 : Int := (IntKind.wrap .i64 (p1 + 1))
              chk (decide (0 ≤ x9)) (
                let x10 : Bool := (!((shrI .u64 x8 x9) == 0))
                cond x10 (
                  let x11 : Int := (IntKind.wrap .i64 (x2 + 1))
                  some (.tup [.bool true, .int .i64 x11, .int .u64 (shrI .u64 x8 1)], [])) (
                  some (.tup [.bool true, .int .i64 x2, .int .u64 x8], [])))) (
              let x12 : Bool := ((bitsI .and .u64 x1 x5) == (shlI .u64 1 x6))
              cond x12 (
                let x13 : Int := (bitsI .and .u64 (shrI .u64 x1 x4) 1)
                cond (x13 == 1) (
                  let x14 : Int := (IntKind.wrap .u64 ((shrI .u64 x1 x4) + 1))
                  let x15 : Int := (IntKind.wrap .i64 (p1 + 1))
                  chk (decide (0 ≤ x15)) (
                    let x16 : Bool := (!((shrI .u64 x14 x15) == 0))
                    cond x16 (
                      let x17 : Int := (IntKind.wrap .i64 (x2 + 1))
                      some (.tup [.bool true, .int .i64 x17, .int .u64 (shrI .u64 x14 1)], [])) (
                      some (.tup [.bool true, .int .i64 x2, .int .u64 x14], [])))) (
                  let x18 : Int := (IntKind.wrap .i64 (p1 + 1))
                  chk (decide (0 ≤ x18)) (
                    let x19 : Int := (shrI .u64 (shrI .u64 x1 x4) x18)
                    cond (!(x19 == 0)) (
                      let x20 : Int := (shrI .u64 (shrI .u64 x1 x4) 1)
                      let x21 : Int := (IntKind.wrap .i64 (x2 + 1))
                      some (.tup [.bool true, .int .i64 x21, .int .u64 x20], [])) (
                      some (.tup [.bool true, .int .i64 x2, .int .u64 (shrI .u64 x1 x4)], []))))) (
                let x22 : Int := (IntKind.wrap .i64 (p1 + 1))
                chk (decide (0 ≤ x22)) (
                  let x23 : Int := (shrI .u64 (shrI .u64 x1 x4) x22)
                  cond (!(x23 == 0)) (
                    let x24 : Int := (shrI .u64 (shrI .u64 x1 x4) 1)
                    let x25 : Int := (IntKind.wrap .i64 (x2 + 1))
                    some (.tup [.bool true, .int .i64 x25, .int .u64 x24], [])) (
                    some (.tup [.bool true, .int .i64 x2, .int .u64 (shrI .u64 x1 x4)], [])))))))))) (
    let x26 : Int := (lenR (IntKind.wrap .u64 p0))
    let x27 : Int := (IntKind.wrap .i64 (x26 - 1))
    cond (decide (x27 ≤ p1)) (
      let x28 : Int := (IntKind.wrap .i64 (p1 - x27))
      chk (decide (0 ≤ x28)) (
        let x29 : Int := (shlI .u64 (IntKind.wrap .u64 p0) x28)
        some (.tup [.bool false, .int .i64 x27, .int .u64 x29], []))) (
      let x30 : Int := (IntKind.wrap .i64 (x27 - p1))
      chk (decide (0 ≤ x30)) (
        let x31 : Int := (shrI .u64 (IntKind.wrap .u64 p0) x30)
        chk (decide (0 ≤ x30)) (
          let x32 : Int := (IntKind.wrap .u64 ((shlI .u64 1 x30) - 1))
          let x33 : Int := (bitsI .and .u64 (IntKind.wrap .u64 p0) x32)
          let x34 : Int := (IntKind.wrap .i64 (x30 - 1))
          chk (decide (0 ≤ x34)) (
            let x35 : Bool := decide ((shlI .u64 1 x34) < x33)
            cond x35 (
              let x36 : Int := (IntKind.wrap .u64 (x31 + 1))
              let x37 : Int := (IntKind.wrap .i64 (p1 + 1))
              chk (decide (0 ≤ x37)) (
                let x38 : Bool := (!((shrI .u64 x36 x37) == 0))
                cond x38 (
                  let x39 : Int := (IntKind.wrap .i64 (x27 + 1))
                  some (.tup [.bool false, .int .i64 x39, .int .u64 (shrI .u64 x36 1)], [])) (
                  some (.tup [.bool false, .int .i64 x27, .int .u64 x36], [])))) (
              let x40 : Bool := (x33 == (shlI .u64 1 x34))
              cond x40 (
                let x41 : Bool := ((bitsI .and .u64 x31 1) == 1)
                cond x41 (
                  let x42 : Int := (IntKind.wrap .u64 (x31 + 1))
                  let x43 : Int := (IntKind.wrap .i64 (p1 + 1))
                  chk (decide (0 ≤ x43)) (
                    let x44 : Bool := (!((shrI .u64 x42 x43) == 0))
                    cond x44 (
                      let x45 : Int := (IntKind.wrap .i64 (x27 + 1))
                      some (.tup [.bool false, .int .i64 x45, .int .u64 (shrI .u64 x42 1)], [])) (
                      some (.tup [.bool false, .int .i64 x27, .int .u64 x42], [])))) (
                  let x46 : Int := (IntKind.wrap .i64 (p1 + 1))
                  chk (decide (0 ≤ x46)) (
                    let x47 : Bool := (!((shrI .u64 x31 x46) == 0))
                    cond x47 (
                      let x48 : Int := (IntKind.wrap .i64 (x27 + 1))
                      some (.tup [.bool false, .int .i64 x48, .int .u64 (shrI .u64 x31 1)], [])) (
                      some (.tup [.bool false, .int .i64 x27, .int .u64 x31], []))))) (
                let x49 : Int := (IntKind.wrap .i64 (p1 + 1))
                chk (decide (0 ≤ x49)) (
                  let x50 : Bool := (!((shrI .u64 x31 x49) == 0))
                  cond x50 (
                    let x51 : Int := (IntKind.wrap .i64 (x27 + 1))
                    some (.tup [.bool false, .int .i64 x51, .int .u64 (shrI .u64 x31 1)], [])) (
                    some (.tup [.bool false, .int .i64 x27, .int .u64 x31], []))))))))))
noncomputable def sh_cast_nearest (N : Nat) (p0 : Int) (p1 : Int) : Option (V × List AObj) := sa_cast_nearest N p0 p1
theorem run_cast_nearest (N : Nat) (p0 : Int) (p1 : Int) : callF Γ_cast_nearest N 71 rs_cast_nearest ir_cast_nearest [.int .i64 p0, .int .i64 p1] [] = sh_cast_nearest N p0 p1 := by kernel_rfl
theorem ok_cast_nearest (hΓ : SpecOK Try.prog Γ_cast_nearest) (N : Nat) (p0 : Int) (p1 : Int) {v : V} {hp : List AObj} (h : sh_cast_nearest N p0 p1 = some (v, hp)) : PureOK Try.prog i_cast_nearest [.int .i64 p0, .int .i64 p1] v := by
  have hc := chk_cast_nearest
  simp only [Bool.and_eq_true] at hc
  exact ⟨hp, fnOK_of hΓ pureS_cast_nearest Try.func35 body_cast_nearest hc.1 hc.2 (by decide) ((run_cast_nearest N p0 p1).trans h)⟩

noncomputable def G_cast_Double : Nat → List V → Option (Bool × V) := fun f vs => match f, vs with
  | 35, [.int .i64 a0, .int .i64 a1] => some ((decide (a1 = 52) || decide (a1 = 23)), .tup [.bool ((nearR a0 a1).1), .int .i64 ((nearR a0 a1).2.1), .int .u64 ((nearR a0 a1).2.2)])
  | _, _ => none
noncomputable def Γ_cast_Double : ASpec := liftG G_cast_Double
theorem pureS_cast_Double : PureS Γ_cast_Double [] := liftG_pure _ _
theorem spec_cast_Double (h_cast_nearest : ∀ (a0 : Int) (a1 : Int), (decide (a1 = 52) || decide (a1 = 23)) = true → PureOK Try.prog i_cast_nearest [.int .i64 a0, .int .i64 a1] (.tup [.bool ((nearR a0 a1).1), .int .i64 ((nearR a0 a1).2.1), .int .u64 ((nearR a0 a1).2.2)])) : SpecOK Try.prog Γ_cast_Double := by
  intro f vs hp v hp' h0
  obtain ⟨h, he⟩ := liftG_inv h0
  subst he
  unfold G_cast_Double at h
  split at h
  · simp only [Option.some.injEq, Prod.mk.injEq] at h
    obtain ⟨hc, rfl⟩ := h
    exact (h_cast_nearest _ _ hc).frame rfl rfl _
  · simp at h
noncomputable def ir_cast_Double_0 : IR := .ret
noncomputable def ir_cast_Double_1 : IR := (.cond (.t 8) (.seq (.reg [⟨none, .mov 2 (.c (.int .u64 0))⟩] []) ir_cast_Double_0) .skip)
noncomputable def ir_cast_Double_2 : IR := (.cond (.t 22) (.reg [⟨none, .mov 23 (.t 6)⟩,
    ⟨none, .bin 24 .or (.t 23) (.c (.int .u64 9223372036854775808))⟩,
    ⟨none, .mov 6 (.t 24)⟩] []) .skip)
noncomputable def ir_cast_Double_3 : IR := .ret
noncomputable def ir_cast_Double_4 : IR := (.seq (.reg [⟨none, .mov 25 (.t 6)⟩,
    ⟨none, .mov 2 (.t 25)⟩] []) ir_cast_Double_3)
noncomputable def ir_cast_Double_5 : IR := (.seq (.seq (.reg [⟨none, .mov 22 (.t 3)⟩] []) ir_cast_Double_2) ir_cast_Double_4)
noncomputable def ir_cast_Double_6 : IR := (.seq (.reg [⟨none, .mov 15 (.t 4)⟩,
    ⟨none, .bin 16 .add (.t 15) (.c (.int .i64 1023))⟩,
    ⟨none, .cvi 17 .u64 (.t 16)⟩,
    ⟨none, .bin 18 .shl (.t 17) (.c (.int .u64 52))⟩,
    ⟨none, .mov 19 (.t 5)⟩,
    ⟨none, .bin 20 .and (.t 19) (.c (.int .u64 4503599627370495))⟩,
    ⟨none, .bin 21 .or (.t 18) (.t 20)⟩,
    ⟨none, .mov 6 (.t 21)⟩] []) ir_cast_Double_5)
noncomputable def ir_cast_Double_7 : IR := (.seq (.reg [⟨none, .mov 10 (.t 0)⟩,
    ⟨none, .call (some 11) 35 [(.t 10), (.c (.int .i64 52))]⟩,
    ⟨none, .mov 9 (.t 11)⟩,
    ⟨none, .ext 12 0 (.t 9)⟩,
    ⟨none, .ext 13 1 (.t 9)⟩,
    ⟨none, .ext 14 2 (.t 9)⟩,
    ⟨none, .mov 3 (.t 12)⟩,
    ⟨none, .mov 4 (.t 13)⟩,
    ⟨none, .mov 5 (.t 14)⟩] []) ir_cast_Double_6)
noncomputable def ir_cast_Double_8 : IR := (.seq (.seq (.reg [⟨none, .mov 7 (.t 0)⟩,
    ⟨none, .bin 8 .eql (.t 7) (.c (.int .i64 0))⟩] []) ir_cast_Double_1) ir_cast_Double_7)
noncomputable def ir_cast_Double : IR := (.seq (.reg [⟨none, .mov 2 (.c (.int .u64 0))⟩] []) ir_cast_Double_8)
noncomputable def rs_cast_Double : List RV := [.t 2]
theorem chk_cast_Double : (chkCode Try.prog [] 0 ir_cast_Double (Try.f15.body.getD .skip) && chkRes Try.prog rs_cast_Double Try.f15.results.toList) = true := by kernel_rfl
theorem body_cast_Double : Try.f15.body = some (Try.f15.body.getD .skip) := by kernel_rfl
/-- proclitic/cast.Double -/
noncomputable def sa_cast_Double (N : Nat) (p0 : Int)  : Option (V × List AObj) :=
  cond (p0 == 0) (
    some (.int .u64 0, [])) (
    chk ((decide (52 = 52) || decide (52 = 23))) (
      let x1 : Int := (IntKind.wrap .i64 (((nearR p0 52).2.1) + 1023))
      let x2 : Int := (shlI .u64 (IntKind.wrap .u64 x1) 52)
      let x3 : Int := (bitsI .and .u64 ((nearR p0 52).2.2) 4503599627370495)
      cond ((nearR p0 52).1) (
        let x4 : Int := (bitsI .or .u64 (bitsI .or .u64 x2 x3) 9223372036854775808)
        some (.int .u64 x4, [])) (
        some (.int .u64 (bitsI .or .u64 x2 x3), []))))
noncomputable def sh_cast_Double (N : Nat) (p0 : Int) : Option (V × List AObj) := sa_cast_Double N p0
theorem run_cast_Double (N : Nat) (p0 : Int) : callF Γ_cast_Double N 26 rs_cast_Double ir_cast_Double [.int .i64 p0] [] = sh_cast_Double N p0 := by kernel_rfl
theorem ok_cast_Double (hΓ : SpecOK Try.prog Γ_cast_Double) (N : Nat) (p0 : Int) {v : V} {hp : List AObj} (h : sh_cast_Double N p0 = some (v, hp)) : PureOK Try.prog i_cast_Double [.int .i64 p0] v := by
  have hc := chk_cast_Double
  simp only [Bool.and_eq_true] at hc
  exact ⟨hp, fnOK_of hΓ pureS_cast_Double Try.func15 body_cast_Double hc.1 hc.2 (by decide) ((run_cast_Double N p0).trans h)⟩

noncomputable def G_cast_Float : Nat → List V → Option (Bool × V) := fun f vs => match f, vs with
  | 35, [.int .i64 a0, .int .i64 a1] => some ((decide (a1 = 52) || decide (a1 = 23)), .tup [.bool ((nearR a0 a1).1), .int .i64 ((nearR a0 a1).2.1), .int .u64 ((nearR a0 a1).2.2)])
  | _, _ => none
noncomputable def Γ_cast_Float : ASpec := liftG G_cast_Float
theorem pureS_cast_Float : PureS Γ_cast_Float [] := liftG_pure _ _
theorem spec_cast_Float (h_cast_nearest : ∀ (a0 : Int) (a1 : Int), (decide (a1 = 52) || decide (a1 = 23)) = true → PureOK Try.prog i_cast_nearest [.int .i64 a0, .int .i64 a1] (.tup [.bool ((nearR a0 a1).1), .int .i64 ((nearR a0 a1).2.1), .int .u64 ((nearR a0 a1).2.2)])) : SpecOK Try.prog Γ_cast_Float := by
  intro f vs hp v hp' h0
  obtain ⟨h, he⟩ := liftG_inv h0
  subst he
  unfold G_cast_Float at h
  split at h
  · simp only [Option.some.injEq, Prod.mk.injEq] at h
    obtain ⟨hc, rfl⟩ := h
    exact (h_cast_nearest _ _ hc).frame rfl rfl _
  · simp at h
noncomputable def ir_cast_Float_0 : IR := .ret
noncomputable def ir_cast_Float_1 : IR := (.cond (.t 8) (.seq (.reg [⟨none, .mov 2 (.c (.int .u32 0))⟩] []) ir_cast_Float_0) .skip)
noncomputable def ir_cast_Float_2 : IR := (.cond (.t 23) (.reg [⟨none, .mov 24 (.t 6)⟩,
    ⟨none, .bin 25 .or (.t 24) (.c (.int .u32 2147483648))⟩,
    ⟨none, .mov 6 (.t 25)⟩] []) .skip)
noncomputable def ir_cast_Float_3 : IR := .ret
noncomputable def ir_cast_Float_4 : IR := (.seq (.reg [⟨none, .mov 26 (.t 6)⟩,
    ⟨none, .mov 2 (.t 26)⟩] []) ir_cast_Float_3)
noncomputable def ir_cast_Float_5 : IR := (.seq (.seq (.reg [⟨none, .mov 23 (.t 3)⟩] []) ir_cast_Float_2) ir_cast_Float_4)
noncomputable def ir_cast_Float_6 : IR := (.seq (.reg [⟨none, .mov 15 (.t 4)⟩,
    ⟨none, .bin 16 .add (.t 15) (.c (.int .i64 127))⟩,
    ⟨none, .cvi 17 .u32 (.t 16)⟩,
    ⟨none, .bin 18 .shl (.t 17) (.c (.int .u64 23))⟩,
    ⟨none, .mov 19 (.t 5)⟩,
    ⟨none, .cvi 20 .u32 (.t 19)⟩,
    ⟨none, .bin 21 .and (.t 20) (.c (.int .u32 8388607))⟩,
    ⟨none, .bin 22 .or (.t 18) (.t 21)⟩,
    ⟨none, .mov 6 (.t 22)⟩] []) ir_cast_Float_5)
noncomputable def ir_cast_Float_7 : IR := (.seq (.reg [⟨none, .mov 10 (.t 0)⟩,
    ⟨none, .call (some 11) 35 [(.t 10), (.c (.int .i64 23))]⟩,
    ⟨none, .mov 9 (.t 11)⟩,
    ⟨none, .ext 12 0 (.t 9)⟩,
    ⟨none, .ext 13 1 (.t 9)⟩,
    ⟨none, .ext 14 2 (.t 9)⟩,
    ⟨none, .mov 3 (.t 12)⟩,
    ⟨none, .mov 4 (.t 13)⟩,
    ⟨none, .mov 5 (.t 14)⟩] []) ir_cast_Float_6)
noncomputable def ir_cast_Float_8 : IR := (.seq (.seq (.reg [⟨none, .mov 7 (.t 0)⟩,
    ⟨none, .bin 8 .eql (.t 7) (.c (.int .i64 0))⟩] []) ir_cast_Float_1) ir_cast_Float_7)
noncomputable def ir_cast_Float : IR := (.seq (.reg [⟨none, .mov 2 (.c (.int .u32 0))⟩] []) ir_cast_Float_8)
noncomputable def rs_cast_Float : List RV := [.t 2]
theorem chk_cast_Float : (chkCode Try.prog [] 0 ir_cast_Float (Try.f17.body.getD .skip) && chkRes Try.prog rs_cast_Float Try.f17.results.toList) = true := by kernel_rfl
theorem body_cast_Float : Try.f17.body = some (Try.f17.body.getD .skip) := by kernel_rfl
/-- proclitic/cast.Float -/
noncomputable def sa_cast_Float (N : Nat) (p0 : Int)  : Option (V × List AObj) :=
  cond (p0 == 0) (
    some (.int .u32 0, [])) (
    chk ((decide (23 = 52) || decide (23 = 23))) (
      let x1 : Int := (IntKind.wrap .i64 (((nearR p0 23).2.1) + 127))
      let x2 : Int := (shlI .u32 (IntKind.wrap .u32 x1) 23)
      let x3 : Int := (IntKind.wrap .u32 ((nearR p0 23).2.2))
      let x4 : Int := (bitsI .and .u32 x3 8388607)
      cond ((nearR p0 23).1) (
        let x5 : Int := (bitsI .or .u32 (bitsI .or .u32 x2 x4) 2147483648)
        some (.int .u32 x5, [])) (
        some (.int .u32 (bitsI .or .u32 x2 x4), []))))
noncomputable def sh_cast_Float (N : Nat) (p0 : Int) : Option (V × List AObj) := sa_cast_Float N p0
theorem run_cast_Float (N : Nat) (p0 : Int) : callF Γ_cast_Float N 27 rs_cast_Float ir_cast_Float [.int .i64 p0] [] = sh_cast_Float N p0 := by kernel_rfl
theorem ok_cast_Float (hΓ : SpecOK Try.prog Γ_cast_Float) (N : Nat) (p0 : Int) {v : V} {hp : List AObj} (h : sh_cast_Float N p0 = some (v, hp)) : PureOK Try.prog i_cast_Float [.int .i64 p0] v := by
  have hc := chk_cast_Float
  simp only [Bool.and_eq_true] at hc
  exact ⟨hp, fnOK_of hΓ pureS_cast_Float Try.func17 body_cast_Float hc.1 hc.2 (by decide) ((run_cast_Float N p0).trans h)⟩

noncomputable def G_cast_Widen : Nat → List V → Option (Bool × V) := fun f vs => match f, vs with
  | 37, [.int .u64 a0] => some (true, .int .i64 (lenR a0))
  | _, _ => none
noncomputable def Γ_cast_Widen : ASpec := liftG G_cast_Widen
theorem pureS_cast_Widen : PureS Γ_cast_Widen [] := liftG_pure _ _
theorem spec_cast_Widen (h_math_bits_Len64 : ∀ (a0 : Int), PureOK Try.prog i_math_bits_Len64 [.int .u64 a0] (.int .i64 (lenR a0))) : SpecOK Try.prog Γ_cast_Widen := by
  intro f vs hp v hp' h0
  obtain ⟨h, he⟩ := liftG_inv h0
  subst he
  unfold G_cast_Widen at h
  split at h
  · simp only [Option.some.injEq, Prod.mk.injEq] at h
    obtain ⟨hc, rfl⟩ := h
    exact (h_math_bits_Len64 _).frame rfl rfl _
  · simp at h
noncomputable def ir_cast_Widen_0 : IR := .ret
noncomputable def ir_cast_Widen_1 : IR := .ret
noncomputable def ir_cast_Widen_2 : IR := (.reg [⟨none, .mov 43 (.t 5)⟩,
    ⟨none, .mov 44 (.t 6)⟩,
    ⟨none, .bin 45 .sub (.c (.int .i64 23)) (.t 44)⟩,
    ⟨none, .bin 46 .shl (.t 43) (.t 45)⟩,
    ⟨none, .bin 47 .and (.t 46) (.c (.int .u64 8388607))⟩,
    ⟨none, .mov 5 (.t 47)⟩] [])
noncomputable def ir_cast_Widen_3 : IR := (.seq (.reg [⟨none, .mov 40 (.t 6)⟩,
    ⟨none, .bin 41 .sub (.t 40) (.c (.int .i64 23))⟩,
    ⟨none, .bin 42 .add (.t 41) (.c (.int .i64 1))⟩,
    ⟨none, .mov 4 (.t 42)⟩] []) ir_cast_Widen_2)
noncomputable def ir_cast_Widen_4 : IR := (.cond (.t 34) (.seq (.reg [⟨none, .mov 37 (.t 5)⟩,
    ⟨none, .call (some 38) 37 [(.t 37)]⟩,
    ⟨none, .bin 39 .sub (.t 38) (.c (.int .i64 1))⟩,
    ⟨none, .mov 6 (.t 39)⟩] []) ir_cast_Widen_3) .skip)
noncomputable def ir_cast_Widen_5 : IR := (.cond (.t 26) (.seq (.reg [⟨none, .mov 33 (.t 3)⟩,
    ⟨none, .mov 2 (.t 33)⟩] []) ir_cast_Widen_1) (.seq (.reg [⟨none, .mov 35 (.t 4)⟩,
    ⟨none, .bin 36 .eql (.t 35) (.c (.int .i64 0))⟩,
    ⟨none, .mov 34 (.t 36)⟩] []) ir_cast_Widen_4))
noncomputable def ir_cast_Widen_6 : IR := (.cond (.t 18) (.seq (.reg [⟨none, .mov 21 (.t 3)⟩,
    ⟨none, .bin 22 .or (.t 21) (.c (.int .u64 9218868437227405312))⟩,
    ⟨none, .mov 23 (.t 5)⟩,
    ⟨none, .bin 24 .shl (.t 23) (.c (.int .u64 29))⟩,
    ⟨none, .bin 25 .or (.t 22) (.t 24)⟩,
    ⟨none, .mov 2 (.t 25)⟩] []) ir_cast_Widen_0) (.seq (.reg [⟨none, .mov 27 (.t 4)⟩,
    ⟨none, .bin 28 .eql (.t 27) (.c (.int .i64 0))⟩,
    ⟨none, .mov 29 (.t 28)⟩,
    ⟨some (29, true), .mov 30 (.t 5)⟩,
    ⟨some (29, true), .bin 31 .eql (.t 30) (.c (.int .u64 0))⟩,
    ⟨none, .pick 32 (.t 29) (.t 31) (.c (.bool false))⟩,
    ⟨none, .mov 26 (.t 32)⟩] []) ir_cast_Widen_5))
noncomputable def ir_cast_Widen_7 : IR := .ret
noncomputable def ir_cast_Widen_8 : IR := (.seq (.reg [⟨none, .mov 48 (.t 3)⟩,
    ⟨none, .mov 49 (.t 4)⟩,
    ⟨none, .bin 50 .sub (.t 49) (.c (.int .i64 127))⟩,
    ⟨none, .bin 51 .add (.t 50) (.c (.int .i64 1023))⟩,
    ⟨none, .cvi 52 .u64 (.t 51)⟩,
    ⟨none, .bin 53 .shl (.t 52) (.c (.int .u64 52))⟩,
    ⟨none, .bin 54 .or (.t 48) (.t 53)⟩,
    ⟨none, .mov 55 (.t 5)⟩,
    ⟨none, .bin 56 .shl (.t 55) (.c (.int .u64 29))⟩,
    ⟨none, .bin 57 .or (.t 54) (.t 56)⟩,
    ⟨none, .mov 2 (.t 57)⟩] []) ir_cast_Widen_7)
noncomputable def ir_cast_Widen_9 : IR := (.seq (.block 0 (.seq (.reg [⟨none, .mov 19 (.t 4)⟩,
    ⟨none, .bin 20 .eql (.t 19) (.c (.int .i64 255))⟩,
    ⟨none, .mov 18 (.t 20)⟩] []) ir_cast_Widen_6)) ir_cast_Widen_8)
noncomputable def ir_cast_Widen_10 : IR := (.seq (.reg [⟨none, .mov 11 (.t 0)⟩,
    ⟨none, .bin 12 .shr (.t 11) (.c (.int .u64 23))⟩,
    ⟨none, .bin 13 .and (.t 12) (.c (.int .u32 255))⟩,
    ⟨none, .cvi 14 .i64 (.t 13)⟩,
    ⟨none, .mov 15 (.t 0)⟩,
    ⟨none, .bin 16 .and (.t 15) (.c (.int .u32 8388607))⟩,
    ⟨none, .cvi 17 .u64 (.t 16)⟩,
    ⟨none, .mov 4 (.t 14)⟩,
    ⟨none, .mov 5 (.t 17)⟩] []) ir_cast_Widen_9)
noncomputable def ir_cast_Widen_11 : IR := (.seq (.reg [⟨none, .mov 7 (.t 0)⟩,
    ⟨none, .bin 8 .shr (.t 7) (.c (.int .u64 31))⟩,
    ⟨none, .cvi 9 .u64 (.t 8)⟩,
    ⟨none, .bin 10 .shl (.t 9) (.c (.int .u64 63))⟩,
    ⟨none, .mov 3 (.t 10)⟩] []) ir_cast_Widen_10)
noncomputable def ir_cast_Widen : IR := (.seq (.reg [⟨none, .mov 2 (.c (.int .u64 0))⟩] []) ir_cast_Widen_11)
noncomputable def rs_cast_Widen : List RV := [.t 2]
theorem chk_cast_Widen : (chkCode Try.prog [] 0 ir_cast_Widen (Try.f19.body.getD .skip) && chkRes Try.prog rs_cast_Widen Try.f19.results.toList) = true := by kernel_rfl
theorem body_cast_Widen : Try.f19.body = some (Try.f19.body.getD .skip) := by kernel_rfl
/-- proclitic/cast.Widen -/
noncomputable def sa_cast_Widen (N : Nat) (p0 : Int)  : Option (V × List AObj) :=
  let x1 : Int := (IntKind.wrap .u64 (shrI .u32 p0 31))
  let x2 : Int := (bitsI .and .u32 (shrI .u32 p0 23) 255)
  let x3 : Int := (bitsI .and .u32 p0 8388607)
  let x4 : Bool := ((IntKind.wrap .i64 x2) == 255)
  cond x4 (
    let x5 : Int := (bitsI .or .u64 (shlI .u64 x1 63) 9218868437227405312)
    let x6 : Int := (shlI .u64 (IntKind.wrap .u64 x3) 29)
    some (.int .u64 (bitsI .or .u64 x5 x6), [])) (
    let x7 : Bool := ((IntKind.wrap .i64 x2) == 0)
    cond x7 (
      let x8 : Bool := ((IntKind.wrap .u64 x3) == 0)
      cond x8 (
        some (.int .u64 (shlI .u64 x1 63), [])) (
        let x9 : Bool := ((IntKind.wrap .i64 x2) == 0)
        cond x9 (
          let x10 : Int := (lenR (IntKind.wrap .u64 x3))
          let x11 : Int := (IntKind.wrap .i64 (x10 - 1))
          let x12 : Int := (IntKind.wrap .i64 (x11 - 23))
          let x13 : Int := (IntKind.wrap .i64 (x12 + 1))
          let x14 : Int := (IntKind.wrap .i64 (23 - x11))
          chk (decide (0 ≤ x14)) (
            let x15 : Int := (shlI .u64 (IntKind.wrap .u64 x3) x14)
            let x16 : Int := (bitsI .and .u64 x15 8388607)
            let x17 : Int := (IntKind.wrap .i64 (x13 - 127))
            let x18 : Int := (IntKind.wrap .i64 (x17 + 1023))
            let x19 : Int := (shlI .u64 (IntKind.wrap .u64 x18) 52)
            let x20 : Int := (bitsI .or .u64 (shlI .u64 x1 63) x19)
            let x21 : Int := (bitsI .or .u64 x20 (shlI .u64 x16 29))
            some (.int .u64 x21, []))) (
          let x22 : Int := (IntKind.wrap .i64 ((IntKind.wrap .i64 x2) - 127))
          let x23 : Int := (IntKind.wrap .i64 (x22 + 1023))
          let x24 : Int := (shlI .u64 (IntKind.wrap .u64 x23) 52)
          let x25 : Int := (bitsI .or .u64 (shlI .u64 x1 63) x24)
          let x26 : Int := (shlI .u64 (IntKind.wrap .u64 x3) 29)
          some (.int .u64 (bitsI .or .u64 x25 x26), [])))) (
      let x27 : Bool := ((IntKind.wrap .i64 x2) == 0)
      cond x27 (
        let x28 : Int := (lenR (IntKind.wrap .u64 x3))
        let x29 : Int := (IntKind.wrap .i64 (x28 - 1))
        let x30 : Int := (IntKind.wrap .i64 (x29 - 23))
        let x31 : Int := (IntKind.wrap .i64 (x30 + 1))
        let x32 : Int := (IntKind.wrap .i64 (23 - x29))
        chk (decide (0 ≤ x32)) (
          let x33 : Int := (shlI .u64 (IntKind.wrap .u64 x3) x32)
          let x34 : Int := (bitsI .and .u64 x33 8388607)
          let x35 : Int := (IntKind.wrap .i64 (x31 - 127))
          let x36 : Int := (IntKind.wrap .i64 (x35 + 1023))
          let x37 : Int := (shlI .u64 (IntKind.wrap .u64 x36) 52)
          let x38 : Int := (bitsI .or .u64 (shlI .u64 x1 63) x37)
          let x39 : Int := (bitsI .or .u64 x38 (shlI .u64 x34 29))
          some (.int .u64 x39, []))) (
        let x40 : Int := (IntKind.wrap .i64 ((IntKind.wrap .i64 x2) - 127))
        let x41 : Int := (IntKind.wrap .i64 (x40 + 1023))
        let x42 : Int := (shlI .u64 (IntKind.wrap .u64 x41) 52)
        let x43 : Int := (bitsI .or .u64 (shlI .u64 x1 63) x42)
        let x44 : Int := (shlI .u64 (IntKind.wrap .u64 x3) 29)
        some (.int .u64 (bitsI .or .u64 x43 x44), []))))
noncomputable def sh_cast_Widen (N : Nat) (p0 : Int) : Option (V × List AObj) := sa_cast_Widen N p0
theorem run_cast_Widen (N : Nat) (p0 : Int) : callF Γ_cast_Widen N 58 rs_cast_Widen ir_cast_Widen [.int .u32 p0] [] = sh_cast_Widen N p0 := by kernel_rfl
theorem ok_cast_Widen (hΓ : SpecOK Try.prog Γ_cast_Widen) (N : Nat) (p0 : Int) {v : V} {hp : List AObj} (h : sh_cast_Widen N p0 = some (v, hp)) : PureOK Try.prog i_cast_Widen [.int .u32 p0] v := by
  have hc := chk_cast_Widen
  simp only [Bool.and_eq_true] at hc
  exact ⟨hp, fnOK_of hΓ pureS_cast_Widen Try.func19 body_cast_Widen hc.1 hc.2 (by decide) ((run_cast_Widen N p0).trans h)⟩

noncomputable def G_ref1_near : Nat → List V → Option (Bool × V) := fun _ _ => none
noncomputable def Γ_ref1_near : ASpec := liftG G_ref1_near
theorem pureS_ref1_near : PureS Γ_ref1_near [] := liftG_pure _ _
theorem spec_ref1_near : SpecOK Try.prog Γ_ref1_near := by
  intro f vs hp v hp' h
  obtain ⟨h, -⟩ := liftG_inv h
  simp [G_ref1_near] at h
noncomputable def ir_ref1_near_0 : IR := .ret
noncomputable def ir_ref1_near_1 : IR := (.cond (.t 13) (.seq (.reg [⟨none, .mov 6 (.c (.int .u64 0))⟩] []) ir_ref1_near_0) .skip)
noncomputable def ir_ref1_near_2 : IR := (.cond (.t 17) .skip (.exit 0))
noncomputable def ir_ref1_near_3 : IR := (.block 1 (.reg [⟨none, .mov 18 (.t 7)⟩,
    ⟨none, .bin 19 .sub (.t 18) (.c (.int .i64 1))⟩,
    ⟨none, .mov 7 (.t 19)⟩] []))
noncomputable def ir_ref1_near_4 : IR := (.seq (.seq (.reg [⟨none, .mov 14 (.t 0)⟩,
    ⟨none, .mov 15 (.t 7)⟩,
    ⟨none, .bin 16 .shr (.t 14) (.t 15)⟩,
    ⟨none, .bin 17 .eql (.t 16) (.c (.int .u64 0))⟩] []) ir_ref1_near_2) ir_ref1_near_3)
noncomputable def ir_ref1_near_5 : IR := (.cond (.t 54) (.reg [⟨none, .mov 55 (.t 8)⟩,
    ⟨none, .bin 56 .add (.t 55) (.c (.int .u64 1))⟩,
    ⟨none, .mov 8 (.t 56)⟩] []) .skip)
noncomputable def ir_ref1_near_6 : IR := (.seq (.reg [⟨none, .mov 42 (.t 11)⟩,
    ⟨none, .mov 43 (.t 10)⟩,
    ⟨none, .bin 44 .gtr (.t 42) (.t 43)⟩,
    ⟨none, .mov 45 (.t 44)⟩,
    ⟨some (45, false), .mov 46 (.t 11)⟩,
    ⟨some (45, false), .mov 47 (.t 10)⟩,
    ⟨some (45, false), .bin 48 .eql (.t 46) (.t 47)⟩,
    ⟨some (45, false), .mov 49 (.t 48)⟩,
    ⟨some (49, true), .mov 50 (.t 8)⟩,
    ⟨some (49, true), .bin 51 .rem (.t 50) (.c (.int .u64 2))⟩,
    ⟨some (49, true), .bin 52 .eql (.t 51) (.c (.int .u64 1))⟩,
    ⟨some (45, false), .pick 53 (.t 49) (.t 52) (.c (.bool false))⟩,
    ⟨none, .pick 54 (.t 45) (.c (.bool true)) (.t 53)⟩] []) ir_ref1_near_5)
noncomputable def ir_ref1_near_7 : IR := (.seq (.reg [⟨none, .mov 39 (.t 0)⟩,
    ⟨none, .mov 40 (.t 9)⟩,
    ⟨none, .bin 41 .shr (.t 39) (.t 40)⟩,
    ⟨none, .mov 8 (.t 41)⟩] []) ir_ref1_near_6)
noncomputable def ir_ref1_near_8 : IR := (.seq (.reg [⟨none, .mov 35 (.t 0)⟩,
    ⟨none, .mov 36 (.t 9)⟩,
    ⟨none, .bin 37 .shl (.c (.int .u64 1)) (.t 36)⟩,
    ⟨none, .bin 38 .rem (.t 35) (.t 37)⟩,
    ⟨none, .mov 11 (.t 38)⟩] []) ir_ref1_near_7)
noncomputable def ir_ref1_near_9 : IR := (.seq (.reg [⟨none, .mov 32 (.t 9)⟩,
    ⟨none, .bin 33 .sub (.t 32) (.c (.int .i64 1))⟩,
    ⟨none, .bin 34 .shl (.c (.int .u64 1)) (.t 33)⟩,
    ⟨none, .mov 10 (.t 34)⟩] []) ir_ref1_near_8)
noncomputable def ir_ref1_near_10 : IR := (.cond (.t 23) (.reg [⟨none, .mov 24 (.t 0)⟩,
    ⟨none, .mov 25 (.t 1)⟩,
    ⟨none, .mov 26 (.t 7)⟩,
    ⟨none, .bin 27 .sub (.t 25) (.t 26)⟩,
    ⟨none, .bin 28 .shl (.t 24) (.t 27)⟩,
    ⟨none, .mov 8 (.t 28)⟩] []) (.seq (.reg [⟨none, .mov 29 (.t 7)⟩,
    ⟨none, .mov 30 (.t 1)⟩,
    ⟨none, .bin 31 .sub (.t 29) (.t 30)⟩,
    ⟨none, .mov 9 (.t 31)⟩] []) ir_ref1_near_9))
noncomputable def ir_ref1_near_11 : IR := .ret
noncomputable def ir_ref1_near_12 : IR := (.seq (.reg [⟨none, .mov 57 (.t 7)⟩,
    ⟨none, .mov 58 (.t 2)⟩,
    ⟨none, .bin 59 .add (.t 57) (.t 58)⟩,
    ⟨none, .cvi 60 .u64 (.t 59)⟩,
    ⟨none, .mov 61 (.t 1)⟩,
    ⟨none, .bin 62 .shl (.t 60) (.t 61)⟩,
    ⟨none, .mov 63 (.t 8)⟩,
    ⟨none, .mov 64 (.t 1)⟩,
    ⟨none, .bin 65 .shl (.c (.int .u64 1)) (.t 64)⟩,
    ⟨none, .bin 66 .sub (.t 63) (.t 65)⟩,
    ⟨none, .bin 67 .add (.t 62) (.t 66)⟩,
    ⟨none, .mov 6 (.t 67)⟩] [[], [], [0, 1], [0, 1, 2], [], [0, 1, 2, 3, 4], [], [], [7], [6, 7, 8], [0, 1, 2, 3, 4, 5, 6, 7, 8, 9], [0, 1, 2, 3, 4, 5, 6, 7, 8, 9, 10]]) ir_ref1_near_11)
noncomputable def ir_ref1_near_13 : IR := (.seq (.seq (.reg [⟨none, .mov 21 (.t 7)⟩,
    ⟨none, .mov 22 (.t 1)⟩,
    ⟨none, .bin 23 .leq (.t 21) (.t 22)⟩] []) ir_ref1_near_10) ir_ref1_near_12)
noncomputable def ir_ref1_near_14 : IR := (.seq (.reg [⟨none, .mov 20 (.t 0)⟩,
    ⟨none, .mov 8 (.t 20)⟩] []) ir_ref1_near_13)
noncomputable def ir_ref1_near_15 : IR := (.seq (.block 0 (.loop [0, 1, 2, 7] 0 ir_ref1_near_4)) ir_ref1_near_14)
noncomputable def ir_ref1_near_16 : IR := (.seq (.reg [⟨none, .mov 7 (.c (.int .i64 63))⟩] []) ir_ref1_near_15)
noncomputable def ir_ref1_near_17 : IR := (.seq (.seq (.reg [⟨none, .mov 12 (.t 0)⟩,
    ⟨none, .bin 13 .eql (.t 12) (.c (.int .u64 0))⟩] []) ir_ref1_near_1) ir_ref1_near_16)
noncomputable def ir_ref1_near : IR := (.seq (.reg [⟨none, .mov 6 (.c (.int .u64 0))⟩] []) ir_ref1_near_17)
noncomputable def rs_ref1_near : List RV := [.t 6]
theorem chk_ref1_near : (chkCode Try.prog [] 0 ir_ref1_near (Try.f36.body.getD .skip) && chkRes Try.prog rs_ref1_near Try.f36.results.toList) = true := by kernel_rfl
theorem body_ref1_near : Try.f36.body = some (Try.f36.body.getD .skip) := by kernel_rfl
noncomputable def mk_ref1_near_0 (x : (Int × Int × Int × Int)) : St := { env := [.int .u64 x.1, .int .i64 x.2.1, .int .i64 x.2.2.1, .undef, .undef, .undef, .undef, .int .i64 x.2.2.2, .undef, .undef, .undef, .undef, .undef, .undef, .undef, .undef, .undef, .undef, .undef, .undef, .undef, .undef, .undef, .undef, .undef, .undef, .undef, .undef, .undef, .undef, .undef, .undef, .undef, .undef, .undef, .undef, .undef, .undef, .undef, .undef, .undef, .undef, .undef, .undef, .undef, .undef, .undef, .undef, .undef, .undef, .undef, .undef, .undef, .undef, .undef, .undef, .undef, .undef, .undef, .undef, .undef, .undef, .undef, .undef, .undef, .undef, .undef, .undef], hp := [] }
noncomputable def F_ref1_near_0 (N : Nat) : (St → Option (V × List AObj)) → St → Option (V × List AObj) := fun again0 s => run Γ_ref1_near N ir_ref1_near_4 (kloop again0 [0, 1, 2, 7] 0 (kblock 0 (kseq (run Γ_ref1_near N ir_ref1_near_14) (fin rs_ref1_near)))) s
noncomputable def B_ref1_near_0 (N : Nat) (again0 : (Int × Int × Int × Int) → Option (V × List AObj)) (x : (Int × Int × Int × Int)) : Option (V × List AObj) :=
  let v0 : Int := x.1
  let v1 : Int := x.2.1
  let v2 : Int := x.2.2.1
  let v7 : Int := x.2.2.2
  chk (decide (0 ≤ v7)) (
    cond ((shrI .u64 v0 v7) == 0) (
      let x1 : Int := (IntKind.wrap .i64 (v7 - 1))
      again0 (v0, v1, v2, x1)) (
      cond (decide (v7 ≤ v1)) (
        let x2 : Int := (IntKind.wrap .i64 (v1 - v7))
        chk (decide (0 ≤ x2)) (
          let x3 : Int := (IntKind.wrap .i64 (v7 + v2))
          chk (decide (0 ≤ v1)) (
            let x4 : Int := (shlI .u64 (IntKind.wrap .u64 x3) v1)
            chk (decide (0 ≤ v1)) (
              let x5 : Int := (IntKind.wrap .u64 ((shlI .u64 v0 x2) - (shlI .u64 1 v1)))
              let x6 : Int := (IntKind.wrap .u64 (x4 + x5))
              some (.int .u64 x6, []))))) (
        let x7 : Int := (IntKind.wrap .i64 (v7 - v1))
        let x8 : Int := (IntKind.wrap .i64 (x7 - 1))
        chk (decide (0 ≤ x8)) (
          chk (decide (0 ≤ x7)) (
            chk ((!((shlI .u64 1 x7) == 0))) (
              let x9 : Int := (Int.tmod v0 (shlI .u64 1 x7))
              chk (decide (0 ≤ x7)) (
                let x10 : Bool := decide ((shlI .u64 1 x8) < x9)
                cond x10 (
                  let x11 : Int := (IntKind.wrap .u64 ((shrI .u64 v0 x7) + 1))
                  let x12 : Int := (IntKind.wrap .i64 (v7 + v2))
                  chk (decide (0 ≤ v1)) (
                    let x13 : Int := (shlI .u64 (IntKind.wrap .u64 x12) v1)
                    chk (decide (0 ≤ v1)) (
                      let x14 : Int := (IntKind.wrap .u64 (x11 - (shlI .u64 1 v1)))
                      let x15 : Int := (IntKind.wrap .u64 (x13 + x14))
                      some (.int .u64 x15, [])))) (
                  cond (x9 == (shlI .u64 1 x8)) (
                    let x16 : Int := (Int.tmod (shrI .u64 v0 x7) 2)
                    cond (x16 == 1) (
                      let x17 : Int := (IntKind.wrap .u64 ((shrI .u64 v0 x7) + 1))
                      let x18 : Int := (IntKind.wrap .i64 (v7 + v2))
                      chk (decide (0 ≤ v1)) (
                        let x19 : Int := (shlI .u64 (IntKind.wrap .u64 x18) v1)
                        chk (decide (0 ≤ v1)) (
                          let x20 : Int := (IntKind.wrap .u64 (x17 - (shlI .u64 1 v1)))
                          let x21 : Int := (IntKind.wrap .u64 (x19 + x20))
                          some (.int .u64 x21, [])))) (
                      let x22 : Int := (IntKind.wrap .i64 (v7 + v2))
                      chk (decide (0 ≤ v1)) (
                        let x23 : Int := (shlI .u64 (IntKind.wrap .u64 x22) v1)
                        chk (decide (0 ≤ v1)) (
                          let x24 : Int := (IntKind.wrap .u64 ((shrI .u64 v0 x7) - (shlI .u64 1 v1)))
                          let x25 : Int := (IntKind.wrap .u64 (x23 + x24))
                          some (.int .u64 x25, []))))) (
                    let x26 : Int := (IntKind.wrap .i64 (v7 + v2))
                    chk (decide (0 ≤ v1)) (
                      let x27 : Int := (shlI .u64 (IntKind.wrap .u64 x26) v1)
                      chk (decide (0 ≤ v1)) (
                        let x28 : Int := (IntKind.wrap .u64 ((shrI .u64 v0 x7) - (shlI .u64 1 v1)))
                        let x29 : Int := (IntKind.wrap .u64 (x27 + x28))
                        some (.int .u64 x29, []))))))))))))
theorem FB_ref1_near_0 (N : Nat) : ∀ (again0 : St → Option (V × List AObj)) (x : (Int × Int × Int × Int)), F_ref1_near_0 N again0 (mk_ref1_near_0 x) = B_ref1_near_0 N (fun y => again0 (mk_ref1_near_0 y)) x := by
  intro again0 x
  kernel_rfl
/-- proclitic/procliticref1.near -/
noncomputable def sa_ref1_near (N : Nat) (p0 : Int) (p1 : Int) (p2 : Int) (q0 : (Int × Int × Int × Int) → Option (V × List AObj)) : Option (V × List AObj) :=
  cond (p0 == 0) (
    some (.int .u64 0, [])) (
    q0 (p0, p1, p2, 63))
noncomputable def sh_ref1_near (N : Nat) (p0 : Int) (p1 : Int) (p2 : Int) : Option (V × List AObj) := sa_ref1_near N p0 p1 p2 (fun z => iterL N (B_ref1_near_0 N) z)
theorem run_ref1_near (N : Nat) (p0 : Int) (p1 : Int) (p2 : Int) : callF Γ_ref1_near N 68 rs_ref1_near ir_ref1_near [.int .u64 p0, .int .i64 p1, .int .i64 p2] [] = sh_ref1_near N p0 p1 p2 := by
  have h : callF Γ_ref1_near N 68 rs_ref1_near ir_ref1_near [.int .u64 p0, .int .i64 p1, .int .i64 p2] [] = sa_ref1_near N p0 p1 p2 (fun z => loopN N (F_ref1_near_0 N) (mk_ref1_near_0 z)) := by kernel_rfl
  have e0 : (fun z => loopN N (F_ref1_near_0 N) (mk_ref1_near_0 z)) = (fun z => iterL N (B_ref1_near_0 N) z) := funext fun z => loop_eq (mk_ref1_near_0) (F_ref1_near_0 N) (B_ref1_near_0 N) (FB_ref1_near_0 N) N z
  rw [h, e0]
  rfl
theorem ok_ref1_near (hΓ : SpecOK Try.prog Γ_ref1_near) (N : Nat) (p0 : Int) (p1 : Int) (p2 : Int) {v : V} {hp : List AObj} (h : sh_ref1_near N p0 p1 p2 = some (v, hp)) : PureOK Try.prog i_ref1_near [.int .u64 p0, .int .i64 p1, .int .i64 p2] v := by
  have hc := chk_ref1_near
  simp only [Bool.and_eq_true] at hc
  exact ⟨hp, fnOK_of hΓ pureS_ref1_near Try.func36 body_ref1_near hc.1 hc.2 (by decide) ((run_ref1_near N p0 p1 p2).trans h)⟩

noncomputable def G_ref1_Double : Nat → List V → Option (Bool × V) := fun f vs => match f, vs with
  | 36, [.int .u64 a0, .int .i64 a1, .int .i64 a2] => some (((decide (a1 = 52) && decide (a2 = 1023)) || (decide (a1 = 23) && decide (a2 = 127))), .int .u64 (nearB a0 a1 a2))
  | _, _ => none
noncomputable def Γ_ref1_Double : ASpec := liftG G_ref1_Double
theorem pureS_ref1_Double : PureS Γ_ref1_Double [] := liftG_pure _ _
theorem spec_ref1_Double (h_ref1_near : ∀ (a0 : Int) (a1 : Int) (a2 : Int), ((decide (a1 = 52) && decide (a2 = 1023)) || (decide (a1 = 23) && decide (a2 = 127))) = true → PureOK Try.prog i_ref1_near [.int .u64 a0, .int .i64 a1, .int .i64 a2] (.int .u64 (nearB a0 a1 a2))) : SpecOK Try.prog Γ_ref1_Double := by
  intro f vs hp v hp' h0
  obtain ⟨h, he⟩ := liftG_inv h0
  subst he
  unfold G_ref1_Double at h
  split at h
  · simp only [Option.some.injEq, Prod.mk.injEq] at h
    obtain ⟨hc, rfl⟩ := h
    exact (h_ref1_near _ _ _ hc).frame rfl rfl _
  · simp at h
noncomputable def ir_ref1_Double_0 : IR := .ret
noncomputable def ir_ref1_Double_1 : IR := (.cond (.t 4) (.seq (.reg [⟨none, .mov 5 (.t 0)⟩,
    ⟨none, .bin 6 .add (.t 5) (.c (.int .i64 1))⟩,
    ⟨none, .un 7 .neg (.t 6)⟩,
    ⟨none, .cvi 8 .u64 (.t 7)⟩,
    ⟨none, .bin 9 .add (.t 8) (.c (.int .u64 1))⟩,
    ⟨none, .call (some 10) 36 [(.t 9), (.c (.int .i64 52)), (.c (.int .i64 1023))]⟩,
    ⟨none, .bin 11 .or (.c (.int .u64 9223372036854775808)) (.t 10)⟩,
    ⟨none, .mov 2 (.t 11)⟩] []) ir_ref1_Double_0) .skip)
noncomputable def ir_ref1_Double_2 : IR := .ret
noncomputable def ir_ref1_Double_3 : IR := (.seq (.reg [⟨none, .mov 12 (.t 0)⟩,
    ⟨none, .cvi 13 .u64 (.t 12)⟩,
    ⟨none, .call (some 14) 36 [(.t 13), (.c (.int .i64 52)), (.c (.int .i64 1023))]⟩,
    ⟨none, .mov 2 (.t 14)⟩] []) ir_ref1_Double_2)
noncomputable def ir_ref1_Double_4 : IR := (.seq (.seq (.reg [⟨none, .mov 3 (.t 0)⟩,
    ⟨none, .bin 4 .lss (.t 3) (.c (.int .i64 0))⟩] []) ir_ref1_Double_1) ir_ref1_Double_3)
noncomputable def ir_ref1_Double : IR := (.seq (.reg [⟨none, .mov 2 (.c (.int .u64 0))⟩] []) ir_ref1_Double_4)
noncomputable def rs_ref1_Double : List RV := [.t 2]
theorem chk_ref1_Double : (chkCode Try.prog [] 0 ir_ref1_Double (Try.f16.body.getD .skip) && chkRes Try.prog rs_ref1_Double Try.f16.results.toList) = true := by kernel_rfl
theorem body_ref1_Double : Try.f16.body = some (Try.f16.body.getD .skip) := by kernel_rfl
/-- proclitic/procliticref1.Double -/
noncomputable def sa_ref1_Double (N : Nat) (p0 : Int)  : Option (V × List AObj) :=
  cond (decide (p0 < 0)) (
    let x1 : Int := (IntKind.wrap .i64 (p0 + 1))
    let x2 : Int := (IntKind.wrap .i64 (0 - x1))
    let x3 : Int := (IntKind.wrap .u64 ((IntKind.wrap .u64 x2) + 1))
    chk (((decide (52 = 52) && decide (1023 = 1023)) || (decide (52 = 23) && decide (1023 = 127)))) (
      let x4 : Int := (bitsI .or .u64 9223372036854775808 (nearB x3 52 1023))
      some (.int .u64 x4, []))) (
    chk (((decide (52 = 52) && decide (1023 = 1023)) || (decide (52 = 23) && decide (1023 = 127)))) (
      let x5 : Int := (nearB (IntKind.wrap .u64 p0) 52 1023)
      some (.int .u64 x5, [])))
noncomputable def sh_ref1_Double (N : Nat) (p0 : Int) : Option (V × List AObj) := sa_ref1_Double N p0
theorem run_ref1_Double (N : Nat) (p0 : Int) : callF Γ_ref1_Double N 15 rs_ref1_Double ir_ref1_Double [.int .i64 p0] [] = sh_ref1_Double N p0 := by kernel_rfl
theorem ok_ref1_Double (hΓ : SpecOK Try.prog Γ_ref1_Double) (N : Nat) (p0 : Int) {v : V} {hp : List AObj} (h : sh_ref1_Double N p0 = some (v, hp)) : PureOK Try.prog i_ref1_Double [.int .i64 p0] v := by
  have hc := chk_ref1_Double
  simp only [Bool.and_eq_true] at hc
  exact ⟨hp, fnOK_of hΓ pureS_ref1_Double Try.func16 body_ref1_Double hc.1 hc.2 (by decide) ((run_ref1_Double N p0).trans h)⟩

noncomputable def G_ref1_Float : Nat → List V → Option (Bool × V) := fun f vs => match f, vs with
  | 36, [.int .u64 a0, .int .i64 a1, .int .i64 a2] => some (((decide (a1 = 52) && decide (a2 = 1023)) || (decide (a1 = 23) && decide (a2 = 127))), .int .u64 (nearB a0 a1 a2))
  | _, _ => none
noncomputable def Γ_ref1_Float : ASpec := liftG G_ref1_Float
theorem pureS_ref1_Float : PureS Γ_ref1_Float [] := liftG_pure _ _
theorem spec_ref1_Float (h_ref1_near : ∀ (a0 : Int) (a1 : Int) (a2 : Int), ((decide (a1 = 52) && decide (a2 = 1023)) || (decide (a1 = 23) && decide (a2 = 127))) = true → PureOK Try.prog i_ref1_near [.int .u64 a0, .int .i64 a1, .int .i64 a2] (.int .u64 (nearB a0 a1 a2))) : SpecOK Try.prog Γ_ref1_Float := by
  intro f vs hp v hp' h0
  obtain ⟨h, he⟩ := liftG_inv h0
  subst he
  unfold G_ref1_Float at h
  split at h
  · simp only [Option.some.injEq, Prod.mk.injEq] at h
    obtain ⟨hc, rfl⟩ := h
    exact (h_ref1_near _ _ _ hc).frame rfl rfl _
  · simp at h
noncomputable def ir_ref1_Float_0 : IR := .ret
noncomputable def ir_ref1_Float_1 : IR := (.cond (.t 4) (.seq (.reg [⟨none, .mov 5 (.t 0)⟩,
    ⟨none, .bin 6 .add (.t 5) (.c (.int .i64 1))⟩,
    ⟨none, .un 7 .neg (.t 6)⟩,
    ⟨none, .cvi 8 .u64 (.t 7)⟩,
    ⟨none, .bin 9 .add (.t 8) (.c (.int .u64 1))⟩,
    ⟨none, .call (some 10) 36 [(.t 9), (.c (.int .i64 23)), (.c (.int .i64 127))]⟩,
    ⟨none, .cvi 11 .u32 (.t 10)⟩,
    ⟨none, .bin 12 .or (.c (.int .u32 2147483648)) (.t 11)⟩,
    ⟨none, .mov 2 (.t 12)⟩] []) ir_ref1_Float_0) .skip)
noncomputable def ir_ref1_Float_2 : IR := .ret
noncomputable def ir_ref1_Float_3 : IR := (.seq (.reg [⟨none, .mov 13 (.t 0)⟩,
    ⟨none, .cvi 14 .u64 (.t 13)⟩,
    ⟨none, .call (some 15) 36 [(.t 14), (.c (.int .i64 23)), (.c (.int .i64 127))]⟩,
    ⟨none, .cvi 16 .u32 (.t 15)⟩,
    ⟨none, .mov 2 (.t 16)⟩] []) ir_ref1_Float_2)
noncomputable def ir_ref1_Float_4 : IR := (.seq (.seq (.reg [⟨none, .mov 3 (.t 0)⟩,
    ⟨none, .bin 4 .lss (.t 3) (.c (.int .i64 0))⟩] []) ir_ref1_Float_1) ir_ref1_Float_3)
noncomputable def ir_ref1_Float : IR := (.seq (.reg [⟨none, .mov 2 (.c (.int .u32 0))⟩] []) ir_ref1_Float_4)
noncomputable def rs_ref1_Float : List RV := [.t 2]
theorem chk_ref1_Float : (chkCode Try.prog [] 0 ir_ref1_Float (Try.f18.body.getD .skip) && chkRes Try.prog rs_ref1_Float Try.f18.results.toList) = true := by kernel_rfl
theorem body_ref1_Float : Try.f18.body = some (Try.f18.body.getD .skip) := by kernel_rfl
/-- proclitic/procliticref1.Float -/
noncomputable def sa_ref1_Float (N : Nat) (p0 : Int)  : Option (V × List AObj) :=
  cond (decide (p0 < 0)) (
    let x1 : Int := (IntKind.wrap .i64 (p0 + 1))
    let x2 : Int := (IntKind.wrap .i64 (0 - x1))
    let x3 : Int := (IntKind.wrap .u64 ((IntKind.wrap .u64 x2) + 1))
    chk (((decide (23 = 52) && decide (127 = 1023)) || (decide (23 = 23) && decide (127 = 127)))) (
      let x4 : Int := (IntKind.wrap .u32 (nearB x3 23 127))
      let x5 : Int := (bitsI .or .u32 2147483648 x4)
      some (.int .u32 x5, []))) (
    chk (((decide (23 = 52) && decide (127 = 1023)) || (decide (23 = 23) && decide (127 = 127)))) (
      let x6 : Int := (nearB (IntKind.wrap .u64 p0) 23 127)
      some (.int .u32 (IntKind.wrap .u32 x6), [])))
noncomputable def sh_ref1_Float (N : Nat) (p0 : Int) : Option (V × List AObj) := sa_ref1_Float N p0
theorem run_ref1_Float (N : Nat) (p0 : Int) : callF Γ_ref1_Float N 17 rs_ref1_Float ir_ref1_Float [.int .i64 p0] [] = sh_ref1_Float N p0 := by kernel_rfl
theorem ok_ref1_Float (hΓ : SpecOK Try.prog Γ_ref1_Float) (N : Nat) (p0 : Int) {v : V} {hp : List AObj} (h : sh_ref1_Float N p0 = some (v, hp)) : PureOK Try.prog i_ref1_Float [.int .i64 p0] v := by
  have hc := chk_ref1_Float
  simp only [Bool.and_eq_true] at hc
  exact ⟨hp, fnOK_of hΓ pureS_ref1_Float Try.func18 body_ref1_Float hc.1 hc.2 (by decide) ((run_ref1_Float N p0).trans h)⟩

noncomputable def G_ref1_Widen : Nat → List V → Option (Bool × V) := fun _ _ => none
noncomputable def Γ_ref1_Widen : ASpec := liftG G_ref1_Widen
theorem pureS_ref1_Widen : PureS Γ_ref1_Widen [] := liftG_pure _ _
theorem spec_ref1_Widen : SpecOK Try.prog Γ_ref1_Widen := by
  intro f vs hp v hp' h
  obtain ⟨h, -⟩ := liftG_inv h
  simp [G_ref1_Widen] at h
noncomputable def ir_ref1_Widen_0 : IR := .ret
noncomputable def ir_ref1_Widen_1 : IR := .ret
noncomputable def ir_ref1_Widen_2 : IR := (.cond (.t 40) .skip (.exit 1))
noncomputable def ir_ref1_Widen_3 : IR := (.block 2 (.reg [⟨none, .mov 41 (.t 6)⟩,
    ⟨none, .bin 42 .sub (.t 41) (.c (.int .i64 1))⟩,
    ⟨none, .mov 6 (.t 42)⟩] []))
noncomputable def ir_ref1_Widen_4 : IR := (.seq (.seq (.reg [⟨none, .mov 37 (.t 5)⟩,
    ⟨none, .mov 38 (.t 6)⟩,
    ⟨none, .bin 39 .shr (.t 37) (.t 38)⟩,
    ⟨none, .bin 40 .eql (.t 39) (.c (.int .u64 0))⟩] []) ir_ref1_Widen_2) ir_ref1_Widen_3)
noncomputable def ir_ref1_Widen_5 : IR := .ret
noncomputable def ir_ref1_Widen_6 : IR := (.seq (.reg [⟨none, .mov 43 (.t 3)⟩,
    ⟨none, .mov 44 (.t 6)⟩,
    ⟨none, .bin 45 .sub (.t 44) (.c (.int .i64 149))⟩,
    ⟨none, .bin 46 .add (.t 45) (.c (.int .i64 1023))⟩,
    ⟨none, .cvi 47 .u64 (.t 46)⟩,
    ⟨none, .bin 48 .shl (.t 47) (.c (.int .u64 52))⟩,
    ⟨none, .bin 49 .or (.t 43) (.t 48)⟩,
    ⟨none, .mov 50 (.t 5)⟩,
    ⟨none, .mov 51 (.t 6)⟩,
    ⟨none, .bin 52 .sub (.c (.int .i64 52)) (.t 51)⟩,
    ⟨none, .bin 53 .shl (.t 50) (.t 52)⟩,
    ⟨none, .bin 54 .sub (.t 53) (.c (.int .u64 4503599627370496))⟩,
    ⟨none, .bin 55 .or (.t 49) (.t 54)⟩,
    ⟨none, .mov 2 (.t 55)⟩] []) ir_ref1_Widen_5)
noncomputable def ir_ref1_Widen_7 : IR := (.seq (.block 1 (.loop [3, 5, 6] 0 ir_ref1_Widen_4)) ir_ref1_Widen_6)
noncomputable def ir_ref1_Widen_8 : IR := (.cond (.t 34) (.seq (.reg [⟨none, .mov 6 (.c (.int .i64 22))⟩] []) ir_ref1_Widen_7) .skip)
noncomputable def ir_ref1_Widen_9 : IR := (.cond (.t 26) (.seq (.reg [⟨none, .mov 33 (.t 3)⟩,
    ⟨none, .mov 2 (.t 33)⟩] []) ir_ref1_Widen_1) (.seq (.reg [⟨none, .mov 35 (.t 4)⟩,
    ⟨none, .bin 36 .eql (.t 35) (.c (.int .i64 0))⟩,
    ⟨none, .mov 34 (.t 36)⟩] []) ir_ref1_Widen_8))
noncomputable def ir_ref1_Widen_10 : IR := (.cond (.t 18) (.seq (.reg [⟨none, .mov 21 (.t 3)⟩,
    ⟨none, .bin 22 .or (.t 21) (.c (.int .u64 9218868437227405312))⟩,
    ⟨none, .mov 23 (.t 5)⟩,
    ⟨none, .bin 24 .shl (.t 23) (.c (.int .u64 29))⟩,
    ⟨none, .bin 25 .or (.t 22) (.t 24)⟩,
    ⟨none, .mov 2 (.t 25)⟩] []) ir_ref1_Widen_0) (.seq (.reg [⟨none, .mov 27 (.t 4)⟩,
    ⟨none, .bin 28 .eql (.t 27) (.c (.int .i64 0))⟩,
    ⟨none, .mov 29 (.t 28)⟩,
    ⟨some (29, true), .mov 30 (.t 5)⟩,
    ⟨some (29, true), .bin 31 .eql (.t 30) (.c (.int .u64 0))⟩,
    ⟨none, .pick 32 (.t 29) (.t 31) (.c (.bool false))⟩,
    ⟨none, .mov 26 (.t 32)⟩] []) ir_ref1_Widen_9))
noncomputable def ir_ref1_Widen_11 : IR := .ret
noncomputable def ir_ref1_Widen_12 : IR := (.seq (.reg [⟨none, .mov 56 (.t 3)⟩,
    ⟨none, .mov 57 (.t 4)⟩,
    ⟨none, .bin 58 .sub (.t 57) (.c (.int .i64 127))⟩,
    ⟨none, .bin 59 .add (.t 58) (.c (.int .i64 1023))⟩,
    ⟨none, .cvi 60 .u64 (.t 59)⟩,
    ⟨none, .bin 61 .shl (.t 60) (.c (.int .u64 52))⟩,
    ⟨none, .bin 62 .or (.t 56) (.t 61)⟩,
    ⟨none, .mov 63 (.t 5)⟩,
    ⟨none, .bin 64 .shl (.t 63) (.c (.int .u64 29))⟩,
    ⟨none, .bin 65 .or (.t 62) (.t 64)⟩,
    ⟨none, .mov 2 (.t 65)⟩] []) ir_ref1_Widen_11)
noncomputable def ir_ref1_Widen_13 : IR := (.seq (.block 0 (.seq (.reg [⟨none, .mov 19 (.t 4)⟩,
    ⟨none, .bin 20 .eql (.t 19) (.c (.int .i64 255))⟩,
    ⟨none, .mov 18 (.t 20)⟩] []) ir_ref1_Widen_10)) ir_ref1_Widen_12)
noncomputable def ir_ref1_Widen_14 : IR := (.seq (.reg [⟨none, .mov 15 (.t 0)⟩,
    ⟨none, .bin 16 .and (.t 15) (.c (.int .u32 8388607))⟩,
    ⟨none, .cvi 17 .u64 (.t 16)⟩,
    ⟨none, .mov 5 (.t 17)⟩] []) ir_ref1_Widen_13)
noncomputable def ir_ref1_Widen_15 : IR := (.seq (.reg [⟨none, .mov 11 (.t 0)⟩,
    ⟨none, .bin 12 .shr (.t 11) (.c (.int .u64 23))⟩,
    ⟨none, .bin 13 .and (.t 12) (.c (.int .u32 255))⟩,
    ⟨none, .cvi 14 .i64 (.t 13)⟩,
    ⟨none, .mov 4 (.t 14)⟩] []) ir_ref1_Widen_14)
noncomputable def ir_ref1_Widen_16 : IR := (.seq (.reg [⟨none, .mov 7 (.t 0)⟩,
    ⟨none, .bin 8 .shr (.t 7) (.c (.int .u64 31))⟩,
    ⟨none, .cvi 9 .u64 (.t 8)⟩,
    ⟨none, .bin 10 .shl (.t 9) (.c (.int .u64 63))⟩,
    ⟨none, .mov 3 (.t 10)⟩] []) ir_ref1_Widen_15)
noncomputable def ir_ref1_Widen : IR := (.seq (.reg [⟨none, .mov 2 (.c (.int .u64 0))⟩] []) ir_ref1_Widen_16)
noncomputable def rs_ref1_Widen : List RV := [.t 2]
theorem chk_ref1_Widen : (chkCode Try.prog [] 0 ir_ref1_Widen (Try.f20.body.getD .skip) && chkRes Try.prog rs_ref1_Widen Try.f20.results.toList) = true := by kernel_rfl
theorem body_ref1_Widen : Try.f20.body = some (Try.f20.body.getD .skip) := by kernel_rfl
noncomputable def mk_ref1_Widen_0 (x : (Int × Int × Int)) : St := { env := [.undef, .undef, .undef, .int .u64 x.1, .undef, .int .u64 x.2.1, .int .i64 x.2.2, .undef, .undef, .undef, .undef, .undef, .undef, .undef, .undef, .undef, .undef, .undef, .undef, .undef, .undef, .undef, .undef, .undef, .undef, .undef, .undef, .undef, .undef, .undef, .undef, .undef, .undef, .undef, .undef, .undef, .undef, .undef, .undef, .undef, .undef, .undef, .undef, .undef, .undef, .undef, .undef, .undef, .undef, .undef, .undef, .undef, .undef, .undef, .undef, .undef, .undef, .undef, .undef, .undef, .undef, .undef, .undef, .undef, .undef, .undef], hp := [] }
noncomputable def F_ref1_Widen_0 (N : Nat) : (St → Option (V × List AObj)) → St → Option (V × List AObj) := fun again0 s => run Γ_ref1_Widen N ir_ref1_Widen_4 (kloop again0 [3, 5, 6] 0 (kblock 1 (kseq (run Γ_ref1_Widen N ir_ref1_Widen_6) (kblock 0 (kseq (run Γ_ref1_Widen N ir_ref1_Widen_12) (fin rs_ref1_Widen)))))) s
noncomputable def B_ref1_Widen_0 (N : Nat) (again0 : (Int × Int × Int) → Option (V × List AObj)) (x : (Int × Int × Int)) : Option (V × List AObj) :=
  let v3 : Int := x.1
  let v5 : Int := x.2.1
  let v6 : Int := x.2.2
  chk (decide (0 ≤ v6)) (
    cond ((shrI .u64 v5 v6) == 0) (
      let x10 : Int := (IntKind.wrap .i64 (v6 - 1))
      again0 (v3, v5, x10)) (
      let x11 : Int := (IntKind.wrap .i64 (v6 - 149))
      let x12 : Int := (IntKind.wrap .i64 (x11 + 1023))
      let x13 : Int := (shlI .u64 (IntKind.wrap .u64 x12) 52)
      let x14 : Int := (IntKind.wrap .i64 (52 - v6))
      chk (decide (0 ≤ x14)) (
        let x15 : Int := (IntKind.wrap .u64 ((shlI .u64 v5 x14) - 4503599627370496))
        let x16 : Int := (bitsI .or .u64 (bitsI .or .u64 v3 x13) x15)
        some (.int .u64 x16, []))))
theorem FB_ref1_Widen_0 (N : Nat) : ∀ (again0 : St → Option (V × List AObj)) (x : (Int × Int × Int)), F_ref1_Widen_0 N again0 (mk_ref1_Widen_0 x) = B_ref1_Widen_0 N (fun y => again0 (mk_ref1_Widen_0 y)) x := by
  intro again0 x
  kernel_rfl
/-- proclitic/procliticref1.Widen -/
noncomputable def sa_ref1_Widen (N : Nat) (p0 : Int) (q0 : (Int × Int × Int) → Option (V × List AObj)) : Option (V × List AObj) :=
  let x1 : Int := (IntKind.wrap .u64 (shrI .u32 p0 31))
  let x2 : Int := (bitsI .and .u32 (shrI .u32 p0 23) 255)
  let x3 : Int := (bitsI .and .u32 p0 8388607)
  let x4 : Bool := ((IntKind.wrap .i64 x2) == 255)
  cond x4 (
    let x5 : Int := (bitsI .or .u64 (shlI .u64 x1 63) 9218868437227405312)
    let x6 : Int := (shlI .u64 (IntKind.wrap .u64 x3) 29)
    some (.int .u64 (bitsI .or .u64 x5 x6), [])) (
    let x7 : Bool := ((IntKind.wrap .i64 x2) == 0)
    cond x7 (
      let x8 : Bool := ((IntKind.wrap .u64 x3) == 0)
      cond x8 (
        some (.int .u64 (shlI .u64 x1 63), [])) (
        let x9 : Bool := ((IntKind.wrap .i64 x2) == 0)
        cond x9 (
          q0 ((shlI .u64 x1 63), (IntKind.wrap .u64 x3), 22)) (
          let x17 : Int := (IntKind.wrap .i64 ((IntKind.wrap .i64 x2) - 127))
          let x18 : Int := (IntKind.wrap .i64 (x17 + 1023))
          let x19 : Int := (shlI .u64 (IntKind.wrap .u64 x18) 52)
          let x20 : Int := (bitsI .or .u64 (shlI .u64 x1 63) x19)
          let x21 : Int := (shlI .u64 (IntKind.wrap .u64 x3) 29)
          some (.int .u64 (bitsI .or .u64 x20 x21), [])))) (
      let x22 : Bool := ((IntKind.wrap .i64 x2) == 0)
      cond x22 (
        q0 ((shlI .u64 x1 63), (IntKind.wrap .u64 x3), 22)) (
        let x23 : Int := (IntKind.wrap .i64 ((IntKind.wrap .i64 x2) - 127))
        let x24 : Int := (IntKind.wrap .i64 (x23 + 1023))
        let x25 : Int := (shlI .u64 (IntKind.wrap .u64 x24) 52)
        let x26 : Int := (bitsI .or .u64 (shlI .u64 x1 63) x25)
        let x27 : Int := (shlI .u64 (IntKind.wrap .u64 x3) 29)
        some (.int .u64 (bitsI .or .u64 x26 x27), []))))
noncomputable def sh_ref1_Widen (N : Nat) (p0 : Int) : Option (V × List AObj) := sa_ref1_Widen N p0 (fun z => iterL N (B_ref1_Widen_0 N) z)
theorem run_ref1_Widen (N : Nat) (p0 : Int) : callF Γ_ref1_Widen N 66 rs_ref1_Widen ir_ref1_Widen [.int .u32 p0] [] = sh_ref1_Widen N p0 := by
  have h : callF Γ_ref1_Widen N 66 rs_ref1_Widen ir_ref1_Widen [.int .u32 p0] [] = sa_ref1_Widen N p0 (fun z => loopN N (F_ref1_Widen_0 N) (mk_ref1_Widen_0 z)) := by kernel_rfl
  have e0 : (fun z => loopN N (F_ref1_Widen_0 N) (mk_ref1_Widen_0 z)) = (fun z => iterL N (B_ref1_Widen_0 N) z) := funext fun z => loop_eq (mk_ref1_Widen_0) (F_ref1_Widen_0 N) (B_ref1_Widen_0 N) (FB_ref1_Widen_0 N) N z
  rw [h, e0]
  rfl
theorem ok_ref1_Widen (hΓ : SpecOK Try.prog Γ_ref1_Widen) (N : Nat) (p0 : Int) {v : V} {hp : List AObj} (h : sh_ref1_Widen N p0 = some (v, hp)) : PureOK Try.prog i_ref1_Widen [.int .u32 p0] v := by
  have hc := chk_ref1_Widen
  simp only [Bool.and_eq_true] at hc
  exact ⟨hp, fnOK_of hΓ pureS_ref1_Widen Try.func20 body_ref1_Widen hc.1 hc.2 (by decide) ((run_ref1_Widen N p0).trans h)⟩

noncomputable def G_law2_step : Nat → List V → Option (Bool × V) := fun _ _ => none
noncomputable def Γ_law2_step : ASpec := liftG G_law2_step
theorem pureS_law2_step : PureS Γ_law2_step [] := liftG_pure _ _
theorem spec_law2_step : SpecOK Try.prog Γ_law2_step := by
  intro f vs hp v hp' h
  obtain ⟨h, -⟩ := liftG_inv h
  simp [G_law2_step] at h
noncomputable def ir_law2_step_0 : IR := .ret
noncomputable def ir_law2_step_1 : IR := (.cond (.t 7) (.seq (.reg [⟨none, .mov 4 (.c (.int .u64 0))⟩] []) ir_law2_step_0) .skip)
noncomputable def ir_law2_step_2 : IR := .ret
noncomputable def ir_law2_step_3 : IR := (.cond (.t 9) (.seq (.reg [⟨none, .mov 4 (.c (.int .u64 4607182418800017408))⟩] []) ir_law2_step_2) .skip)
noncomputable def ir_law2_step_4 : IR := .ret
noncomputable def ir_law2_step_5 : IR := (.seq (.reg [⟨none, .mov 10 (.t 1)⟩,
    ⟨none, .bin 11 .sub (.c (.int .i64 53)) (.t 10)⟩,
    ⟨none, .bin 12 .shl (.c (.int .u64 1)) (.t 11)⟩,
    ⟨none, .mov 4 (.t 12)⟩] []) ir_law2_step_4)
noncomputable def ir_law2_step_6 : IR := (.seq (.seq (.reg [⟨none, .mov 8 (.t 1)⟩,
    ⟨none, .bin 9 .eql (.t 8) (.c (.int .i64 1))⟩] []) ir_law2_step_3) ir_law2_step_5)
noncomputable def ir_law2_step_7 : IR := (.seq (.seq (.reg [⟨none, .mov 5 (.t 0)⟩,
    ⟨none, .bin 6 .rem (.t 5) (.c (.int .i64 2))⟩,
    ⟨none, .bin 7 .eql (.t 6) (.c (.int .i64 0))⟩] []) ir_law2_step_1) ir_law2_step_6)
noncomputable def ir_law2_step : IR := (.seq (.reg [⟨none, .mov 4 (.c (.int .u64 0))⟩] []) ir_law2_step_7)
noncomputable def rs_law2_step : List RV := [.t 4]
theorem chk_law2_step : (chkCode Try.prog [] 0 ir_law2_step (Try.f25.body.getD .skip) && chkRes Try.prog rs_law2_step Try.f25.results.toList) = true := by kernel_rfl
theorem body_law2_step : Try.f25.body = some (Try.f25.body.getD .skip) := by kernel_rfl
/-- proclitic/procliticlaw2.step -/
noncomputable def sa_law2_step (N : Nat) (p0 : Int) (p1 : Int)  : Option (V × List AObj) :=
  cond ((Int.tmod p0 2) == 0) (
    some (.int .u64 0, [])) (
    cond (p1 == 1) (
      some (.int .u64 4607182418800017408, [])) (
      let x1 : Int := (IntKind.wrap .i64 (53 - p1))
      chk (decide (0 ≤ x1)) (
        some (.int .u64 (shlI .u64 1 x1), []))))
noncomputable def sh_law2_step (N : Nat) (p0 : Int) (p1 : Int) : Option (V × List AObj) := sa_law2_step N p0 p1
theorem run_law2_step (N : Nat) (p0 : Int) (p1 : Int) : callF Γ_law2_step N 13 rs_law2_step ir_law2_step [.int .i64 p0, .int .i64 p1] [] = sh_law2_step N p0 p1 := by kernel_rfl
theorem ok_law2_step (hΓ : SpecOK Try.prog Γ_law2_step) (N : Nat) (p0 : Int) (p1 : Int) {v : V} {hp : List AObj} (h : sh_law2_step N p0 p1 = some (v, hp)) : PureOK Try.prog i_law2_step [.int .i64 p0, .int .i64 p1] v := by
  have hc := chk_law2_step
  simp only [Bool.and_eq_true] at hc
  exact ⟨hp, fnOK_of hΓ pureS_law2_step Try.func25 body_law2_step hc.1 hc.2 (by decide) ((run_law2_step N p0 p1).trans h)⟩

noncomputable def G_law2_begun : Nat → List V → Option (Bool × V) := fun f vs => match f, vs with
  | 15, [.int .i64 a0] => some (true, .int .u64 (doubleR a0))
  | 17, [.int .i64 a0] => some (true, .int .u32 (floatR a0))
  | 19, [.int .u32 a0] => some (true, .int .u64 (widenR a0))
  | 21, [.int .i64 a0] => some (true, .int .i64 (wireR a0))
  | 22, [.int .i64 a0, .int .u64 a1] => some (true, .bool (fitsR a0 a1))
  | 23, [.int .i64 a0, .int .u64 a1] => some (true, .int .u64 (fromR a0 a1))
  | 24, [.int .i64 a0, .int .u64 a1] => some (true, .int .u64 (toR a0 a1))
  | _, _ => none
noncomputable def Γ_law2_begun : ASpec := liftG G_law2_begun
theorem pureS_law2_begun : PureS Γ_law2_begun [] := liftG_pure _ _
theorem spec_law2_begun (h_cast_Double : ∀ (a0 : Int), PureOK Try.prog i_cast_Double [.int .i64 a0] (.int .u64 (doubleR a0))) (h_cast_Float : ∀ (a0 : Int), PureOK Try.prog i_cast_Float [.int .i64 a0] (.int .u32 (floatR a0))) (h_cast_Widen : ∀ (a0 : Int), PureOK Try.prog i_cast_Widen [.int .u32 a0] (.int .u64 (widenR a0))) (h_cast_Wire : ∀ (a0 : Int), PureOK Try.prog i_cast_Wire [.int .i64 a0] (.int .i64 (wireR a0))) (h_cast_Fits : ∀ (a0 : Int) (a1 : Int), PureOK Try.prog i_cast_Fits [.int .i64 a0, .int .u64 a1] (.bool (fitsR a0 a1))) (h_cast_From : ∀ (a0 : Int) (a1 : Int), PureOK Try.prog i_cast_From [.int .i64 a0, .int .u64 a1] (.int .u64 (fromR a0 a1))) (h_cast_To : ∀ (a0 : Int) (a1 : Int), PureOK Try.prog i_cast_To [.int .i64 a0, .int .u64 a1] (.int .u64 (toR a0 a1))) : SpecOK Try.prog Γ_law2_begun := by
  intro f vs hp v hp' h0
  obtain ⟨h, he⟩ := liftG_inv h0
  subst he
  unfold G_law2_begun at h
  split at h
  · simp only [Option.some.injEq, Prod.mk.injEq] at h
    obtain ⟨hc, rfl⟩ := h
    exact (h_cast_Double _).frame rfl rfl _
  · simp only [Option.some.injEq, Prod.mk.injEq] at h
    obtain ⟨hc, rfl⟩ := h
    exact (h_cast_Float _).frame rfl rfl _
  · simp only [Option.some.injEq, Prod.mk.injEq] at h
    obtain ⟨hc, rfl⟩ := h
    exact (h_cast_Widen _).frame rfl rfl _
  · simp only [Option.some.injEq, Prod.mk.injEq] at h
    obtain ⟨hc, rfl⟩ := h
    exact (h_cast_Wire _).frame rfl rfl _
  · simp only [Option.some.injEq, Prod.mk.injEq] at h
    obtain ⟨hc, rfl⟩ := h
    exact (h_cast_Fits _ _).frame rfl rfl _
  · simp only [Option.some.injEq, Prod.mk.injEq] at h
    obtain ⟨hc, rfl⟩ := h
    exact (h_cast_From _ _).frame rfl rfl _
  · simp only [Option.some.injEq, Prod.mk.injEq] at h
    obtain ⟨hc, rfl⟩ := h
    exact (h_cast_To _ _).frame rfl rfl _
  · simp at h
noncomputable def ir_law2_begun_0 : IR := .ret
noncomputable def ir_law2_begun_1 : IR := (.seq (.reg [⟨none, .call (some 1) 21 [(.c (.int .i64 14))]⟩,
    ⟨none, .bin 2 .eql (.t 1) (.c (.int .i64 2))⟩,
    ⟨none, .mov 3 (.t 2)⟩,
    ⟨some (3, true), .call (some 4) 23 [(.c (.int .i64 7)), (.c (.int .u64 3))]⟩,
    ⟨some (3, true), .bin 5 .eql (.t 4) (.c (.int .u64 18446744073709551614))⟩,
    ⟨none, .pick 6 (.t 3) (.t 5) (.c (.bool false))⟩,
    ⟨none, .mov 7 (.t 6)⟩,
    ⟨some (7, true), .call (some 8) 24 [(.c (.int .i64 7)), (.c (.int .u64 18446744073709551614))]⟩,
    ⟨some (7, true), .bin 9 .eql (.t 8) (.c (.int .u64 3))⟩,
    ⟨none, .pick 10 (.t 7) (.t 9) (.c (.bool false))⟩,
    ⟨none, .mov 11 (.t 10)⟩,
    ⟨some (11, true), .call (some 12) 22 [(.c (.int .i64 13)), (.c (.int .u64 1))]⟩,
    ⟨none, .pick 13 (.t 11) (.t 12) (.c (.bool false))⟩,
    ⟨none, .mov 14 (.t 13)⟩,
    ⟨some (14, true), .call (some 15) 22 [(.c (.int .i64 13)), (.c (.int .u64 2))]⟩,
    ⟨some (14, true), .un 16 .not (.t 15)⟩,
    ⟨none, .pick 17 (.t 14) (.t 16) (.c (.bool false))⟩,
    ⟨none, .mov 18 (.t 17)⟩,
    ⟨some (18, true), .call (some 19) 15 [(.c (.int .i64 1))]⟩,
    ⟨some (18, true), .bin 20 .eql (.t 19) (.c (.int .u64 4607182418800017408))⟩,
    ⟨none, .pick 21 (.t 18) (.t 20) (.c (.bool false))⟩,
    ⟨none, .mov 22 (.t 21)⟩,
    ⟨some (22, true), .call (some 23) 17 [(.c (.int .i64 1))]⟩,
    ⟨some (22, true), .bin 24 .eql (.t 23) (.c (.int .u32 1065353216))⟩,
    ⟨none, .pick 25 (.t 22) (.t 24) (.c (.bool false))⟩,
    ⟨none, .mov 26 (.t 25)⟩,
    ⟨some (26, true), .call (some 27) 19 [(.c (.int .u32 1065353216))]⟩,
    ⟨some (26, true), .bin 28 .eql (.t 27) (.c (.int .u64 4607182418800017408))⟩,
    ⟨none, .pick 29 (.t 26) (.t 28) (.c (.bool false))⟩,
    ⟨none, .mov 0 (.t 29)⟩] []) ir_law2_begun_0)
noncomputable def ir_law2_begun : IR := (.seq (.reg [⟨none, .mov 0 (.c (.bool false))⟩] []) ir_law2_begun_1)
noncomputable def rs_law2_begun : List RV := [.t 0]
theorem chk_law2_begun : (chkCode Try.prog [] 0 ir_law2_begun (Try.f14.body.getD .skip) && chkRes Try.prog rs_law2_begun Try.f14.results.toList) = true := by kernel_rfl
theorem body_law2_begun : Try.f14.body = some (Try.f14.body.getD .skip) := by kernel_rfl
/-- proclitic/procliticlaw2.begun -/
noncomputable def sa_law2_begun (N : Nat)   : Option (V × List AObj) :=
  cond ((wireR 14) == 2) (
    let x1 : Bool := ((fromR 7 3) == 18446744073709551614)
    cond x1 (
      let x2 : Int := (toR 7 18446744073709551614)
      cond (x2 == 3) (
        cond (fitsR 13 1) (
          cond (!(fitsR 13 2)) (
            let x3 : Bool := ((doubleR 1) == 4607182418800017408)
            cond x3 (
              let x4 : Bool := ((floatR 1) == 1065353216)
              cond x4 (
                let x5 : Bool := ((widenR 1065353216) == 4607182418800017408)
                some (.bool x5, [])) (
                some (.bool false, []))) (
              some (.bool false, []))) (
            some (.bool false, []))) (
          some (.bool false, []))) (
        some (.bool false, []))) (
      some (.bool false, []))) (
    some (.bool false, []))
noncomputable def sh_law2_begun (N : Nat)  : Option (V × List AObj) := sa_law2_begun N 
theorem run_law2_begun (N : Nat)  : callF Γ_law2_begun N 30 rs_law2_begun ir_law2_begun [] [] = sh_law2_begun N  := by kernel_rfl
theorem ok_law2_begun (hΓ : SpecOK Try.prog Γ_law2_begun) (N : Nat)  {v : V} {hp : List AObj} (h : sh_law2_begun N  = some (v, hp)) : PureOK Try.prog i_law2_begun [] v := by
  have hc := chk_law2_begun
  simp only [Bool.and_eq_true] at hc
  exact ⟨hp, fnOK_of hΓ pureS_law2_begun Try.func14 body_law2_begun hc.1 hc.2 (by decide) ((run_law2_begun N ).trans h)⟩

noncomputable def G_law2_CastFloats : Nat → List V → Option (Bool × V) := fun f vs => match f, vs with
  | 14, [] => some (true, .bool true)
  | 15, [.int .i64 a0] => some (true, .int .u64 (doubleR a0))
  | 16, [.int .i64 a0] => some (true, .int .u64 (doubleR a0))
  | 17, [.int .i64 a0] => some (true, .int .u32 (floatR a0))
  | 18, [.int .i64 a0] => some (true, .int .u32 (floatR a0))
  | 19, [.int .u32 a0] => some (true, .int .u64 (widenR a0))
  | 20, [.int .u32 a0] => some (true, .int .u64 (widenR a0))
  | _, _ => none
noncomputable def Γ_law2_CastFloats : ASpec := liftG G_law2_CastFloats
theorem pureS_law2_CastFloats : PureS Γ_law2_CastFloats [] := liftG_pure _ _
theorem spec_law2_CastFloats (h_law2_begun : PureOK Try.prog i_law2_begun [] (.bool true)) (h_cast_Double : ∀ (a0 : Int), PureOK Try.prog i_cast_Double [.int .i64 a0] (.int .u64 (doubleR a0))) (h_ref1_Double : ∀ (a0 : Int), PureOK Try.prog i_ref1_Double [.int .i64 a0] (.int .u64 (doubleR a0))) (h_cast_Float : ∀ (a0 : Int), PureOK Try.prog i_cast_Float [.int .i64 a0] (.int .u32 (floatR a0))) (h_ref1_Float : ∀ (a0 : Int), PureOK Try.prog i_ref1_Float [.int .i64 a0] (.int .u32 (floatR a0))) (h_cast_Widen : ∀ (a0 : Int), PureOK Try.prog i_cast_Widen [.int .u32 a0] (.int .u64 (widenR a0))) (h_ref1_Widen : ∀ (a0 : Int), PureOK Try.prog i_ref1_Widen [.int .u32 a0] (.int .u64 (widenR a0))) : SpecOK Try.prog Γ_law2_CastFloats := by
  intro f vs hp v hp' h0
  obtain ⟨h, he⟩ := liftG_inv h0
  subst he
  unfold G_law2_CastFloats at h
  split at h
  · simp only [Option.some.injEq, Prod.mk.injEq] at h
    obtain ⟨hc, rfl⟩ := h
    exact (h_law2_begun ).frame rfl rfl _
  · simp only [Option.some.injEq, Prod.mk.injEq] at h
    obtain ⟨hc, rfl⟩ := h
    exact (h_cast_Double _).frame rfl rfl _
  · simp only [Option.some.injEq, Prod.mk.injEq] at h
    obtain ⟨hc, rfl⟩ := h
    exact (h_ref1_Double _).frame rfl rfl _
  · simp only [Option.some.injEq, Prod.mk.injEq] at h
    obtain ⟨hc, rfl⟩ := h
    exact (h_cast_Float _).frame rfl rfl _
  · simp only [Option.some.injEq, Prod.mk.injEq] at h
    obtain ⟨hc, rfl⟩ := h
    exact (h_ref1_Float _).frame rfl rfl _
  · simp only [Option.some.injEq, Prod.mk.injEq] at h
    obtain ⟨hc, rfl⟩ := h
    exact (h_cast_Widen _).frame rfl rfl _
  · simp only [Option.some.injEq, Prod.mk.injEq] at h
    obtain ⟨hc, rfl⟩ := h
    exact (h_ref1_Widen _).frame rfl rfl _
  · simp at h
noncomputable def ir_law2_CastFloats_0 : IR := .ret
noncomputable def ir_law2_CastFloats_1 : IR := (.cond (.t 6) (.seq (.reg [⟨none, .mov 4 (.c (.bool false))⟩] []) ir_law2_CastFloats_0) .skip)
noncomputable def ir_law2_CastFloats_2 : IR := .ret
noncomputable def ir_law2_CastFloats_3 : IR := (.seq (.reg [⟨none, .mov 7 (.t 0)⟩,
    ⟨none, .call (some 8) 15 [(.t 7)]⟩,
    ⟨none, .mov 9 (.t 0)⟩,
    ⟨none, .call (some 10) 16 [(.t 9)]⟩,
    ⟨none, .bin 11 .eql (.t 8) (.t 10)⟩,
    ⟨none, .mov 12 (.t 11)⟩,
    ⟨some (12, true), .mov 13 (.t 0)⟩,
    ⟨some (12, true), .call (some 14) 17 [(.t 13)]⟩,
    ⟨some (12, true), .mov 15 (.t 0)⟩,
    ⟨some (12, true), .call (some 16) 18 [(.t 15)]⟩,
    ⟨some (12, true), .bin 17 .eql (.t 14) (.t 16)⟩,
    ⟨none, .pick 18 (.t 12) (.t 17) (.c (.bool false))⟩,
    ⟨none, .mov 19 (.t 18)⟩,
    ⟨some (19, true), .mov 20 (.t 1)⟩,
    ⟨some (19, true), .call (some 21) 19 [(.t 20)]⟩,
    ⟨some (19, true), .mov 22 (.t 1)⟩,
    ⟨some (19, true), .call (some 23) 20 [(.t 22)]⟩,
    ⟨some (19, true), .bin 24 .eql (.t 21) (.t 23)⟩,
    ⟨none, .pick 25 (.t 19) (.t 24) (.c (.bool false))⟩,
    ⟨none, .mov 4 (.t 25)⟩] []) ir_law2_CastFloats_2)
noncomputable def ir_law2_CastFloats_4 : IR := (.seq (.seq (.reg [⟨none, .call (some 5) 14 []⟩,
    ⟨none, .un 6 .not (.t 5)⟩] []) ir_law2_CastFloats_1) ir_law2_CastFloats_3)
noncomputable def ir_law2_CastFloats : IR := (.seq (.reg [⟨none, .mov 4 (.c (.bool false))⟩] []) ir_law2_CastFloats_4)
noncomputable def rs_law2_CastFloats : List RV := [.t 4]
theorem chk_law2_CastFloats : (chkCode Try.prog [] 0 ir_law2_CastFloats (Try.f3.body.getD .skip) && chkRes Try.prog rs_law2_CastFloats Try.f3.results.toList) = true := by kernel_rfl
theorem body_law2_CastFloats : Try.f3.body = some (Try.f3.body.getD .skip) := by kernel_rfl
/-- proclitic/procliticlaw2.CastFloats -/
noncomputable def sa_law2_CastFloats (N : Nat) (p0 : Int) (p1 : Int)  : Option (V × List AObj) :=
  let x1 : Bool := ((doubleR p0) == (doubleR p0))
  cond x1 (
    let x2 : Bool := ((floatR p0) == (floatR p0))
    cond x2 (
      let x3 : Bool := ((widenR p1) == (widenR p1))
      some (.bool x3, [])) (
      some (.bool false, []))) (
    some (.bool false, []))
noncomputable def sh_law2_CastFloats (N : Nat) (p0 : Int) (p1 : Int) : Option (V × List AObj) := sa_law2_CastFloats N p0 p1
theorem run_law2_CastFloats (N : Nat) (p0 : Int) (p1 : Int) : callF Γ_law2_CastFloats N 26 rs_law2_CastFloats ir_law2_CastFloats [.int .i64 p0, .int .u32 p1] [] = sh_law2_CastFloats N p0 p1 := by kernel_rfl
theorem ok_law2_CastFloats (hΓ : SpecOK Try.prog Γ_law2_CastFloats) (N : Nat) (p0 : Int) (p1 : Int) {v : V} {hp : List AObj} (h : sh_law2_CastFloats N p0 p1 = some (v, hp)) : PureOK Try.prog i_law2_CastFloats [.int .i64 p0, .int .u32 p1] v := by
  have hc := chk_law2_CastFloats
  simp only [Bool.and_eq_true] at hc
  exact ⟨hp, fnOK_of hΓ pureS_law2_CastFloats Try.func3 body_law2_CastFloats hc.1 hc.2 (by decide) ((run_law2_CastFloats N p0 p1).trans h)⟩

noncomputable def G_law2_CastBack : Nat → List V → Option (Bool × V) := fun f vs => match f, vs with
  | 14, [] => some (true, .bool true)
  | 21, [.int .i64 a0] => some (true, .int .i64 (wireR a0))
  | 22, [.int .i64 a0, .int .u64 a1] => some (true, .bool (fitsR a0 a1))
  | 23, [.int .i64 a0, .int .u64 a1] => some (true, .int .u64 (fromR a0 a1))
  | 24, [.int .i64 a0, .int .u64 a1] => some (true, .int .u64 (toR a0 a1))
  | _, _ => none
noncomputable def Γ_law2_CastBack : ASpec := liftG G_law2_CastBack
theorem pureS_law2_CastBack : PureS Γ_law2_CastBack [] := liftG_pure _ _
theorem spec_law2_CastBack (h_law2_begun : PureOK Try.prog i_law2_begun [] (.bool true)) (h_cast_Wire : ∀ (a0 : Int), PureOK Try.prog i_cast_Wire [.int .i64 a0] (.int .i64 (wireR a0))) (h_cast_Fits : ∀ (a0 : Int) (a1 : Int), PureOK Try.prog i_cast_Fits [.int .i64 a0, .int .u64 a1] (.bool (fitsR a0 a1))) (h_cast_From : ∀ (a0 : Int) (a1 : Int), PureOK Try.prog i_cast_From [.int .i64 a0, .int .u64 a1] (.int .u64 (fromR a0 a1))) (h_cast_To : ∀ (a0 : Int) (a1 : Int), PureOK Try.prog i_cast_To [.int .i64 a0, .int .u64 a1] (.int .u64 (toR a0 a1))) : SpecOK Try.prog Γ_law2_CastBack := by
  intro f vs hp v hp' h0
  obtain ⟨h, he⟩ := liftG_inv h0
  subst he
  unfold G_law2_CastBack at h
  split at h
  · simp only [Option.some.injEq, Prod.mk.injEq] at h
    obtain ⟨hc, rfl⟩ := h
    exact (h_law2_begun ).frame rfl rfl _
  · simp only [Option.some.injEq, Prod.mk.injEq] at h
    obtain ⟨hc, rfl⟩ := h
    exact (h_cast_Wire _).frame rfl rfl _
  · simp only [Option.some.injEq, Prod.mk.injEq] at h
    obtain ⟨hc, rfl⟩ := h
    exact (h_cast_Fits _ _).frame rfl rfl _
  · simp only [Option.some.injEq, Prod.mk.injEq] at h
    obtain ⟨hc, rfl⟩ := h
    exact (h_cast_From _ _).frame rfl rfl _
  · simp only [Option.some.injEq, Prod.mk.injEq] at h
    obtain ⟨hc, rfl⟩ := h
    exact (h_cast_To _ _).frame rfl rfl _
  · simp at h
noncomputable def ir_law2_CastBack_0 : IR := .ret
noncomputable def ir_law2_CastBack_1 : IR := (.cond (.t 6) (.seq (.reg [⟨none, .mov 2 (.c (.bool false))⟩] []) ir_law2_CastBack_0) .skip)
noncomputable def ir_law2_CastBack_2 : IR := (.cond (.t 8) .skip (.exit 0))
noncomputable def ir_law2_CastBack_3 : IR := .ret
noncomputable def ir_law2_CastBack_4 : IR := (.cond (.t 16) (.seq (.reg [⟨none, .mov 2 (.c (.bool false))⟩] []) ir_law2_CastBack_3) .skip)
noncomputable def ir_law2_CastBack_5 : IR := (.exit 1)
noncomputable def ir_law2_CastBack_6 : IR := (.cond (.t 13) (.seq (.seq (.reg [⟨none, .mov 14 (.t 3)⟩,
    ⟨none, .mov 15 (.t 0)⟩,
    ⟨none, .call (some 16) 22 [(.t 14), (.t 15)]⟩] []) ir_law2_CastBack_4) ir_law2_CastBack_5) .skip)
noncomputable def ir_law2_CastBack_7 : IR := .ret
noncomputable def ir_law2_CastBack_8 : IR := (.cond (.t 46) (.seq (.reg [⟨none, .mov 2 (.c (.bool false))⟩] []) ir_law2_CastBack_7) .skip)
noncomputable def ir_law2_CastBack_9 : IR := (.seq (.reg [⟨none, .mov 20 (.t 3)⟩,
    ⟨none, .mov 21 (.t 4)⟩,
    ⟨none, .call (some 22) 22 [(.t 20), (.t 21)]⟩,
    ⟨none, .un 23 .not (.t 22)⟩,
    ⟨none, .mov 24 (.t 23)⟩,
    ⟨some (24, false), .mov 25 (.t 3)⟩,
    ⟨some (24, false), .mov 26 (.t 3)⟩,
    ⟨some (24, false), .mov 27 (.t 4)⟩,
    ⟨some (24, false), .call (some 28) 24 [(.t 26), (.t 27)]⟩,
    ⟨some (24, false), .call (some 29) 23 [(.t 25), (.t 28)]⟩,
    ⟨some (24, false), .mov 30 (.t 4)⟩,
    ⟨some (24, false), .bin 31 .neq (.t 29) (.t 30)⟩,
    ⟨none, .pick 32 (.t 24) (.c (.bool true)) (.t 31)⟩,
    ⟨none, .mov 33 (.t 32)⟩,
    ⟨some (33, false), .mov 34 (.t 3)⟩,
    ⟨some (33, false), .mov 35 (.t 0)⟩,
    ⟨some (33, false), .call (some 36) 22 [(.t 34), (.t 35)]⟩,
    ⟨some (33, false), .mov 37 (.t 36)⟩,
    ⟨some (37, true), .mov 38 (.t 3)⟩,
    ⟨some (37, true), .mov 39 (.t 3)⟩,
    ⟨some (37, true), .mov 40 (.t 0)⟩,
    ⟨some (37, true), .call (some 41) 24 [(.t 39), (.t 40)]⟩,
    ⟨some (37, true), .call (some 42) 23 [(.t 38), (.t 41)]⟩,
    ⟨some (37, true), .mov 43 (.t 0)⟩,
    ⟨some (37, true), .bin 44 .neq (.t 42) (.t 43)⟩,
    ⟨some (33, false), .pick 45 (.t 37) (.t 44) (.c (.bool false))⟩,
    ⟨none, .pick 46 (.t 33) (.c (.bool true)) (.t 45)⟩] []) ir_law2_CastBack_8)
noncomputable def ir_law2_CastBack_10 : IR := (.seq (.reg [⟨none, .mov 17 (.t 3)⟩,
    ⟨none, .mov 18 (.t 0)⟩,
    ⟨none, .call (some 19) 23 [(.t 17), (.t 18)]⟩,
    ⟨none, .mov 4 (.t 19)⟩] []) ir_law2_CastBack_9)
noncomputable def ir_law2_CastBack_11 : IR := (.reg [⟨none, .mov 9 (.t 3)⟩,
    ⟨none, .bin 10 .add (.t 9) (.c (.int .i64 1))⟩,
    ⟨none, .mov 3 (.t 10)⟩] [])
noncomputable def ir_law2_CastBack_12 : IR := (.seq (.block 1 (.seq (.seq (.reg [⟨none, .mov 11 (.t 3)⟩,
    ⟨none, .call (some 12) 21 [(.t 11)]⟩,
    ⟨none, .bin 13 .eql (.t 12) (.c (.int .i64 2))⟩] []) ir_law2_CastBack_6) ir_law2_CastBack_10)) ir_law2_CastBack_11)
noncomputable def ir_law2_CastBack_13 : IR := (.seq (.seq (.reg [⟨none, .mov 7 (.t 3)⟩,
    ⟨none, .bin 8 .leq (.t 7) (.c (.int .i64 17))⟩] []) ir_law2_CastBack_2) ir_law2_CastBack_12)
noncomputable def ir_law2_CastBack_14 : IR := (.block 0 (.loop [0, 3] 0 ir_law2_CastBack_13))
noncomputable def ir_law2_CastBack_15 : IR := .ret
noncomputable def ir_law2_CastBack_16 : IR := (.seq (.reg [⟨none, .mov 2 (.c (.bool true))⟩] []) ir_law2_CastBack_15)
noncomputable def ir_law2_CastBack_17 : IR := (.seq (.seq (.reg [⟨none, .mov 3 (.c (.int .i64 1))⟩] []) ir_law2_CastBack_14) ir_law2_CastBack_16)
noncomputable def ir_law2_CastBack_18 : IR := (.seq (.seq (.reg [⟨none, .call (some 5) 14 []⟩,
    ⟨none, .un 6 .not (.t 5)⟩] []) ir_law2_CastBack_1) ir_law2_CastBack_17)
noncomputable def ir_law2_CastBack : IR := (.seq (.reg [⟨none, .mov 2 (.c (.bool false))⟩] []) ir_law2_CastBack_18)
noncomputable def rs_law2_CastBack : List RV := [.t 2]
theorem chk_law2_CastBack : (chkCode Try.prog [] 0 ir_law2_CastBack (Try.f4.body.getD .skip) && chkRes Try.prog rs_law2_CastBack Try.f4.results.toList) = true := by kernel_rfl
theorem body_law2_CastBack : Try.f4.body = some (Try.f4.body.getD .skip) := by kernel_rfl
noncomputable def mk_law2_CastBack_0 (x : (Int × Int)) : St := { env := [.int .u64 x.1, .undef, .undef, .int .i64 x.2, .undef, .undef, .undef, .undef, .undef, .undef, .undef, .undef, .undef, .undef, .undef, .undef, .undef, .undef, .undef, .undef, .undef, .undef, .undef, .undef, .undef, .undef, .undef, .undef, .undef, .undef, .undef, .undef, .undef, .undef, .undef, .undef, .undef, .undef, .undef, .undef, .undef, .undef, .undef, .undef, .undef, .undef, .undef], hp := [] }
noncomputable def F_law2_CastBack_0 (N : Nat) : (St → Option (V × List AObj)) → St → Option (V × List AObj) := fun again0 s => run Γ_law2_CastBack N ir_law2_CastBack_13 (kloop again0 [0, 3] 0 (kblock 0 (kseq (run Γ_law2_CastBack N ir_law2_CastBack_16) (fin rs_law2_CastBack)))) s
noncomputable def B_law2_CastBack_0 (N : Nat) (again0 : (Int × Int) → Option (V × List AObj)) (x : (Int × Int)) : Option (V × List AObj) :=
  let v0 : Int := x.1
  let v3 : Int := x.2
  cond (decide (v3 ≤ 17)) (
    cond ((wireR v3) == 2) (
      cond (fitsR v3 v0) (
        some (.bool false, [])) (
        let x1 : Int := (IntKind.wrap .i64 (v3 + 1))
        again0 (v0, x1))) (
      let x2 : Bool := (!(fitsR v3 (fromR v3 v0)))
      cond x2 (
        some (.bool false, [])) (
        let x3 : Int := (fromR v3 (toR v3 (fromR v3 v0)))
        cond (!(x3 == (fromR v3 v0))) (
          some (.bool false, [])) (
          cond (fitsR v3 v0) (
            let x4 : Bool := (!((fromR v3 (toR v3 v0)) == v0))
            cond x4 (
              some (.bool false, [])) (
              let x5 : Int := (IntKind.wrap .i64 (v3 + 1))
              again0 (v0, x5))) (
            let x6 : Int := (IntKind.wrap .i64 (v3 + 1))
            again0 (v0, x6)))))) (
    some (.bool true, []))
theorem FB_law2_CastBack_0 (N : Nat) : ∀ (again0 : St → Option (V × List AObj)) (x : (Int × Int)), F_law2_CastBack_0 N again0 (mk_law2_CastBack_0 x) = B_law2_CastBack_0 N (fun y => again0 (mk_law2_CastBack_0 y)) x := by
  intro again0 x
  kernel_rfl
/-- proclitic/procliticlaw2.CastBack -/
noncomputable def sa_law2_CastBack (N : Nat) (p0 : Int) (q0 : (Int × Int) → Option (V × List AObj)) : Option (V × List AObj) :=
  q0 (p0, 1)
noncomputable def sh_law2_CastBack (N : Nat) (p0 : Int) : Option (V × List AObj) := sa_law2_CastBack N p0 (fun z => iterL N (B_law2_CastBack_0 N) z)
theorem run_law2_CastBack (N : Nat) (p0 : Int) : callF Γ_law2_CastBack N 47 rs_law2_CastBack ir_law2_CastBack [.int .u64 p0] [] = sh_law2_CastBack N p0 := by
  have h : callF Γ_law2_CastBack N 47 rs_law2_CastBack ir_law2_CastBack [.int .u64 p0] [] = sa_law2_CastBack N p0 (fun z => loopN N (F_law2_CastBack_0 N) (mk_law2_CastBack_0 z)) := by kernel_rfl
  have e0 : (fun z => loopN N (F_law2_CastBack_0 N) (mk_law2_CastBack_0 z)) = (fun z => iterL N (B_law2_CastBack_0 N) z) := funext fun z => loop_eq (mk_law2_CastBack_0) (F_law2_CastBack_0 N) (B_law2_CastBack_0 N) (FB_law2_CastBack_0 N) N z
  rw [h, e0]
  rfl
theorem ok_law2_CastBack (hΓ : SpecOK Try.prog Γ_law2_CastBack) (N : Nat) (p0 : Int) {v : V} {hp : List AObj} (h : sh_law2_CastBack N p0 = some (v, hp)) : PureOK Try.prog i_law2_CastBack [.int .u64 p0] v := by
  have hc := chk_law2_CastBack
  simp only [Bool.and_eq_true] at hc
  exact ⟨hp, fnOK_of hΓ pureS_law2_CastBack Try.func4 body_law2_CastBack hc.1 hc.2 (by decide) ((run_law2_CastBack N p0).trans h)⟩

noncomputable def G_law2_CastGo : Nat → List V → Option (Bool × V) := fun f vs => match f, vs with
  | 14, [] => some (true, .bool true)
  | 23, [.int .i64 a0, .int .u64 a1] => some (true, .int .u64 (fromR a0 a1))
  | _, _ => none
noncomputable def Γ_law2_CastGo : ASpec := liftG G_law2_CastGo
theorem pureS_law2_CastGo : PureS Γ_law2_CastGo [] := liftG_pure _ _
theorem spec_law2_CastGo (h_law2_begun : PureOK Try.prog i_law2_begun [] (.bool true)) (h_cast_From : ∀ (a0 : Int) (a1 : Int), PureOK Try.prog i_cast_From [.int .i64 a0, .int .u64 a1] (.int .u64 (fromR a0 a1))) : SpecOK Try.prog Γ_law2_CastGo := by
  intro f vs hp v hp' h0
  obtain ⟨h, he⟩ := liftG_inv h0
  subst he
  unfold G_law2_CastGo at h
  split at h
  · simp only [Option.some.injEq, Prod.mk.injEq] at h
    obtain ⟨hc, rfl⟩ := h
    exact (h_law2_begun ).frame rfl rfl _
  · simp only [Option.some.injEq, Prod.mk.injEq] at h
    obtain ⟨hc, rfl⟩ := h
    exact (h_cast_From _ _).frame rfl rfl _
  · simp at h
noncomputable def ir_law2_CastGo_0 : IR := .ret
noncomputable def ir_law2_CastGo_1 : IR := (.cond (.t 7) (.seq (.reg [⟨none, .mov 2 (.c (.bool false))⟩] []) ir_law2_CastGo_0) .skip)
noncomputable def ir_law2_CastGo_2 : IR := (.cond (.t 12) (.reg [⟨none, .mov 13 (.t 3)⟩,
    ⟨none, .un 14 .xor (.t 13)⟩,
    ⟨none, .mov 3 (.t 14)⟩] []) .skip)
noncomputable def ir_law2_CastGo_3 : IR := (.cond (.t 22) (.reg [⟨none, .mov 23 (.t 5)⟩,
    ⟨none, .un 24 .xor (.t 23)⟩,
    ⟨none, .mov 5 (.t 24)⟩] []) .skip)
noncomputable def ir_law2_CastGo_4 : IR := .ret
noncomputable def ir_law2_CastGo_5 : IR := (.seq (.reg [⟨none, .mov 25 (.t 0)⟩,
    ⟨none, .call (some 26) 23 [(.c (.int .i64 3)), (.t 25)]⟩,
    ⟨none, .mov 27 (.t 0)⟩,
    ⟨none, .cvi 28 .i32 (.t 27)⟩,
    ⟨none, .cvi 29 .i64 (.t 28)⟩,
    ⟨none, .cvi 30 .u64 (.t 29)⟩,
    ⟨none, .bin 31 .eql (.t 26) (.t 30)⟩,
    ⟨none, .mov 32 (.t 31)⟩,
    ⟨some (32, true), .mov 33 (.t 0)⟩,
    ⟨some (32, true), .call (some 34) 23 [(.c (.int .i64 17)), (.t 33)]⟩,
    ⟨some (32, true), .mov 35 (.t 0)⟩,
    ⟨some (32, true), .cvi 36 .i32 (.t 35)⟩,
    ⟨some (32, true), .cvi 37 .i64 (.t 36)⟩,
    ⟨some (32, true), .cvi 38 .u64 (.t 37)⟩,
    ⟨some (32, true), .bin 39 .eql (.t 34) (.t 38)⟩,
    ⟨none, .pick 40 (.t 32) (.t 39) (.c (.bool false))⟩,
    ⟨none, .mov 41 (.t 40)⟩,
    ⟨some (41, true), .mov 42 (.t 0)⟩,
    ⟨some (41, true), .call (some 43) 23 [(.c (.int .i64 11)), (.t 42)]⟩,
    ⟨some (41, true), .mov 44 (.t 0)⟩,
    ⟨some (41, true), .cvi 45 .i32 (.t 44)⟩,
    ⟨some (41, true), .cvi 46 .i64 (.t 45)⟩,
    ⟨some (41, true), .cvi 47 .u64 (.t 46)⟩,
    ⟨some (41, true), .bin 48 .eql (.t 43) (.t 47)⟩,
    ⟨none, .pick 49 (.t 41) (.t 48) (.c (.bool false))⟩,
    ⟨none, .mov 50 (.t 49)⟩,
    ⟨some (50, true), .mov 51 (.t 0)⟩,
    ⟨some (50, true), .call (some 52) 23 [(.c (.int .i64 5)), (.t 51)]⟩,
    ⟨some (50, true), .mov 53 (.t 4)⟩,
    ⟨some (50, true), .bin 54 .eql (.t 52) (.t 53)⟩,
    ⟨none, .pick 55 (.t 50) (.t 54) (.c (.bool false))⟩,
    ⟨none, .mov 56 (.t 55)⟩,
    ⟨some (56, true), .mov 57 (.t 0)⟩,
    ⟨some (56, true), .call (some 58) 23 [(.c (.int .i64 9)), (.t 57)]⟩,
    ⟨some (56, true), .mov 59 (.t 4)⟩,
    ⟨some (56, true), .bin 60 .eql (.t 58) (.t 59)⟩,
    ⟨none, .pick 61 (.t 56) (.t 60) (.c (.bool false))⟩,
    ⟨none, .mov 62 (.t 61)⟩,
    ⟨some (62, true), .mov 63 (.t 0)⟩,
    ⟨some (62, true), .call (some 64) 23 [(.c (.int .i64 4)), (.t 63)]⟩,
    ⟨some (62, true), .mov 65 (.t 0)⟩,
    ⟨some (62, true), .bin 66 .eql (.t 64) (.t 65)⟩,
    ⟨none, .pick 67 (.t 62) (.t 66) (.c (.bool false))⟩,
    ⟨none, .mov 68 (.t 67)⟩,
    ⟨some (68, true), .mov 69 (.t 0)⟩,
    ⟨some (68, true), .call (some 70) 23 [(.c (.int .i64 6)), (.t 69)]⟩,
    ⟨some (68, true), .mov 71 (.t 0)⟩,
    ⟨some (68, true), .bin 72 .eql (.t 70) (.t 71)⟩,
    ⟨none, .pick 73 (.t 68) (.t 72) (.c (.bool false))⟩,
    ⟨none, .mov 74 (.t 73)⟩,
    ⟨some (74, true), .mov 75 (.t 0)⟩,
    ⟨some (74, true), .call (some 76) 23 [(.c (.int .i64 8)), (.t 75)]⟩,
    ⟨some (74, true), .mov 77 (.t 3)⟩,
    ⟨some (74, true), .bin 78 .eql (.t 76) (.t 77)⟩,
    ⟨none, .pick 79 (.t 74) (.t 78) (.c (.bool false))⟩,
    ⟨none, .mov 80 (.t 79)⟩,
    ⟨some (80, true), .mov 81 (.t 0)⟩,
    ⟨some (80, true), .call (some 82) 23 [(.c (.int .i64 7)), (.t 81)]⟩,
    ⟨some (80, true), .mov 83 (.t 5)⟩,
    ⟨some (80, true), .cvi 84 .i32 (.t 83)⟩,
    ⟨some (80, true), .cvi 85 .i64 (.t 84)⟩,
    ⟨some (80, true), .cvi 86 .u64 (.t 85)⟩,
    ⟨some (80, true), .bin 87 .eql (.t 82) (.t 86)⟩,
    ⟨none, .pick 88 (.t 80) (.t 87) (.c (.bool false))⟩,
    ⟨none, .mov 89 (.t 88)⟩,
    ⟨some (89, true), .mov 90 (.t 0)⟩,
    ⟨some (89, true), .call (some 91) 23 [(.c (.int .i64 13)), (.t 90)]⟩,
    ⟨some (89, true), .bin 92 .eql (.t 91) (.c (.int .u64 1))⟩,
    ⟨some (89, true), .mov 93 (.t 0)⟩,
    ⟨some (89, true), .bin 94 .neq (.t 93) (.c (.int .u64 0))⟩,
    ⟨some (89, true), .beq 95 false (.t 92) (.t 94)⟩,
    ⟨none, .pick 96 (.t 89) (.t 95) (.c (.bool false))⟩,
    ⟨none, .mov 2 (.t 96)⟩] []) ir_law2_CastGo_4)
noncomputable def ir_law2_CastGo_6 : IR := (.seq (.seq (.reg [⟨none, .mov 20 (.t 4)⟩,
    ⟨none, .bin 21 .and (.t 20) (.c (.int .u64 1))⟩,
    ⟨none, .bin 22 .eql (.t 21) (.c (.int .u64 1))⟩] []) ir_law2_CastGo_3) ir_law2_CastGo_5)
noncomputable def ir_law2_CastGo_7 : IR := (.seq (.reg [⟨none, .mov 18 (.t 4)⟩,
    ⟨none, .bin 19 .shr (.t 18) (.c (.int .u64 1))⟩,
    ⟨none, .mov 5 (.t 19)⟩] []) ir_law2_CastGo_6)
noncomputable def ir_law2_CastGo_8 : IR := (.seq (.reg [⟨none, .mov 15 (.t 0)⟩,
    ⟨none, .cvi 16 .u32 (.t 15)⟩,
    ⟨none, .cvi 17 .u64 (.t 16)⟩,
    ⟨none, .mov 4 (.t 17)⟩] []) ir_law2_CastGo_7)
noncomputable def ir_law2_CastGo_9 : IR := (.seq (.seq (.reg [⟨none, .mov 10 (.t 0)⟩,
    ⟨none, .bin 11 .and (.t 10) (.c (.int .u64 1))⟩,
    ⟨none, .bin 12 .eql (.t 11) (.c (.int .u64 1))⟩] []) ir_law2_CastGo_2) ir_law2_CastGo_8)
noncomputable def ir_law2_CastGo_10 : IR := (.seq (.reg [⟨none, .mov 8 (.t 0)⟩,
    ⟨none, .bin 9 .shr (.t 8) (.c (.int .u64 1))⟩,
    ⟨none, .mov 3 (.t 9)⟩] []) ir_law2_CastGo_9)
noncomputable def ir_law2_CastGo_11 : IR := (.seq (.seq (.reg [⟨none, .call (some 6) 14 []⟩,
    ⟨none, .un 7 .not (.t 6)⟩] []) ir_law2_CastGo_1) ir_law2_CastGo_10)
noncomputable def ir_law2_CastGo : IR := (.seq (.reg [⟨none, .mov 2 (.c (.bool false))⟩] []) ir_law2_CastGo_11)
noncomputable def rs_law2_CastGo : List RV := [.t 2]
theorem chk_law2_CastGo : (chkCode Try.prog [] 0 ir_law2_CastGo (Try.f5.body.getD .skip) && chkRes Try.prog rs_law2_CastGo Try.f5.results.toList) = true := by kernel_rfl
theorem body_law2_CastGo : Try.f5.body = some (Try.f5.body.getD .skip) := by kernel_rfl
/-- proclitic/procliticlaw2.CastGo -/
noncomputable def sa_law2_CastGo (N : Nat) (p0 : Int)  : Option (V × List AObj) :=
  let x1 : Bool := ((bitsI .and .u64 p0 1) == 1)
  cond x1 (
    let x2 : Int := (bitsI .xor .u64 (if IntKind.signed .u64 then -1 else IntKind.max .u64) (shrI .u64 p0 1))
    let x3 : Int := (IntKind.wrap .u64 (IntKind.wrap .u32 p0))
    let x4 : Bool := ((bitsI .and .u64 x3 1) == 1)
    cond x4 (
      let x5 : Int := (bitsI .xor .u64 (if IntKind.signed .u64 then -1 else IntKind.max .u64) (shrI .u64 x3 1))
      let x6 : Int := (IntKind.wrap .i64 (IntKind.wrap .i32 p0))
      let x7 : Bool := ((fromR 3 p0) == (IntKind.wrap .u64 x6))
      cond x7 (
        let x8 : Int := (IntKind.wrap .i64 (IntKind.wrap .i32 p0))
        let x9 : Bool := ((fromR 17 p0) == (IntKind.wrap .u64 x8))
        cond x9 (
          let x10 : Int := (IntKind.wrap .i64 (IntKind.wrap .i32 p0))
          let x11 : Bool := ((fromR 11 p0) == (IntKind.wrap .u64 x10))
          cond x11 (
            cond ((fromR 5 p0) == x3) (
              cond ((fromR 9 p0) == x3) (
                cond ((fromR 4 p0) == p0) (
                  cond ((fromR 6 p0) == p0) (
                    cond ((fromR 8 p0) == x2) (
                      let x12 : Int := (IntKind.wrap .i64 (IntKind.wrap .i32 x5))
                      let x13 : Bool := ((fromR 7 p0) == (IntKind.wrap .u64 x12))
                      cond x13 (
                        let x14 : Bool := (((fromR 13 p0) == 1) == (!(p0 == 0)))
                        some (.bool x14, [])) (
                        some (.bool false, []))) (
                      some (.bool false, []))) (
                    some (.bool false, []))) (
                  some (.bool false, []))) (
                some (.bool false, []))) (
              some (.bool false, []))) (
            some (.bool false, []))) (
          some (.bool false, []))) (
        some (.bool false, []))) (
      let x15 : Int := (IntKind.wrap .i64 (IntKind.wrap .i32 p0))
      let x16 : Bool := ((fromR 3 p0) == (IntKind.wrap .u64 x15))
      cond x16 (
        let x17 : Int := (IntKind.wrap .i64 (IntKind.wrap .i32 p0))
        let x18 : Bool := ((fromR 17 p0) == (IntKind.wrap .u64 x17))
        cond x18 (
          let x19 : Int := (IntKind.wrap .i64 (IntKind.wrap .i32 p0))
          let x20 : Bool := ((fromR 11 p0) == (IntKind.wrap .u64 x19))
          cond x20 (
            cond ((fromR 5 p0) == x3) (
              cond ((fromR 9 p0) == x3) (
                cond ((fromR 4 p0) == p0) (
                  cond ((fromR 6 p0) == p0) (
                    cond ((fromR 8 p0) == x2) (
                      let x21 : Int := (IntKind.wrap .i32 (shrI .u64 x3 1))
                      let x22 : Int := (IntKind.wrap .u64 (IntKind.wrap .i64 x21))
                      cond ((fromR 7 p0) == x22) (
                        let x23 : Bool := (((fromR 13 p0) == 1) == (!(p0 == 0)))
                        some (.bool x23, [])) (
                        some (.bool false, []))) (
                      some (.bool false, []))) (
                    some (.bool false, []))) (
                  some (.bool false, []))) (
                some (.bool false, []))) (
              some (.bool false, []))) (
            some (.bool false, []))) (
          some (.bool false, []))) (
        some (.bool false, [])))) (
    let x24 : Int := (IntKind.wrap .u64 (IntKind.wrap .u32 p0))
    let x25 : Bool := ((bitsI .and .u64 x24 1) == 1)
    cond x25 (
      let x26 : Int := (bitsI .xor .u64 (if IntKind.signed .u64 then -1 else IntKind.max .u64) (shrI .u64 x24 1))
      let x27 : Int := (IntKind.wrap .i64 (IntKind.wrap .i32 p0))
      let x28 : Bool := ((fromR 3 p0) == (IntKind.wrap .u64 x27))
      cond x28 (
        let x29 : Int := (IntKind.wrap .i64 (IntKind.wrap .i32 p0))
        let x30 : Bool := ((fromR 17 p0) == (IntKind.wrap .u64 x29))
        cond x30 (
          let x31 : Int := (IntKind.wrap .i64 (IntKind.wrap .i32 p0))
          let x32 : Bool := ((fromR 11 p0) == (IntKind.wrap .u64 x31))
          cond x32 (
            cond ((fromR 5 p0) == x24) (
              cond ((fromR 9 p0) == x24) (
                cond ((fromR 4 p0) == p0) (
                  cond ((fromR 6 p0) == p0) (
                    let x33 : Bool := ((fromR 8 p0) == (shrI .u64 p0 1))
                    cond x33 (
                      let x34 : Int := (IntKind.wrap .i64 (IntKind.wrap .i32 x26))
                      let x35 : Bool := ((fromR 7 p0) == (IntKind.wrap .u64 x34))
                      cond x35 (
                        let x36 : Bool := (((fromR 13 p0) == 1) == (!(p0 == 0)))
                        some (.bool x36, [])) (
                        some (.bool false, []))) (
                      some (.bool false, []))) (
                    some (.bool false, []))) (
                  some (.bool false, []))) (
                some (.bool false, []))) (
              some (.bool false, []))) (
            some (.bool false, []))) (
          some (.bool false, []))) (
        some (.bool false, []))) (
      let x37 : Int := (IntKind.wrap .i64 (IntKind.wrap .i32 p0))
      let x38 : Bool := ((fromR 3 p0) == (IntKind.wrap .u64 x37))
      cond x38 (
        let x39 : Int := (IntKind.wrap .i64 (IntKind.wrap .i32 p0))
        let x40 : Bool := ((fromR 17 p0) == (IntKind.wrap .u64 x39))
        cond x40 (
          let x41 : Int := (IntKind.wrap .i64 (IntKind.wrap .i32 p0))
          let x42 : Bool := ((fromR 11 p0) == (IntKind.wrap .u64 x41))
          cond x42 (
            cond ((fromR 5 p0) == x24) (
              cond ((fromR 9 p0) == x24) (
                cond ((fromR 4 p0) == p0) (
                  cond ((fromR 6 p0) == p0) (
                    let x43 : Bool := ((fromR 8 p0) == (shrI .u64 p0 1))
                    cond x43 (
                      let x44 : Int := (IntKind.wrap .i32 (shrI .u64 x24 1))
                      let x45 : Int := (IntKind.wrap .u64 (IntKind.wrap .i64 x44))
                      cond ((fromR 7 p0) == x45) (
                        let x46 : Bool := (((fromR 13 p0) == 1) == (!(p0 == 0)))
                        some (.bool x46, [])) (
                        some (.bool false, []))) (
                      some (.bool false, []))) (
                    some (.bool false, []))) (
                  some (.bool false, []))) (
                some (.bool false, []))) (
              some (.bool false, []))) (
            some (.bool false, []))) (
          some (.bool false, []))) (
        some (.bool false, []))))
noncomputable def sh_law2_CastGo (N : Nat) (p0 : Int) : Option (V × List AObj) := sa_law2_CastGo N p0
theorem run_law2_CastGo (N : Nat) (p0 : Int) : callF Γ_law2_CastGo N 97 rs_law2_CastGo ir_law2_CastGo [.int .u64 p0] [] = sh_law2_CastGo N p0 := by kernel_rfl
theorem ok_law2_CastGo (hΓ : SpecOK Try.prog Γ_law2_CastGo) (N : Nat) (p0 : Int) {v : V} {hp : List AObj} (h : sh_law2_CastGo N p0 = some (v, hp)) : PureOK Try.prog i_law2_CastGo [.int .u64 p0] v := by
  have hc := chk_law2_CastGo
  simp only [Bool.and_eq_true] at hc
  exact ⟨hp, fnOK_of hΓ pureS_law2_CastGo Try.func5 body_law2_CastGo hc.1 hc.2 (by decide) ((run_law2_CastGo N p0).trans h)⟩

noncomputable def G_law2_CastSmall : Nat → List V → Option (Bool × V) := fun f vs => match f, vs with
  | 14, [] => some (true, .bool true)
  | 15, [.int .i64 a0] => some (true, .int .u64 (doubleR a0))
  | 17, [.int .i64 a0] => some (true, .int .u32 (floatR a0))
  | 19, [.int .u32 a0] => some (true, .int .u64 (widenR a0))
  | _, _ => none
noncomputable def Γ_law2_CastSmall : ASpec := liftG G_law2_CastSmall
theorem pureS_law2_CastSmall : PureS Γ_law2_CastSmall [] := liftG_pure _ _
theorem spec_law2_CastSmall (h_law2_begun : PureOK Try.prog i_law2_begun [] (.bool true)) (h_cast_Double : ∀ (a0 : Int), PureOK Try.prog i_cast_Double [.int .i64 a0] (.int .u64 (doubleR a0))) (h_cast_Float : ∀ (a0 : Int), PureOK Try.prog i_cast_Float [.int .i64 a0] (.int .u32 (floatR a0))) (h_cast_Widen : ∀ (a0 : Int), PureOK Try.prog i_cast_Widen [.int .u32 a0] (.int .u64 (widenR a0))) : SpecOK Try.prog Γ_law2_CastSmall := by
  intro f vs hp v hp' h0
  obtain ⟨h, he⟩ := liftG_inv h0
  subst he
  unfold G_law2_CastSmall at h
  split at h
  · simp only [Option.some.injEq, Prod.mk.injEq] at h
    obtain ⟨hc, rfl⟩ := h
    exact (h_law2_begun ).frame rfl rfl _
  · simp only [Option.some.injEq, Prod.mk.injEq] at h
    obtain ⟨hc, rfl⟩ := h
    exact (h_cast_Double _).frame rfl rfl _
  · simp only [Option.some.injEq, Prod.mk.injEq] at h
    obtain ⟨hc, rfl⟩ := h
    exact (h_cast_Float _).frame rfl rfl _
  · simp only [Option.some.injEq, Prod.mk.injEq] at h
    obtain ⟨hc, rfl⟩ := h
    exact (h_cast_Widen _).frame rfl rfl _
  · simp at h
noncomputable def ir_law2_CastSmall_0 : IR := .ret
noncomputable def ir_law2_CastSmall_1 : IR := (.cond (.t 10) (.seq (.reg [⟨none, .mov 2 (.c (.bool false))⟩] []) ir_law2_CastSmall_0) .skip)
noncomputable def ir_law2_CastSmall_2 : IR := .ret
noncomputable def ir_law2_CastSmall_3 : IR := (.cond (.t 41) (.seq (.reg [⟨none, .mov 2 (.c (.bool false))⟩] []) ir_law2_CastSmall_2) .skip)
noncomputable def ir_law2_CastSmall_4 : IR := (.cond (.t 44) (.reg [⟨none, .mov 45 (.t 6)⟩,
    ⟨none, .un 46 .neg (.t 45)⟩,
    ⟨none, .mov 6 (.t 46)⟩] []) .skip)
noncomputable def ir_law2_CastSmall_5 : IR := .ret
noncomputable def ir_law2_CastSmall_6 : IR := (.cond (.t 48) (.seq (.reg [⟨none, .mov 49 (.t 4)⟩,
    ⟨none, .bin 50 .eql (.t 49) (.c (.int .u64 0))⟩,
    ⟨none, .mov 51 (.t 50)⟩,
    ⟨some (51, true), .mov 52 (.t 5)⟩,
    ⟨some (51, true), .bin 53 .eql (.t 52) (.c (.int .u32 0))⟩,
    ⟨none, .pick 54 (.t 51) (.t 53) (.c (.bool false))⟩,
    ⟨none, .mov 2 (.t 54)⟩] []) ir_law2_CastSmall_5) .skip)
noncomputable def ir_law2_CastSmall_7 : IR := (.cond (.t 58) .skip (.exit 0))
noncomputable def ir_law2_CastSmall_8 : IR := (.block 1 (.reg [⟨none, .mov 59 (.t 7)⟩,
    ⟨none, .bin 60 .add (.t 59) (.c (.int .i64 1))⟩,
    ⟨none, .mov 7 (.t 60)⟩] []))
noncomputable def ir_law2_CastSmall_9 : IR := (.seq (.seq (.reg [⟨none, .mov 55 (.t 6)⟩,
    ⟨none, .mov 56 (.t 7)⟩,
    ⟨none, .bin 57 .shr (.t 55) (.t 56)⟩,
    ⟨none, .bin 58 .gtr (.t 57) (.c (.int .i64 1))⟩] []) ir_law2_CastSmall_7) ir_law2_CastSmall_8)
noncomputable def ir_law2_CastSmall_10 : IR := .ret
noncomputable def ir_law2_CastSmall_11 : IR := (.seq (.reg [⟨none, .mov 74 (.t 4)⟩,
    ⟨none, .bin 75 .and (.t 74) (.c (.int .u64 9223372036854775807))⟩,
    ⟨none, .mov 76 (.t 8)⟩,
    ⟨none, .bin 77 .eql (.t 75) (.t 76)⟩,
    ⟨none, .mov 78 (.t 77)⟩,
    ⟨some (78, true), .mov 79 (.t 0)⟩,
    ⟨some (78, true), .cvi 80 .i64 (.t 79)⟩,
    ⟨some (78, true), .call (some 81) 15 [(.t 80)]⟩,
    ⟨some (78, true), .bin 82 .shr (.t 81) (.c (.int .u64 63))⟩,
    ⟨some (78, true), .mov 83 (.t 0)⟩,
    ⟨some (78, true), .cvi 84 .u32 (.t 83)⟩,
    ⟨some (78, true), .bin 85 .shr (.t 84) (.c (.int .u64 31))⟩,
    ⟨some (78, true), .cvi 86 .u64 (.t 85)⟩,
    ⟨some (78, true), .bin 87 .eql (.t 82) (.t 86)⟩,
    ⟨none, .pick 88 (.t 78) (.t 87) (.c (.bool false))⟩,
    ⟨none, .mov 2 (.t 88)⟩] []) ir_law2_CastSmall_10)
noncomputable def ir_law2_CastSmall_12 : IR := (.seq (.reg [⟨none, .mov 61 (.t 7)⟩,
    ⟨none, .bin 62 .add (.t 61) (.c (.int .i64 1023))⟩,
    ⟨none, .cvi 63 .u64 (.t 62)⟩,
    ⟨none, .bin 64 .shl (.t 63) (.c (.int .u64 52))⟩,
    ⟨none, .mov 65 (.t 6)⟩,
    ⟨none, .cvi 66 .u64 (.t 65)⟩,
    ⟨none, .mov 67 (.t 7)⟩,
    ⟨none, .bin 68 .shl (.c (.int .u64 1)) (.t 67)⟩,
    ⟨none, .bin 69 .sub (.t 66) (.t 68)⟩,
    ⟨none, .mov 70 (.t 7)⟩,
    ⟨none, .bin 71 .sub (.c (.int .i64 52)) (.t 70)⟩,
    ⟨none, .bin 72 .shl (.t 69) (.t 71)⟩,
    ⟨none, .bin 73 .or (.t 64) (.t 72)⟩,
    ⟨none, .mov 8 (.t 73)⟩] []) ir_law2_CastSmall_11)
noncomputable def ir_law2_CastSmall_13 : IR := (.seq (.block 0 (.loop [0, 4, 6, 7] 0 ir_law2_CastSmall_9)) ir_law2_CastSmall_12)
noncomputable def ir_law2_CastSmall_14 : IR := (.seq (.reg [⟨none, .mov 7 (.c (.int .i64 0))⟩] []) ir_law2_CastSmall_13)
noncomputable def ir_law2_CastSmall_15 : IR := (.seq (.seq (.reg [⟨none, .mov 47 (.t 6)⟩,
    ⟨none, .bin 48 .eql (.t 47) (.c (.int .i64 0))⟩] []) ir_law2_CastSmall_6) ir_law2_CastSmall_14)
noncomputable def ir_law2_CastSmall_16 : IR := (.seq (.seq (.reg [⟨none, .mov 43 (.t 6)⟩,
    ⟨none, .bin 44 .lss (.t 43) (.c (.int .i64 0))⟩] []) ir_law2_CastSmall_4) ir_law2_CastSmall_15)
noncomputable def ir_law2_CastSmall_17 : IR := (.seq (.reg [⟨none, .mov 42 (.t 3)⟩,
    ⟨none, .mov 6 (.t 42)⟩] []) ir_law2_CastSmall_16)
noncomputable def ir_law2_CastSmall_18 : IR := (.seq (.seq (.reg [⟨none, .mov 18 (.t 5)⟩,
    ⟨none, .call (some 19) 19 [(.t 18)]⟩,
    ⟨none, .mov 20 (.t 4)⟩,
    ⟨none, .bin 21 .neq (.t 19) (.t 20)⟩,
    ⟨none, .mov 22 (.t 21)⟩,
    ⟨some (22, false), .mov 23 (.t 3)⟩,
    ⟨some (22, false), .bin 24 .neq (.t 23) (.c (.int .i64 0))⟩,
    ⟨some (22, false), .mov 25 (.t 24)⟩,
    ⟨some (25, true), .mov 26 (.t 3)⟩,
    ⟨some (25, true), .un 27 .neg (.t 26)⟩,
    ⟨some (25, true), .call (some 28) 15 [(.t 27)]⟩,
    ⟨some (25, true), .mov 29 (.t 4)⟩,
    ⟨some (25, true), .bin 30 .xor (.t 29) (.c (.int .u64 9223372036854775808))⟩,
    ⟨some (25, true), .bin 31 .neq (.t 28) (.t 30)⟩,
    ⟨some (25, true), .mov 32 (.t 31)⟩,
    ⟨some (32, false), .mov 33 (.t 3)⟩,
    ⟨some (32, false), .un 34 .neg (.t 33)⟩,
    ⟨some (32, false), .call (some 35) 17 [(.t 34)]⟩,
    ⟨some (32, false), .mov 36 (.t 5)⟩,
    ⟨some (32, false), .bin 37 .xor (.t 36) (.c (.int .u32 2147483648))⟩,
    ⟨some (32, false), .bin 38 .neq (.t 35) (.t 37)⟩,
    ⟨some (25, true), .pick 39 (.t 32) (.c (.bool true)) (.t 38)⟩,
    ⟨some (22, false), .pick 40 (.t 25) (.t 39) (.c (.bool false))⟩,
    ⟨none, .pick 41 (.t 22) (.c (.bool true)) (.t 40)⟩] []) ir_law2_CastSmall_3) ir_law2_CastSmall_17)
noncomputable def ir_law2_CastSmall_19 : IR := (.seq (.reg [⟨none, .mov 14 (.t 3)⟩,
    ⟨none, .call (some 15) 15 [(.t 14)]⟩,
    ⟨none, .mov 16 (.t 3)⟩,
    ⟨none, .call (some 17) 17 [(.t 16)]⟩,
    ⟨none, .mov 4 (.t 15)⟩,
    ⟨none, .mov 5 (.t 17)⟩] []) ir_law2_CastSmall_18)
noncomputable def ir_law2_CastSmall_20 : IR := (.seq (.reg [⟨none, .mov 11 (.t 0)⟩,
    ⟨none, .cvi 12 .i64 (.t 11)⟩,
    ⟨none, .bin 13 .quo (.t 12) (.c (.int .i64 256))⟩,
    ⟨none, .mov 3 (.t 13)⟩] []) ir_law2_CastSmall_19)
noncomputable def ir_law2_CastSmall_21 : IR := (.seq (.seq (.reg [⟨none, .call (some 9) 14 []⟩,
    ⟨none, .un 10 .not (.t 9)⟩] []) ir_law2_CastSmall_1) ir_law2_CastSmall_20)
noncomputable def ir_law2_CastSmall : IR := (.seq (.reg [⟨none, .mov 2 (.c (.bool false))⟩] []) ir_law2_CastSmall_21)
noncomputable def rs_law2_CastSmall : List RV := [.t 2]
theorem chk_law2_CastSmall : (chkCode Try.prog [] 0 ir_law2_CastSmall (Try.f6.body.getD .skip) && chkRes Try.prog rs_law2_CastSmall Try.f6.results.toList) = true := by kernel_rfl
theorem body_law2_CastSmall : Try.f6.body = some (Try.f6.body.getD .skip) := by kernel_rfl
noncomputable def mk_law2_CastSmall_0 (x : (Int × Int × Int × Int)) : St := { env := [.int .i32 x.1, .undef, .undef, .undef, .int .u64 x.2.1, .undef, .int .i64 x.2.2.1, .int .i64 x.2.2.2, .undef, .undef, .undef, .undef, .undef, .undef, .undef, .undef, .undef, .undef, .undef, .undef, .undef, .undef, .undef, .undef, .undef, .undef, .undef, .undef, .undef, .undef, .undef, .undef, .undef, .undef, .undef, .undef, .undef, .undef, .undef, .undef, .undef, .undef, .undef, .undef, .undef, .undef, .undef, .undef, .undef, .undef, .undef, .undef, .undef, .undef, .undef, .undef, .undef, .undef, .undef, .undef, .undef, .undef, .undef, .undef, .undef, .undef, .undef, .undef, .undef, .undef, .undef, .undef, .undef, .undef, .undef, .undef, .undef, .undef, .undef, .undef, .undef, .undef, .undef, .undef, .undef, .undef, .undef, .undef, .undef], hp := [] }
noncomputable def F_law2_CastSmall_0 (N : Nat) : (St → Option (V × List AObj)) → St → Option (V × List AObj) := fun again0 s => run Γ_law2_CastSmall N ir_law2_CastSmall_9 (kloop again0 [0, 4, 6, 7] 0 (kblock 0 (kseq (run Γ_law2_CastSmall N ir_law2_CastSmall_12) (fin rs_law2_CastSmall)))) s
noncomputable def B_law2_CastSmall_0 (N : Nat) (again0 : (Int × Int × Int × Int) → Option (V × List AObj)) (x : (Int × Int × Int × Int)) : Option (V × List AObj) :=
  let v0 : Int := x.1
  let v4 : Int := x.2.1
  let v6 : Int := x.2.2.1
  let v7 : Int := x.2.2.2
  chk (decide (0 ≤ v7)) (
    let x8 : Bool := decide (1 < (shrI .i64 v6 v7))
    cond x8 (
      let x9 : Int := (IntKind.wrap .i64 (v7 + 1))
      again0 (v0, v4, v6, x9)) (
      let x10 : Int := (IntKind.wrap .i64 (v7 + 1023))
      let x11 : Int := (shlI .u64 (IntKind.wrap .u64 x10) 52)
      chk (decide (0 ≤ v7)) (
        let x12 : Int := (IntKind.wrap .u64 ((IntKind.wrap .u64 v6) - (shlI .u64 1 v7)))
        let x13 : Int := (IntKind.wrap .i64 (52 - v7))
        chk (decide (0 ≤ x13)) (
          let x14 : Int := (bitsI .or .u64 x11 (shlI .u64 x12 x13))
          let x15 : Int := (bitsI .and .u64 v4 9223372036854775807)
          cond (x15 == x14) (
            let x16 : Int := (doubleR (IntKind.wrap .i64 v0))
            let x17 : Int := (shrI .u32 (IntKind.wrap .u32 v0) 31)
            let x18 : Bool := ((shrI .u64 x16 63) == (IntKind.wrap .u64 x17))
            some (.bool x18, [])) (
            some (.bool false, []))))))
theorem FB_law2_CastSmall_0 (N : Nat) : ∀ (again0 : St → Option (V × List AObj)) (x : (Int × Int × Int × Int)), F_law2_CastSmall_0 N again0 (mk_law2_CastSmall_0 x) = B_law2_CastSmall_0 N (fun y => again0 (mk_law2_CastSmall_0 y)) x := by
  intro again0 x
  kernel_rfl
/-- proclitic/procliticlaw2.CastSmall -/
noncomputable def sa_law2_CastSmall (N : Nat) (p0 : Int) (q0 : (Int × Int × Int × Int) → Option (V × List AObj)) : Option (V × List AObj) :=
  let x1 : Int := (IntKind.wrap .i64 (Int.tdiv (IntKind.wrap .i64 p0) 256))
  let x2 : Bool := (!((widenR (floatR x1)) == (doubleR x1)))
  cond x2 (
    some (.bool false, [])) (
    cond (!(x1 == 0)) (
      let x3 : Int := (IntKind.wrap .i64 (0 - x1))
      let x4 : Int := (bitsI .xor .u64 (doubleR x1) 9223372036854775808)
      cond (!((doubleR x3) == x4)) (
        some (.bool false, [])) (
        let x5 : Int := (IntKind.wrap .i64 (0 - x1))
        let x6 : Int := (bitsI .xor .u32 (floatR x1) 2147483648)
        cond (!((floatR x5) == x6)) (
          some (.bool false, [])) (
          cond (decide (x1 < 0)) (
            let x7 : Int := (IntKind.wrap .i64 (0 - x1))
            cond (x7 == 0) (
              cond ((doubleR x1) == 0) (
                some (.bool ((floatR x1) == 0), [])) (
                some (.bool false, []))) (
              q0 (p0, (doubleR x1), x7, 0))) (
            cond (x1 == 0) (
              cond ((doubleR x1) == 0) (
                some (.bool ((floatR x1) == 0), [])) (
                some (.bool false, []))) (
              q0 (p0, (doubleR x1), x1, 0)))))) (
      cond (decide (x1 < 0)) (
        let x19 : Int := (IntKind.wrap .i64 (0 - x1))
        cond (x19 == 0) (
          cond ((doubleR x1) == 0) (
            some (.bool ((floatR x1) == 0), [])) (
            some (.bool false, []))) (
          q0 (p0, (doubleR x1), x19, 0))) (
        cond (x1 == 0) (
          cond ((doubleR x1) == 0) (
            some (.bool ((floatR x1) == 0), [])) (
            some (.bool false, []))) (
          q0 (p0, (doubleR x1), x1, 0)))))
noncomputable def sh_law2_CastSmall (N : Nat) (p0 : Int) : Option (V × List AObj) := sa_law2_CastSmall N p0 (fun z => iterL N (B_law2_CastSmall_0 N) z)
theorem run_law2_CastSmall (N : Nat) (p0 : Int) : callF Γ_law2_CastSmall N 89 rs_law2_CastSmall ir_law2_CastSmall [.int .i32 p0] [] = sh_law2_CastSmall N p0 := by
  have h : callF Γ_law2_CastSmall N 89 rs_law2_CastSmall ir_law2_CastSmall [.int .i32 p0] [] = sa_law2_CastSmall N p0 (fun z => loopN N (F_law2_CastSmall_0 N) (mk_law2_CastSmall_0 z)) := by kernel_rfl
  have e0 : (fun z => loopN N (F_law2_CastSmall_0 N) (mk_law2_CastSmall_0 z)) = (fun z => iterL N (B_law2_CastSmall_0 N) z) := funext fun z => loop_eq (mk_law2_CastSmall_0) (F_law2_CastSmall_0 N) (B_law2_CastSmall_0 N) (FB_law2_CastSmall_0 N) N z
  rw [h, e0]
  rfl
theorem ok_law2_CastSmall (hΓ : SpecOK Try.prog Γ_law2_CastSmall) (N : Nat) (p0 : Int) {v : V} {hp : List AObj} (h : sh_law2_CastSmall N p0 = some (v, hp)) : PureOK Try.prog i_law2_CastSmall [.int .i32 p0] v := by
  have hc := chk_law2_CastSmall
  simp only [Bool.and_eq_true] at hc
  exact ⟨hp, fnOK_of hΓ pureS_law2_CastSmall Try.func6 body_law2_CastSmall hc.1 hc.2 (by decide) ((run_law2_CastSmall N p0).trans h)⟩

noncomputable def G_law2_CastOrder : Nat → List V → Option (Bool × V) := fun f vs => match f, vs with
  | 14, [] => some (true, .bool true)
  | 15, [.int .i64 a0] => some (true, .int .u64 (doubleR a0))
  | 17, [.int .i64 a0] => some (true, .int .u32 (floatR a0))
  | 25, [.int .i64 a0, .int .i64 a1] => some ((decide (0 ≤ a1) && decide (a1 ≤ 53)), .int .u64 (stepR a0 a1))
  | _, _ => none
noncomputable def Γ_law2_CastOrder : ASpec := liftG G_law2_CastOrder
theorem pureS_law2_CastOrder : PureS Γ_law2_CastOrder [] := liftG_pure _ _
theorem spec_law2_CastOrder (h_law2_begun : PureOK Try.prog i_law2_begun [] (.bool true)) (h_cast_Double : ∀ (a0 : Int), PureOK Try.prog i_cast_Double [.int .i64 a0] (.int .u64 (doubleR a0))) (h_cast_Float : ∀ (a0 : Int), PureOK Try.prog i_cast_Float [.int .i64 a0] (.int .u32 (floatR a0))) (h_law2_step : ∀ (a0 : Int) (a1 : Int), (decide (0 ≤ a1) && decide (a1 ≤ 53)) = true → PureOK Try.prog i_law2_step [.int .i64 a0, .int .i64 a1] (.int .u64 (stepR a0 a1))) : SpecOK Try.prog Γ_law2_CastOrder := by
  intro f vs hp v hp' h0
  obtain ⟨h, he⟩ := liftG_inv h0
  subst he
  unfold G_law2_CastOrder at h
  split at h
  · simp only [Option.some.injEq, Prod.mk.injEq] at h
    obtain ⟨hc, rfl⟩ := h
    exact (h_law2_begun ).frame rfl rfl _
  · simp only [Option.some.injEq, Prod.mk.injEq] at h
    obtain ⟨hc, rfl⟩ := h
    exact (h_cast_Double _).frame rfl rfl _
  · simp only [Option.some.injEq, Prod.mk.injEq] at h
    obtain ⟨hc, rfl⟩ := h
    exact (h_cast_Float _).frame rfl rfl _
  · simp only [Option.some.injEq, Prod.mk.injEq] at h
    obtain ⟨hc, rfl⟩ := h
    exact (h_law2_step _ _ hc).frame rfl rfl _
  · simp at h
noncomputable def ir_law2_CastOrder_0 : IR := .ret
noncomputable def ir_law2_CastOrder_1 : IR := (.cond (.t 14) (.seq (.reg [⟨none, .mov 4 (.c (.bool false))⟩] []) ir_law2_CastOrder_0) .skip)
noncomputable def ir_law2_CastOrder_2 : IR := (.cond (.t 23) (.reg [⟨none, .mov 24 (.t 6)⟩,
    ⟨none, .mov 25 (.t 5)⟩,
    ⟨none, .mov 5 (.t 24)⟩,
    ⟨none, .mov 6 (.t 25)⟩] []) .skip)
noncomputable def ir_law2_CastOrder_3 : IR := .ret
noncomputable def ir_law2_CastOrder_4 : IR := (.cond (.t 37) (.seq (.reg [⟨none, .mov 4 (.c (.bool false))⟩] []) ir_law2_CastOrder_3) .skip)
noncomputable def ir_law2_CastOrder_5 : IR := (.cond (.t 41) .skip (.exit 0))
noncomputable def ir_law2_CastOrder_6 : IR := (.block 1 (.reg [⟨none, .mov 42 (.t 7)⟩,
    ⟨none, .bin 43 .add (.t 42) (.c (.int .i64 1))⟩,
    ⟨none, .mov 7 (.t 43)⟩] []))
noncomputable def ir_law2_CastOrder_7 : IR := (.seq (.seq (.reg [⟨none, .mov 38 (.t 6)⟩,
    ⟨none, .mov 39 (.t 7)⟩,
    ⟨none, .bin 40 .shr (.t 38) (.t 39)⟩,
    ⟨none, .bin 41 .gtr (.t 40) (.c (.int .i64 0))⟩] []) ir_law2_CastOrder_5) ir_law2_CastOrder_6)
noncomputable def ir_law2_CastOrder_8 : IR := .ret
noncomputable def ir_law2_CastOrder_9 : IR := (.cond (.t 45) (.seq (.reg [⟨none, .mov 46 (.t 6)⟩,
    ⟨none, .call (some 47) 15 [(.t 46)]⟩,
    ⟨none, .mov 48 (.t 6)⟩,
    ⟨none, .mov 49 (.t 6)⟩,
    ⟨none, .bin 50 .rem (.t 49) (.c (.int .i64 2))⟩,
    ⟨none, .bin 51 .sub (.t 48) (.t 50)⟩,
    ⟨none, .call (some 52) 15 [(.t 51)]⟩,
    ⟨none, .mov 53 (.t 6)⟩,
    ⟨none, .mov 54 (.t 7)⟩,
    ⟨none, .call (some 55) 25 [(.t 53), (.t 54)]⟩,
    ⟨none, .bin 56 .add (.t 52) (.t 55)⟩,
    ⟨none, .bin 57 .eql (.t 47) (.t 56)⟩,
    ⟨none, .mov 4 (.t 57)⟩] []) ir_law2_CastOrder_8) .skip)
noncomputable def ir_law2_CastOrder_10 : IR := .ret
noncomputable def ir_law2_CastOrder_11 : IR := .ret
noncomputable def ir_law2_CastOrder_12 : IR := (.cond (.t 81) (.seq (.reg [⟨none, .mov 85 (.t 6)⟩,
    ⟨none, .call (some 86) 15 [(.t 85)]⟩,
    ⟨none, .mov 87 (.t 10)⟩,
    ⟨none, .bin 88 .add (.t 87) (.c (.int .u64 1))⟩,
    ⟨none, .bin 89 .eql (.t 86) (.t 88)⟩,
    ⟨none, .mov 4 (.t 89)⟩] []) ir_law2_CastOrder_11) .skip)
noncomputable def ir_law2_CastOrder_13 : IR := (.cond (.t 73) (.seq (.reg [⟨none, .mov 77 (.t 6)⟩,
    ⟨none, .call (some 78) 15 [(.t 77)]⟩,
    ⟨none, .mov 79 (.t 10)⟩,
    ⟨none, .bin 80 .eql (.t 78) (.t 79)⟩,
    ⟨none, .mov 4 (.t 80)⟩] []) ir_law2_CastOrder_10) (.seq (.reg [⟨none, .mov 82 (.t 12)⟩,
    ⟨none, .mov 83 (.t 11)⟩,
    ⟨none, .bin 84 .gtr (.t 82) (.t 83)⟩,
    ⟨none, .mov 81 (.t 84)⟩] []) ir_law2_CastOrder_12))
noncomputable def ir_law2_CastOrder_14 : IR := (.block 2 (.seq (.reg [⟨none, .mov 74 (.t 12)⟩,
    ⟨none, .mov 75 (.t 11)⟩,
    ⟨none, .bin 76 .lss (.t 74) (.t 75)⟩,
    ⟨none, .mov 73 (.t 76)⟩] []) ir_law2_CastOrder_13))
noncomputable def ir_law2_CastOrder_15 : IR := .ret
noncomputable def ir_law2_CastOrder_16 : IR := (.seq (.reg [⟨none, .mov 90 (.t 6)⟩,
    ⟨none, .call (some 91) 15 [(.t 90)]⟩,
    ⟨none, .mov 92 (.t 10)⟩,
    ⟨none, .mov 93 (.t 10)⟩,
    ⟨none, .bin 94 .rem (.t 93) (.c (.int .u64 2))⟩,
    ⟨none, .bin 95 .add (.t 92) (.t 94)⟩,
    ⟨none, .bin 96 .eql (.t 91) (.t 95)⟩,
    ⟨none, .mov 4 (.t 96)⟩] []) ir_law2_CastOrder_15)
noncomputable def ir_law2_CastOrder_17 : IR := (.seq (.seq (.reg [⟨none, .mov 70 (.t 6)⟩,
    ⟨none, .mov 71 (.t 9)⟩,
    ⟨none, .bin 72 .sub (.t 70) (.t 71)⟩,
    ⟨none, .mov 12 (.t 72)⟩] []) ir_law2_CastOrder_14) ir_law2_CastOrder_16)
noncomputable def ir_law2_CastOrder_18 : IR := (.seq (.reg [⟨none, .mov 65 (.t 9)⟩,
    ⟨none, .call (some 66) 15 [(.t 65)]⟩,
    ⟨none, .mov 67 (.t 8)⟩,
    ⟨none, .bin 68 .sub (.t 67) (.c (.int .i64 1))⟩,
    ⟨none, .bin 69 .shl (.c (.int .i64 1)) (.t 68)⟩,
    ⟨none, .mov 10 (.t 66)⟩,
    ⟨none, .mov 11 (.t 69)⟩] [[], [0], [], [2], [2, 3], [0, 1], [0, 1, 2, 3, 4, 5]]) ir_law2_CastOrder_17)
noncomputable def ir_law2_CastOrder_19 : IR := (.seq (.reg [⟨none, .mov 60 (.t 6)⟩,
    ⟨none, .mov 61 (.t 8)⟩,
    ⟨none, .bin 62 .shr (.t 60) (.t 61)⟩,
    ⟨none, .mov 63 (.t 8)⟩,
    ⟨none, .bin 64 .shl (.t 62) (.t 63)⟩,
    ⟨none, .mov 9 (.t 64)⟩] []) ir_law2_CastOrder_18)
noncomputable def ir_law2_CastOrder_20 : IR := (.seq (.reg [⟨none, .mov 58 (.t 7)⟩,
    ⟨none, .bin 59 .sub (.t 58) (.c (.int .i64 53))⟩,
    ⟨none, .mov 8 (.t 59)⟩] []) ir_law2_CastOrder_19)
noncomputable def ir_law2_CastOrder_21 : IR := (.seq (.seq (.reg [⟨none, .mov 44 (.t 7)⟩,
    ⟨none, .bin 45 .leq (.t 44) (.c (.int .i64 53))⟩] []) ir_law2_CastOrder_9) ir_law2_CastOrder_20)
noncomputable def ir_law2_CastOrder_22 : IR := (.seq (.block 0 (.loop [6, 7] 0 ir_law2_CastOrder_7)) ir_law2_CastOrder_21)
noncomputable def ir_law2_CastOrder_23 : IR := (.seq (.reg [⟨none, .mov 7 (.c (.int .i64 0))⟩] []) ir_law2_CastOrder_22)
noncomputable def ir_law2_CastOrder_24 : IR := (.seq (.seq (.reg [⟨none, .mov 26 (.t 5)⟩,
    ⟨none, .call (some 27) 15 [(.t 26)]⟩,
    ⟨none, .mov 28 (.t 6)⟩,
    ⟨none, .call (some 29) 15 [(.t 28)]⟩,
    ⟨none, .bin 30 .gtr (.t 27) (.t 29)⟩,
    ⟨none, .mov 31 (.t 30)⟩,
    ⟨some (31, false), .mov 32 (.t 5)⟩,
    ⟨some (31, false), .call (some 33) 17 [(.t 32)]⟩,
    ⟨some (31, false), .mov 34 (.t 6)⟩,
    ⟨some (31, false), .call (some 35) 17 [(.t 34)]⟩,
    ⟨some (31, false), .bin 36 .gtr (.t 33) (.t 35)⟩,
    ⟨none, .pick 37 (.t 31) (.c (.bool true)) (.t 36)⟩] []) ir_law2_CastOrder_4) ir_law2_CastOrder_23)
noncomputable def ir_law2_CastOrder_25 : IR := (.seq (.seq (.reg [⟨none, .mov 21 (.t 5)⟩,
    ⟨none, .mov 22 (.t 6)⟩,
    ⟨none, .bin 23 .gtr (.t 21) (.t 22)⟩] []) ir_law2_CastOrder_2) ir_law2_CastOrder_24)
noncomputable def ir_law2_CastOrder_26 : IR := (.seq (.reg [⟨none, .mov 15 (.t 0)⟩,
    ⟨none, .bin 16 .shr (.t 15) (.c (.int .u64 1))⟩,
    ⟨none, .cvi 17 .i64 (.t 16)⟩,
    ⟨none, .mov 18 (.t 1)⟩,
    ⟨none, .bin 19 .shr (.t 18) (.c (.int .u64 1))⟩,
    ⟨none, .cvi 20 .i64 (.t 19)⟩,
    ⟨none, .mov 5 (.t 17)⟩,
    ⟨none, .mov 6 (.t 20)⟩] []) ir_law2_CastOrder_25)
noncomputable def ir_law2_CastOrder_27 : IR := (.seq (.seq (.reg [⟨none, .call (some 13) 14 []⟩,
    ⟨none, .un 14 .not (.t 13)⟩] []) ir_law2_CastOrder_1) ir_law2_CastOrder_26)
noncomputable def ir_law2_CastOrder : IR := (.seq (.reg [⟨none, .mov 4 (.c (.bool false))⟩] []) ir_law2_CastOrder_27)
noncomputable def rs_law2_CastOrder : List RV := [.t 4]
theorem chk_law2_CastOrder : (chkCode Try.prog [] 0 ir_law2_CastOrder (Try.f7.body.getD .skip) && chkRes Try.prog rs_law2_CastOrder Try.f7.results.toList) = true := by kernel_rfl
theorem body_law2_CastOrder : Try.f7.body = some (Try.f7.body.getD .skip) := by kernel_rfl
noncomputable def mk_law2_CastOrder_0 (x : (Int × Int)) : St := { env := [.undef, .undef, .undef, .undef, .undef, .undef, .int .i64 x.1, .int .i64 x.2, .undef, .undef, .undef, .undef, .undef, .undef, .undef, .undef, .undef, .undef, .undef, .undef, .undef, .undef, .undef, .undef, .undef, .undef, .undef, .undef, .undef, .undef, .undef, .undef, .undef, .undef, .undef, .undef, .undef, .undef, .undef, .undef, .undef, .undef, .undef, .undef, .undef, .undef, .undef, .undef, .undef, .undef, .undef, .undef, .undef, .undef, .undef, .undef, .undef, .undef, .undef, .undef, .undef, .undef, .undef, .undef, .undef, .undef, .undef, .undef, .undef, .undef, .undef, .undef, .undef, .undef, .undef, .undef, .undef, .undef, .undef, .undef, .undef, .undef, .undef, .undef, .undef, .undef, .undef, .undef, .undef, .undef, .undef, .undef, .undef, .undef, .undef, .undef, .undef], hp := [] }
noncomputable def F_law2_CastOrder_0 (N : Nat) : (St → Option (V × List AObj)) → St → Option (V × List AObj) := fun again0 s => run Γ_law2_CastOrder N ir_law2_CastOrder_7 (kloop again0 [6, 7] 0 (kblock 0 (kseq (run Γ_law2_CastOrder N ir_law2_CastOrder_21) (fin rs_law2_CastOrder)))) s
noncomputable def B_law2_CastOrder_0 (N : Nat) (again0 : (Int × Int) → Option (V × List AObj)) (x : (Int × Int)) : Option (V × List AObj) :=
  let v6 : Int := x.1
  let v7 : Int := x.2
  chk (decide (0 ≤ v7)) (
    let x5 : Bool := decide (0 < (shrI .i64 v6 v7))
    cond x5 (
      let x6 : Int := (IntKind.wrap .i64 (v7 + 1))
      again0 (v6, x6)) (
      cond (decide (v7 ≤ 53)) (
        let x7 : Int := (IntKind.wrap .i64 (v6 - (Int.tmod v6 2)))
        chk ((decide (0 ≤ v7) && decide (v7 ≤ 53))) (
          let x8 : Int := (IntKind.wrap .u64 ((doubleR x7) + (stepR v6 v7)))
          some (.bool ((doubleR v6) == x8), []))) (
        let x9 : Int := (IntKind.wrap .i64 (v7 - 53))
        chk (decide (0 ≤ x9)) (
          chk (decide (0 ≤ x9)) (
            let x10 : Int := (shlI .i64 (shrI .i64 v6 x9) x9)
            let x11 : Int := (IntKind.wrap .i64 (x9 - 1))
            chk (decide (0 ≤ x11)) (
              let x12 : Int := (IntKind.wrap .i64 (v6 - x10))
              let x13 : Bool := decide (x12 < (shlI .i64 1 x11))
              cond x13 (
                let x14 : Bool := ((doubleR v6) == (doubleR x10))
                some (.bool x14, [])) (
                let x15 : Bool := decide ((shlI .i64 1 x11) < x12)
                cond x15 (
                  let x16 : Int := (IntKind.wrap .u64 ((doubleR x10) + 1))
                  some (.bool ((doubleR v6) == x16), [])) (
                  let x17 : Int := (Int.tmod (doubleR x10) 2)
                  let x18 : Int := (IntKind.wrap .u64 ((doubleR x10) + x17))
                  some (.bool ((doubleR v6) == x18), [])))))))))
theorem FB_law2_CastOrder_0 (N : Nat) : ∀ (again0 : St → Option (V × List AObj)) (x : (Int × Int)), F_law2_CastOrder_0 N again0 (mk_law2_CastOrder_0 x) = B_law2_CastOrder_0 N (fun y => again0 (mk_law2_CastOrder_0 y)) x := by
  intro again0 x
  kernel_rfl
/-- proclitic/procliticlaw2.CastOrder -/
noncomputable def sa_law2_CastOrder (N : Nat) (p0 : Int) (p1 : Int) (q0 : (Int × Int) → Option (V × List AObj)) : Option (V × List AObj) :=
  let x1 : Int := (IntKind.wrap .i64 (shrI .u64 p0 1))
  let x2 : Int := (IntKind.wrap .i64 (shrI .u64 p1 1))
  cond (decide (x2 < x1)) (
    let x3 : Bool := decide ((doubleR x1) < (doubleR x2))
    cond x3 (
      some (.bool false, [])) (
      let x4 : Bool := decide ((floatR x1) < (floatR x2))
      cond x4 (
        some (.bool false, [])) (
        q0 (x1, 0)))) (
    let x19 : Bool := decide ((doubleR x2) < (doubleR x1))
    cond x19 (
      some (.bool false, [])) (
      let x20 : Bool := decide ((floatR x2) < (floatR x1))
      cond x20 (
        some (.bool false, [])) (
        q0 (x2, 0))))
noncomputable def sh_law2_CastOrder (N : Nat) (p0 : Int) (p1 : Int) : Option (V × List AObj) := sa_law2_CastOrder N p0 p1 (fun z => iterL N (B_law2_CastOrder_0 N) z)
theorem run_law2_CastOrder (N : Nat) (p0 : Int) (p1 : Int) : callF Γ_law2_CastOrder N 97 rs_law2_CastOrder ir_law2_CastOrder [.int .u64 p0, .int .u64 p1] [] = sh_law2_CastOrder N p0 p1 := by
  have h : callF Γ_law2_CastOrder N 97 rs_law2_CastOrder ir_law2_CastOrder [.int .u64 p0, .int .u64 p1] [] = sa_law2_CastOrder N p0 p1 (fun z => loopN N (F_law2_CastOrder_0 N) (mk_law2_CastOrder_0 z)) := by kernel_rfl
  have e0 : (fun z => loopN N (F_law2_CastOrder_0 N) (mk_law2_CastOrder_0 z)) = (fun z => iterL N (B_law2_CastOrder_0 N) z) := funext fun z => loop_eq (mk_law2_CastOrder_0) (F_law2_CastOrder_0 N) (B_law2_CastOrder_0 N) (FB_law2_CastOrder_0 N) N z
  rw [h, e0]
  rfl
theorem ok_law2_CastOrder (hΓ : SpecOK Try.prog Γ_law2_CastOrder) (N : Nat) (p0 : Int) (p1 : Int) {v : V} {hp : List AObj} (h : sh_law2_CastOrder N p0 p1 = some (v, hp)) : PureOK Try.prog i_law2_CastOrder [.int .u64 p0, .int .u64 p1] v := by
  have hc := chk_law2_CastOrder
  simp only [Bool.and_eq_true] at hc
  exact ⟨hp, fnOK_of hΓ pureS_law2_CastOrder Try.func7 body_law2_CastOrder hc.1 hc.2 (by decide) ((run_law2_CastOrder N p0 p1).trans h)⟩

noncomputable def G_law2_CastWide : Nat → List V → Option (Bool × V) := fun f vs => match f, vs with
  | 14, [] => some (true, .bool true)
  | 19, [.int .u32 a0] => some (true, .int .u64 (widenR a0))
  | _, _ => none
noncomputable def Γ_law2_CastWide : ASpec := liftG G_law2_CastWide
theorem pureS_law2_CastWide : PureS Γ_law2_CastWide [] := liftG_pure _ _
theorem spec_law2_CastWide (h_law2_begun : PureOK Try.prog i_law2_begun [] (.bool true)) (h_cast_Widen : ∀ (a0 : Int), PureOK Try.prog i_cast_Widen [.int .u32 a0] (.int .u64 (widenR a0))) : SpecOK Try.prog Γ_law2_CastWide := by
  intro f vs hp v hp' h0
  obtain ⟨h, he⟩ := liftG_inv h0
  subst he
  unfold G_law2_CastWide at h
  split at h
  · simp only [Option.some.injEq, Prod.mk.injEq] at h
    obtain ⟨hc, rfl⟩ := h
    exact (h_law2_begun ).frame rfl rfl _
  · simp only [Option.some.injEq, Prod.mk.injEq] at h
    obtain ⟨hc, rfl⟩ := h
    exact (h_cast_Widen _).frame rfl rfl _
  · simp at h
noncomputable def ir_law2_CastWide_0 : IR := .ret
noncomputable def ir_law2_CastWide_1 : IR := (.cond (.t 10) (.seq (.reg [⟨none, .mov 4 (.c (.bool false))⟩] []) ir_law2_CastWide_0) .skip)
noncomputable def ir_law2_CastWide_2 : IR := (.cond (.t 17) (.reg [⟨none, .mov 18 (.t 6)⟩,
    ⟨none, .mov 19 (.t 5)⟩,
    ⟨none, .mov 5 (.t 18)⟩,
    ⟨none, .mov 6 (.t 19)⟩] []) .skip)
noncomputable def ir_law2_CastWide_3 : IR := .ret
noncomputable def ir_law2_CastWide_4 : IR := (.cond (.t 39) (.seq (.reg [⟨none, .mov 4 (.c (.bool false))⟩] []) ir_law2_CastWide_3) .skip)
noncomputable def ir_law2_CastWide_5 : IR := .ret
noncomputable def ir_law2_CastWide_6 : IR := (.cond (.t 42) (.seq (.reg [⟨none, .mov 43 (.t 8)⟩,
    ⟨none, .bin 44 .shr (.t 43) (.c (.int .u64 52))⟩,
    ⟨none, .bin 45 .eql (.t 44) (.c (.int .u64 2047))⟩,
    ⟨none, .mov 46 (.t 45)⟩,
    ⟨some (46, true), .mov 47 (.t 8)⟩,
    ⟨some (46, true), .bin 48 .shl (.t 47) (.c (.int .u64 12))⟩,
    ⟨some (46, true), .bin 49 .shr (.t 48) (.c (.int .u64 41))⟩,
    ⟨some (46, true), .mov 50 (.t 6)⟩,
    ⟨some (46, true), .bin 51 .shl (.t 50) (.c (.int .u64 9))⟩,
    ⟨some (46, true), .bin 52 .shr (.t 51) (.c (.int .u64 9))⟩,
    ⟨some (46, true), .cvi 53 .u64 (.t 52)⟩,
    ⟨some (46, true), .bin 54 .eql (.t 49) (.t 53)⟩,
    ⟨none, .pick 55 (.t 46) (.t 54) (.c (.bool false))⟩,
    ⟨none, .mov 56 (.t 55)⟩,
    ⟨some (56, true), .mov 57 (.t 8)⟩,
    ⟨some (56, true), .bin 58 .shl (.t 57) (.c (.int .u64 35))⟩,
    ⟨some (56, true), .bin 59 .eql (.t 58) (.c (.int .u64 0))⟩,
    ⟨none, .pick 60 (.t 56) (.t 59) (.c (.bool false))⟩,
    ⟨none, .mov 4 (.t 60)⟩] []) ir_law2_CastWide_5) .skip)
noncomputable def ir_law2_CastWide_7 : IR := .ret
noncomputable def ir_law2_CastWide_8 : IR := (.seq (.reg [⟨none, .mov 61 (.t 8)⟩,
    ⟨none, .bin 62 .shr (.t 61) (.c (.int .u64 52))⟩,
    ⟨none, .bin 63 .lss (.t 62) (.c (.int .u64 2047))⟩,
    ⟨none, .mov 64 (.t 63)⟩,
    ⟨none, .pick 65 (.t 64) (.c (.bool true)) (.c (.bool false))⟩,
    ⟨none, .mov 4 (.t 65)⟩] []) ir_law2_CastWide_7)
noncomputable def ir_law2_CastWide_9 : IR := (.seq (.seq (.reg [⟨none, .mov 40 (.t 6)⟩,
    ⟨none, .bin 41 .shr (.t 40) (.c (.int .u64 23))⟩,
    ⟨none, .bin 42 .eql (.t 41) (.c (.int .u32 255))⟩] []) ir_law2_CastWide_6) ir_law2_CastWide_8)
noncomputable def ir_law2_CastWide_10 : IR := (.seq (.seq (.reg [⟨none, .mov 24 (.t 5)⟩,
    ⟨none, .mov 25 (.t 6)⟩,
    ⟨none, .bin 26 .lss (.t 24) (.t 25)⟩,
    ⟨none, .mov 27 (.t 26)⟩,
    ⟨some (27, true), .mov 28 (.t 7)⟩,
    ⟨some (27, true), .mov 29 (.t 8)⟩,
    ⟨some (27, true), .bin 30 .geq (.t 28) (.t 29)⟩,
    ⟨none, .pick 31 (.t 27) (.t 30) (.c (.bool false))⟩,
    ⟨none, .mov 32 (.t 31)⟩,
    ⟨some (32, false), .mov 33 (.t 5)⟩,
    ⟨some (32, false), .bin 34 .or (.t 33) (.c (.int .u32 2147483648))⟩,
    ⟨some (32, false), .call (some 35) 19 [(.t 34)]⟩,
    ⟨some (32, false), .mov 36 (.t 7)⟩,
    ⟨some (32, false), .bin 37 .or (.t 36) (.c (.int .u64 9223372036854775808))⟩,
    ⟨some (32, false), .bin 38 .neq (.t 35) (.t 37)⟩,
    ⟨none, .pick 39 (.t 32) (.c (.bool true)) (.t 38)⟩] []) ir_law2_CastWide_4) ir_law2_CastWide_9)
noncomputable def ir_law2_CastWide_11 : IR := (.seq (.reg [⟨none, .mov 20 (.t 5)⟩,
    ⟨none, .call (some 21) 19 [(.t 20)]⟩,
    ⟨none, .mov 22 (.t 6)⟩,
    ⟨none, .call (some 23) 19 [(.t 22)]⟩,
    ⟨none, .mov 7 (.t 21)⟩,
    ⟨none, .mov 8 (.t 23)⟩] []) ir_law2_CastWide_10)
noncomputable def ir_law2_CastWide_12 : IR := (.seq (.seq (.reg [⟨none, .mov 15 (.t 5)⟩,
    ⟨none, .mov 16 (.t 6)⟩,
    ⟨none, .bin 17 .gtr (.t 15) (.t 16)⟩] []) ir_law2_CastWide_2) ir_law2_CastWide_11)
noncomputable def ir_law2_CastWide_13 : IR := (.seq (.reg [⟨none, .mov 11 (.t 0)⟩,
    ⟨none, .bin 12 .and (.t 11) (.c (.int .u32 2147483647))⟩,
    ⟨none, .mov 13 (.t 1)⟩,
    ⟨none, .bin 14 .and (.t 13) (.c (.int .u32 2147483647))⟩,
    ⟨none, .mov 5 (.t 12)⟩,
    ⟨none, .mov 6 (.t 14)⟩] []) ir_law2_CastWide_12)
noncomputable def ir_law2_CastWide_14 : IR := (.seq (.seq (.reg [⟨none, .call (some 9) 14 []⟩,
    ⟨none, .un 10 .not (.t 9)⟩] []) ir_law2_CastWide_1) ir_law2_CastWide_13)
noncomputable def ir_law2_CastWide : IR := (.seq (.reg [⟨none, .mov 4 (.c (.bool false))⟩] []) ir_law2_CastWide_14)
noncomputable def rs_law2_CastWide : List RV := [.t 4]
theorem chk_law2_CastWide : (chkCode Try.prog [] 0 ir_law2_CastWide (Try.f8.body.getD .skip) && chkRes Try.prog rs_law2_CastWide Try.f8.results.toList) = true := by kernel_rfl
theorem body_law2_CastWide : Try.f8.body = some (Try.f8.body.getD .skip) := by kernel_rfl
/-- proclitic/procliticlaw2.CastWide -/
noncomputable def sa_law2_CastWide (N : Nat) (p0 : Int) (p1 : Int)  : Option (V × List AObj) :=
  let x1 : Int := (bitsI .and .u32 p0 2147483647)
  let x2 : Int := (bitsI .and .u32 p1 2147483647)
  cond (decide (x2 < x1)) (
    cond (decide (x2 < x1)) (
      let x3 : Bool := decide ((widenR x1) ≤ (widenR x2))
      cond x3 (
        some (.bool false, [])) (
        let x4 : Int := (bitsI .or .u32 x2 2147483648)
        let x5 : Int := (bitsI .or .u64 (widenR x2) 9223372036854775808)
        cond (!((widenR x4) == x5)) (
          some (.bool false, [])) (
          let x6 : Bool := ((shrI .u32 x1 23) == 255)
          cond x6 (
            let x7 : Int := (shrI .u64 (widenR x1) 52)
            cond (x7 == 2047) (
              let x8 : Int := (shlI .u64 (widenR x1) 12)
              let x9 : Int := (shrI .u32 (shlI .u32 x1 9) 9)
              let x10 : Bool := ((shrI .u64 x8 41) == (IntKind.wrap .u64 x9))
              cond x10 (
                let x11 : Int := (shlI .u64 (widenR x1) 35)
                some (.bool (x11 == 0), [])) (
                some (.bool false, []))) (
              some (.bool false, []))) (
            let x12 : Int := (shrI .u64 (widenR x1) 52)
            let x13 : Bool := (cond (decide (x12 < 2047)) true false)
            some (.bool x13, []))))) (
      let x14 : Int := (bitsI .or .u32 x2 2147483648)
      let x15 : Int := (bitsI .or .u64 (widenR x2) 9223372036854775808)
      cond (!((widenR x14) == x15)) (
        some (.bool false, [])) (
        let x16 : Bool := ((shrI .u32 x1 23) == 255)
        cond x16 (
          let x17 : Int := (shrI .u64 (widenR x1) 52)
          cond (x17 == 2047) (
            let x18 : Int := (shlI .u64 (widenR x1) 12)
            let x19 : Int := (shrI .u32 (shlI .u32 x1 9) 9)
            let x20 : Bool := ((shrI .u64 x18 41) == (IntKind.wrap .u64 x19))
            cond x20 (
              let x21 : Int := (shlI .u64 (widenR x1) 35)
              some (.bool (x21 == 0), [])) (
              some (.bool false, []))) (
            some (.bool false, []))) (
          let x22 : Int := (shrI .u64 (widenR x1) 52)
          let x23 : Bool := (cond (decide (x22 < 2047)) true false)
          some (.bool x23, []))))) (
    cond (decide (x1 < x2)) (
      let x24 : Bool := decide ((widenR x2) ≤ (widenR x1))
      cond x24 (
        some (.bool false, [])) (
        let x25 : Int := (bitsI .or .u32 x1 2147483648)
        let x26 : Int := (bitsI .or .u64 (widenR x1) 9223372036854775808)
        cond (!((widenR x25) == x26)) (
          some (.bool false, [])) (
          let x27 : Bool := ((shrI .u32 x2 23) == 255)
          cond x27 (
            let x28 : Int := (shrI .u64 (widenR x2) 52)
            cond (x28 == 2047) (
              let x29 : Int := (shlI .u64 (widenR x2) 12)
              let x30 : Int := (shrI .u32 (shlI .u32 x2 9) 9)
              let x31 : Bool := ((shrI .u64 x29 41) == (IntKind.wrap .u64 x30))
              cond x31 (
                let x32 : Int := (shlI .u64 (widenR x2) 35)
                some (.bool (x32 == 0), [])) (
                some (.bool false, []))) (
              some (.bool false, []))) (
            let x33 : Int := (shrI .u64 (widenR x2) 52)
            let x34 : Bool := (cond (decide (x33 < 2047)) true false)
            some (.bool x34, []))))) (
      let x35 : Int := (bitsI .or .u32 x1 2147483648)
      let x36 : Int := (bitsI .or .u64 (widenR x1) 9223372036854775808)
      cond (!((widenR x35) == x36)) (
        some (.bool false, [])) (
        let x37 : Bool := ((shrI .u32 x2 23) == 255)
        cond x37 (
          let x38 : Int := (shrI .u64 (widenR x2) 52)
          cond (x38 == 2047) (
            let x39 : Int := (shlI .u64 (widenR x2) 12)
            let x40 : Int := (shrI .u32 (shlI .u32 x2 9) 9)
            let x41 : Bool := ((shrI .u64 x39 41) == (IntKind.wrap .u64 x40))
            cond x41 (
              let x42 : Int := (shlI .u64 (widenR x2) 35)
              some (.bool (x42 == 0), [])) (
              some (.bool false, []))) (
            some (.bool false, []))) (
          let x43 : Int := (shrI .u64 (widenR x2) 52)
          let x44 : Bool := (cond (decide (x43 < 2047)) true false)
          some (.bool x44, [])))))
noncomputable def sh_law2_CastWide (N : Nat) (p0 : Int) (p1 : Int) : Option (V × List AObj) := sa_law2_CastWide N p0 p1
theorem run_law2_CastWide (N : Nat) (p0 : Int) (p1 : Int) : callF Γ_law2_CastWide N 66 rs_law2_CastWide ir_law2_CastWide [.int .u32 p0, .int .u32 p1] [] = sh_law2_CastWide N p0 p1 := by kernel_rfl
theorem ok_law2_CastWide (hΓ : SpecOK Try.prog Γ_law2_CastWide) (N : Nat) (p0 : Int) (p1 : Int) {v : V} {hp : List AObj} (h : sh_law2_CastWide N p0 p1 = some (v, hp)) : PureOK Try.prog i_law2_CastWide [.int .u32 p0, .int .u32 p1] v := by
  have hc := chk_law2_CastWide
  simp only [Bool.and_eq_true] at hc
  exact ⟨hp, fnOK_of hΓ pureS_law2_CastWide Try.func8 body_law2_CastWide hc.1 hc.2 (by decide) ((run_law2_CastWide N p0 p1).trans h)⟩

end Go.Proofs.Ytmiclamhiohemaa
