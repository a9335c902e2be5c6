/-
  The plain functions that runs of the code are: written by wip/gen/gen.py.
-/
import Derived.Test.YtmiclamhiohemaaAmLaw
import Derived.Test.YtmiclamhiohemaaAmOne
import Derived.Test.YtmiclamhiohemaaGlSpec
import Derived.Test.YtmiclamhiohemaaGlCode
import Derived.Test.YtmiclamhiohemaaLbB
import Derived.Test.YtmiclamhiohemaaChecked
import Derived.KernelRfl
namespace Go.Proofs.Ytmiclamhiohemaa
open Go.AM
set_option autoImplicit false
set_option linter.unusedVariables false
set_option maxRecDepth 100000
abbrev i_law3_GlyphGo : FuncId := 10
abbrev i_law3_GlyphUnits : FuncId := 12
def G_law3_GlyphGo : Nat → List V → Option (Bool × V) := fun f vs => match f, vs with
  | 26, [] => some (true, .bool true)
  | 29, [.str a0] => some (true, .bool (validG a0))
  | 33, [.int .u32 a0] => some (true, .str (putG a0))
  | _, _ => none
def Γ_law3_GlyphGo : ASpec := liftG G_law3_GlyphGo
theorem pureS_law3_GlyphGo : PureS Γ_law3_GlyphGo [] := liftG_pure _ _
theorem spec_law3_GlyphGo (h_law3_begun : PureOK Try.prog i_law3_begun [] (.bool true)) (h_glyph_Valid : ∀ (a0 : List UInt8), PureOK Try.prog i_glyph_Valid [.str a0] (.bool (validG a0))) (h_glyph_Put : ∀ (a0 : Int), PureOK Try.prog i_glyph_Put [.int .u32 a0] (.str (putG a0))) : SpecOK Try.prog Γ_law3_GlyphGo := by
  intro f vs hp v hp' h0
  obtain ⟨h, he⟩ := liftG_inv h0
  subst he
  unfold G_law3_GlyphGo at h
  split at h
  · simp only [Option.some.injEq, Prod.mk.injEq] at h
    obtain ⟨hc, rfl⟩ := h
    exact (h_law3_begun ).frame rfl rfl _
  · simp only [Option.some.injEq, Prod.mk.injEq] at h
    obtain ⟨hc, rfl⟩ := h
    exact (h_glyph_Valid _).frame rfl rfl _
  · simp only [Option.some.injEq, Prod.mk.injEq] at h
    obtain ⟨hc, rfl⟩ := h
    exact (h_glyph_Put _).frame rfl rfl _
  · simp at h
def ir_law3_GlyphGo_0 : IR := .ret
def ir_law3_GlyphGo_1 : IR := (.cond (.t 7) (.seq (.reg [⟨none, .mov 4 (.c (.bool false))⟩] []) ir_law3_GlyphGo_0) .skip)
def ir_law3_GlyphGo_2 : IR := .ret
def ir_law3_GlyphGo_3 : IR := (.cond (.t 10) (.seq (.reg [⟨none, .mov 4 (.c (.bool true))⟩] []) ir_law3_GlyphGo_2) .skip)
def ir_law3_GlyphGo_4 : IR := (.cond (.t 12) (.reg [⟨none, .mov 13 (.t 1)⟩,
    ⟨none, .cvi 14 .i32 (.t 13)⟩,
    ⟨none, .i2s 15 (.t 14)⟩,
    ⟨none, .mov 5 (.t 15)⟩] []) .skip)
def ir_law3_GlyphGo_5 : IR := .ret
def ir_law3_GlyphGo_6 : IR := (.seq (.reg [⟨none, .mov 16 (.t 0)⟩,
    ⟨none, .call (some 17) 29 [(.t 16)]⟩,
    ⟨none, .mov 18 (.t 0)⟩,
    ⟨none, .s2r 19 (.t 18)⟩,
    ⟨none, .r2s 20 (.t 19)⟩,
    ⟨none, .mov 21 (.t 0)⟩,
    ⟨none, .bin 22 .eql (.t 20) (.t 21)⟩,
    ⟨none, .beq 23 false (.t 17) (.t 22)⟩,
    ⟨none, .mov 24 (.t 23)⟩,
    ⟨some (24, true), .mov 25 (.t 1)⟩,
    ⟨some (24, true), .call (some 26) 33 [(.t 25)]⟩,
    ⟨some (24, true), .mov 27 (.t 5)⟩,
    ⟨some (24, true), .bin 28 .eql (.t 26) (.t 27)⟩,
    ⟨none, .pick 29 (.t 24) (.t 28) (.c (.bool false))⟩,
    ⟨none, .mov 4 (.t 29)⟩] [[], [0], [], [2], [2, 3], [], [2, 3, 4, 5], [0, 1, 2, 3, 4, 5, 6], [0, 1, 2, 3, 4, 5, 6, 7], [0, 1, 2, 3, 4, 5, 6, 7, 8], [0, 1, 2, 3, 4, 5, 6, 7, 8, 9], [0, 1, 2, 3, 4, 5, 6, 7, 8], [0, 1, 2, 3, 4, 5, 6, 7, 8, 9, 10, 11], [0, 1, 2, 3, 4, 5, 6, 7, 8, 9, 10, 11, 12], [0, 1, 2, 3, 4, 5, 6, 7, 8, 9, 10, 11, 12, 13]]) ir_law3_GlyphGo_5)
def ir_law3_GlyphGo_7 : IR := (.seq (.seq (.reg [⟨none, .mov 11 (.t 1)⟩,
    ⟨none, .bin 12 .leq (.t 11) (.c (.int .u32 1114111))⟩] []) ir_law3_GlyphGo_4) ir_law3_GlyphGo_6)
def ir_law3_GlyphGo_8 : IR := (.seq (.reg [⟨none, .mov 5 (.c (.str ([239, 191, 189] : List UInt8)))⟩] []) ir_law3_GlyphGo_7)
def ir_law3_GlyphGo_9 : IR := (.seq (.seq (.reg [⟨none, .mov 8 (.t 0)⟩,
    ⟨none, .lens 9 (.t 8)⟩,
    ⟨none, .bin 10 .gtr (.t 9) (.c (.int .i64 60))⟩] []) ir_law3_GlyphGo_3) ir_law3_GlyphGo_8)
def ir_law3_GlyphGo_10 : IR := (.seq (.seq (.reg [⟨none, .call (some 6) 26 []⟩,
    ⟨none, .un 7 .not (.t 6)⟩] []) ir_law3_GlyphGo_1) ir_law3_GlyphGo_9)
def ir_law3_GlyphGo : IR := (.seq (.reg [⟨none, .mov 4 (.c (.bool false))⟩] []) ir_law3_GlyphGo_10)
def rs_law3_GlyphGo : List RV := [.t 4]
theorem chk_law3_GlyphGo : (chkCode Try.prog [] 0 ir_law3_GlyphGo (Try.f10.body.getD .skip) && chkRes Try.prog rs_law3_GlyphGo Try.f10.results.toList) = true := by kernel_rfl
theorem body_law3_GlyphGo : Try.f10.body = some (Try.f10.body.getD .skip) := by kernel_rfl
/-- proclitic/procliticlaw3.GlyphGo -/
def sa_law3_GlyphGo (N : Nat) (p0 : List UInt8) (p1 : Int)  : Option (V × List AObj) :=
  let x1 : Int := (↑(List.length p0) : Int)
  cond (decide (60 < x1)) (
    some (.bool true, [])) (
    cond (decide (p1 ≤ 1114111)) (
      let x2 : List UInt8 := (utf8 (IntKind.wrap .i32 p1))
      chk (decide (List.length (runesOf p0) ≤ 70368744177664)) (
        chk (decide (List.length (runesOf p0) ≤ 140737488355328)) (
          let x3 : Bool := decide ((utf8s (runesOf p0)) = p0)
          cond ((validG p0) == x3) (
            some (.bool (decide ((putG p1) = x2)), [])) (
            some (.bool false, []))))) (
      chk (decide (List.length (runesOf p0) ≤ 70368744177664)) (
        chk (decide (List.length (runesOf p0) ≤ 140737488355328)) (
          let x4 : Bool := decide ((utf8s (runesOf p0)) = p0)
          cond ((validG p0) == x4) (
            let x5 : Bool := decide ((putG p1) = ([239, 191, 189] : List UInt8))
            some (.bool x5, [])) (
            some (.bool false, []))))))
def sh_law3_GlyphGo (N : Nat) (p0 : List UInt8) (p1 : Int) : Option (V × List AObj) := sa_law3_GlyphGo N p0 p1
theorem run_law3_GlyphGo (N : Nat) (p0 : List UInt8) (p1 : Int) : callF Γ_law3_GlyphGo N 30 rs_law3_GlyphGo ir_law3_GlyphGo [.str p0, .int .u32 p1] [] = sh_law3_GlyphGo N p0 p1 := by kernel_rfl
theorem ok_law3_GlyphGo (hΓ : SpecOK Try.prog Γ_law3_GlyphGo) (N : Nat) (p0 : List UInt8) (p1 : Int) {v : V} {hp : List AObj} (h : sh_law3_GlyphGo N p0 p1 = some (v, hp)) : PureOK Try.prog i_law3_GlyphGo [.str p0, .int .u32 p1] v := by
  have hc := chk_law3_GlyphGo
  simp only [Bool.and_eq_true] at hc
  exact ⟨hp, fnOK_of hΓ pureS_law3_GlyphGo Try.func10 body_law3_GlyphGo hc.1 hc.2 (by decide) ((run_law3_GlyphGo N p0 p1).trans h)⟩

def G_law3_GlyphUnits : Nat → List V → Option (Bool × V) := fun f vs => match f, vs with
  | 26, [] => some (true, .bool true)
  | 27, [.str a0] => some (decide (List.length a0 ≤ 1000), .tup [.str (unqT a0), .int .i64 (unqC a0), .int .i64 (unqE a0)])
  | _, _ => none
def Γ_law3_GlyphUnits : ASpec := liftG G_law3_GlyphUnits
theorem pureS_law3_GlyphUnits : PureS Γ_law3_GlyphUnits [] := liftG_pure _ _
theorem spec_law3_GlyphUnits (h_law3_begun : PureOK Try.prog i_law3_begun [] (.bool true)) (h_glyph_Unquote : ∀ (a0 : List UInt8), (decide (List.length a0 ≤ 1000)) = true → PureOK Try.prog i_glyph_Unquote [.str a0] (.tup [.str (unqT a0), .int .i64 (unqC a0), .int .i64 (unqE a0)])) : SpecOK Try.prog Γ_law3_GlyphUnits := by
  intro f vs hp v hp' h0
  obtain ⟨h, he⟩ := liftG_inv h0
  subst he
  unfold G_law3_GlyphUnits at h
  split at h
  · simp only [Option.some.injEq, Prod.mk.injEq] at h
    obtain ⟨hc, rfl⟩ := h
    exact (h_law3_begun ).frame rfl rfl _
  · simp only [Option.some.injEq, Prod.mk.injEq] at h
    obtain ⟨hc, rfl⟩ := h
    exact (h_glyph_Unquote _ hc).frame rfl rfl _
  · simp at h
def ir_law3_GlyphUnits_0 : IR := .ret
def ir_law3_GlyphUnits_1 : IR := (.cond (.t 16) (.seq (.reg [⟨none, .mov 4 (.c (.bool false))⟩] []) ir_law3_GlyphUnits_0) .skip)
def ir_law3_GlyphUnits_2 : IR := (.cond (.t 24) (.reg [⟨none, .mov 5 (.c (.int .u32 65533))⟩] []) .skip)
def ir_law3_GlyphUnits_3 : IR := (.cond (.t 25) (.reg [⟨none, .mov 6 (.c (.str ([48, 49, 50, 51, 52, 53, 54, 55, 56, 57, 65, 66, 67, 68, 69, 70] : List UInt8)))⟩] []) .skip)
def ir_law3_GlyphUnits_4 : IR := (.cond (.t 29) (.reg [⟨none, .mov 30 (.t 5)⟩,
    ⟨none, .bin 31 .sub (.t 30) (.c (.int .u32 65536))⟩,
    ⟨none, .bin 32 .quo (.t 31) (.c (.int .u32 1024))⟩,
    ⟨none, .bin 33 .add (.c (.int .u32 55296)) (.t 32)⟩,
    ⟨none, .mov 34 (.t 5)⟩,
    ⟨none, .bin 35 .sub (.t 34) (.c (.int .u32 65536))⟩,
    ⟨none, .bin 36 .rem (.t 35) (.c (.int .u32 1024))⟩,
    ⟨none, .bin 37 .add (.c (.int .u32 56320)) (.t 36)⟩,
    ⟨none, .bsl 38 (.num .u32) [(.t 33), (.t 37)]⟩,
    ⟨none, .mov 7 (.t 38)⟩] []) .skip)
def ir_law3_GlyphUnits_5 : IR := (.cond (.t 42) .skip (.exit 0))
def ir_law3_GlyphUnits_6 : IR := (.cond (.t 48) .skip (.exit 2))
def ir_law3_GlyphUnits_7 : IR := (.reg [⟨none, .mov 58 (.t 8)⟩,
    ⟨none, .mov 59 (.t 6)⟩,
    ⟨none, .mov 60 (.t 11)⟩,
    ⟨none, .mov 61 (.t 11)⟩,
    ⟨none, .bin 62 .add (.t 61) (.c (.int .u32 1))⟩,
    ⟨none, .subs 63 (.t 59) (some (.t 60)) (some (.t 62))⟩,
    ⟨none, .bin 64 .add (.t 58) (.t 63)⟩,
    ⟨none, .mov 8 (.t 64)⟩] [])
def ir_law3_GlyphUnits_8 : IR := (.reg [⟨none, .mov 49 (.t 10)⟩,
    ⟨none, .bin 50 .sub (.t 49) (.c (.int .i64 4))⟩,
    ⟨none, .mov 10 (.t 50)⟩] [])
def ir_law3_GlyphUnits_9 : IR := (.seq (.block 3 (.seq (.reg [⟨none, .mov 51 (.t 7)⟩,
    ⟨none, .mov 52 (.t 9)⟩,
    ⟨none, .ixa 53 (.num .u32) (.t 51) (.t 52)⟩,
    ⟨none, .ld 54 1 false false (.t 53)⟩,
    ⟨none, .mov 55 (.t 10)⟩,
    ⟨none, .bin 56 .shr (.t 54) (.t 55)⟩,
    ⟨none, .bin 57 .and (.t 56) (.c (.int .u32 15))⟩,
    ⟨none, .mov 11 (.t 57)⟩] []) ir_law3_GlyphUnits_7)) ir_law3_GlyphUnits_8)
def ir_law3_GlyphUnits_10 : IR := (.seq (.seq (.reg [⟨none, .mov 47 (.t 10)⟩,
    ⟨none, .bin 48 .geq (.t 47) (.c (.int .i64 0))⟩] []) ir_law3_GlyphUnits_6) ir_law3_GlyphUnits_9)
def ir_law3_GlyphUnits_11 : IR := (.block 2 (.loop [5, 6, 7, 8, 9, 10] 0 ir_law3_GlyphUnits_10))
def ir_law3_GlyphUnits_12 : IR := (.seq (.reg [⟨none, .mov 10 (.c (.int .i64 12))⟩] []) ir_law3_GlyphUnits_11)
def ir_law3_GlyphUnits_13 : IR := (.reg [⟨none, .mov 43 (.t 9)⟩,
    ⟨none, .bin 44 .add (.t 43) (.c (.int .i64 1))⟩,
    ⟨none, .mov 9 (.t 44)⟩] [])
def ir_law3_GlyphUnits_14 : IR := (.seq (.block 1 (.seq (.reg [⟨none, .mov 45 (.t 8)⟩,
    ⟨none, .bin 46 .add (.t 45) (.c (.str ([92, 117] : List UInt8)))⟩,
    ⟨none, .mov 8 (.t 46)⟩] []) ir_law3_GlyphUnits_12)) ir_law3_GlyphUnits_13)
def ir_law3_GlyphUnits_15 : IR := (.seq (.seq (.reg [⟨none, .mov 39 (.t 9)⟩,
    ⟨none, .mov 40 (.t 7)⟩,
    ⟨none, .lenl 41 (.t 40)⟩,
    ⟨none, .bin 42 .lss (.t 39) (.t 41)⟩] []) ir_law3_GlyphUnits_5) ir_law3_GlyphUnits_14)
def ir_law3_GlyphUnits_16 : IR := (.block 0 (.loop [5, 6, 7, 8, 9] 0 ir_law3_GlyphUnits_15))
def ir_law3_GlyphUnits_17 : IR := .ret
def ir_law3_GlyphUnits_18 : IR := (.seq (.reg [⟨none, .mov 72 (.t 14)⟩,
    ⟨none, .bin 73 .eql (.t 72) (.c (.int .i64 0))⟩,
    ⟨none, .mov 74 (.t 73)⟩,
    ⟨some (74, true), .mov 75 (.t 12)⟩,
    ⟨some (74, true), .mov 76 (.t 5)⟩,
    ⟨some (74, true), .cvi 77 .i32 (.t 76)⟩,
    ⟨some (74, true), .i2s 78 (.t 77)⟩,
    ⟨some (74, true), .bin 79 .eql (.t 75) (.t 78)⟩,
    ⟨none, .pick 80 (.t 74) (.t 79) (.c (.bool false))⟩,
    ⟨none, .mov 81 (.t 80)⟩,
    ⟨some (81, true), .mov 82 (.t 13)⟩,
    ⟨some (81, true), .mov 83 (.t 8)⟩,
    ⟨some (81, true), .lens 84 (.t 83)⟩,
    ⟨some (81, true), .bin 85 .add (.t 84) (.c (.int .i64 1))⟩,
    ⟨some (81, true), .bin 86 .eql (.t 82) (.t 85)⟩,
    ⟨none, .pick 87 (.t 81) (.t 86) (.c (.bool false))⟩,
    ⟨none, .mov 4 (.t 87)⟩] []) ir_law3_GlyphUnits_17)
def ir_law3_GlyphUnits_19 : IR := (.seq (.reg [⟨none, .mov 66 (.t 8)⟩,
    ⟨none, .bin 67 .add (.t 66) (.c (.str ([34] : List UInt8)))⟩,
    ⟨none, .call (some 68) 27 [(.t 67)]⟩,
    ⟨none, .mov 65 (.t 68)⟩,
    ⟨none, .ext 69 0 (.t 65)⟩,
    ⟨none, .ext 70 1 (.t 65)⟩,
    ⟨none, .ext 71 2 (.t 65)⟩,
    ⟨none, .mov 12 (.t 69)⟩,
    ⟨none, .mov 13 (.t 70)⟩,
    ⟨none, .mov 14 (.t 71)⟩] []) ir_law3_GlyphUnits_18)
def ir_law3_GlyphUnits_20 : IR := (.seq (.seq (.reg [⟨none, .mov 9 (.c (.int .i64 0))⟩] []) ir_law3_GlyphUnits_16) ir_law3_GlyphUnits_19)
def ir_law3_GlyphUnits_21 : IR := (.seq (.reg [⟨none, .mov 8 (.c (.str ([34] : List UInt8)))⟩] []) ir_law3_GlyphUnits_20)
def ir_law3_GlyphUnits_22 : IR := (.seq (.seq (.reg [⟨none, .mov 28 (.t 5)⟩,
    ⟨none, .bin 29 .gtr (.t 28) (.c (.int .u32 65535))⟩] []) ir_law3_GlyphUnits_4) ir_law3_GlyphUnits_21)
def ir_law3_GlyphUnits_23 : IR := (.seq (.reg [⟨none, .mov 26 (.t 5)⟩,
    ⟨none, .bsl 27 (.num .u32) [(.t 26)]⟩,
    ⟨none, .mov 7 (.t 27)⟩] []) ir_law3_GlyphUnits_22)
def ir_law3_GlyphUnits_24 : IR := (.seq (.seq (.reg [⟨none, .mov 25 (.t 1)⟩] []) ir_law3_GlyphUnits_3) ir_law3_GlyphUnits_23)
def ir_law3_GlyphUnits_25 : IR := (.seq (.reg [⟨none, .mov 6 (.c (.str ([48, 49, 50, 51, 52, 53, 54, 55, 56, 57, 97, 98, 99, 100, 101, 102] : List UInt8)))⟩] []) ir_law3_GlyphUnits_24)
def ir_law3_GlyphUnits_26 : IR := (.seq (.seq (.reg [⟨none, .mov 19 (.t 5)⟩,
    ⟨none, .bin 20 .geq (.t 19) (.c (.int .u32 55296))⟩,
    ⟨none, .mov 21 (.t 20)⟩,
    ⟨some (21, true), .mov 22 (.t 5)⟩,
    ⟨some (21, true), .bin 23 .leq (.t 22) (.c (.int .u32 57343))⟩,
    ⟨none, .pick 24 (.t 21) (.t 23) (.c (.bool false))⟩] []) ir_law3_GlyphUnits_2) ir_law3_GlyphUnits_25)
def ir_law3_GlyphUnits_27 : IR := (.seq (.reg [⟨none, .mov 17 (.t 0)⟩,
    ⟨none, .bin 18 .rem (.t 17) (.c (.int .u32 1114112))⟩,
    ⟨none, .mov 5 (.t 18)⟩] []) ir_law3_GlyphUnits_26)
def ir_law3_GlyphUnits_28 : IR := (.seq (.seq (.reg [⟨none, .call (some 15) 26 []⟩,
    ⟨none, .un 16 .not (.t 15)⟩] []) ir_law3_GlyphUnits_1) ir_law3_GlyphUnits_27)
def ir_law3_GlyphUnits : IR := (.seq (.reg [⟨none, .mov 4 (.c (.bool false))⟩] []) ir_law3_GlyphUnits_28)
def rs_law3_GlyphUnits : List RV := [.t 4]
theorem chk_law3_GlyphUnits : (chkCode Try.prog [] 0 ir_law3_GlyphUnits (Try.f12.body.getD .skip) && chkRes Try.prog rs_law3_GlyphUnits Try.f12.results.toList) = true := by kernel_rfl
theorem body_law3_GlyphUnits : Try.f12.body = some (Try.f12.body.getD .skip) := by kernel_rfl
def mk_law3_GlyphUnits_0 (x : (Int × List UInt8 × List Int × List UInt8 × Int)) : St := { env := [.undef, .undef, .undef, .undef, .undef, .int .u32 x.1, .str x.2.1, .sl (.num .u32) false x.2.2.1, .str x.2.2.2.1, .int .i64 x.2.2.2.2, .undef, .undef, .undef, .undef, .undef, .undef, .undef, .undef, .undef, .undef, .undef, .undef, .undef, .undef, .undef, .undef, .undef, .undef, .undef, .undef, .undef, .undef, .undef, .undef, .undef, .undef, .undef, .undef, .undef, .undef, .undef, .undef, .undef, .undef, .undef, .undef, .undef, .undef, .undef, .undef, .undef, .undef, .undef, .undef, .undef, .undef, .undef, .undef, .undef, .undef, .undef, .undef, .undef, .undef, .undef, .undef, .undef, .undef, .undef, .undef, .undef, .undef, .undef, .undef, .undef, .undef, .undef, .undef, .undef, .undef, .undef, .undef, .undef, .undef, .undef, .undef, .undef, .undef], hp := [] }
def mk_law3_GlyphUnits_1 (x : (Int × List UInt8 × List Int × List UInt8 × Int × Int)) : St := { env := [.undef, .undef, .undef, .undef, .undef, .int .u32 x.1, .str x.2.1, .sl (.num .u32) false x.2.2.1, .str x.2.2.2.1, .int .i64 x.2.2.2.2.1, .int .i64 x.2.2.2.2.2, .undef, .undef, .undef, .undef, .undef, .undef, .undef, .undef, .undef, .undef, .undef, .undef, .undef, .undef, .undef, .undef, .undef, .undef, .undef, .undef, .undef, .undef, .undef, .undef, .undef, .undef, .undef, .undef, .undef, .undef, .undef, .undef, .undef, .undef, .undef, .undef, .undef, .undef, .undef, .undef, .undef, .undef, .undef, .undef, .undef, .undef, .undef, .undef, .undef, .undef, .undef, .undef, .undef, .undef, .undef, .undef, .undef, .undef, .undef, .undef, .undef, .undef, .undef, .undef, .undef, .undef, .undef, .undef, .undef, .undef, .undef, .undef, .undef, .undef, .undef, .undef, .undef], hp := [] }
def F_law3_GlyphUnits_1 (N : Nat) (again0 : St → Option (V × List AObj)) : (St → Option (V × List AObj)) → St → Option (V × List AObj) := fun again1 s => run Γ_law3_GlyphUnits N ir_law3_GlyphUnits_10 (kloop again1 [5, 6, 7, 8, 9, 10] 0 (kblock 2 (kblock 1 (kseq (run Γ_law3_GlyphUnits N ir_law3_GlyphUnits_13) (kloop again0 [5, 6, 7, 8, 9] 0 (kblock 0 (kseq (run Γ_law3_GlyphUnits N ir_law3_GlyphUnits_19) (fin rs_law3_GlyphUnits)))))))) s
def B_law3_GlyphUnits_1 (N : Nat) (again0 : (Int × List UInt8 × List Int × List UInt8 × Int) → Option (V × List AObj)) (again1 : (Int × List UInt8 × List Int × List UInt8 × Int × Int) → Option (V × List AObj)) (x : (Int × List UInt8 × List Int × List UInt8 × Int × Int)) : Option (V × List AObj) :=
  let v5 : Int := x.1
  let v6 : List UInt8 := x.2.1
  let v7 : List Int := x.2.2.1
  let v8 : List UInt8 := x.2.2.2.1
  let v9 : Int := x.2.2.2.2.1
  let v10 : Int := x.2.2.2.2.2
  cond (decide (0 ≤ v10)) (
    chk ((decide (0 ≤ v9) && decide (v9 < ↑(List.length v7)))) (
      let x10 : Int := List.getD v7 (Int.toNat v9) (dflt (.num .u32))
      chk (decide (0 ≤ v10)) (
        let x11 : Int := (bitsI .and .u32 (shrI .u32 x10 v10) 15)
        let x12 : Int := (IntKind.wrap .u32 (x11 + 1))
        chk ((decide (0 ≤ x12) && decide (x12 ≤ (↑(List.length v6) : Int)) && (decide (0 ≤ x11) && decide (x11 ≤ x12)))) (
          let x13 : List UInt8 := (List.drop (Int.toNat x11) (List.take (Int.toNat x12) v6))
          chk (decide (List.length v8 + List.length x13 ≤ 9223372036854775807)) (
            let x14 : Int := (IntKind.wrap .i64 (v10 - 4))
            again1 (v5, v6, v7, (v8 ++ x13), v9, x14)))))) (
    let x15 : Int := (IntKind.wrap .i64 (v9 + 1))
    again0 (v5, v6, v7, v8, x15))
theorem FB_law3_GlyphUnits_1 (N : Nat) (again0 : St → Option (V × List AObj)) : ∀ (again1 : St → Option (V × List AObj)) (x : (Int × List UInt8 × List Int × List UInt8 × Int × Int)), F_law3_GlyphUnits_1 N again0 again1 (mk_law3_GlyphUnits_1 x) = B_law3_GlyphUnits_1 N (fun y => again0 (mk_law3_GlyphUnits_0 y)) (fun y => again1 (mk_law3_GlyphUnits_1 y)) x := by
  intro again1 x
  kernel_rfl
def F_law3_GlyphUnits_0 (N : Nat) : (St → Option (V × List AObj)) → St → Option (V × List AObj) := fun again0 s => run Γ_law3_GlyphUnits N ir_law3_GlyphUnits_15 (kloop again0 [5, 6, 7, 8, 9] 0 (kblock 0 (kseq (run Γ_law3_GlyphUnits N ir_law3_GlyphUnits_19) (fin rs_law3_GlyphUnits)))) s
def BA_law3_GlyphUnits_0 (N : Nat) (again0 : (Int × List UInt8 × List Int × List UInt8 × Int) → Option (V × List AObj)) (q1 : (Int × List UInt8 × List Int × List UInt8 × Int × Int) → Option (V × List AObj)) (x : (Int × List UInt8 × List Int × List UInt8 × Int)) : Option (V × List AObj) :=
  let v5 : Int := x.1
  let v6 : List UInt8 := x.2.1
  let v7 : List Int := x.2.2.1
  let v8 : List UInt8 := x.2.2.2.1
  let v9 : Int := x.2.2.2.2
  let x8 : Int := (↑(List.length v7) : Int)
  cond (decide (v9 < x8)) (
    chk (decide (List.length v8 + List.length ([92, 117] : List UInt8) ≤ 9223372036854775807)) (
      let x9 : List UInt8 := (v8 ++ ([92, 117] : List UInt8))
      q1 (v5, v6, v7, x9, v9, 12))) (
    chk (decide (List.length v8 + List.length ([34] : List UInt8) ≤ 9223372036854775807)) (
      let x16 : List UInt8 := (v8 ++ ([34] : List UInt8))
      chk (decide (List.length x16 ≤ 1000)) (
        cond ((unqE x16) == 0) (
          let x17 : List UInt8 := (utf8 (IntKind.wrap .i32 v5))
          let x18 : Bool := decide ((unqT x16) = x17)
          cond x18 (
            let x19 : Int := (↑(List.length v8) : Int)
            let x20 : Int := (IntKind.wrap .i64 (x19 + 1))
            some (.bool ((unqC x16) == x20), [])) (
            some (.bool false, []))) (
          some (.bool false, [])))))
def B_law3_GlyphUnits_0 (N : Nat) (again0 : (Int × List UInt8 × List Int × List UInt8 × Int) → Option (V × List AObj)) (x : (Int × List UInt8 × List Int × List UInt8 × Int)) : Option (V × List AObj) := BA_law3_GlyphUnits_0 N again0 (fun z => iterL N (B_law3_GlyphUnits_1 N again0) z) x
theorem FB_law3_GlyphUnits_0 (N : Nat) : ∀ (again0 : St → Option (V × List AObj)) (x : (Int × List UInt8 × List Int × List UInt8 × Int)), F_law3_GlyphUnits_0 N again0 (mk_law3_GlyphUnits_0 x) = B_law3_GlyphUnits_0 N (fun y => again0 (mk_law3_GlyphUnits_0 y)) x := by
  intro again0 x
  have h : F_law3_GlyphUnits_0 N again0 (mk_law3_GlyphUnits_0 x) = BA_law3_GlyphUnits_0 N (fun y => again0 (mk_law3_GlyphUnits_0 y)) (fun z => loopN N (F_law3_GlyphUnits_1 N again0) (mk_law3_GlyphUnits_1 z)) x := by kernel_rfl
  have e1 : (fun z => loopN N (F_law3_GlyphUnits_1 N again0) (mk_law3_GlyphUnits_1 z)) = (fun z => iterL N (B_law3_GlyphUnits_1 N (fun y => again0 (mk_law3_GlyphUnits_0 y))) z) := funext fun z => loop_eq (mk_law3_GlyphUnits_1) (F_law3_GlyphUnits_1 N again0) (B_law3_GlyphUnits_1 N (fun y => again0 (mk_law3_GlyphUnits_0 y))) (FB_law3_GlyphUnits_1 N again0) N z
  rw [h, e1]
  rfl
/-- proclitic/procliticlaw3.GlyphUnits -/
def sa_law3_GlyphUnits (N : Nat) (p0 : Int) (p1 : Bool) (q0 : (Int × List UInt8 × List Int × List UInt8 × Int) → Option (V × List AObj)) : Option (V × List AObj) :=
  let x1 : Bool := decide (55296 ≤ (Int.tmod p0 1114112))
  cond x1 (
    let x2 : Bool := decide ((Int.tmod p0 1114112) ≤ 57343)
    cond x2 (
      cond p1 (
        cond (decide (65535 < 65533)) (
          let x3 : Int := (IntKind.wrap .u32 (65533 - 65536))
          let x4 : Int := (IntKind.wrap .u32 (Int.tdiv x3 1024))
          let x5 : Int := (IntKind.wrap .u32 (55296 + x4))
          let x6 : Int := (IntKind.wrap .u32 (65533 - 65536))
          let x7 : Int := (IntKind.wrap .u32 (56320 + (Int.tmod x6 1024)))
          q0 (65533, ([48, 49, 50, 51, 52, 53, 54, 55, 56, 57, 65, 66, 67, 68, 69, 70] : List UInt8), ([x5, x7] : List Int), ([34] : List UInt8), 0)) (
          q0 (65533, ([48, 49, 50, 51, 52, 53, 54, 55, 56, 57, 65, 66, 67, 68, 69, 70] : List UInt8), ([65533] : List Int), ([34] : List UInt8), 0))) (
        cond (decide (65535 < 65533)) (
          let x21 : Int := (IntKind.wrap .u32 (65533 - 65536))
          let x22 : Int := (IntKind.wrap .u32 (Int.tdiv x21 1024))
          let x23 : Int := (IntKind.wrap .u32 (55296 + x22))
          let x24 : Int := (IntKind.wrap .u32 (65533 - 65536))
          let x25 : Int := (IntKind.wrap .u32 (56320 + (Int.tmod x24 1024)))
          q0 (65533, ([48, 49, 50, 51, 52, 53, 54, 55, 56, 57, 97, 98, 99, 100, 101, 102] : List UInt8), ([x23, x25] : List Int), ([34] : List UInt8), 0)) (
          q0 (65533, ([48, 49, 50, 51, 52, 53, 54, 55, 56, 57, 97, 98, 99, 100, 101, 102] : List UInt8), ([65533] : List Int), ([34] : List UInt8), 0)))) (
      cond p1 (
        let x26 : Bool := decide (65535 < (Int.tmod p0 1114112))
        cond x26 (
          let x27 : Int := (IntKind.wrap .u32 ((Int.tmod p0 1114112) - 65536))
          let x28 : Int := (IntKind.wrap .u32 (Int.tdiv x27 1024))
          let x29 : Int := (IntKind.wrap .u32 (55296 + x28))
          let x30 : Int := (IntKind.wrap .u32 ((Int.tmod p0 1114112) - 65536))
          let x31 : Int := (IntKind.wrap .u32 (56320 + (Int.tmod x30 1024)))
          q0 ((Int.tmod p0 1114112), ([48, 49, 50, 51, 52, 53, 54, 55, 56, 57, 65, 66, 67, 68, 69, 70] : List UInt8), ([x29, x31] : List Int), ([34] : List UInt8), 0)) (
          q0 ((Int.tmod p0 1114112), ([48, 49, 50, 51, 52, 53, 54, 55, 56, 57, 65, 66, 67, 68, 69, 70] : List UInt8), ([(Int.tmod p0 1114112)] : List Int), ([34] : List UInt8), 0))) (
        let x32 : Bool := decide (65535 < (Int.tmod p0 1114112))
        cond x32 (
          let x33 : Int := (IntKind.wrap .u32 ((Int.tmod p0 1114112) - 65536))
          let x34 : Int := (IntKind.wrap .u32 (Int.tdiv x33 1024))
          let x35 : Int := (IntKind.wrap .u32 (55296 + x34))
          let x36 : Int := (IntKind.wrap .u32 ((Int.tmod p0 1114112) - 65536))
          let x37 : Int := (IntKind.wrap .u32 (56320 + (Int.tmod x36 1024)))
          q0 ((Int.tmod p0 1114112), ([48, 49, 50, 51, 52, 53, 54, 55, 56, 57, 97, 98, 99, 100, 101, 102] : List UInt8), ([x35, x37] : List Int), ([34] : List UInt8), 0)) (
          q0 ((Int.tmod p0 1114112), ([48, 49, 50, 51, 52, 53, 54, 55, 56, 57, 97, 98, 99, 100, 101, 102] : List UInt8), ([(Int.tmod p0 1114112)] : List Int), ([34] : List UInt8), 0))))) (
    cond p1 (
      let x38 : Bool := decide (65535 < (Int.tmod p0 1114112))
      cond x38 (
        let x39 : Int := (IntKind.wrap .u32 ((Int.tmod p0 1114112) - 65536))
        let x40 : Int := (IntKind.wrap .u32 (Int.tdiv x39 1024))
        let x41 : Int := (IntKind.wrap .u32 (55296 + x40))
        let x42 : Int := (IntKind.wrap .u32 ((Int.tmod p0 1114112) - 65536))
        let x43 : Int := (IntKind.wrap .u32 (56320 + (Int.tmod x42 1024)))
        q0 ((Int.tmod p0 1114112), ([48, 49, 50, 51, 52, 53, 54, 55, 56, 57, 65, 66, 67, 68, 69, 70] : List UInt8), ([x41, x43] : List Int), ([34] : List UInt8), 0)) (
        q0 ((Int.tmod p0 1114112), ([48, 49, 50, 51, 52, 53, 54, 55, 56, 57, 65, 66, 67, 68, 69, 70] : List UInt8), ([(Int.tmod p0 1114112)] : List Int), ([34] : List UInt8), 0))) (
      let x44 : Bool := decide (65535 < (Int.tmod p0 1114112))
      cond x44 (
        let x45 : Int := (IntKind.wrap .u32 ((Int.tmod p0 1114112) - 65536))
        let x46 : Int := (IntKind.wrap .u32 (Int.tdiv x45 1024))
        let x47 : Int := (IntKind.wrap .u32 (55296 + x46))
        let x48 : Int := (IntKind.wrap .u32 ((Int.tmod p0 1114112) - 65536))
        let x49 : Int := (IntKind.wrap .u32 (56320 + (Int.tmod x48 1024)))
        q0 ((Int.tmod p0 1114112), ([48, 49, 50, 51, 52, 53, 54, 55, 56, 57, 97, 98, 99, 100, 101, 102] : List UInt8), ([x47, x49] : List Int), ([34] : List UInt8), 0)) (
        q0 ((Int.tmod p0 1114112), ([48, 49, 50, 51, 52, 53, 54, 55, 56, 57, 97, 98, 99, 100, 101, 102] : List UInt8), ([(Int.tmod p0 1114112)] : List Int), ([34] : List UInt8), 0))))
def sh_law3_GlyphUnits (N : Nat) (p0 : Int) (p1 : Bool) : Option (V × List AObj) := sa_law3_GlyphUnits N p0 p1 (fun z => iterL N (B_law3_GlyphUnits_0 N) z)
theorem run_law3_GlyphUnits (N : Nat) (p0 : Int) (p1 : Bool) : callF Γ_law3_GlyphUnits N 88 rs_law3_GlyphUnits ir_law3_GlyphUnits [.int .u32 p0, .bool p1] [] = sh_law3_GlyphUnits N p0 p1 := by
  have h : callF Γ_law3_GlyphUnits N 88 rs_law3_GlyphUnits ir_law3_GlyphUnits [.int .u32 p0, .bool p1] [] = sa_law3_GlyphUnits N p0 p1 (fun z => loopN N (F_law3_GlyphUnits_0 N) (mk_law3_GlyphUnits_0 z)) := by kernel_rfl
  have e0 : (fun z => loopN N (F_law3_GlyphUnits_0 N) (mk_law3_GlyphUnits_0 z)) = (fun z => iterL N (B_law3_GlyphUnits_0 N) z) := funext fun z => loop_eq (mk_law3_GlyphUnits_0) (F_law3_GlyphUnits_0 N) (B_law3_GlyphUnits_0 N) (FB_law3_GlyphUnits_0 N) N z
  rw [h, e0]
  rfl
theorem ok_law3_GlyphUnits (hΓ : SpecOK Try.prog Γ_law3_GlyphUnits) (N : Nat) (p0 : Int) (p1 : Bool) {v : V} {hp : List AObj} (h : sh_law3_GlyphUnits N p0 p1 = some (v, hp)) : PureOK Try.prog i_law3_GlyphUnits [.int .u32 p0, .bool p1] v := by
  have hc := chk_law3_GlyphUnits
  simp only [Bool.and_eq_true] at hc
  exact ⟨hp, fnOK_of hΓ pureS_law3_GlyphUnits Try.func12 body_law3_GlyphUnits hc.1 hc.2 (by decide) ((run_law3_GlyphUnits N p0 p1).trans h)⟩

end Go.Proofs.Ytmiclamhiohemaa
