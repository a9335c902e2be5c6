/-
  The plain functions that runs of the code are: written by wip/gen/gen.py.
-/
import Derived.Test.YtdpajabhmmmjoaaAmLaw
import Derived.Test.YtdpajabhmmmjoaaAmOne
import Derived.Test.YtdpajabhmmmjoaaAvSpec
import Derived.Test.YtdpajabhmmmjoaaChecked
import Derived.KernelRfl
namespace Go.Proofs.Ytdpajabhmmmjoaa
open Go.AM
set_option autoImplicit false
set_option linter.unusedVariables false
set_option maxRecDepth 100000
abbrev i_aval_Fits : FuncId := 21
abbrev i_aval_Same : FuncId := 24
abbrev i_aval_Size : FuncId := 22
abbrev i_aval_bare : FuncId := 55
abbrev i_aval_each : FuncId := 52
abbrev i_aval_each_c1 : FuncId := 82
abbrev i_aval_is : FuncId := 49
abbrev i_aval_keys : FuncId := 53
abbrev i_aval_number : FuncId := 50
abbrev i_aval_record : FuncId := 54
abbrev i_aval_text : FuncId := 51
abbrev i_glyph_Put : FuncId := 150
abbrev i_glyph_Valid : FuncId := 80
abbrev i_glyph_point : FuncId := 121
abbrev i_glyph_tail : FuncId := 163
abbrev i_law20_AvalRanges : FuncId := 6
abbrev i_law20_begun : FuncId := 19
abbrev i_slices_ContainsFunc_api_AVal_api_AVal_aval_each_c1 : FuncId := 81
abbrev i_slices_EqualFunc_api_AVal_api_AVal_api_AVal_api_AVal_aval_Same : FuncId := 57
abbrev i_slices_Equal_string_string : FuncId := 56
abbrev i_slices_IndexFunc_api_AVal_api_AVal_aval_each_c1 : FuncId := 122
def G_glyph_tail : Nat → List V → Option (Bool × V) := fun _ _ => none
def Γ_glyph_tail : ASpec := liftG G_glyph_tail
theorem pureS_glyph_tail : PureS Γ_glyph_tail [] := liftG_pure _ _
theorem spec_glyph_tail  : SpecOK Try.prog Γ_glyph_tail := by
  intro f vs hp v hp' h
  obtain ⟨h, -⟩ := liftG_inv h
  simp [G_glyph_tail] at h
def ir_glyph_tail_0 : IR := .ret
def ir_glyph_tail_1 : IR := (.seq (.reg [⟨none, .mov 5 (.t 0)⟩,
    ⟨none, .mov 6 (.t 1)⟩,
    ⟨none, .bin 7 .shr (.t 5) (.t 6)⟩,
    ⟨none, .bin 8 .and (.t 7) (.c (.int .u32 63))⟩,
    ⟨none, .bin 9 .or (.c (.int .u32 128)) (.t 8)⟩,
    ⟨none, .cvi 10 .u8 (.t 9)⟩,
    ⟨none, .mov 4 (.t 10)⟩] []) ir_glyph_tail_0)
def ir_glyph_tail : IR := (.seq (.reg [⟨none, .mov 4 (.c (.int .u8 0))⟩] []) ir_glyph_tail_1)
def rs_glyph_tail : List RV := [.t 4]
theorem chk_glyph_tail : (chkCode Try.prog [] 0 ir_glyph_tail (Try.f163.body.getD .skip) && chkRes Try.prog rs_glyph_tail Try.f163.results.toList) = true := by kernel_rfl
theorem body_glyph_tail : Try.f163.body = some (Try.f163.body.getD .skip) := by kernel_rfl
/-- proclitic/glyph.tail -/
def sa_glyph_tail (N : Nat) (p0 : Int) (p1 : Int)  : Option (V × List AObj) :=
  chk (decide (0 ≤ p1)) (
    let x1 : Int := (bitsI .and .u32 (shrI .u32 p0 p1) 63)
    let x2 : Int := (IntKind.wrap .u8 (bitsI .or .u32 128 x1))
    some (.int .u8 x2, []))
def sh_glyph_tail (N : Nat) (p0 : Int) (p1 : Int) : Option (V × List AObj) := sa_glyph_tail N p0 p1
theorem run_glyph_tail (N : Nat) (p0 : Int) (p1 : Int) : callF Γ_glyph_tail N 11 rs_glyph_tail ir_glyph_tail [.int .u32 p0, .int .i64 p1] [] = sh_glyph_tail N p0 p1 := by kernel_rfl
theorem ok_glyph_tail (hΓ : SpecOK Try.prog Γ_glyph_tail) (N : Nat) (p0 : Int) (p1 : Int) {v : V} {hp : List AObj} (h : sh_glyph_tail N p0 p1 = some (v, hp)) : PureOK Try.prog i_glyph_tail [.int .u32 p0, .int .i64 p1] v := by
  have hc := chk_glyph_tail
  simp only [Bool.and_eq_true] at hc
  exact ⟨hp, fnOK_of hΓ pureS_glyph_tail Try.func163 body_glyph_tail hc.1 hc.2 (by decide) ((run_glyph_tail N p0 p1).trans h)⟩

def G_glyph_Put (N : Nat) : Nat → List V → Option (Bool × V) := fun f vs => match f, vs with
  | 150, [.int .u32 a0] => some ((decide ((a0 : Int) = 65533) && decide (0 < N)), .str (putG a0))
  | 163, [.int .u32 a0, .int .i64 a1] => some ((decide (0 ≤ (a1 : Int)) && decide ((a1 : Int) ≤ 32)), .int .u8 (tailG a0 a1))
  | _, _ => none
def Γ_glyph_Put (N : Nat) : ASpec := liftG (G_glyph_Put N)
theorem pureS_glyph_Put (N : Nat) : PureS (Γ_glyph_Put N) [] := liftG_pure _ _
theorem spec_glyph_Put (N : Nat) (h_glyph_Put : ∀ (a0 : Int), (decide ((a0 : Int) = 65533) && decide (0 < N)) = true → PureOK Try.prog i_glyph_Put [.int .u32 a0] (.str (putG a0))) (h_glyph_tail : ∀ (a0 : Int) (a1 : Int), (decide (0 ≤ (a1 : Int)) && decide ((a1 : Int) ≤ 32)) = true → PureOK Try.prog i_glyph_tail [.int .u32 a0, .int .i64 a1] (.int .u8 (tailG a0 a1))) : SpecOK Try.prog (Γ_glyph_Put N) := by
  intro f vs hp v hp' h0
  obtain ⟨h, he⟩ := liftG_inv h0
  subst he
  unfold G_glyph_Put at h
  split at h
  · simp only [Option.some.injEq, Prod.mk.injEq] at h
    obtain ⟨hc, rfl⟩ := h
    exact (h_glyph_Put _ hc).frame rfl rfl _
  · simp only [Option.some.injEq, Prod.mk.injEq] at h
    obtain ⟨hc, rfl⟩ := h
    exact (h_glyph_tail _ _ hc).frame rfl rfl _
  · simp at h
def ir_glyph_Put_0 : IR := .ret
def ir_glyph_Put_1 : IR := .ret
def ir_glyph_Put_2 : IR := .ret
def ir_glyph_Put_3 : IR := .ret
def ir_glyph_Put_4 : IR := (.cond (.t 33) (.seq (.reg [⟨none, .mov 36 (.t 0)⟩,
    ⟨none, .bin 37 .shr (.t 36) (.c (.int .u64 12))⟩,
    ⟨none, .bin 38 .or (.c (.int .u32 224)) (.t 37)⟩,
    ⟨none, .cvi 39 .u8 (.t 38)⟩,
    ⟨none, .mov 40 (.t 0)⟩,
    ⟨none, .call (some 41) 163 [(.t 40), (.c (.int .i64 6))]⟩,
    ⟨none, .mov 42 (.t 0)⟩,
    ⟨none, .call (some 43) 163 [(.t 42), (.c (.int .i64 0))]⟩,
    ⟨none, .bsl 44 .u8 [(.t 39), (.t 41), (.t 43)]⟩,
    ⟨none, .b2s 45 (.t 44)⟩,
    ⟨none, .mov 2 (.t 45)⟩] []) ir_glyph_Put_3) .skip)
def ir_glyph_Put_5 : IR := (.cond (.t 21) (.seq (.reg [⟨none, .call (some 32) 150 [(.c (.int .u32 65533))]⟩,
    ⟨none, .mov 2 (.t 32)⟩] []) ir_glyph_Put_2) (.seq (.reg [⟨none, .mov 34 (.t 0)⟩,
    ⟨none, .bin 35 .lss (.t 34) (.c (.int .u32 65536))⟩,
    ⟨none, .mov 33 (.t 35)⟩] []) ir_glyph_Put_4))
def ir_glyph_Put_6 : IR := (.cond (.t 10) (.seq (.reg [⟨none, .mov 13 (.t 0)⟩,
    ⟨none, .bin 14 .shr (.t 13) (.c (.int .u64 6))⟩,
    ⟨none, .bin 15 .or (.c (.int .u32 192)) (.t 14)⟩,
    ⟨none, .cvi 16 .u8 (.t 15)⟩,
    ⟨none, .mov 17 (.t 0)⟩,
    ⟨none, .call (some 18) 163 [(.t 17), (.c (.int .i64 0))]⟩,
    ⟨none, .bsl 19 .u8 [(.t 16), (.t 18)]⟩,
    ⟨none, .b2s 20 (.t 19)⟩,
    ⟨none, .mov 2 (.t 20)⟩] []) ir_glyph_Put_1) (.seq (.reg [⟨none, .mov 22 (.t 0)⟩,
    ⟨none, .bin 23 .geq (.t 22) (.c (.int .u32 55296))⟩,
    ⟨none, .mov 24 (.t 23)⟩,
    ⟨some (24, true), .mov 25 (.t 0)⟩,
    ⟨some (24, true), .bin 26 .lss (.t 25) (.c (.int .u32 57344))⟩,
    ⟨none, .pick 27 (.t 24) (.t 26) (.c (.bool false))⟩,
    ⟨none, .mov 28 (.t 27)⟩,
    ⟨some (28, false), .mov 29 (.t 0)⟩,
    ⟨some (28, false), .bin 30 .gtr (.t 29) (.c (.int .u32 1114111))⟩,
    ⟨none, .pick 31 (.t 28) (.c (.bool true)) (.t 30)⟩,
    ⟨none, .mov 21 (.t 31)⟩] []) ir_glyph_Put_5))
def ir_glyph_Put_7 : IR := (.cond (.t 3) (.seq (.reg [⟨none, .mov 6 (.t 0)⟩,
    ⟨none, .cvi 7 .u8 (.t 6)⟩,
    ⟨none, .bsl 8 .u8 [(.t 7)]⟩,
    ⟨none, .b2s 9 (.t 8)⟩,
    ⟨none, .mov 2 (.t 9)⟩] []) ir_glyph_Put_0) (.seq (.reg [⟨none, .mov 11 (.t 0)⟩,
    ⟨none, .bin 12 .lss (.t 11) (.c (.int .u32 2048))⟩,
    ⟨none, .mov 10 (.t 12)⟩] []) ir_glyph_Put_6))
def ir_glyph_Put_8 : IR := .ret
def ir_glyph_Put_9 : IR := (.seq (.reg [⟨none, .mov 46 (.t 0)⟩,
    ⟨none, .bin 47 .shr (.t 46) (.c (.int .u64 18))⟩,
    ⟨none, .bin 48 .or (.c (.int .u32 240)) (.t 47)⟩,
    ⟨none, .cvi 49 .u8 (.t 48)⟩,
    ⟨none, .mov 50 (.t 0)⟩,
    ⟨none, .call (some 51) 163 [(.t 50), (.c (.int .i64 12))]⟩,
    ⟨none, .mov 52 (.t 0)⟩,
    ⟨none, .call (some 53) 163 [(.t 52), (.c (.int .i64 6))]⟩,
    ⟨none, .mov 54 (.t 0)⟩,
    ⟨none, .call (some 55) 163 [(.t 54), (.c (.int .i64 0))]⟩,
    ⟨none, .bsl 56 .u8 [(.t 49), (.t 51), (.t 53), (.t 55)]⟩,
    ⟨none, .b2s 57 (.t 56)⟩,
    ⟨none, .mov 2 (.t 57)⟩] []) ir_glyph_Put_8)
def ir_glyph_Put_10 : IR := (.seq (.block 0 (.seq (.reg [⟨none, .mov 4 (.t 0)⟩,
    ⟨none, .bin 5 .lss (.t 4) (.c (.int .u32 128))⟩,
    ⟨none, .mov 3 (.t 5)⟩] []) ir_glyph_Put_7)) ir_glyph_Put_9)
def ir_glyph_Put : IR := (.seq (.reg [⟨none, .mov 2 (.c (.str ([] : List UInt8)))⟩] []) ir_glyph_Put_10)
def rs_glyph_Put : List RV := [.t 2]
theorem chk_glyph_Put : (chkCode Try.prog [] 0 ir_glyph_Put (Try.f150.body.getD .skip) && chkRes Try.prog rs_glyph_Put Try.f150.results.toList) = true := by kernel_rfl
theorem body_glyph_Put : Try.f150.body = some (Try.f150.body.getD .skip) := by kernel_rfl
/-- proclitic/glyph.Put -/
def sa_glyph_Put (N : Nat) (p0 : Int)  : Option (V × List AObj) :=
  cond (decide (p0 < 128)) (
    some (.str ([(UInt8.ofNat (Int.toNat (IntKind.wrap .u8 p0)))] : List UInt8), [])) (
    cond (decide (p0 < 2048)) (
      let x1 : Int := (bitsI .or .u32 192 (shrI .u32 p0 6))
      chk ((decide (0 ≤ (0 : Int)) && decide ((0 : Int) ≤ 32))) (
        some (.str ([(UInt8.ofNat (Int.toNat (IntKind.wrap .u8 x1))), (UInt8.ofNat (Int.toNat (tailG p0 0)))] : List UInt8), []))) (
      cond (decide (55296 ≤ p0)) (
        cond (decide (p0 < 57344)) (
          chk ((decide ((65533 : Int) = 65533) && decide (0 < N))) (
            some (.str (putG 65533), []))) (
          cond (decide (1114111 < p0)) (
            chk ((decide ((65533 : Int) = 65533) && decide (0 < N))) (
              some (.str (putG 65533), []))) (
            cond (decide (p0 < 65536)) (
              let x2 : Int := (bitsI .or .u32 224 (shrI .u32 p0 12))
              chk ((decide (0 ≤ (6 : Int)) && decide ((6 : Int) ≤ 32))) (
                chk ((decide (0 ≤ (0 : Int)) && decide ((0 : Int) ≤ 32))) (
                  some (.str ([(UInt8.ofNat (Int.toNat (IntKind.wrap .u8 x2))), (UInt8.ofNat (Int.toNat (tailG p0 6))), (UInt8.ofNat (Int.toNat (tailG p0 0)))] : List UInt8), [])))) (
              let x3 : Int := (bitsI .or .u32 240 (shrI .u32 p0 18))
              chk ((decide (0 ≤ (12 : Int)) && decide ((12 : Int) ≤ 32))) (
                chk ((decide (0 ≤ (6 : Int)) && decide ((6 : Int) ≤ 32))) (
                  chk ((decide (0 ≤ (0 : Int)) && decide ((0 : Int) ≤ 32))) (
                    some (.str ([(UInt8.ofNat (Int.toNat (IntKind.wrap .u8 x3))), (UInt8.ofNat (Int.toNat (tailG p0 12))), (UInt8.ofNat (Int.toNat (tailG p0 6))), (UInt8.ofNat (Int.toNat (tailG p0 0)))] : List UInt8), [])))))))) (
        cond (decide (1114111 < p0)) (
          chk ((decide ((65533 : Int) = 65533) && decide (0 < N))) (
            some (.str (putG 65533), []))) (
          cond (decide (p0 < 65536)) (
            let x4 : Int := (bitsI .or .u32 224 (shrI .u32 p0 12))
            chk ((decide (0 ≤ (6 : Int)) && decide ((6 : Int) ≤ 32))) (
              chk ((decide (0 ≤ (0 : Int)) && decide ((0 : Int) ≤ 32))) (
                some (.str ([(UInt8.ofNat (Int.toNat (IntKind.wrap .u8 x4))), (UInt8.ofNat (Int.toNat (tailG p0 6))), (UInt8.ofNat (Int.toNat (tailG p0 0)))] : List UInt8), [])))) (
            let x5 : Int := (bitsI .or .u32 240 (shrI .u32 p0 18))
            chk ((decide (0 ≤ (12 : Int)) && decide ((12 : Int) ≤ 32))) (
              chk ((decide (0 ≤ (6 : Int)) && decide ((6 : Int) ≤ 32))) (
                chk ((decide (0 ≤ (0 : Int)) && decide ((0 : Int) ≤ 32))) (
                  some (.str ([(UInt8.ofNat (Int.toNat (IntKind.wrap .u8 x5))), (UInt8.ofNat (Int.toNat (tailG p0 12))), (UInt8.ofNat (Int.toNat (tailG p0 6))), (UInt8.ofNat (Int.toNat (tailG p0 0)))] : List UInt8), [])))))))))
def sh_glyph_Put (N : Nat) (p0 : Int) : Option (V × List AObj) := sa_glyph_Put N p0
theorem run_glyph_Put (N : Nat) (p0 : Int) : callF (Γ_glyph_Put N) N 58 rs_glyph_Put ir_glyph_Put [.int .u32 p0] [] = sh_glyph_Put N p0 := by kernel_rfl
theorem ok_glyph_Put (N : Nat) (hΓ : SpecOK Try.prog (Γ_glyph_Put N)) (p0 : Int) {v : V} {hp : List AObj} (h : sh_glyph_Put N p0 = some (v, hp)) : PureOK Try.prog i_glyph_Put [.int .u32 p0] v := by
  have hc := chk_glyph_Put
  simp only [Bool.and_eq_true] at hc
  exact ⟨hp, fnOK_of hΓ (pureS_glyph_Put N) Try.func150 body_glyph_Put hc.1 hc.2 (by decide) ((run_glyph_Put N p0).trans h)⟩

def G_glyph_point : Nat → List V → Option (Bool × V) := fun f vs => match f, vs with
  | 150, [.int .u32 a0] => some (true, .str (putG a0))
  | _, _ => none
def Γ_glyph_point : ASpec := liftG G_glyph_point
theorem pureS_glyph_point : PureS Γ_glyph_point [] := liftG_pure _ _
theorem spec_glyph_point (h_glyph_Put : ∀ (a0 : Int), PureOK Try.prog i_glyph_Put [.int .u32 a0] (.str (putG a0))) : SpecOK Try.prog Γ_glyph_point := by
  intro f vs hp v hp' h0
  obtain ⟨h, he⟩ := liftG_inv h0
  subst he
  unfold G_glyph_point at h
  split at h
  · simp only [Option.some.injEq, Prod.mk.injEq] at h
    obtain ⟨hc, rfl⟩ := h
    exact (h_glyph_Put _).frame rfl rfl _
  · simp at h
def ir_glyph_point_0 : IR := .ret
def ir_glyph_point_1 : IR := (.cond (.t 27) (.reg [⟨none, .mov 31 (.t 4)⟩,
    ⟨none, .bin 32 .and (.t 31) (.c (.int .u8 7))⟩,
    ⟨none, .cvi 33 .u32 (.t 32)⟩,
    ⟨none, .mov 2 (.t 33)⟩,
    ⟨none, .mov 3 (.c (.int .i64 4))⟩] []) .skip)
def ir_glyph_point_2 : IR := (.cond (.t 20) (.reg [⟨none, .mov 24 (.t 4)⟩,
    ⟨none, .bin 25 .and (.t 24) (.c (.int .u8 15))⟩,
    ⟨none, .cvi 26 .u32 (.t 25)⟩,
    ⟨none, .mov 2 (.t 26)⟩,
    ⟨none, .mov 3 (.c (.int .i64 3))⟩] []) (.seq (.reg [⟨none, .mov 28 (.t 4)⟩,
    ⟨none, .bin 29 .shr (.t 28) (.c (.int .u64 3))⟩,
    ⟨none, .bin 30 .eql (.t 29) (.c (.int .u8 30))⟩,
    ⟨none, .mov 27 (.t 30)⟩] []) ir_glyph_point_1))
def ir_glyph_point_3 : IR := (.cond (.t 13) (.reg [⟨none, .mov 17 (.t 4)⟩,
    ⟨none, .bin 18 .and (.t 17) (.c (.int .u8 31))⟩,
    ⟨none, .cvi 19 .u32 (.t 18)⟩,
    ⟨none, .mov 2 (.t 19)⟩,
    ⟨none, .mov 3 (.c (.int .i64 2))⟩] []) (.seq (.reg [⟨none, .mov 21 (.t 4)⟩,
    ⟨none, .bin 22 .shr (.t 21) (.c (.int .u64 4))⟩,
    ⟨none, .bin 23 .eql (.t 22) (.c (.int .u8 14))⟩,
    ⟨none, .mov 20 (.t 23)⟩] []) ir_glyph_point_2))
def ir_glyph_point_4 : IR := (.cond (.t 8) (.seq (.reg [⟨none, .mov 11 (.t 4)⟩,
    ⟨none, .cvi 12 .u32 (.t 11)⟩,
    ⟨none, .mov 2 (.t 12)⟩,
    ⟨none, .mov 3 (.c (.int .i64 1))⟩] []) ir_glyph_point_0) (.seq (.reg [⟨none, .mov 14 (.t 4)⟩,
    ⟨none, .bin 15 .shr (.t 14) (.c (.int .u64 5))⟩,
    ⟨none, .bin 16 .eql (.t 15) (.c (.int .u8 6))⟩,
    ⟨none, .mov 13 (.t 16)⟩] []) ir_glyph_point_3))
def ir_glyph_point_5 : IR := .ret
def ir_glyph_point_6 : IR := (.cond (.t 41) (.seq (.reg [⟨none, .mov 2 (.c (.int .u32 0))⟩,
    ⟨none, .mov 3 (.c (.int .i64 0))⟩] []) ir_glyph_point_5) .skip)
def ir_glyph_point_7 : IR := (.cond (.t 44) .skip (.exit 1))
def ir_glyph_point_8 : IR := (.reg [⟨none, .mov 45 (.t 5)⟩,
    ⟨none, .bin 46 .add (.t 45) (.c (.int .i64 1))⟩,
    ⟨none, .mov 5 (.t 46)⟩] [])
def ir_glyph_point_9 : IR := (.seq (.block 2 (.reg [⟨none, .mov 47 (.t 2)⟩,
    ⟨none, .bin 48 .shl (.t 47) (.c (.int .u64 6))⟩,
    ⟨none, .mov 49 (.t 0)⟩,
    ⟨none, .mov 50 (.t 5)⟩,
    ⟨none, .idx 51 (.t 49) (.t 50)⟩,
    ⟨none, .bin 52 .and (.t 51) (.c (.int .u8 63))⟩,
    ⟨none, .cvi 53 .u32 (.t 52)⟩,
    ⟨none, .bin 54 .or (.t 48) (.t 53)⟩,
    ⟨none, .mov 2 (.t 54)⟩] [])) ir_glyph_point_8)
def ir_glyph_point_10 : IR := (.seq (.seq (.reg [⟨none, .mov 42 (.t 5)⟩,
    ⟨none, .mov 43 (.t 3)⟩,
    ⟨none, .bin 44 .lss (.t 42) (.t 43)⟩] []) ir_glyph_point_7) ir_glyph_point_9)
def ir_glyph_point_11 : IR := (.block 1 (.loop [0, 2, 3, 5] 0 ir_glyph_point_10))
def ir_glyph_point_12 : IR := .ret
def ir_glyph_point_13 : IR := (.cond (.t 60) (.seq (.reg [⟨none, .mov 2 (.c (.int .u32 0))⟩,
    ⟨none, .mov 3 (.c (.int .i64 0))⟩] []) ir_glyph_point_12) .skip)
def ir_glyph_point_14 : IR := .ret
def ir_glyph_point_15 : IR := (.seq (.reg [⟨none, .mov 61 (.t 2)⟩,
    ⟨none, .mov 62 (.t 3)⟩,
    ⟨none, .mov 2 (.t 61)⟩,
    ⟨none, .mov 3 (.t 62)⟩] []) ir_glyph_point_14)
def ir_glyph_point_16 : IR := (.seq (.seq (.reg [⟨none, .mov 55 (.t 2)⟩,
    ⟨none, .call (some 56) 150 [(.t 55)]⟩,
    ⟨none, .mov 57 (.t 0)⟩,
    ⟨none, .mov 58 (.t 3)⟩,
    ⟨none, .subs 59 (.t 57) none (some (.t 58))⟩,
    ⟨none, .bin 60 .neq (.t 56) (.t 59)⟩] [[], [0], [], [], [2, 3], [0, 1, 2, 3, 4]]) ir_glyph_point_13) ir_glyph_point_15)
def ir_glyph_point_17 : IR := (.seq (.seq (.reg [⟨none, .mov 5 (.c (.int .i64 1))⟩] []) ir_glyph_point_11) ir_glyph_point_16)
def ir_glyph_point_18 : IR := (.seq (.seq (.reg [⟨none, .mov 34 (.t 3)⟩,
    ⟨none, .bin 35 .eql (.t 34) (.c (.int .i64 0))⟩,
    ⟨none, .mov 36 (.t 35)⟩,
    ⟨some (36, false), .mov 37 (.t 3)⟩,
    ⟨some (36, false), .mov 38 (.t 0)⟩,
    ⟨some (36, false), .lens 39 (.t 38)⟩,
    ⟨some (36, false), .bin 40 .gtr (.t 37) (.t 39)⟩,
    ⟨none, .pick 41 (.t 36) (.c (.bool true)) (.t 40)⟩] []) ir_glyph_point_6) ir_glyph_point_17)
def ir_glyph_point_19 : IR := (.seq (.block 0 (.seq (.reg [⟨none, .mov 9 (.t 4)⟩,
    ⟨none, .bin 10 .lss (.t 9) (.c (.int .u8 128))⟩,
    ⟨none, .mov 8 (.t 10)⟩] []) ir_glyph_point_4)) ir_glyph_point_18)
def ir_glyph_point_20 : IR := (.seq (.reg [⟨none, .mov 6 (.t 0)⟩,
    ⟨none, .idx 7 (.t 6) (.c (.int .i64 0))⟩,
    ⟨none, .mov 4 (.t 7)⟩] []) ir_glyph_point_19)
def ir_glyph_point : IR := (.seq (.reg [⟨none, .mov 2 (.c (.int .u32 0))⟩,
    ⟨none, .mov 3 (.c (.int .i64 0))⟩] []) ir_glyph_point_20)
def rs_glyph_point : List RV := [.t 2, .t 3]
theorem chk_glyph_point : (chkCode Try.prog [] 0 ir_glyph_point (Try.f121.body.getD .skip) && chkRes Try.prog rs_glyph_point Try.f121.results.toList) = true := by kernel_rfl
theorem body_glyph_point : Try.f121.body = some (Try.f121.body.getD .skip) := by kernel_rfl
def mk_glyph_point_0 (x : (List UInt8 × Int × Int × Int)) : St := { env := [.str x.1, .undef, .int .u32 x.2.1, .int .i64 x.2.2.1, .undef, .int .i64 x.2.2.2, .undef, .undef, .undef, .undef, .undef, .undef, .undef, .undef, .undef, .undef, .undef, .undef, .undef, .undef, .undef, .undef, .undef, .undef, .undef, .undef, .undef, .undef, .undef, .undef, .undef, .undef, .undef, .undef, .undef, .undef, .undef, .undef, .undef, .undef, .undef, .undef, .undef, .undef, .undef, .undef, .undef, .undef, .undef, .undef, .undef, .undef, .undef, .undef, .undef, .undef, .undef, .undef, .undef, .undef, .undef, .undef, .undef], hp := [] }
def F_glyph_point_0 (N : Nat) : (St → Option (V × List AObj)) → St → Option (V × List AObj) := fun again0 s => run Γ_glyph_point N ir_glyph_point_10 (kloop again0 [0, 2, 3, 5] 0 (kblock 1 (kseq (run Γ_glyph_point N ir_glyph_point_16) (fin rs_glyph_point)))) s
def B_glyph_point_0 (N : Nat) (again0 : (List UInt8 × Int × Int × Int) → Option (V × List AObj)) (x : (List UInt8 × Int × Int × Int)) : Option (V × List AObj) :=
  let v0 : List UInt8 := x.1
  let v2 : Int := x.2.1
  let v3 : Int := x.2.2.1
  let v5 : Int := x.2.2.2
  cond (decide (v5 < v3)) (
    chk ((decide (0 ≤ v5) && decide (v5 < ↑(List.length v0)))) (
      let x4 : Int := (↑(UInt8.toNat (List.getD v0 (Int.toNat v5) 0)) : Int)
      let x5 : Int := (IntKind.wrap .u32 (bitsI .and .u8 x4 63))
      let x6 : Int := (bitsI .or .u32 (shlI .u32 v2 6) x5)
      let x7 : Int := (IntKind.wrap .i64 (v5 + 1))
      again0 (v0, x6, v3, x7))) (
    chk ((decide (0 ≤ v3) && decide (v3 ≤ (↑(List.length v0) : Int)))) (
      let x8 : List UInt8 := (List.drop 0 (List.take (Int.toNat v3) v0))
      let x9 : Bool := (!decide ((putG v2) = x8))
      cond x9 (
        some (.tup [.int .u32 0, .int .i64 0], [])) (
        some (.tup [.int .u32 v2, .int .i64 v3], []))))
theorem FB_glyph_point_0 (N : Nat) : ∀ (again0 : St → Option (V × List AObj)) (x : (List UInt8 × Int × Int × Int)), F_glyph_point_0 N again0 (mk_glyph_point_0 x) = B_glyph_point_0 N (fun y => again0 (mk_glyph_point_0 y)) x := by
  intro again0 x
  kernel_rfl
/-- proclitic/glyph.point -/
def sa_glyph_point (N : Nat) (p0 : List UInt8) (q0 : (List UInt8 × Int × Int × Int) → Option (V × List AObj)) : Option (V × List AObj) :=
  chk (decide ((0 : Int) < ↑(List.length p0))) (
    let x1 : Int := (↑(UInt8.toNat (List.getD p0 (Int.toNat 0) 0)) : Int)
    cond (decide (x1 < 128)) (
      some (.tup [.int .u32 (IntKind.wrap .u32 x1), .int .i64 1], [])) (
      cond ((shrI .u8 x1 5) == 6) (
        let x2 : Int := (IntKind.wrap .u32 (bitsI .and .u8 x1 31))
        cond (2 == 0) (
          some (.tup [.int .u32 0, .int .i64 0], [])) (
          let x3 : Int := (↑(List.length p0) : Int)
          cond (decide (x3 < 2)) (
            some (.tup [.int .u32 0, .int .i64 0], [])) (
            q0 (p0, x2, 2, 1)))) (
        cond ((shrI .u8 x1 4) == 14) (
          let x10 : Int := (IntKind.wrap .u32 (bitsI .and .u8 x1 15))
          cond (3 == 0) (
            some (.tup [.int .u32 0, .int .i64 0], [])) (
            let x11 : Int := (↑(List.length p0) : Int)
            cond (decide (x11 < 3)) (
              some (.tup [.int .u32 0, .int .i64 0], [])) (
              q0 (p0, x10, 3, 1)))) (
          cond ((shrI .u8 x1 3) == 30) (
            let x12 : Int := (IntKind.wrap .u32 (bitsI .and .u8 x1 7))
            cond (4 == 0) (
              some (.tup [.int .u32 0, .int .i64 0], [])) (
              let x13 : Int := (↑(List.length p0) : Int)
              cond (decide (x13 < 4)) (
                some (.tup [.int .u32 0, .int .i64 0], [])) (
                q0 (p0, x12, 4, 1)))) (
            cond (0 == 0) (
              some (.tup [.int .u32 0, .int .i64 0], [])) (
              let x14 : Int := (↑(List.length p0) : Int)
              cond (decide (x14 < 0)) (
                some (.tup [.int .u32 0, .int .i64 0], [])) (
                q0 (p0, 0, 0, 1))))))))
def sh_glyph_point (N : Nat) (p0 : List UInt8) : Option (V × List AObj) := sa_glyph_point N p0 (fun z => iterL N (B_glyph_point_0 N) z)
theorem run_glyph_point (N : Nat) (p0 : List UInt8) : callF Γ_glyph_point N 63 rs_glyph_point ir_glyph_point [.str p0] [] = sh_glyph_point N p0 := by
  have h : callF Γ_glyph_point N 63 rs_glyph_point ir_glyph_point [.str p0] [] = sa_glyph_point N p0 (fun z => loopN N (F_glyph_point_0 N) (mk_glyph_point_0 z)) := by kernel_rfl
  have e0 : (fun z => loopN N (F_glyph_point_0 N) (mk_glyph_point_0 z)) = (fun z => iterL N (B_glyph_point_0 N) z) := funext fun z => loop_eq (mk_glyph_point_0) (F_glyph_point_0 N) (B_glyph_point_0 N) (FB_glyph_point_0 N) N z
  rw [h, e0]
  rfl
theorem ok_glyph_point (hΓ : SpecOK Try.prog Γ_glyph_point) (N : Nat) (p0 : List UInt8) {v : V} {hp : List AObj} (h : sh_glyph_point N p0 = some (v, hp)) : PureOK Try.prog i_glyph_point [.str p0] v := by
  have hc := chk_glyph_point
  simp only [Bool.and_eq_true] at hc
  exact ⟨hp, fnOK_of hΓ pureS_glyph_point Try.func121 body_glyph_point hc.1 hc.2 (by decide) ((run_glyph_point N p0).trans h)⟩

def G_glyph_Valid : Nat → List V → Option (Bool × V) := fun f vs => match f, vs with
  | 121, [.str a0] => some ((!decide (a0 = [])), .tup [.int .u32 ((pointG a0).1), .int .i64 ((pointG a0).2)])
  | _, _ => none
def Γ_glyph_Valid : ASpec := liftG G_glyph_Valid
theorem pureS_glyph_Valid : PureS Γ_glyph_Valid [] := liftG_pure _ _
theorem spec_glyph_Valid (h_glyph_point : ∀ (a0 : List UInt8), (!decide (a0 = [])) = true → PureOK Try.prog i_glyph_point [.str a0] (.tup [.int .u32 ((pointG a0).1), .int .i64 ((pointG a0).2)])) : SpecOK Try.prog Γ_glyph_Valid := by
  intro f vs hp v hp' h0
  obtain ⟨h, he⟩ := liftG_inv h0
  subst he
  unfold G_glyph_Valid at h
  split at h
  · simp only [Option.some.injEq, Prod.mk.injEq] at h
    obtain ⟨hc, rfl⟩ := h
    exact (h_glyph_point _ hc).frame rfl rfl _
  · simp at h
def ir_glyph_Valid_0 : IR := (.cond (.t 6) .skip (.exit 0))
def ir_glyph_Valid_1 : IR := .ret
def ir_glyph_Valid_2 : IR := (.cond (.t 13) (.seq (.reg [⟨none, .mov 2 (.c (.bool false))⟩] []) ir_glyph_Valid_1) .skip)
def ir_glyph_Valid_3 : IR := (.reg [⟨none, .mov 14 (.t 0)⟩,
    ⟨none, .mov 15 (.t 4)⟩,
    ⟨none, .subs 16 (.t 14) (some (.t 15)) none⟩,
    ⟨none, .mov 0 (.t 16)⟩] [])
def ir_glyph_Valid_4 : IR := (.seq (.seq (.reg [⟨none, .mov 12 (.t 4)⟩,
    ⟨none, .bin 13 .eql (.t 12) (.c (.int .i64 0))⟩] []) ir_glyph_Valid_2) ir_glyph_Valid_3)
def ir_glyph_Valid_5 : IR := (.block 1 (.seq (.reg [⟨none, .mov 8 (.t 0)⟩,
    ⟨none, .call (some 9) 121 [(.t 8)]⟩,
    ⟨none, .mov 7 (.t 9)⟩,
    ⟨none, .ext 10 0 (.t 7)⟩,
    ⟨none, .ext 11 1 (.t 7)⟩,
    ⟨none, .mov 3 (.t 10)⟩,
    ⟨none, .mov 4 (.t 11)⟩] []) ir_glyph_Valid_4))
def ir_glyph_Valid_6 : IR := (.seq (.seq (.reg [⟨none, .mov 5 (.t 0)⟩,
    ⟨none, .bin 6 .neq (.t 5) (.c (.str ([] : List UInt8)))⟩] []) ir_glyph_Valid_0) ir_glyph_Valid_5)
def ir_glyph_Valid_7 : IR := .ret
def ir_glyph_Valid_8 : IR := (.seq (.reg [⟨none, .mov 2 (.c (.bool true))⟩] []) ir_glyph_Valid_7)
def ir_glyph_Valid_9 : IR := (.seq (.block 0 (.loop [0] 0 ir_glyph_Valid_6)) ir_glyph_Valid_8)
def ir_glyph_Valid : IR := (.seq (.reg [⟨none, .mov 2 (.c (.bool false))⟩] []) ir_glyph_Valid_9)
def rs_glyph_Valid : List RV := [.t 2]
theorem chk_glyph_Valid : (chkCode Try.prog [] 0 ir_glyph_Valid (Try.f80.body.getD .skip) && chkRes Try.prog rs_glyph_Valid Try.f80.results.toList) = true := by kernel_rfl
theorem body_glyph_Valid : Try.f80.body = some (Try.f80.body.getD .skip) := by kernel_rfl
def mk_glyph_Valid_0 (x : (List UInt8)) : St := { env := [.str x, .undef, .undef, .undef, .undef, .undef, .undef, .undef, .undef, .undef, .undef, .undef, .undef, .undef, .undef, .undef, .undef], hp := [] }
def F_glyph_Valid_0 (N : Nat) : (St → Option (V × List AObj)) → St → Option (V × List AObj) := fun again0 s => run Γ_glyph_Valid N ir_glyph_Valid_6 (kloop again0 [0] 0 (kblock 0 (kseq (run Γ_glyph_Valid N ir_glyph_Valid_8) (fin rs_glyph_Valid)))) s
def B_glyph_Valid_0 (N : Nat) (again0 : (List UInt8) → Option (V × List AObj)) (x : (List UInt8)) : Option (V × List AObj) :=
  let v0 : List UInt8 := x
  let x1 : Bool := (!decide (v0 = ([] : List UInt8)))
  cond x1 (
    chk ((!decide (v0 = []))) (
      cond (((pointG v0).2) == 0) (
        some (.bool false, [])) (
        chk ((decide (0 ≤ ((pointG v0).2)) && decide (((pointG v0).2) ≤ (↑(List.length v0) : Int)))) (
          let x2 : List UInt8 := (List.drop (Int.toNat ((pointG v0).2)) (List.take (List.length v0) v0))
          again0 (x2))))) (
    some (.bool true, []))
theorem FB_glyph_Valid_0 (N : Nat) : ∀ (again0 : St → Option (V × List AObj)) (x : (List UInt8)), F_glyph_Valid_0 N again0 (mk_glyph_Valid_0 x) = B_glyph_Valid_0 N (fun y => again0 (mk_glyph_Valid_0 y)) x := by
  intro again0 x
  kernel_rfl
/-- proclitic/glyph.Valid -/
def sa_glyph_Valid (N : Nat) (p0 : List UInt8) (q0 : (List UInt8) → Option (V × List AObj)) : Option (V × List AObj) :=
  q0 (p0)
def sh_glyph_Valid (N : Nat) (p0 : List UInt8) : Option (V × List AObj) := sa_glyph_Valid N p0 (fun z => iterL N (B_glyph_Valid_0 N) z)
theorem run_glyph_Valid (N : Nat) (p0 : List UInt8) : callF Γ_glyph_Valid N 17 rs_glyph_Valid ir_glyph_Valid [.str p0] [] = sh_glyph_Valid N p0 := by
  have h : callF Γ_glyph_Valid N 17 rs_glyph_Valid ir_glyph_Valid [.str p0] [] = sa_glyph_Valid N p0 (fun z => loopN N (F_glyph_Valid_0 N) (mk_glyph_Valid_0 z)) := by kernel_rfl
  have e0 : (fun z => loopN N (F_glyph_Valid_0 N) (mk_glyph_Valid_0 z)) = (fun z => iterL N (B_glyph_Valid_0 N) z) := funext fun z => loop_eq (mk_glyph_Valid_0) (F_glyph_Valid_0 N) (B_glyph_Valid_0 N) (FB_glyph_Valid_0 N) N z
  rw [h, e0]
  rfl
theorem ok_glyph_Valid (hΓ : SpecOK Try.prog Γ_glyph_Valid) (N : Nat) (p0 : List UInt8) {v : V} {hp : List AObj} (h : sh_glyph_Valid N p0 = some (v, hp)) : PureOK Try.prog i_glyph_Valid [.str p0] v := by
  have hc := chk_glyph_Valid
  simp only [Bool.and_eq_true] at hc
  exact ⟨hp, fnOK_of hΓ pureS_glyph_Valid Try.func80 body_glyph_Valid hc.1 hc.2 (by decide) ((run_glyph_Valid N p0).trans h)⟩

def G_aval_is : Nat → List V → Option (Bool × V) := fun _ _ => none
def Γ_aval_is : ASpec := liftG G_aval_is
theorem pureS_aval_is : PureS Γ_aval_is [] := liftG_pure _ _
theorem spec_aval_is  : SpecOK Try.prog Γ_aval_is := by
  intro f vs hp v hp' h
  obtain ⟨h, -⟩ := liftG_inv h
  simp [G_aval_is] at h
def ir_aval_is_0 : IR := .ret
def ir_aval_is_1 : IR := (.seq (.reg [⟨none, .mov 5 (.t 1)⟩,
    ⟨none, .bin 6 .geq (.t 5) (.c (.int .i64 0))⟩,
    ⟨none, .mov 7 (.t 6)⟩,
    ⟨some (7, true), .mov 8 (.t 1)⟩,
    ⟨some (7, true), .fad 9 0 (.t 2)⟩,
    ⟨some (7, true), .lde 10 1 false (.t 9)⟩,
    ⟨some (7, true), .lenl 11 (.t 10)⟩,
    ⟨some (7, true), .bin 12 .lss (.t 8) (.t 11)⟩,
    ⟨none, .pick 13 (.t 7) (.t 12) (.c (.bool false))⟩,
    ⟨none, .mov 4 (.t 13)⟩] []) ir_aval_is_0)
def ir_aval_is : IR := (.seq (.reg [⟨none, .boxe 2 (.t 0)⟩,
    ⟨none, .mov 4 (.c (.bool false))⟩] []) ir_aval_is_1)
def rs_aval_is : List RV := [.t 4]
theorem chk_aval_is : (chkCode Try.prog [] 0 ir_aval_is (Try.f49.body.getD .skip) && chkRes Try.prog rs_aval_is Try.f49.results.toList) = true := by kernel_rfl
theorem body_aval_is : Try.f49.body = some (Try.f49.body.getD .skip) := by kernel_rfl
/-- proclitic/aval.is -/
def sa_aval_is (N : Nat) (p0_0 : List AType) (p1 : Int)  : Option (V × List AObj) :=
  cond (decide (0 ≤ p1)) (
    let x1 : Int := (↑(List.length p0_0) : Int)
    some (.bool (decide (p1 < x1)), [])) (
    some (.bool false, []))
def sh_aval_is (N : Nat) (p0_0 : List AType) (p1 : Int) : Option (V × List AObj) := sa_aval_is N p0_0 p1
theorem run_aval_is (N : Nat) (p0_0 : List AType) (p1 : Int) : callF Γ_aval_is N 14 rs_aval_is ir_aval_is [.agg [.sl .atype false p0_0], .int .i64 p1] [] = sh_aval_is N p0_0 p1 := by kernel_rfl
theorem ok_aval_is (hΓ : SpecOK Try.prog Γ_aval_is) (N : Nat) (p0_0 : List AType) (p1 : Int) {v : V} {hp : List AObj} (h : sh_aval_is N p0_0 p1 = some (v, hp)) : PureOK Try.prog i_aval_is [.agg [.sl .atype false p0_0], .int .i64 p1] v := by
  have hc := chk_aval_is
  simp only [Bool.and_eq_true] at hc
  exact ⟨hp, fnOK_of hΓ pureS_aval_is Try.func49 body_aval_is hc.1 hc.2 (by decide) ((run_aval_is N p0_0 p1).trans h)⟩

def G_aval_bare : Nat → List V → Option (Bool × V) := fun _ _ => none
def Γ_aval_bare : ASpec := liftG G_aval_bare
theorem pureS_aval_bare : PureS Γ_aval_bare [] := liftG_pure _ _
theorem spec_aval_bare  : SpecOK Try.prog Γ_aval_bare := by
  intro f vs hp v hp' h
  obtain ⟨h, -⟩ := liftG_inv h
  simp [G_aval_bare] at h
def ir_aval_bare_0 : IR := .ret
def ir_aval_bare_1 : IR := (.seq (.reg [⟨none, .fad 3 0 (.t 1)⟩,
    ⟨none, .lde 4 1 false (.t 3)⟩,
    ⟨none, .bin 5 .eql (.t 4) (.c (.int .u64 0))⟩,
    ⟨none, .mov 6 (.t 5)⟩,
    ⟨some (6, true), .fad 7 1 (.t 1)⟩,
    ⟨some (6, true), .lde 8 1 false (.t 7)⟩,
    ⟨some (6, true), .bin 9 .eql (.t 8) (.c (.str ([] : List UInt8)))⟩,
    ⟨none, .pick 10 (.t 6) (.t 9) (.c (.bool false))⟩,
    ⟨none, .mov 11 (.t 10)⟩,
    ⟨some (11, true), .fad 12 2 (.t 1)⟩,
    ⟨some (11, true), .lde 13 1 false (.t 12)⟩,
    ⟨some (11, true), .lenl 14 (.t 13)⟩,
    ⟨some (11, true), .bin 15 .eql (.t 14) (.c (.int .i64 0))⟩,
    ⟨none, .pick 16 (.t 11) (.t 15) (.c (.bool false))⟩,
    ⟨none, .mov 17 (.t 16)⟩,
    ⟨some (17, true), .fad 18 3 (.t 1)⟩,
    ⟨some (17, true), .lde 19 1 false (.t 18)⟩,
    ⟨some (17, true), .lenl 20 (.t 19)⟩,
    ⟨some (17, true), .bin 21 .eql (.t 20) (.c (.int .i64 0))⟩,
    ⟨none, .pick 22 (.t 17) (.t 21) (.c (.bool false))⟩,
    ⟨none, .mov 23 (.t 22)⟩,
    ⟨some (23, true), .fad 24 4 (.t 1)⟩,
    ⟨some (23, true), .lde 25 1 false (.t 24)⟩,
    ⟨some (23, true), .bin 26 .eql (.t 25) (.c (.int .i64 0))⟩,
    ⟨none, .pick 27 (.t 23) (.t 26) (.c (.bool false))⟩,
    ⟨none, .mov 2 (.t 27)⟩] []) ir_aval_bare_0)
def ir_aval_bare : IR := (.seq (.reg [⟨none, .boxe 1 (.t 0)⟩,
    ⟨none, .mov 2 (.c (.bool false))⟩] []) ir_aval_bare_1)
def rs_aval_bare : List RV := [.t 2]
theorem chk_aval_bare : (chkCode Try.prog [] 0 ir_aval_bare (Try.f55.body.getD .skip) && chkRes Try.prog rs_aval_bare Try.f55.results.toList) = true := by kernel_rfl
theorem body_aval_bare : Try.f55.body = some (Try.f55.body.getD .skip) := by kernel_rfl
/-- proclitic/aval.bare -/
def sa_aval_bare (N : Nat) (p0_0 : Int) (p0_1 : List UInt8) (p0_2 : List AVal) (p0_3 : List (List UInt8)) (p0_4 : Int)  : Option (V × List AObj) :=
  cond (p0_0 == 0) (
    let x1 : Bool := decide (p0_1 = ([] : List UInt8))
    cond x1 (
      let x2 : Int := (↑(List.length p0_2) : Int)
      cond (x2 == 0) (
        let x3 : Int := (↑(List.length p0_3) : Int)
        cond (x3 == 0) (
          some (.bool (p0_4 == 0), [])) (
          some (.bool false, []))) (
        some (.bool false, []))) (
      some (.bool false, []))) (
    some (.bool false, []))
def sh_aval_bare (N : Nat) (p0_0 : Int) (p0_1 : List UInt8) (p0_2 : List AVal) (p0_3 : List (List UInt8)) (p0_4 : Int) : Option (V × List AObj) := sa_aval_bare N p0_0 p0_1 p0_2 p0_3 p0_4
theorem run_aval_bare (N : Nat) (p0_0 : Int) (p0_1 : List UInt8) (p0_2 : List AVal) (p0_3 : List (List UInt8)) (p0_4 : Int) : callF Γ_aval_bare N 28 rs_aval_bare ir_aval_bare [.agg [.int .u64 p0_0, .str p0_1, .sl .aval false p0_2, .sl .str false p0_3, .int .i64 p0_4]] [] = sh_aval_bare N p0_0 p0_1 p0_2 p0_3 p0_4 := by kernel_rfl
theorem ok_aval_bare (hΓ : SpecOK Try.prog Γ_aval_bare) (N : Nat) (p0_0 : Int) (p0_1 : List UInt8) (p0_2 : List AVal) (p0_3 : List (List UInt8)) (p0_4 : Int) {v : V} {hp : List AObj} (h : sh_aval_bare N p0_0 p0_1 p0_2 p0_3 p0_4 = some (v, hp)) : PureOK Try.prog i_aval_bare [.agg [.int .u64 p0_0, .str p0_1, .sl .aval false p0_2, .sl .str false p0_3, .int .i64 p0_4]] v := by
  have hc := chk_aval_bare
  simp only [Bool.and_eq_true] at hc
  exact ⟨hp, fnOK_of hΓ pureS_aval_bare Try.func55 body_aval_bare hc.1 hc.2 (by decide) ((run_aval_bare N p0_0 p0_1 p0_2 p0_3 p0_4).trans h)⟩

def G_aval_number : Nat → List V → Option (Bool × V) := fun _ _ => none
def Γ_aval_number : ASpec := liftG G_aval_number
theorem pureS_aval_number : PureS Γ_aval_number [] := liftG_pure _ _
theorem spec_aval_number  : SpecOK Try.prog Γ_aval_number := by
  intro f vs hp v hp' h
  obtain ⟨h, -⟩ := liftG_inv h
  simp [G_aval_number] at h
def ir_aval_number_0 : IR := .ret
def ir_aval_number_1 : IR := .ret
def ir_aval_number_2 : IR := .ret
def ir_aval_number_3 : IR := .ret
def ir_aval_number_4 : IR := (.cond (.t 25) (.seq (.reg [⟨none, .mov 27 (.t 1)⟩,
    ⟨none, .fad 28 4 (.t 2)⟩,
    ⟨none, .lde 29 1 false (.t 28)⟩,
    ⟨none, .lenl 30 (.t 29)⟩,
    ⟨none, .cvi 31 .u64 (.t 30)⟩,
    ⟨none, .bin 32 .lss (.t 27) (.t 31)⟩,
    ⟨none, .mov 4 (.t 32)⟩] []) ir_aval_number_3) .skip)
def ir_aval_number_5 : IR := (.cond (.t 20) (.seq (.reg [⟨none, .mov 22 (.t 1)⟩,
    ⟨none, .bin 23 .shr (.t 22) (.c (.int .u64 32))⟩,
    ⟨none, .bin 24 .eql (.t 23) (.c (.int .u64 0))⟩,
    ⟨none, .mov 4 (.t 24)⟩] []) ir_aval_number_2) (.seq (.reg [⟨none, .bin 26 .eql (.t 6) (.c (.int .i64 10))⟩,
    ⟨none, .mov 25 (.t 26)⟩] []) ir_aval_number_4))
def ir_aval_number_6 : IR := (.cond (.t 11) (.seq (.reg [⟨none, .mov 13 (.t 1)⟩,
    ⟨none, .mov 14 (.t 1)⟩,
    ⟨none, .cvi 15 .u32 (.t 14)⟩,
    ⟨none, .cvi 16 .i32 (.t 15)⟩,
    ⟨none, .cvi 17 .i64 (.t 16)⟩,
    ⟨none, .cvi 18 .u64 (.t 17)⟩,
    ⟨none, .bin 19 .eql (.t 13) (.t 18)⟩,
    ⟨none, .mov 4 (.t 19)⟩] []) ir_aval_number_1) (.seq (.reg [⟨none, .bin 21 .eql (.t 6) (.c (.int .i64 5))⟩,
    ⟨none, .mov 20 (.t 21)⟩] []) ir_aval_number_5))
def ir_aval_number_7 : IR := (.cond (.t 7) (.seq (.reg [⟨none, .mov 9 (.t 1)⟩,
    ⟨none, .bin 10 .leq (.t 9) (.c (.int .u64 1))⟩,
    ⟨none, .mov 4 (.t 10)⟩] []) ir_aval_number_0) (.seq (.reg [⟨none, .bin 12 .eql (.t 6) (.c (.int .i64 3))⟩,
    ⟨none, .mov 11 (.t 12)⟩] []) ir_aval_number_6))
def ir_aval_number_8 : IR := (.block 0 (.seq (.reg [⟨none, .bin 8 .eql (.t 6) (.c (.int .i64 2))⟩,
    ⟨none, .mov 7 (.t 8)⟩] []) ir_aval_number_7))
def ir_aval_number_9 : IR := .ret
def ir_aval_number_10 : IR := (.seq (.reg [⟨none, .mov 4 (.c (.bool true))⟩] []) ir_aval_number_9)
def ir_aval_number_11 : IR := (.seq (.seq (.reg [⟨none, .fad 5 0 (.t 2)⟩,
    ⟨none, .lde 6 1 false (.t 5)⟩] []) ir_aval_number_8) ir_aval_number_10)
def ir_aval_number : IR := (.seq (.reg [⟨none, .boxe 2 (.t 0)⟩,
    ⟨none, .mov 4 (.c (.bool false))⟩] []) ir_aval_number_11)
def rs_aval_number : List RV := [.t 4]
theorem chk_aval_number : (chkCode Try.prog [] 0 ir_aval_number (Try.f50.body.getD .skip) && chkRes Try.prog rs_aval_number Try.f50.results.toList) = true := by kernel_rfl
theorem body_aval_number : Try.f50.body = some (Try.f50.body.getD .skip) := by kernel_rfl
/-- proclitic/aval.number -/
def sa_aval_number (N : Nat) (p0_0 : Int) (p0_1 : List UInt8) (p0_2 : List (List UInt8)) (p0_3 : Int) (p0_4 : List (List UInt8)) (p0_5 : Bool) (p0_6 : List UInt8) (p0_7 : Int) (p0_8 : List AField) (p0_9 : List Int) (p1 : Int)  : Option (V × List AObj) :=
  cond (p0_0 == 2) (
    some (.bool (decide (p1 ≤ 1)), [])) (
    cond (p0_0 == 3) (
      let x1 : Int := (IntKind.wrap .i32 (IntKind.wrap .u32 p1))
      let x2 : Int := (IntKind.wrap .u64 (IntKind.wrap .i64 x1))
      some (.bool (p1 == x2), [])) (
      cond (p0_0 == 5) (
        some (.bool ((shrI .u64 p1 32) == 0), [])) (
        cond (p0_0 == 10) (
          let x3 : Int := (↑(List.length p0_4) : Int)
          let x4 : Bool := decide (p1 < (IntKind.wrap .u64 x3))
          some (.bool x4, [])) (
          some (.bool true, [])))))
def sh_aval_number (N : Nat) (p0_0 : Int) (p0_1 : List UInt8) (p0_2 : List (List UInt8)) (p0_3 : Int) (p0_4 : List (List UInt8)) (p0_5 : Bool) (p0_6 : List UInt8) (p0_7 : Int) (p0_8 : List AField) (p0_9 : List Int) (p1 : Int) : Option (V × List AObj) := sa_aval_number N p0_0 p0_1 p0_2 p0_3 p0_4 p0_5 p0_6 p0_7 p0_8 p0_9 p1
theorem run_aval_number (N : Nat) (p0_0 : Int) (p0_1 : List UInt8) (p0_2 : List (List UInt8)) (p0_3 : Int) (p0_4 : List (List UInt8)) (p0_5 : Bool) (p0_6 : List UInt8) (p0_7 : Int) (p0_8 : List AField) (p0_9 : List Int) (p1 : Int) : callF Γ_aval_number N 33 rs_aval_number ir_aval_number [.agg [.int .i64 p0_0, .str p0_1, .sl .str false p0_2, .int .i64 p0_3, .sl .str false p0_4, .bool p0_5, .str p0_6, .int .i64 p0_7, .sl .afield false p0_8, .sl (.num .i64) false p0_9], .int .u64 p1] [] = sh_aval_number N p0_0 p0_1 p0_2 p0_3 p0_4 p0_5 p0_6 p0_7 p0_8 p0_9 p1 := by kernel_rfl
theorem ok_aval_number (hΓ : SpecOK Try.prog Γ_aval_number) (N : Nat) (p0_0 : Int) (p0_1 : List UInt8) (p0_2 : List (List UInt8)) (p0_3 : Int) (p0_4 : List (List UInt8)) (p0_5 : Bool) (p0_6 : List UInt8) (p0_7 : Int) (p0_8 : List AField) (p0_9 : List Int) (p1 : Int) {v : V} {hp : List AObj} (h : sh_aval_number N p0_0 p0_1 p0_2 p0_3 p0_4 p0_5 p0_6 p0_7 p0_8 p0_9 p1 = some (v, hp)) : PureOK Try.prog i_aval_number [.agg [.int .i64 p0_0, .str p0_1, .sl .str false p0_2, .int .i64 p0_3, .sl .str false p0_4, .bool p0_5, .str p0_6, .int .i64 p0_7, .sl .afield false p0_8, .sl (.num .i64) false p0_9], .int .u64 p1] v := by
  have hc := chk_aval_number
  simp only [Bool.and_eq_true] at hc
  exact ⟨hp, fnOK_of hΓ pureS_aval_number Try.func50 body_aval_number hc.1 hc.2 (by decide) ((run_aval_number N p0_0 p0_1 p0_2 p0_3 p0_4 p0_5 p0_6 p0_7 p0_8 p0_9 p1).trans h)⟩

def G_aval_text : Nat → List V → Option (Bool × V) := fun f vs => match f, vs with
  | 80, [.str a0] => some (true, .bool (validG a0))
  | _, _ => none
def Γ_aval_text : ASpec := liftG G_aval_text
theorem pureS_aval_text : PureS Γ_aval_text [] := liftG_pure _ _
theorem spec_aval_text (h_glyph_Valid : ∀ (a0 : List UInt8), PureOK Try.prog i_glyph_Valid [.str a0] (.bool (validG a0))) : SpecOK Try.prog Γ_aval_text := by
  intro f vs hp v hp' h0
  obtain ⟨h, he⟩ := liftG_inv h0
  subst he
  unfold G_aval_text at h
  split at h
  · simp only [Option.some.injEq, Prod.mk.injEq] at h
    obtain ⟨hc, rfl⟩ := h
    exact (h_glyph_Valid _).frame rfl rfl _
  · simp at h
def ir_aval_text_0 : IR := .ret
def ir_aval_text_1 : IR := .ret
def ir_aval_text_2 : IR := (.cond (.t 11) (.seq (.reg [⟨none, .mov 13 (.t 1)⟩,
    ⟨none, .lens 14 (.t 13)⟩,
    ⟨none, .fad 15 7 (.t 2)⟩,
    ⟨none, .lde 16 1 false (.t 15)⟩,
    ⟨none, .bin 17 .eql (.t 14) (.t 16)⟩,
    ⟨none, .mov 4 (.t 17)⟩] []) ir_aval_text_1) .skip)
def ir_aval_text_3 : IR := (.cond (.t 7) (.seq (.reg [⟨none, .mov 9 (.t 1)⟩,
    ⟨none, .call (some 10) 80 [(.t 9)]⟩,
    ⟨none, .mov 4 (.t 10)⟩] []) ir_aval_text_0) (.seq (.reg [⟨none, .bin 12 .eql (.t 6) (.c (.int .i64 11))⟩,
    ⟨none, .mov 11 (.t 12)⟩] []) ir_aval_text_2))
def ir_aval_text_4 : IR := (.block 0 (.seq (.reg [⟨none, .bin 8 .eql (.t 6) (.c (.int .i64 8))⟩,
    ⟨none, .mov 7 (.t 8)⟩] []) ir_aval_text_3))
def ir_aval_text_5 : IR := .ret
def ir_aval_text_6 : IR := (.seq (.reg [⟨none, .mov 4 (.c (.bool true))⟩] []) ir_aval_text_5)
def ir_aval_text_7 : IR := (.seq (.seq (.reg [⟨none, .fad 5 0 (.t 2)⟩,
    ⟨none, .lde 6 1 false (.t 5)⟩] []) ir_aval_text_4) ir_aval_text_6)
def ir_aval_text : IR := (.seq (.reg [⟨none, .boxe 2 (.t 0)⟩,
    ⟨none, .mov 4 (.c (.bool false))⟩] []) ir_aval_text_7)
def rs_aval_text : List RV := [.t 4]
theorem chk_aval_text : (chkCode Try.prog [] 0 ir_aval_text (Try.f51.body.getD .skip) && chkRes Try.prog rs_aval_text Try.f51.results.toList) = true := by kernel_rfl
theorem body_aval_text : Try.f51.body = some (Try.f51.body.getD .skip) := by kernel_rfl
/-- proclitic/aval.text -/
def sa_aval_text (N : Nat) (p0_0 : Int) (p0_1 : List UInt8) (p0_2 : List (List UInt8)) (p0_3 : Int) (p0_4 : List (List UInt8)) (p0_5 : Bool) (p0_6 : List UInt8) (p0_7 : Int) (p0_8 : List AField) (p0_9 : List Int) (p1 : List UInt8)  : Option (V × List AObj) :=
  cond (p0_0 == 8) (
    some (.bool (validG p1), [])) (
    cond (p0_0 == 11) (
      let x1 : Int := (↑(List.length p1) : Int)
      some (.bool (x1 == p0_7), [])) (
      some (.bool true, [])))
def sh_aval_text (N : Nat) (p0_0 : Int) (p0_1 : List UInt8) (p0_2 : List (List UInt8)) (p0_3 : Int) (p0_4 : List (List UInt8)) (p0_5 : Bool) (p0_6 : List UInt8) (p0_7 : Int) (p0_8 : List AField) (p0_9 : List Int) (p1 : List UInt8) : Option (V × List AObj) := sa_aval_text N p0_0 p0_1 p0_2 p0_3 p0_4 p0_5 p0_6 p0_7 p0_8 p0_9 p1
theorem run_aval_text (N : Nat) (p0_0 : Int) (p0_1 : List UInt8) (p0_2 : List (List UInt8)) (p0_3 : Int) (p0_4 : List (List UInt8)) (p0_5 : Bool) (p0_6 : List UInt8) (p0_7 : Int) (p0_8 : List AField) (p0_9 : List Int) (p1 : List UInt8) : callF Γ_aval_text N 18 rs_aval_text ir_aval_text [.agg [.int .i64 p0_0, .str p0_1, .sl .str false p0_2, .int .i64 p0_3, .sl .str false p0_4, .bool p0_5, .str p0_6, .int .i64 p0_7, .sl .afield false p0_8, .sl (.num .i64) false p0_9], .str p1] [] = sh_aval_text N p0_0 p0_1 p0_2 p0_3 p0_4 p0_5 p0_6 p0_7 p0_8 p0_9 p1 := by kernel_rfl
theorem ok_aval_text (hΓ : SpecOK Try.prog Γ_aval_text) (N : Nat) (p0_0 : Int) (p0_1 : List UInt8) (p0_2 : List (List UInt8)) (p0_3 : Int) (p0_4 : List (List UInt8)) (p0_5 : Bool) (p0_6 : List UInt8) (p0_7 : Int) (p0_8 : List AField) (p0_9 : List Int) (p1 : List UInt8) {v : V} {hp : List AObj} (h : sh_aval_text N p0_0 p0_1 p0_2 p0_3 p0_4 p0_5 p0_6 p0_7 p0_8 p0_9 p1 = some (v, hp)) : PureOK Try.prog i_aval_text [.agg [.int .i64 p0_0, .str p0_1, .sl .str false p0_2, .int .i64 p0_3, .sl .str false p0_4, .bool p0_5, .str p0_6, .int .i64 p0_7, .sl .afield false p0_8, .sl (.num .i64) false p0_9], .str p1] v := by
  have hc := chk_aval_text
  simp only [Bool.and_eq_true] at hc
  exact ⟨hp, fnOK_of hΓ pureS_aval_text Try.func51 body_aval_text hc.1 hc.2 (by decide) ((run_aval_text N p0_0 p0_1 p0_2 p0_3 p0_4 p0_5 p0_6 p0_7 p0_8 p0_9 p1).trans h)⟩

def G_aval_keys : Nat → List V → Option (Bool × V) := fun f vs => match f, vs with
  | 80, [.str a0] => some (true, .bool (validG a0))
  | _, _ => none
def Γ_aval_keys : ASpec := liftG G_aval_keys
theorem pureS_aval_keys : PureS Γ_aval_keys [] := liftG_pure _ _
theorem spec_aval_keys (h_glyph_Valid : ∀ (a0 : List UInt8), PureOK Try.prog i_glyph_Valid [.str a0] (.bool (validG a0))) : SpecOK Try.prog Γ_aval_keys := by
  intro f vs hp v hp' h0
  obtain ⟨h, he⟩ := liftG_inv h0
  subst he
  unfold G_aval_keys at h
  split at h
  · simp only [Option.some.injEq, Prod.mk.injEq] at h
    obtain ⟨hc, rfl⟩ := h
    exact (h_glyph_Valid _).frame rfl rfl _
  · simp at h
def ir_aval_keys_0 : IR := .ret
def ir_aval_keys_1 : IR := (.cond (.t 27) (.seq (.reg [⟨none, .mov 2 (.c (.bool false))⟩] []) ir_aval_keys_0) .skip)
def ir_aval_keys_2 : IR := (.seq (.reg [⟨none, .mov 12 (.t 4)⟩,
    ⟨none, .call (some 13) 80 [(.t 12)]⟩,
    ⟨none, .un 14 .not (.t 13)⟩,
    ⟨none, .mov 15 (.t 14)⟩,
    ⟨some (15, false), .mov 16 (.t 3)⟩,
    ⟨some (15, false), .bin 17 .gtr (.t 16) (.c (.int .i64 0))⟩,
    ⟨some (15, false), .mov 18 (.t 17)⟩,
    ⟨some (18, true), .mov 19 (.t 0)⟩,
    ⟨some (18, true), .mov 20 (.t 3)⟩,
    ⟨some (18, true), .bin 21 .sub (.t 20) (.c (.int .i64 1))⟩,
    ⟨some (18, true), .ixa 22 .str (.t 19) (.t 21)⟩,
    ⟨some (18, true), .lde 23 1 false (.t 22)⟩,
    ⟨some (18, true), .mov 24 (.t 4)⟩,
    ⟨some (18, true), .bin 25 .geq (.t 23) (.t 24)⟩,
    ⟨some (15, false), .pick 26 (.t 18) (.t 25) (.c (.bool false))⟩,
    ⟨none, .pick 27 (.t 15) (.c (.bool true)) (.t 26)⟩] []) ir_aval_keys_1)
def ir_aval_keys_3 : IR := (.reg [⟨none, .bin 28 .add (.t 7) (.c (.int .i64 1))⟩,
    ⟨none, .mov 7 (.t 28)⟩] [])
def ir_aval_keys_4 : IR := (.seq (.block 1 (.seq (.reg [⟨none, .mov 9 (.t 7)⟩,
    ⟨none, .ixa 10 .str (.t 5) (.t 7)⟩,
    ⟨none, .lde 11 1 false (.t 10)⟩,
    ⟨none, .mov 3 (.t 9)⟩,
    ⟨none, .mov 4 (.t 11)⟩] []) ir_aval_keys_2)) ir_aval_keys_3)
def ir_aval_keys_5 : IR := (.seq (.cond (.t 8) .skip (.exit 0)) ir_aval_keys_4)
def ir_aval_keys_6 : IR := (.seq (.reg [⟨none, .bin 8 .lss (.t 7) (.t 6)⟩] []) ir_aval_keys_5)
def ir_aval_keys_7 : IR := (.block 0 (.loop [0, 5, 6, 7] 0 ir_aval_keys_6))
def ir_aval_keys_8 : IR := .ret
def ir_aval_keys_9 : IR := (.seq (.reg [⟨none, .mov 2 (.c (.bool true))⟩] []) ir_aval_keys_8)
def ir_aval_keys_10 : IR := (.seq (.seq (.reg [⟨none, .mov 5 (.t 0)⟩,
    ⟨none, .lenl 6 (.t 5)⟩,
    ⟨none, .mov 7 (.c (.int .i64 0))⟩] []) ir_aval_keys_7) ir_aval_keys_9)
def ir_aval_keys : IR := (.seq (.reg [⟨none, .mov 2 (.c (.bool false))⟩] []) ir_aval_keys_10)
def rs_aval_keys : List RV := [.t 2]
theorem chk_aval_keys : (chkCode Try.prog [] 0 ir_aval_keys (Try.f53.body.getD .skip) && chkRes Try.prog rs_aval_keys Try.f53.results.toList) = true := by kernel_rfl
theorem body_aval_keys : Try.f53.body = some (Try.f53.body.getD .skip) := by kernel_rfl
def mk_aval_keys_0 (x : (List (List UInt8) × List (List UInt8) × Int × Int)) : St := { env := [.sl .str false x.1, .undef, .undef, .undef, .undef, .sl .str false x.2.1, .int .i64 x.2.2.1, .int .i64 x.2.2.2, .undef, .undef, .undef, .undef, .undef, .undef, .undef, .undef, .undef, .undef, .undef, .undef, .undef, .undef, .undef, .undef, .undef, .undef, .undef, .undef, .undef], hp := [] }
def F_aval_keys_0 (N : Nat) : (St → Option (V × List AObj)) → St → Option (V × List AObj) := fun again0 s => run Γ_aval_keys N ir_aval_keys_6 (kloop again0 [0, 5, 6, 7] 0 (kblock 0 (kseq (run Γ_aval_keys N ir_aval_keys_9) (fin rs_aval_keys)))) s
def B_aval_keys_0 (N : Nat) (again0 : (List (List UInt8) × List (List UInt8) × Int × Int) → Option (V × List AObj)) (x : (List (List UInt8) × List (List UInt8) × Int × Int)) : Option (V × List AObj) :=
  let v0 : List (List UInt8) := x.1
  let v5 : List (List UInt8) := x.2.1
  let v6 : Int := x.2.2.1
  let v7 : Int := x.2.2.2
  cond (decide (v7 < v6)) (
    chk ((decide (0 ≤ v7) && decide (v7 < ↑(List.length v5)))) (
      let x2 : List UInt8 := List.getD v5 (Int.toNat v7) (dflt .str)
      cond (!(validG x2)) (
        some (.bool false, [])) (
        cond (decide (0 < v7)) (
          let x3 : Int := (IntKind.wrap .i64 (v7 - 1))
          chk ((decide (0 ≤ x3) && decide (x3 < ↑(List.length v0)))) (
            let x4 : List UInt8 := List.getD v0 (Int.toNat x3) (dflt .str)
            cond (!Op.bytesLess x4 x2) (
              some (.bool false, [])) (
              let x5 : Int := (IntKind.wrap .i64 (v7 + 1))
              again0 (v0, v5, v6, x5)))) (
          let x6 : Int := (IntKind.wrap .i64 (v7 + 1))
          again0 (v0, v5, v6, x6))))) (
    some (.bool true, []))
theorem FB_aval_keys_0 (N : Nat) : ∀ (again0 : St → Option (V × List AObj)) (x : (List (List UInt8) × List (List UInt8) × Int × Int)), F_aval_keys_0 N again0 (mk_aval_keys_0 x) = B_aval_keys_0 N (fun y => again0 (mk_aval_keys_0 y)) x := by
  intro again0 x
  kernel_rfl
/-- proclitic/aval.keys -/
def sa_aval_keys (N : Nat) (p0 : List (List UInt8)) (q0 : (List (List UInt8) × List (List UInt8) × Int × Int) → Option (V × List AObj)) : Option (V × List AObj) :=
  let x1 : Int := (↑(List.length p0) : Int)
  q0 (p0, p0, x1, 0)
def sh_aval_keys (N : Nat) (p0 : List (List UInt8)) : Option (V × List AObj) := sa_aval_keys N p0 (fun z => iterL N (B_aval_keys_0 N) z)
theorem run_aval_keys (N : Nat) (p0 : List (List UInt8)) : callF Γ_aval_keys N 29 rs_aval_keys ir_aval_keys [.sl .str false p0] [] = sh_aval_keys N p0 := by
  have h : callF Γ_aval_keys N 29 rs_aval_keys ir_aval_keys [.sl .str false p0] [] = sa_aval_keys N p0 (fun z => loopN N (F_aval_keys_0 N) (mk_aval_keys_0 z)) := by kernel_rfl
  have e0 : (fun z => loopN N (F_aval_keys_0 N) (mk_aval_keys_0 z)) = (fun z => iterL N (B_aval_keys_0 N) z) := funext fun z => loop_eq (mk_aval_keys_0) (F_aval_keys_0 N) (B_aval_keys_0 N) (FB_aval_keys_0 N) N z
  rw [h, e0]
  rfl
theorem ok_aval_keys (hΓ : SpecOK Try.prog Γ_aval_keys) (N : Nat) (p0 : List (List UInt8)) {v : V} {hp : List AObj} (h : sh_aval_keys N p0 = some (v, hp)) : PureOK Try.prog i_aval_keys [.sl .str false p0] v := by
  have hc := chk_aval_keys
  simp only [Bool.and_eq_true] at hc
  exact ⟨hp, fnOK_of hΓ pureS_aval_keys Try.func53 body_aval_keys hc.1 hc.2 (by decide) ((run_aval_keys N p0).trans h)⟩

def G_aval_each (N : Nat) : Nat → List V → Option (Bool × V) := fun f vs => match f, vs with
  | 81, [.sl .aval false a0, .fn 82 [.ea [.sl .atype false a1_0_0], .ea [.int .i64 a1_1_0]]] => some (decide (1000000 ≤ N - szL a0), .bool (!eachS a1_0_0 a1_1_0 a0))
  | _, _ => none
def Γ_aval_each (N : Nat) : ASpec := liftG (G_aval_each N)
theorem pureS_aval_each (N : Nat) : PureS (Γ_aval_each N) [] := liftG_pure _ _
theorem spec_aval_each (N : Nat) (h_slices_ContainsFunc_api_AVal_api_AVal_aval_each_c1 : ∀ (a0 : List AVal) (a1_0_0 : List AType) (a1_1_0 : Int), (decide (1000000 ≤ N - szL a0)) = true → PureOK Try.prog i_slices_ContainsFunc_api_AVal_api_AVal_aval_each_c1 [.sl .aval false a0, .fn 82 [.ea [.sl .atype false a1_0_0], .ea [.int .i64 a1_1_0]]] (.bool (!eachS a1_0_0 a1_1_0 a0))) : SpecOK Try.prog (Γ_aval_each N) := by
  intro f vs hp v hp' h0
  obtain ⟨h, he⟩ := liftG_inv h0
  subst he
  unfold G_aval_each at h
  split at h
  · simp only [Option.some.injEq, Prod.mk.injEq] at h
    obtain ⟨hc, rfl⟩ := h
    exact (h_slices_ContainsFunc_api_AVal_api_AVal_aval_each_c1 _ _ _ hc).frame rfl rfl _
  · simp at h
def ir_aval_each_0 : IR := .ret
def ir_aval_each_1 : IR := (.seq (.reg [⟨none, .mov 7 (.t 2)⟩,
    ⟨none, .mkf 8 82 [(.t 3), (.t 4)]⟩,
    ⟨none, .call (some 9) 81 [(.t 7), (.t 8)]⟩,
    ⟨none, .un 10 .not (.t 9)⟩,
    ⟨none, .mov 6 (.t 10)⟩] []) ir_aval_each_0)
def ir_aval_each : IR := (.seq (.reg [⟨none, .boxe 3 (.t 0)⟩,
    ⟨none, .boxe 4 (.t 1)⟩,
    ⟨none, .mov 6 (.c (.bool false))⟩] []) ir_aval_each_1)
def rs_aval_each : List RV := [.t 6]
theorem chk_aval_each : (chkCode Try.prog [] 0 ir_aval_each (Try.f52.body.getD .skip) && chkRes Try.prog rs_aval_each Try.f52.results.toList) = true := by kernel_rfl
theorem body_aval_each : Try.f52.body = some (Try.f52.body.getD .skip) := by kernel_rfl
/-- proclitic/aval.each -/
def sa_aval_each (N : Nat) (p0_0 : List AType) (p1 : Int) (p2 : List AVal)  : Option (V × List AObj) :=
  chk (decide (1000000 ≤ N - szL p2)) (
    some (.bool (!(!eachS p0_0 p1 p2)), []))
def sh_aval_each (N : Nat) (p0_0 : List AType) (p1 : Int) (p2 : List AVal) : Option (V × List AObj) := sa_aval_each N p0_0 p1 p2
theorem run_aval_each (N : Nat) (p0_0 : List AType) (p1 : Int) (p2 : List AVal) : callF (Γ_aval_each N) N 11 rs_aval_each ir_aval_each [.agg [.sl .atype false p0_0], .int .i64 p1, .sl .aval false p2] [] = sh_aval_each N p0_0 p1 p2 := by kernel_rfl
theorem ok_aval_each (N : Nat) (hΓ : SpecOK Try.prog (Γ_aval_each N)) (p0_0 : List AType) (p1 : Int) (p2 : List AVal) {v : V} {hp : List AObj} (h : sh_aval_each N p0_0 p1 p2 = some (v, hp)) : PureOK Try.prog i_aval_each [.agg [.sl .atype false p0_0], .int .i64 p1, .sl .aval false p2] v := by
  have hc := chk_aval_each
  simp only [Bool.and_eq_true] at hc
  exact ⟨hp, fnOK_of hΓ (pureS_aval_each N) Try.func52 body_aval_each hc.1 hc.2 (by decide) ((run_aval_each N p0_0 p1 p2).trans h)⟩

def G_aval_record (N : Nat) : Nat → List V → Option (Bool × V) := fun f vs => match f, vs with
  | 21, [.agg [.sl .atype false a0_0], .int .i64 a1, .agg [.int .u64 a2_0, .str a2_1, .sl .aval false a2_2, .sl .str false a2_3, .int .i64 a2_4]] => some (decide (1000000 ≤ N - (szL a2_2 + 1)), .bool (fitsS a0_0 a1 (.mk a2_0 a2_1 a2_2 a2_3 a2_4)))
  | _, _ => none
def Γ_aval_record (N : Nat) : ASpec := liftG (G_aval_record N)
theorem pureS_aval_record (N : Nat) : PureS (Γ_aval_record N) [] := liftG_pure _ _
theorem spec_aval_record (N : Nat) (h_aval_Fits : ∀ (a0_0 : List AType) (a1 : Int) (a2_0 : Int) (a2_1 : List UInt8) (a2_2 : List AVal) (a2_3 : List (List UInt8)) (a2_4 : Int), (decide (1000000 ≤ N - (szL a2_2 + 1))) = true → PureOK Try.prog i_aval_Fits [.agg [.sl .atype false a0_0], .int .i64 a1, .agg [.int .u64 a2_0, .str a2_1, .sl .aval false a2_2, .sl .str false a2_3, .int .i64 a2_4]] (.bool (fitsS a0_0 a1 (.mk a2_0 a2_1 a2_2 a2_3 a2_4)))) : SpecOK Try.prog (Γ_aval_record N) := by
  intro f vs hp v hp' h0
  obtain ⟨h, he⟩ := liftG_inv h0
  subst he
  unfold G_aval_record at h
  split at h
  · simp only [Option.some.injEq, Prod.mk.injEq] at h
    obtain ⟨hc, rfl⟩ := h
    exact (h_aval_Fits _ _ _ _ _ _ _ hc).frame rfl rfl _
  · simp at h
def ir_aval_record_0 : IR := .ret
def ir_aval_record_1 : IR := (.cond (.t 14) (.seq (.reg [⟨none, .mov 6 (.c (.bool false))⟩] []) ir_aval_record_0) .skip)
def ir_aval_record_2 : IR := .ret
def ir_aval_record_3 : IR := (.cond (.t 31) (.seq (.reg [⟨none, .mov 6 (.c (.bool false))⟩] []) ir_aval_record_2) .skip)
def ir_aval_record_4 : IR := (.seq (.reg [⟨none, .lde 23 1 true (.t 3)⟩,
    ⟨none, .fad 24 2 (.t 8)⟩,
    ⟨none, .lde 25 1 false (.t 24)⟩,
    ⟨none, .mov 26 (.t 2)⟩,
    ⟨none, .mov 27 (.t 7)⟩,
    ⟨none, .ixa 28 .aval (.t 26) (.t 27)⟩,
    ⟨none, .lde 29 5 true (.t 28)⟩,
    ⟨none, .call (some 30) 21 [(.t 23), (.t 25), (.t 29)]⟩,
    ⟨none, .un 31 .not (.t 30)⟩] [[], [], [1], [], [], [3, 4], [3, 4, 5], [0, 1, 2, 3, 4, 5, 6], [0, 1, 2, 3, 4, 5, 6, 7]]) ir_aval_record_3)
def ir_aval_record_5 : IR := (.reg [⟨none, .bin 32 .add (.t 18) (.c (.int .i64 1))⟩,
    ⟨none, .mov 18 (.t 32)⟩] [])
def ir_aval_record_6 : IR := (.seq (.block 1 (.seq (.reg [⟨none, .mov 20 (.t 18)⟩,
    ⟨none, .ixa 21 .afield (.t 16) (.t 18)⟩,
    ⟨none, .lde 22 9 true (.t 21)⟩,
    ⟨none, .alr 8 9⟩,
    ⟨none, .mov 7 (.t 20)⟩,
    ⟨none, .frz none 8 9 (.t 22)⟩] []) ir_aval_record_4)) ir_aval_record_5)
def ir_aval_record_7 : IR := (.seq (.cond (.t 19) .skip (.exit 0)) ir_aval_record_6)
def ir_aval_record_8 : IR := (.seq (.reg [⟨none, .bin 19 .lss (.t 18) (.t 17)⟩] []) ir_aval_record_7)
def ir_aval_record_9 : IR := (.block 0 (.loop [2, 3, 16, 17, 18] 0 ir_aval_record_8))
def ir_aval_record_10 : IR := .ret
def ir_aval_record_11 : IR := (.seq (.reg [⟨none, .mov 6 (.c (.bool true))⟩] []) ir_aval_record_10)
def ir_aval_record_12 : IR := (.seq (.seq (.reg [⟨none, .fad 15 8 (.t 4)⟩,
    ⟨none, .lde 16 1 false (.t 15)⟩,
    ⟨none, .lenl 17 (.t 16)⟩,
    ⟨none, .mov 18 (.c (.int .i64 0))⟩] []) ir_aval_record_9) ir_aval_record_11)
def ir_aval_record_13 : IR := (.seq (.seq (.reg [⟨none, .mov 9 (.t 2)⟩,
    ⟨none, .lenl 10 (.t 9)⟩,
    ⟨none, .fad 11 8 (.t 4)⟩,
    ⟨none, .lde 12 1 false (.t 11)⟩,
    ⟨none, .lenl 13 (.t 12)⟩,
    ⟨none, .bin 14 .neq (.t 10) (.t 13)⟩] []) ir_aval_record_1) ir_aval_record_12)
def ir_aval_record : IR := (.seq (.reg [⟨none, .boxe 3 (.t 0)⟩,
    ⟨none, .boxe 4 (.t 1)⟩,
    ⟨none, .mov 6 (.c (.bool false))⟩] []) ir_aval_record_13)
def rs_aval_record : List RV := [.t 6]
theorem chk_aval_record : (chkCode Try.prog [] 0 ir_aval_record (Try.f54.body.getD .skip) && chkRes Try.prog rs_aval_record Try.f54.results.toList) = true := by kernel_rfl
theorem body_aval_record : Try.f54.body = some (Try.f54.body.getD .skip) := by kernel_rfl
def mk_aval_record_0 (x : (List AVal × List AType × List AField × Int × Int)) : St := { env := [.undef, .undef, .sl .aval false x.1, .ea [.sl .atype false x.2.1], .undef, .undef, .undef, .undef, .undef, .undef, .undef, .undef, .undef, .undef, .undef, .undef, .sl .afield false x.2.2.1, .int .i64 x.2.2.2.1, .int .i64 x.2.2.2.2, .undef, .undef, .undef, .undef, .undef, .undef, .undef, .undef, .undef, .undef, .undef, .undef, .undef, .undef], hp := [] }
def F_aval_record_0 (N : Nat) : (St → Option (V × List AObj)) → St → Option (V × List AObj) := fun again0 s => run (Γ_aval_record N) N ir_aval_record_8 (kloop again0 [2, 3, 16, 17, 18] 0 (kblock 0 (kseq (run (Γ_aval_record N) N ir_aval_record_11) (fin rs_aval_record)))) s
def B_aval_record_0 (N : Nat) (again0 : (List AVal × List AType × List AField × Int × Int) → Option (V × List AObj)) (x : (List AVal × List AType × List AField × Int × Int)) : Option (V × List AObj) :=
  let v2 : List AVal := x.1
  let v3_0 : List AType := x.2.1
  let v16 : List AField := x.2.2.1
  let v17 : Int := x.2.2.2.1
  let v18 : Int := x.2.2.2.2
  cond (decide (v18 < v17)) (
    chk ((decide (0 ≤ v18) && decide (v18 < ↑(List.length v16)))) (
      let x4 : List UInt8 := (List.getD v16 (Int.toNat v18) (dflt .afield)).name
      let x5 : List (List UInt8) := (List.getD v16 (Int.toNat v18) (dflt .afield)).aliases
      let x6 : Int := (List.getD v16 (Int.toNat v18) (dflt .afield)).typ
      let x7 : Bool := (List.getD v16 (Int.toNat v18) (dflt .afield)).hasdef
      let x8 : Int := (List.getD v16 (Int.toNat v18) (dflt .afield)).df.kind
      let x9 : Int := (List.getD v16 (Int.toNat v18) (dflt .afield)).df.n
      let x10 : List UInt8 := (List.getD v16 (Int.toNat v18) (dflt .afield)).df.s
      let x11 : List JNode := (List.getD v16 (Int.toNat v18) (dflt .afield)).df.l
      let x12 : List (List UInt8) := (List.getD v16 (Int.toNat v18) (dflt .afield)).df.names
      chk ((decide (0 ≤ v18) && decide (v18 < ↑(List.length v2)))) (
        let x13 : Int := (List.getD v2 (Int.toNat v18) (dflt .aval)).n
        let x14 : List UInt8 := (List.getD v2 (Int.toNat v18) (dflt .aval)).s
        let x15 : List AVal := (List.getD v2 (Int.toNat v18) (dflt .aval)).l
        let x16 : List (List UInt8) := (List.getD v2 (Int.toNat v18) (dflt .aval)).keys
        let x17 : Int := (List.getD v2 (Int.toNat v18) (dflt .aval)).branch
        chk (decide (1000000 ≤ N - (szL x15 + 1))) (
          let x18 : Bool := (fitsS v3_0 x6 (.mk x13 x14 x15 x16 x17))
          cond (!x18) (
            some (.bool false, [])) (
            let x19 : Int := (IntKind.wrap .i64 (v18 + 1))
            again0 (v2, v3_0, v16, v17, x19)))))) (
    some (.bool true, []))
theorem FB_aval_record_0 (N : Nat) : ∀ (again0 : St → Option (V × List AObj)) (x : (List AVal × List AType × List AField × Int × Int)), F_aval_record_0 N again0 (mk_aval_record_0 x) = B_aval_record_0 N (fun y => again0 (mk_aval_record_0 y)) x := by
  intro again0 x
  kernel_rfl
/-- proclitic/aval.record -/
def sa_aval_record (N : Nat) (p0_0 : List AType) (p1_0 : Int) (p1_1 : List UInt8) (p1_2 : List (List UInt8)) (p1_3 : Int) (p1_4 : List (List UInt8)) (p1_5 : Bool) (p1_6 : List UInt8) (p1_7 : Int) (p1_8 : List AField) (p1_9 : List Int) (p2 : List AVal) (q0 : (List AVal × List AType × List AField × Int × Int) → Option (V × List AObj)) : Option (V × List AObj) :=
  let x1 : Int := (↑(List.length p2) : Int)
  let x2 : Int := (↑(List.length p1_8) : Int)
  cond (!(x1 == x2)) (
    some (.bool false, [])) (
    let x3 : Int := (↑(List.length p1_8) : Int)
    q0 (p2, p0_0, p1_8, x3, 0))
def sh_aval_record (N : Nat) (p0_0 : List AType) (p1_0 : Int) (p1_1 : List UInt8) (p1_2 : List (List UInt8)) (p1_3 : Int) (p1_4 : List (List UInt8)) (p1_5 : Bool) (p1_6 : List UInt8) (p1_7 : Int) (p1_8 : List AField) (p1_9 : List Int) (p2 : List AVal) : Option (V × List AObj) := sa_aval_record N p0_0 p1_0 p1_1 p1_2 p1_3 p1_4 p1_5 p1_6 p1_7 p1_8 p1_9 p2 (fun z => iterL N (B_aval_record_0 N) z)
theorem run_aval_record (N : Nat) (p0_0 : List AType) (p1_0 : Int) (p1_1 : List UInt8) (p1_2 : List (List UInt8)) (p1_3 : Int) (p1_4 : List (List UInt8)) (p1_5 : Bool) (p1_6 : List UInt8) (p1_7 : Int) (p1_8 : List AField) (p1_9 : List Int) (p2 : List AVal) : callF (Γ_aval_record N) N 33 rs_aval_record ir_aval_record [.agg [.sl .atype false p0_0], .agg [.int .i64 p1_0, .str p1_1, .sl .str false p1_2, .int .i64 p1_3, .sl .str false p1_4, .bool p1_5, .str p1_6, .int .i64 p1_7, .sl .afield false p1_8, .sl (.num .i64) false p1_9], .sl .aval false p2] [] = sh_aval_record N p0_0 p1_0 p1_1 p1_2 p1_3 p1_4 p1_5 p1_6 p1_7 p1_8 p1_9 p2 := by
  have h : callF (Γ_aval_record N) N 33 rs_aval_record ir_aval_record [.agg [.sl .atype false p0_0], .agg [.int .i64 p1_0, .str p1_1, .sl .str false p1_2, .int .i64 p1_3, .sl .str false p1_4, .bool p1_5, .str p1_6, .int .i64 p1_7, .sl .afield false p1_8, .sl (.num .i64) false p1_9], .sl .aval false p2] [] = sa_aval_record N p0_0 p1_0 p1_1 p1_2 p1_3 p1_4 p1_5 p1_6 p1_7 p1_8 p1_9 p2 (fun z => loopN N (F_aval_record_0 N) (mk_aval_record_0 z)) := by kernel_rfl
  have e0 : (fun z => loopN N (F_aval_record_0 N) (mk_aval_record_0 z)) = (fun z => iterL N (B_aval_record_0 N) z) := funext fun z => loop_eq (mk_aval_record_0) (F_aval_record_0 N) (B_aval_record_0 N) (FB_aval_record_0 N) N z
  rw [h, e0]
  rfl
theorem ok_aval_record (N : Nat) (hΓ : SpecOK Try.prog (Γ_aval_record N)) (p0_0 : List AType) (p1_0 : Int) (p1_1 : List UInt8) (p1_2 : List (List UInt8)) (p1_3 : Int) (p1_4 : List (List UInt8)) (p1_5 : Bool) (p1_6 : List UInt8) (p1_7 : Int) (p1_8 : List AField) (p1_9 : List Int) (p2 : List AVal) {v : V} {hp : List AObj} (h : sh_aval_record N p0_0 p1_0 p1_1 p1_2 p1_3 p1_4 p1_5 p1_6 p1_7 p1_8 p1_9 p2 = some (v, hp)) : PureOK Try.prog i_aval_record [.agg [.sl .atype false p0_0], .agg [.int .i64 p1_0, .str p1_1, .sl .str false p1_2, .int .i64 p1_3, .sl .str false p1_4, .bool p1_5, .str p1_6, .int .i64 p1_7, .sl .afield false p1_8, .sl (.num .i64) false p1_9], .sl .aval false p2] v := by
  have hc := chk_aval_record
  simp only [Bool.and_eq_true] at hc
  exact ⟨hp, fnOK_of hΓ (pureS_aval_record N) Try.func54 body_aval_record hc.1 hc.2 (by decide) ((run_aval_record N p0_0 p1_0 p1_1 p1_2 p1_3 p1_4 p1_5 p1_6 p1_7 p1_8 p1_9 p2).trans h)⟩

def G_aval_each_c1 (N : Nat) : Nat → List V → Option (Bool × V) := fun f vs => match f, vs with
  | 21, [.agg [.sl .atype false a0_0], .int .i64 a1, .agg [.int .u64 a2_0, .str a2_1, .sl .aval false a2_2, .sl .str false a2_3, .int .i64 a2_4]] => some (decide (1000000 ≤ N - (szL a2_2 + 1)), .bool (fitsS a0_0 a1 (.mk a2_0 a2_1 a2_2 a2_3 a2_4)))
  | _, _ => none
def Γ_aval_each_c1 (N : Nat) : ASpec := liftG (G_aval_each_c1 N)
theorem pureS_aval_each_c1 (N : Nat) : PureS (Γ_aval_each_c1 N) [] := liftG_pure _ _
theorem spec_aval_each_c1 (N : Nat) (h_aval_Fits : ∀ (a0_0 : List AType) (a1 : Int) (a2_0 : Int) (a2_1 : List UInt8) (a2_2 : List AVal) (a2_3 : List (List UInt8)) (a2_4 : Int), (decide (1000000 ≤ N - (szL a2_2 + 1))) = true → PureOK Try.prog i_aval_Fits [.agg [.sl .atype false a0_0], .int .i64 a1, .agg [.int .u64 a2_0, .str a2_1, .sl .aval false a2_2, .sl .str false a2_3, .int .i64 a2_4]] (.bool (fitsS a0_0 a1 (.mk a2_0 a2_1 a2_2 a2_3 a2_4)))) : SpecOK Try.prog (Γ_aval_each_c1 N) := by
  intro f vs hp v hp' h0
  obtain ⟨h, he⟩ := liftG_inv h0
  subst he
  unfold G_aval_each_c1 at h
  split at h
  · simp only [Option.some.injEq, Prod.mk.injEq] at h
    obtain ⟨hc, rfl⟩ := h
    exact (h_aval_Fits _ _ _ _ _ _ _ hc).frame rfl rfl _
  · simp at h
def ir_aval_each_c1_0 : IR := .ret
def ir_aval_each_c1_1 : IR := (.seq (.reg [⟨none, .lde 5 1 true (.t 1)⟩,
    ⟨none, .lde 6 1 false (.t 2)⟩,
    ⟨none, .lde 7 5 true (.t 3)⟩,
    ⟨none, .call (some 8) 21 [(.t 5), (.t 6), (.t 7)]⟩,
    ⟨none, .un 9 .not (.t 8)⟩,
    ⟨none, .mov 4 (.t 9)⟩] []) ir_aval_each_c1_0)
def ir_aval_each_c1 : IR := (.seq (.reg [⟨none, .boxe 3 (.t 0)⟩,
    ⟨none, .mov 4 (.c (.bool false))⟩] []) ir_aval_each_c1_1)
def rs_aval_each_c1 : List RV := [.t 4]
theorem chk_aval_each_c1 : (chkCode Try.prog [] 0 ir_aval_each_c1 (Try.f82.body.getD .skip) && chkRes Try.prog rs_aval_each_c1 Try.f82.results.toList) = true := by kernel_rfl
theorem body_aval_each_c1 : Try.f82.body = some (Try.f82.body.getD .skip) := by kernel_rfl
/-- proclitic/aval.each$1 -/
def sa_aval_each_c1 (N : Nat) (p0_0 : Int) (p0_1 : List UInt8) (p0_2 : List AVal) (p0_3 : List (List UInt8)) (p0_4 : Int) (pc0_0 : List AType) (pc1_0 : Int)  : Option (V × List AObj) :=
  chk (decide (1000000 ≤ N - (szL p0_2 + 1))) (
    let x1 : Bool := (fitsS pc0_0 pc1_0 (.mk p0_0 p0_1 p0_2 p0_3 p0_4))
    some (.bool (!x1), []))
def sh_aval_each_c1 (N : Nat) (p0_0 : Int) (p0_1 : List UInt8) (p0_2 : List AVal) (p0_3 : List (List UInt8)) (p0_4 : Int) (pc0_0 : List AType) (pc1_0 : Int) : Option (V × List AObj) := sa_aval_each_c1 N p0_0 p0_1 p0_2 p0_3 p0_4 pc0_0 pc1_0
theorem run_aval_each_c1 (N : Nat) (p0_0 : Int) (p0_1 : List UInt8) (p0_2 : List AVal) (p0_3 : List (List UInt8)) (p0_4 : Int) (pc0_0 : List AType) (pc1_0 : Int) : callF (Γ_aval_each_c1 N) N 10 rs_aval_each_c1 ir_aval_each_c1 [.agg [.int .u64 p0_0, .str p0_1, .sl .aval false p0_2, .sl .str false p0_3, .int .i64 p0_4], .ea [.sl .atype false pc0_0], .ea [.int .i64 pc1_0]] [] = sh_aval_each_c1 N p0_0 p0_1 p0_2 p0_3 p0_4 pc0_0 pc1_0 := by kernel_rfl
theorem ok_aval_each_c1 (N : Nat) (hΓ : SpecOK Try.prog (Γ_aval_each_c1 N)) (p0_0 : Int) (p0_1 : List UInt8) (p0_2 : List AVal) (p0_3 : List (List UInt8)) (p0_4 : Int) (pc0_0 : List AType) (pc1_0 : Int) {v : V} {hp : List AObj} (h : sh_aval_each_c1 N p0_0 p0_1 p0_2 p0_3 p0_4 pc0_0 pc1_0 = some (v, hp)) : PureOK Try.prog i_aval_each_c1 [.agg [.int .u64 p0_0, .str p0_1, .sl .aval false p0_2, .sl .str false p0_3, .int .i64 p0_4], .ea [.sl .atype false pc0_0], .ea [.int .i64 pc1_0]] v := by
  have hc := chk_aval_each_c1
  simp only [Bool.and_eq_true] at hc
  exact ⟨hp, fnOK_of hΓ (pureS_aval_each_c1 N) Try.func82 body_aval_each_c1 hc.1 hc.2 (by decide) ((run_aval_each_c1 N p0_0 p0_1 p0_2 p0_3 p0_4 pc0_0 pc1_0).trans h)⟩

def G_slices_ContainsFunc_api_AVal_api_AVal_aval_each_c1 (N : Nat) : Nat → List V → Option (Bool × V) := fun f vs => match f, vs with
  | 122, [.sl .aval false a0, .fn 82 [.ea [.sl .atype false a1_0_0], .ea [.int .i64 a1_1_0]]] => some (decide (1000000 ≤ N - szL a0), .int .i64 (badV a1_0_0 a1_1_0 a0 0))
  | _, _ => none
def Γ_slices_ContainsFunc_api_AVal_api_AVal_aval_each_c1 (N : Nat) : ASpec := liftG (G_slices_ContainsFunc_api_AVal_api_AVal_aval_each_c1 N)
theorem pureS_slices_ContainsFunc_api_AVal_api_AVal_aval_each_c1 (N : Nat) : PureS (Γ_slices_ContainsFunc_api_AVal_api_AVal_aval_each_c1 N) [] := liftG_pure _ _
theorem spec_slices_ContainsFunc_api_AVal_api_AVal_aval_each_c1 (N : Nat) (h_slices_IndexFunc_api_AVal_api_AVal_aval_each_c1 : ∀ (a0 : List AVal) (a1_0_0 : List AType) (a1_1_0 : Int), (decide (1000000 ≤ N - szL a0)) = true → PureOK Try.prog i_slices_IndexFunc_api_AVal_api_AVal_aval_each_c1 [.sl .aval false a0, .fn 82 [.ea [.sl .atype false a1_0_0], .ea [.int .i64 a1_1_0]]] (.int .i64 (badV a1_0_0 a1_1_0 a0 0))) : SpecOK Try.prog (Γ_slices_ContainsFunc_api_AVal_api_AVal_aval_each_c1 N) := by
  intro f vs hp v hp' h0
  obtain ⟨h, he⟩ := liftG_inv h0
  subst he
  unfold G_slices_ContainsFunc_api_AVal_api_AVal_aval_each_c1 at h
  split at h
  · simp only [Option.some.injEq, Prod.mk.injEq] at h
    obtain ⟨hc, rfl⟩ := h
    exact (h_slices_IndexFunc_api_AVal_api_AVal_aval_each_c1 _ _ _ hc).frame rfl rfl _
  · simp at h
def ir_slices_ContainsFunc_api_AVal_api_AVal_aval_each_c1_0 : IR := .ret
def ir_slices_ContainsFunc_api_AVal_api_AVal_aval_each_c1_1 : IR := (.seq (.reg [⟨none, .mov 5 (.t 0)⟩,
    ⟨none, .mov 6 (.t 1)⟩,
    ⟨none, .call (some 7) 122 [(.t 5), (.t 6)]⟩,
    ⟨none, .bin 8 .geq (.t 7) (.c (.int .i64 0))⟩,
    ⟨none, .mov 4 (.t 8)⟩] []) ir_slices_ContainsFunc_api_AVal_api_AVal_aval_each_c1_0)
def ir_slices_ContainsFunc_api_AVal_api_AVal_aval_each_c1 : IR := (.seq (.reg [⟨none, .mov 4 (.c (.bool false))⟩] []) ir_slices_ContainsFunc_api_AVal_api_AVal_aval_each_c1_1)
def rs_slices_ContainsFunc_api_AVal_api_AVal_aval_each_c1 : List RV := [.t 4]
theorem chk_slices_ContainsFunc_api_AVal_api_AVal_aval_each_c1 : (chkCode Try.prog [] 0 ir_slices_ContainsFunc_api_AVal_api_AVal_aval_each_c1 (Try.f81.body.getD .skip) && chkRes Try.prog rs_slices_ContainsFunc_api_AVal_api_AVal_aval_each_c1 Try.f81.results.toList) = true := by kernel_rfl
theorem body_slices_ContainsFunc_api_AVal_api_AVal_aval_each_c1 : Try.f81.body = some (Try.f81.body.getD .skip) := by kernel_rfl
/-- slices.ContainsFunc[[]proclitic/api.AVal,proclitic/api.AVal]@proclitic/aval.each$1 -/
def sa_slices_ContainsFunc_api_AVal_api_AVal_aval_each_c1 (N : Nat) (p0 : List AVal) (p1_0_0 : List AType) (p1_1_0 : Int)  : Option (V × List AObj) :=
  chk (decide (1000000 ≤ N - szL p0)) (
    let x1 : Int := (badV p1_0_0 p1_1_0 p0 0)
    some (.bool (decide (0 ≤ x1)), []))
def sh_slices_ContainsFunc_api_AVal_api_AVal_aval_each_c1 (N : Nat) (p0 : List AVal) (p1_0_0 : List AType) (p1_1_0 : Int) : Option (V × List AObj) := sa_slices_ContainsFunc_api_AVal_api_AVal_aval_each_c1 N p0 p1_0_0 p1_1_0
theorem run_slices_ContainsFunc_api_AVal_api_AVal_aval_each_c1 (N : Nat) (p0 : List AVal) (p1_0_0 : List AType) (p1_1_0 : Int) : callF (Γ_slices_ContainsFunc_api_AVal_api_AVal_aval_each_c1 N) N 9 rs_slices_ContainsFunc_api_AVal_api_AVal_aval_each_c1 ir_slices_ContainsFunc_api_AVal_api_AVal_aval_each_c1 [.sl .aval false p0, .fn 82 [.ea [.sl .atype false p1_0_0], .ea [.int .i64 p1_1_0]]] [] = sh_slices_ContainsFunc_api_AVal_api_AVal_aval_each_c1 N p0 p1_0_0 p1_1_0 := by kernel_rfl
theorem ok_slices_ContainsFunc_api_AVal_api_AVal_aval_each_c1 (N : Nat) (hΓ : SpecOK Try.prog (Γ_slices_ContainsFunc_api_AVal_api_AVal_aval_each_c1 N)) (p0 : List AVal) (p1_0_0 : List AType) (p1_1_0 : Int) {v : V} {hp : List AObj} (h : sh_slices_ContainsFunc_api_AVal_api_AVal_aval_each_c1 N p0 p1_0_0 p1_1_0 = some (v, hp)) : PureOK Try.prog i_slices_ContainsFunc_api_AVal_api_AVal_aval_each_c1 [.sl .aval false p0, .fn 82 [.ea [.sl .atype false p1_0_0], .ea [.int .i64 p1_1_0]]] v := by
  have hc := chk_slices_ContainsFunc_api_AVal_api_AVal_aval_each_c1
  simp only [Bool.and_eq_true] at hc
  exact ⟨hp, fnOK_of hΓ (pureS_slices_ContainsFunc_api_AVal_api_AVal_aval_each_c1 N) Try.func81 body_slices_ContainsFunc_api_AVal_api_AVal_aval_each_c1 hc.1 hc.2 (by decide) ((run_slices_ContainsFunc_api_AVal_api_AVal_aval_each_c1 N p0 p1_0_0 p1_1_0).trans h)⟩

def G_slices_IndexFunc_api_AVal_api_AVal_aval_each_c1 (N : Nat) : Nat → List V → Option (Bool × V) := fun f vs => match f, vs with
  | 82, [.agg [.int .u64 a0_0, .str a0_1, .sl .aval false a0_2, .sl .str false a0_3, .int .i64 a0_4], .ea [.sl .atype false ac0_0], .ea [.int .i64 ac1_0]] => some (decide (1000000 ≤ N - (szL a0_2 + 1)), .bool (!fitsS ac0_0 ac1_0 (.mk a0_0 a0_1 a0_2 a0_3 a0_4)))
  | _, _ => none
def Γ_slices_IndexFunc_api_AVal_api_AVal_aval_each_c1 (N : Nat) : ASpec := liftG (G_slices_IndexFunc_api_AVal_api_AVal_aval_each_c1 N)
theorem pureS_slices_IndexFunc_api_AVal_api_AVal_aval_each_c1 (N : Nat) : PureS (Γ_slices_IndexFunc_api_AVal_api_AVal_aval_each_c1 N) [] := liftG_pure _ _
theorem spec_slices_IndexFunc_api_AVal_api_AVal_aval_each_c1 (N : Nat) (h_aval_each_c1 : ∀ (a0_0 : Int) (a0_1 : List UInt8) (a0_2 : List AVal) (a0_3 : List (List UInt8)) (a0_4 : Int) (ac0_0 : List AType) (ac1_0 : Int), (decide (1000000 ≤ N - (szL a0_2 + 1))) = true → PureOK Try.prog i_aval_each_c1 [.agg [.int .u64 a0_0, .str a0_1, .sl .aval false a0_2, .sl .str false a0_3, .int .i64 a0_4], .ea [.sl .atype false ac0_0], .ea [.int .i64 ac1_0]] (.bool (!fitsS ac0_0 ac1_0 (.mk a0_0 a0_1 a0_2 a0_3 a0_4)))) : SpecOK Try.prog (Γ_slices_IndexFunc_api_AVal_api_AVal_aval_each_c1 N) := by
  intro f vs hp v hp' h0
  obtain ⟨h, he⟩ := liftG_inv h0
  subst he
  unfold G_slices_IndexFunc_api_AVal_api_AVal_aval_each_c1 at h
  split at h
  · simp only [Option.some.injEq, Prod.mk.injEq] at h
    obtain ⟨hc, rfl⟩ := h
    exact (h_aval_each_c1 _ _ _ _ _ _ _ hc).frame rfl rfl _
  · simp at h
def ir_slices_IndexFunc_api_AVal_api_AVal_aval_each_c1_0 : IR := .ret
def ir_slices_IndexFunc_api_AVal_api_AVal_aval_each_c1_1 : IR := (.cond (.t 16) (.seq (.reg [⟨none, .mov 17 (.t 5)⟩,
    ⟨none, .mov 4 (.t 17)⟩] []) ir_slices_IndexFunc_api_AVal_api_AVal_aval_each_c1_0) .skip)
def ir_slices_IndexFunc_api_AVal_api_AVal_aval_each_c1_2 : IR := (.seq (.reg [⟨none, .mov 11 (.t 1)⟩,
    ⟨none, .mov 12 (.t 0)⟩,
    ⟨none, .mov 13 (.t 5)⟩,
    ⟨none, .ixa 14 .aval (.t 12) (.t 13)⟩,
    ⟨none, .lde 15 5 true (.t 14)⟩,
    ⟨none, .dcall (some 16) 82 (.t 11) [(.t 15)]⟩] []) ir_slices_IndexFunc_api_AVal_api_AVal_aval_each_c1_1)
def ir_slices_IndexFunc_api_AVal_api_AVal_aval_each_c1_3 : IR := (.reg [⟨none, .bin 18 .add (.t 8) (.c (.int .i64 1))⟩,
    ⟨none, .mov 8 (.t 18)⟩] [])
def ir_slices_IndexFunc_api_AVal_api_AVal_aval_each_c1_4 : IR := (.seq (.block 1 (.seq (.reg [⟨none, .mov 10 (.t 8)⟩,
    ⟨none, .mov 5 (.t 10)⟩] []) ir_slices_IndexFunc_api_AVal_api_AVal_aval_each_c1_2)) ir_slices_IndexFunc_api_AVal_api_AVal_aval_each_c1_3)
def ir_slices_IndexFunc_api_AVal_api_AVal_aval_each_c1_5 : IR := (.seq (.cond (.t 9) .skip (.exit 0)) ir_slices_IndexFunc_api_AVal_api_AVal_aval_each_c1_4)
def ir_slices_IndexFunc_api_AVal_api_AVal_aval_each_c1_6 : IR := (.seq (.reg [⟨none, .bin 9 .lss (.t 8) (.t 7)⟩] []) ir_slices_IndexFunc_api_AVal_api_AVal_aval_each_c1_5)
def ir_slices_IndexFunc_api_AVal_api_AVal_aval_each_c1_7 : IR := (.block 0 (.loop [0, 1, 7, 8] 0 ir_slices_IndexFunc_api_AVal_api_AVal_aval_each_c1_6))
def ir_slices_IndexFunc_api_AVal_api_AVal_aval_each_c1_8 : IR := .ret
def ir_slices_IndexFunc_api_AVal_api_AVal_aval_each_c1_9 : IR := (.seq (.reg [⟨none, .mov 4 (.c (.int .i64 (-1)))⟩] []) ir_slices_IndexFunc_api_AVal_api_AVal_aval_each_c1_8)
def ir_slices_IndexFunc_api_AVal_api_AVal_aval_each_c1_10 : IR := (.seq (.seq (.reg [⟨none, .mov 6 (.t 0)⟩,
    ⟨none, .lenl 7 (.t 6)⟩,
    ⟨none, .mov 8 (.c (.int .i64 0))⟩] []) ir_slices_IndexFunc_api_AVal_api_AVal_aval_each_c1_7) ir_slices_IndexFunc_api_AVal_api_AVal_aval_each_c1_9)
def ir_slices_IndexFunc_api_AVal_api_AVal_aval_each_c1 : IR := (.seq (.reg [⟨none, .mov 4 (.c (.int .i64 0))⟩] []) ir_slices_IndexFunc_api_AVal_api_AVal_aval_each_c1_10)
def rs_slices_IndexFunc_api_AVal_api_AVal_aval_each_c1 : List RV := [.t 4]
theorem chk_slices_IndexFunc_api_AVal_api_AVal_aval_each_c1 : (chkCode Try.prog [] 0 ir_slices_IndexFunc_api_AVal_api_AVal_aval_each_c1 (Try.f122.body.getD .skip) && chkRes Try.prog rs_slices_IndexFunc_api_AVal_api_AVal_aval_each_c1 Try.f122.results.toList) = true := by kernel_rfl
theorem body_slices_IndexFunc_api_AVal_api_AVal_aval_each_c1 : Try.f122.body = some (Try.f122.body.getD .skip) := by kernel_rfl
def mk_slices_IndexFunc_api_AVal_api_AVal_aval_each_c1_0 (x : (List AVal × List AType × Int × Int × Int)) : St := { env := [.sl .aval false x.1, .fn 82 [.ea [.sl .atype false x.2.1], .ea [.int .i64 x.2.2.1]], .undef, .undef, .undef, .undef, .undef, .int .i64 x.2.2.2.1, .int .i64 x.2.2.2.2, .undef, .undef, .undef, .undef, .undef, .undef, .undef, .undef, .undef, .undef], hp := [] }
def F_slices_IndexFunc_api_AVal_api_AVal_aval_each_c1_0 (N : Nat) : (St → Option (V × List AObj)) → St → Option (V × List AObj) := fun again0 s => run (Γ_slices_IndexFunc_api_AVal_api_AVal_aval_each_c1 N) N ir_slices_IndexFunc_api_AVal_api_AVal_aval_each_c1_6 (kloop again0 [0, 1, 7, 8] 0 (kblock 0 (kseq (run (Γ_slices_IndexFunc_api_AVal_api_AVal_aval_each_c1 N) N ir_slices_IndexFunc_api_AVal_api_AVal_aval_each_c1_9) (fin rs_slices_IndexFunc_api_AVal_api_AVal_aval_each_c1)))) s
def B_slices_IndexFunc_api_AVal_api_AVal_aval_each_c1_0 (N : Nat) (again0 : (List AVal × List AType × Int × Int × Int) → Option (V × List AObj)) (x : (List AVal × List AType × Int × Int × Int)) : Option (V × List AObj) :=
  let v0 : List AVal := x.1
  let v1_0_0 : List AType := x.2.1
  let v1_1_0 : Int := x.2.2.1
  let v7 : Int := x.2.2.2.1
  let v8 : Int := x.2.2.2.2
  cond (decide (v8 < v7)) (
    chk ((decide (0 ≤ v8) && decide (v8 < ↑(List.length v0)))) (
      let x2 : Int := (List.getD v0 (Int.toNat v8) (dflt .aval)).n
      let x3 : List UInt8 := (List.getD v0 (Int.toNat v8) (dflt .aval)).s
      let x4 : List AVal := (List.getD v0 (Int.toNat v8) (dflt .aval)).l
      let x5 : List (List UInt8) := (List.getD v0 (Int.toNat v8) (dflt .aval)).keys
      let x6 : Int := (List.getD v0 (Int.toNat v8) (dflt .aval)).branch
      chk (decide (1000000 ≤ N - (szL x4 + 1))) (
        let x7 : Bool := (!fitsS v1_0_0 v1_1_0 (.mk x2 x3 x4 x5 x6))
        cond x7 (
          some (.int .i64 v8, [])) (
          let x8 : Int := (IntKind.wrap .i64 (v8 + 1))
          again0 (v0, v1_0_0, v1_1_0, v7, x8))))) (
    some (.int .i64 (-1), []))
theorem FB_slices_IndexFunc_api_AVal_api_AVal_aval_each_c1_0 (N : Nat) : ∀ (again0 : St → Option (V × List AObj)) (x : (List AVal × List AType × Int × Int × Int)), F_slices_IndexFunc_api_AVal_api_AVal_aval_each_c1_0 N again0 (mk_slices_IndexFunc_api_AVal_api_AVal_aval_each_c1_0 x) = B_slices_IndexFunc_api_AVal_api_AVal_aval_each_c1_0 N (fun y => again0 (mk_slices_IndexFunc_api_AVal_api_AVal_aval_each_c1_0 y)) x := by
  intro again0 x
  kernel_rfl
/-- slices.IndexFunc[[]proclitic/api.AVal,proclitic/api.AVal]@proclitic/aval.each$1 -/
def sa_slices_IndexFunc_api_AVal_api_AVal_aval_each_c1 (N : Nat) (p0 : List AVal) (p1_0_0 : List AType) (p1_1_0 : Int) (q0 : (List AVal × List AType × Int × Int × Int) → Option (V × List AObj)) : Option (V × List AObj) :=
  let x1 : Int := (↑(List.length p0) : Int)
  q0 (p0, p1_0_0, p1_1_0, x1, 0)
def sh_slices_IndexFunc_api_AVal_api_AVal_aval_each_c1 (N : Nat) (p0 : List AVal) (p1_0_0 : List AType) (p1_1_0 : Int) : Option (V × List AObj) := sa_slices_IndexFunc_api_AVal_api_AVal_aval_each_c1 N p0 p1_0_0 p1_1_0 (fun z => iterL N (B_slices_IndexFunc_api_AVal_api_AVal_aval_each_c1_0 N) z)
theorem run_slices_IndexFunc_api_AVal_api_AVal_aval_each_c1 (N : Nat) (p0 : List AVal) (p1_0_0 : List AType) (p1_1_0 : Int) : callF (Γ_slices_IndexFunc_api_AVal_api_AVal_aval_each_c1 N) N 19 rs_slices_IndexFunc_api_AVal_api_AVal_aval_each_c1 ir_slices_IndexFunc_api_AVal_api_AVal_aval_each_c1 [.sl .aval false p0, .fn 82 [.ea [.sl .atype false p1_0_0], .ea [.int .i64 p1_1_0]]] [] = sh_slices_IndexFunc_api_AVal_api_AVal_aval_each_c1 N p0 p1_0_0 p1_1_0 := by
  have h : callF (Γ_slices_IndexFunc_api_AVal_api_AVal_aval_each_c1 N) N 19 rs_slices_IndexFunc_api_AVal_api_AVal_aval_each_c1 ir_slices_IndexFunc_api_AVal_api_AVal_aval_each_c1 [.sl .aval false p0, .fn 82 [.ea [.sl .atype false p1_0_0], .ea [.int .i64 p1_1_0]]] [] = sa_slices_IndexFunc_api_AVal_api_AVal_aval_each_c1 N p0 p1_0_0 p1_1_0 (fun z => loopN N (F_slices_IndexFunc_api_AVal_api_AVal_aval_each_c1_0 N) (mk_slices_IndexFunc_api_AVal_api_AVal_aval_each_c1_0 z)) := by kernel_rfl
  have e0 : (fun z => loopN N (F_slices_IndexFunc_api_AVal_api_AVal_aval_each_c1_0 N) (mk_slices_IndexFunc_api_AVal_api_AVal_aval_each_c1_0 z)) = (fun z => iterL N (B_slices_IndexFunc_api_AVal_api_AVal_aval_each_c1_0 N) z) := funext fun z => loop_eq (mk_slices_IndexFunc_api_AVal_api_AVal_aval_each_c1_0) (F_slices_IndexFunc_api_AVal_api_AVal_aval_each_c1_0 N) (B_slices_IndexFunc_api_AVal_api_AVal_aval_each_c1_0 N) (FB_slices_IndexFunc_api_AVal_api_AVal_aval_each_c1_0 N) N z
  rw [h, e0]
  rfl
theorem ok_slices_IndexFunc_api_AVal_api_AVal_aval_each_c1 (N : Nat) (hΓ : SpecOK Try.prog (Γ_slices_IndexFunc_api_AVal_api_AVal_aval_each_c1 N)) (p0 : List AVal) (p1_0_0 : List AType) (p1_1_0 : Int) {v : V} {hp : List AObj} (h : sh_slices_IndexFunc_api_AVal_api_AVal_aval_each_c1 N p0 p1_0_0 p1_1_0 = some (v, hp)) : PureOK Try.prog i_slices_IndexFunc_api_AVal_api_AVal_aval_each_c1 [.sl .aval false p0, .fn 82 [.ea [.sl .atype false p1_0_0], .ea [.int .i64 p1_1_0]]] v := by
  have hc := chk_slices_IndexFunc_api_AVal_api_AVal_aval_each_c1
  simp only [Bool.and_eq_true] at hc
  exact ⟨hp, fnOK_of hΓ (pureS_slices_IndexFunc_api_AVal_api_AVal_aval_each_c1 N) Try.func122 body_slices_IndexFunc_api_AVal_api_AVal_aval_each_c1 hc.1 hc.2 (by decide) ((run_slices_IndexFunc_api_AVal_api_AVal_aval_each_c1 N p0 p1_0_0 p1_1_0).trans h)⟩

def G_slices_Equal_string_string : Nat → List V → Option (Bool × V) := fun _ _ => none
def Γ_slices_Equal_string_string : ASpec := liftG G_slices_Equal_string_string
theorem pureS_slices_Equal_string_string : PureS Γ_slices_Equal_string_string [] := liftG_pure _ _
theorem spec_slices_Equal_string_string  : SpecOK Try.prog Γ_slices_Equal_string_string := by
  intro f vs hp v hp' h
  obtain ⟨h, -⟩ := liftG_inv h
  simp [G_slices_Equal_string_string] at h
def ir_slices_Equal_string_string_0 : IR := .ret
def ir_slices_Equal_string_string_1 : IR := (.cond (.t 10) (.seq (.reg [⟨none, .mov 4 (.c (.bool false))⟩] []) ir_slices_Equal_string_string_0) .skip)
def ir_slices_Equal_string_string_2 : IR := .ret
def ir_slices_Equal_string_string_3 : IR := (.cond (.t 24) (.seq (.reg [⟨none, .mov 4 (.c (.bool false))⟩] []) ir_slices_Equal_string_string_2) .skip)
def ir_slices_Equal_string_string_4 : IR := (.seq (.reg [⟨none, .mov 16 (.t 0)⟩,
    ⟨none, .mov 17 (.t 5)⟩,
    ⟨none, .ixa 18 .str (.t 16) (.t 17)⟩,
    ⟨none, .lde 19 1 false (.t 18)⟩,
    ⟨none, .mov 20 (.t 1)⟩,
    ⟨none, .mov 21 (.t 5)⟩,
    ⟨none, .ixa 22 .str (.t 20) (.t 21)⟩,
    ⟨none, .lde 23 1 false (.t 22)⟩,
    ⟨none, .bin 24 .neq (.t 19) (.t 23)⟩] [[], [], [0, 1], [0, 1, 2], [], [], [4, 5], [4, 5, 6], [0, 1, 2, 3, 4, 5, 6, 7]]) ir_slices_Equal_string_string_3)
def ir_slices_Equal_string_string_5 : IR := (.reg [⟨none, .bin 25 .add (.t 13) (.c (.int .i64 1))⟩,
    ⟨none, .mov 13 (.t 25)⟩] [])
def ir_slices_Equal_string_string_6 : IR := (.seq (.block 1 (.seq (.reg [⟨none, .mov 15 (.t 13)⟩,
    ⟨none, .mov 5 (.t 15)⟩] []) ir_slices_Equal_string_string_4)) ir_slices_Equal_string_string_5)
def ir_slices_Equal_string_string_7 : IR := (.seq (.cond (.t 14) .skip (.exit 0)) ir_slices_Equal_string_string_6)
def ir_slices_Equal_string_string_8 : IR := (.seq (.reg [⟨none, .bin 14 .lss (.t 13) (.t 12)⟩] []) ir_slices_Equal_string_string_7)
def ir_slices_Equal_string_string_9 : IR := (.block 0 (.loop [0, 1, 12, 13] 0 ir_slices_Equal_string_string_8))
def ir_slices_Equal_string_string_10 : IR := .ret
def ir_slices_Equal_string_string_11 : IR := (.seq (.reg [⟨none, .mov 4 (.c (.bool true))⟩] []) ir_slices_Equal_string_string_10)
def ir_slices_Equal_string_string_12 : IR := (.seq (.seq (.reg [⟨none, .mov 11 (.t 0)⟩,
    ⟨none, .lenl 12 (.t 11)⟩,
    ⟨none, .mov 13 (.c (.int .i64 0))⟩] []) ir_slices_Equal_string_string_9) ir_slices_Equal_string_string_11)
def ir_slices_Equal_string_string_13 : IR := (.seq (.seq (.reg [⟨none, .mov 6 (.t 0)⟩,
    ⟨none, .lenl 7 (.t 6)⟩,
    ⟨none, .mov 8 (.t 1)⟩,
    ⟨none, .lenl 9 (.t 8)⟩,
    ⟨none, .bin 10 .neq (.t 7) (.t 9)⟩] []) ir_slices_Equal_string_string_1) ir_slices_Equal_string_string_12)
def ir_slices_Equal_string_string : IR := (.seq (.reg [⟨none, .mov 4 (.c (.bool false))⟩] []) ir_slices_Equal_string_string_13)
def rs_slices_Equal_string_string : List RV := [.t 4]
theorem chk_slices_Equal_string_string : (chkCode Try.prog [] 0 ir_slices_Equal_string_string (Try.f56.body.getD .skip) && chkRes Try.prog rs_slices_Equal_string_string Try.f56.results.toList) = true := by kernel_rfl
theorem body_slices_Equal_string_string : Try.f56.body = some (Try.f56.body.getD .skip) := by kernel_rfl
def mk_slices_Equal_string_string_0 (x : (List (List UInt8) × List (List UInt8) × Int × Int)) : St := { env := [.sl .str false x.1, .sl .str false x.2.1, .undef, .undef, .undef, .undef, .undef, .undef, .undef, .undef, .undef, .undef, .int .i64 x.2.2.1, .int .i64 x.2.2.2, .undef, .undef, .undef, .undef, .undef, .undef, .undef, .undef, .undef, .undef, .undef, .undef], hp := [] }
def F_slices_Equal_string_string_0 (N : Nat) : (St → Option (V × List AObj)) → St → Option (V × List AObj) := fun again0 s => run Γ_slices_Equal_string_string N ir_slices_Equal_string_string_8 (kloop again0 [0, 1, 12, 13] 0 (kblock 0 (kseq (run Γ_slices_Equal_string_string N ir_slices_Equal_string_string_11) (fin rs_slices_Equal_string_string)))) s
def B_slices_Equal_string_string_0 (N : Nat) (again0 : (List (List UInt8) × List (List UInt8) × Int × Int) → Option (V × List AObj)) (x : (List (List UInt8) × List (List UInt8) × Int × Int)) : Option (V × List AObj) :=
  let v0 : List (List UInt8) := x.1
  let v1 : List (List UInt8) := x.2.1
  let v12 : Int := x.2.2.1
  let v13 : Int := x.2.2.2
  cond (decide (v13 < v12)) (
    chk ((decide (0 ≤ v13) && decide (v13 < ↑(List.length v0)))) (
      let x4 : List UInt8 := List.getD v0 (Int.toNat v13) (dflt .str)
      chk ((decide (0 ≤ v13) && decide (v13 < ↑(List.length v1)))) (
        let x5 : List UInt8 := List.getD v1 (Int.toNat v13) (dflt .str)
        cond (!decide (x4 = x5)) (
          some (.bool false, [])) (
          let x6 : Int := (IntKind.wrap .i64 (v13 + 1))
          again0 (v0, v1, v12, x6))))) (
    some (.bool true, []))
theorem FB_slices_Equal_string_string_0 (N : Nat) : ∀ (again0 : St → Option (V × List AObj)) (x : (List (List UInt8) × List (List UInt8) × Int × Int)), F_slices_Equal_string_string_0 N again0 (mk_slices_Equal_string_string_0 x) = B_slices_Equal_string_string_0 N (fun y => again0 (mk_slices_Equal_string_string_0 y)) x := by
  intro again0 x
  kernel_rfl
/-- slices.Equal[[]string,string] -/
def sa_slices_Equal_string_string (N : Nat) (p0 : List (List UInt8)) (p1 : List (List UInt8)) (q0 : (List (List UInt8) × List (List UInt8) × Int × Int) → Option (V × List AObj)) : Option (V × List AObj) :=
  let x1 : Int := (↑(List.length p0) : Int)
  let x2 : Int := (↑(List.length p1) : Int)
  cond (!(x1 == x2)) (
    some (.bool false, [])) (
    let x3 : Int := (↑(List.length p0) : Int)
    q0 (p0, p1, x3, 0))
def sh_slices_Equal_string_string (N : Nat) (p0 : List (List UInt8)) (p1 : List (List UInt8)) : Option (V × List AObj) := sa_slices_Equal_string_string N p0 p1 (fun z => iterL N (B_slices_Equal_string_string_0 N) z)
theorem run_slices_Equal_string_string (N : Nat) (p0 : List (List UInt8)) (p1 : List (List UInt8)) : callF Γ_slices_Equal_string_string N 26 rs_slices_Equal_string_string ir_slices_Equal_string_string [.sl .str false p0, .sl .str false p1] [] = sh_slices_Equal_string_string N p0 p1 := by
  have h : callF Γ_slices_Equal_string_string N 26 rs_slices_Equal_string_string ir_slices_Equal_string_string [.sl .str false p0, .sl .str false p1] [] = sa_slices_Equal_string_string N p0 p1 (fun z => loopN N (F_slices_Equal_string_string_0 N) (mk_slices_Equal_string_string_0 z)) := by kernel_rfl
  have e0 : (fun z => loopN N (F_slices_Equal_string_string_0 N) (mk_slices_Equal_string_string_0 z)) = (fun z => iterL N (B_slices_Equal_string_string_0 N) z) := funext fun z => loop_eq (mk_slices_Equal_string_string_0) (F_slices_Equal_string_string_0 N) (B_slices_Equal_string_string_0 N) (FB_slices_Equal_string_string_0 N) N z
  rw [h, e0]
  rfl
theorem ok_slices_Equal_string_string (hΓ : SpecOK Try.prog Γ_slices_Equal_string_string) (N : Nat) (p0 : List (List UInt8)) (p1 : List (List UInt8)) {v : V} {hp : List AObj} (h : sh_slices_Equal_string_string N p0 p1 = some (v, hp)) : PureOK Try.prog i_slices_Equal_string_string [.sl .str false p0, .sl .str false p1] v := by
  have hc := chk_slices_Equal_string_string
  simp only [Bool.and_eq_true] at hc
  exact ⟨hp, fnOK_of hΓ pureS_slices_Equal_string_string Try.func56 body_slices_Equal_string_string hc.1 hc.2 (by decide) ((run_slices_Equal_string_string N p0 p1).trans h)⟩

def G_aval_Same (N : Nat) : Nat → List V → Option (Bool × V) := fun f vs => match f, vs with
  | 56, [.sl .str false a0, .sl .str false a1] => some (true, .bool (decide (a0 = a1)))
  | 57, [.sl .aval false a0, .sl .aval false a1, .fn 24 []] => some (decide (1000000 ≤ N - szL a0), .bool (sameL a0 a1))
  | _, _ => none
def Γ_aval_Same (N : Nat) : ASpec := liftG (G_aval_Same N)
theorem pureS_aval_Same (N : Nat) : PureS (Γ_aval_Same N) [] := liftG_pure _ _
theorem spec_aval_Same (N : Nat) (h_slices_Equal_string_string : ∀ (a0 : List (List UInt8)) (a1 : List (List UInt8)), PureOK Try.prog i_slices_Equal_string_string [.sl .str false a0, .sl .str false a1] (.bool (decide (a0 = a1)))) (h_slices_EqualFunc_api_AVal_api_AVal_api_AVal_api_AVal_aval_Same : ∀ (a0 : List AVal) (a1 : List AVal), (decide (1000000 ≤ N - szL a0)) = true → PureOK Try.prog i_slices_EqualFunc_api_AVal_api_AVal_api_AVal_api_AVal_aval_Same [.sl .aval false a0, .sl .aval false a1, .fn 24 []] (.bool (sameL a0 a1))) : SpecOK Try.prog (Γ_aval_Same N) := by
  intro f vs hp v hp' h0
  obtain ⟨h, he⟩ := liftG_inv h0
  subst he
  unfold G_aval_Same at h
  split at h
  · simp only [Option.some.injEq, Prod.mk.injEq] at h
    obtain ⟨hc, rfl⟩ := h
    exact (h_slices_Equal_string_string _ _).frame rfl rfl _
  · simp only [Option.some.injEq, Prod.mk.injEq] at h
    obtain ⟨hc, rfl⟩ := h
    exact (h_slices_EqualFunc_api_AVal_api_AVal_api_AVal_api_AVal_aval_Same _ _ hc).frame rfl rfl _
  · simp at h
def ir_aval_Same_0 : IR := .ret
def ir_aval_Same_1 : IR := (.seq (.reg [⟨none, .fad 5 0 (.t 2)⟩,
    ⟨none, .lde 6 1 false (.t 5)⟩,
    ⟨none, .fad 7 0 (.t 3)⟩,
    ⟨none, .lde 8 1 false (.t 7)⟩,
    ⟨none, .bin 9 .eql (.t 6) (.t 8)⟩,
    ⟨none, .mov 10 (.t 9)⟩,
    ⟨some (10, true), .fad 11 1 (.t 2)⟩,
    ⟨some (10, true), .lde 12 1 false (.t 11)⟩,
    ⟨some (10, true), .fad 13 1 (.t 3)⟩,
    ⟨some (10, true), .lde 14 1 false (.t 13)⟩,
    ⟨some (10, true), .bin 15 .eql (.t 12) (.t 14)⟩,
    ⟨none, .pick 16 (.t 10) (.t 15) (.c (.bool false))⟩,
    ⟨none, .mov 17 (.t 16)⟩,
    ⟨some (17, true), .fad 18 4 (.t 2)⟩,
    ⟨some (17, true), .lde 19 1 false (.t 18)⟩,
    ⟨some (17, true), .fad 20 4 (.t 3)⟩,
    ⟨some (17, true), .lde 21 1 false (.t 20)⟩,
    ⟨some (17, true), .bin 22 .eql (.t 19) (.t 21)⟩,
    ⟨none, .pick 23 (.t 17) (.t 22) (.c (.bool false))⟩,
    ⟨none, .mov 24 (.t 23)⟩,
    ⟨some (24, true), .fad 25 3 (.t 2)⟩,
    ⟨some (24, true), .lde 26 1 false (.t 25)⟩,
    ⟨some (24, true), .fad 27 3 (.t 3)⟩,
    ⟨some (24, true), .lde 28 1 false (.t 27)⟩,
    ⟨some (24, true), .call (some 29) 56 [(.t 26), (.t 28)]⟩,
    ⟨none, .pick 30 (.t 24) (.t 29) (.c (.bool false))⟩,
    ⟨none, .mov 31 (.t 30)⟩,
    ⟨some (31, true), .fad 32 2 (.t 2)⟩,
    ⟨some (31, true), .lde 33 1 false (.t 32)⟩,
    ⟨some (31, true), .fad 34 2 (.t 3)⟩,
    ⟨some (31, true), .lde 35 1 false (.t 34)⟩,
    ⟨some (31, true), .call (some 36) 57 [(.t 33), (.t 35), (.c (.fn 24 []))]⟩,
    ⟨none, .pick 37 (.t 31) (.t 36) (.c (.bool false))⟩,
    ⟨none, .mov 4 (.t 37)⟩] []) ir_aval_Same_0)
def ir_aval_Same : IR := (.seq (.reg [⟨none, .boxe 2 (.t 0)⟩,
    ⟨none, .boxe 3 (.t 1)⟩,
    ⟨none, .mov 4 (.c (.bool false))⟩] []) ir_aval_Same_1)
def rs_aval_Same : List RV := [.t 4]
theorem chk_aval_Same : (chkCode Try.prog [] 0 ir_aval_Same (Try.f24.body.getD .skip) && chkRes Try.prog rs_aval_Same Try.f24.results.toList) = true := by kernel_rfl
theorem body_aval_Same : Try.f24.body = some (Try.f24.body.getD .skip) := by kernel_rfl
/-- proclitic/aval.Same -/
def sa_aval_Same (N : Nat) (p0_0 : Int) (p0_1 : List UInt8) (p0_2 : List AVal) (p0_3 : List (List UInt8)) (p0_4 : Int) (p1_0 : Int) (p1_1 : List UInt8) (p1_2 : List AVal) (p1_3 : List (List UInt8)) (p1_4 : Int)  : Option (V × List AObj) :=
  cond (p0_0 == p1_0) (
    cond (decide (p0_1 = p1_1)) (
      cond (p0_4 == p1_4) (
        cond (decide (p0_3 = p1_3)) (
          chk (decide (1000000 ≤ N - szL p0_2)) (
            some (.bool (sameL p0_2 p1_2), []))) (
          some (.bool false, []))) (
        some (.bool false, []))) (
      some (.bool false, []))) (
    some (.bool false, []))
def sh_aval_Same (N : Nat) (p0_0 : Int) (p0_1 : List UInt8) (p0_2 : List AVal) (p0_3 : List (List UInt8)) (p0_4 : Int) (p1_0 : Int) (p1_1 : List UInt8) (p1_2 : List AVal) (p1_3 : List (List UInt8)) (p1_4 : Int) : Option (V × List AObj) := sa_aval_Same N p0_0 p0_1 p0_2 p0_3 p0_4 p1_0 p1_1 p1_2 p1_3 p1_4
theorem run_aval_Same (N : Nat) (p0_0 : Int) (p0_1 : List UInt8) (p0_2 : List AVal) (p0_3 : List (List UInt8)) (p0_4 : Int) (p1_0 : Int) (p1_1 : List UInt8) (p1_2 : List AVal) (p1_3 : List (List UInt8)) (p1_4 : Int) : callF (Γ_aval_Same N) N 38 rs_aval_Same ir_aval_Same [.agg [.int .u64 p0_0, .str p0_1, .sl .aval false p0_2, .sl .str false p0_3, .int .i64 p0_4], .agg [.int .u64 p1_0, .str p1_1, .sl .aval false p1_2, .sl .str false p1_3, .int .i64 p1_4]] [] = sh_aval_Same N p0_0 p0_1 p0_2 p0_3 p0_4 p1_0 p1_1 p1_2 p1_3 p1_4 := by kernel_rfl
theorem ok_aval_Same (N : Nat) (hΓ : SpecOK Try.prog (Γ_aval_Same N)) (p0_0 : Int) (p0_1 : List UInt8) (p0_2 : List AVal) (p0_3 : List (List UInt8)) (p0_4 : Int) (p1_0 : Int) (p1_1 : List UInt8) (p1_2 : List AVal) (p1_3 : List (List UInt8)) (p1_4 : Int) {v : V} {hp : List AObj} (h : sh_aval_Same N p0_0 p0_1 p0_2 p0_3 p0_4 p1_0 p1_1 p1_2 p1_3 p1_4 = some (v, hp)) : PureOK Try.prog i_aval_Same [.agg [.int .u64 p0_0, .str p0_1, .sl .aval false p0_2, .sl .str false p0_3, .int .i64 p0_4], .agg [.int .u64 p1_0, .str p1_1, .sl .aval false p1_2, .sl .str false p1_3, .int .i64 p1_4]] v := by
  have hc := chk_aval_Same
  simp only [Bool.and_eq_true] at hc
  exact ⟨hp, fnOK_of hΓ (pureS_aval_Same N) Try.func24 body_aval_Same hc.1 hc.2 (by decide) ((run_aval_Same N p0_0 p0_1 p0_2 p0_3 p0_4 p1_0 p1_1 p1_2 p1_3 p1_4).trans h)⟩

def G_slices_EqualFunc_api_AVal_api_AVal_api_AVal_api_AVal_aval_Same (N : Nat) : Nat → List V → Option (Bool × V) := fun f vs => match f, vs with
  | 24, [.agg [.int .u64 a0_0, .str a0_1, .sl .aval false a0_2, .sl .str false a0_3, .int .i64 a0_4], .agg [.int .u64 a1_0, .str a1_1, .sl .aval false a1_2, .sl .str false a1_3, .int .i64 a1_4]] => some (decide (1000000 ≤ N - (szL a0_2 + 1)), .bool (sameV (.mk a0_0 a0_1 a0_2 a0_3 a0_4) (.mk a1_0 a1_1 a1_2 a1_3 a1_4)))
  | _, _ => none
def Γ_slices_EqualFunc_api_AVal_api_AVal_api_AVal_api_AVal_aval_Same (N : Nat) : ASpec := liftG (G_slices_EqualFunc_api_AVal_api_AVal_api_AVal_api_AVal_aval_Same N)
theorem pureS_slices_EqualFunc_api_AVal_api_AVal_api_AVal_api_AVal_aval_Same (N : Nat) : PureS (Γ_slices_EqualFunc_api_AVal_api_AVal_api_AVal_api_AVal_aval_Same N) [] := liftG_pure _ _
theorem spec_slices_EqualFunc_api_AVal_api_AVal_api_AVal_api_AVal_aval_Same (N : Nat) (h_aval_Same : ∀ (a0_0 : Int) (a0_1 : List UInt8) (a0_2 : List AVal) (a0_3 : List (List UInt8)) (a0_4 : Int) (a1_0 : Int) (a1_1 : List UInt8) (a1_2 : List AVal) (a1_3 : List (List UInt8)) (a1_4 : Int), (decide (1000000 ≤ N - (szL a0_2 + 1))) = true → PureOK Try.prog i_aval_Same [.agg [.int .u64 a0_0, .str a0_1, .sl .aval false a0_2, .sl .str false a0_3, .int .i64 a0_4], .agg [.int .u64 a1_0, .str a1_1, .sl .aval false a1_2, .sl .str false a1_3, .int .i64 a1_4]] (.bool (sameV (.mk a0_0 a0_1 a0_2 a0_3 a0_4) (.mk a1_0 a1_1 a1_2 a1_3 a1_4)))) : SpecOK Try.prog (Γ_slices_EqualFunc_api_AVal_api_AVal_api_AVal_api_AVal_aval_Same N) := by
  intro f vs hp v hp' h0
  obtain ⟨h, he⟩ := liftG_inv h0
  subst he
  unfold G_slices_EqualFunc_api_AVal_api_AVal_api_AVal_api_AVal_aval_Same at h
  split at h
  · simp only [Option.some.injEq, Prod.mk.injEq] at h
    obtain ⟨hc, rfl⟩ := h
    exact (h_aval_Same _ _ _ _ _ _ _ _ _ _ hc).frame rfl rfl _
  · simp at h
def ir_slices_EqualFunc_api_AVal_api_AVal_api_AVal_api_AVal_aval_Same_0 : IR := .ret
def ir_slices_EqualFunc_api_AVal_api_AVal_api_AVal_api_AVal_aval_Same_1 : IR := (.cond (.t 14) (.seq (.reg [⟨none, .mov 6 (.c (.bool false))⟩] []) ir_slices_EqualFunc_api_AVal_api_AVal_api_AVal_api_AVal_aval_Same_0) .skip)
def ir_slices_EqualFunc_api_AVal_api_AVal_api_AVal_api_AVal_aval_Same_2 : IR := .ret
def ir_slices_EqualFunc_api_AVal_api_AVal_api_AVal_api_AVal_aval_Same_3 : IR := (.cond (.t 30) (.seq (.reg [⟨none, .mov 6 (.c (.bool false))⟩] []) ir_slices_EqualFunc_api_AVal_api_AVal_api_AVal_api_AVal_aval_Same_2) .skip)
def ir_slices_EqualFunc_api_AVal_api_AVal_api_AVal_api_AVal_aval_Same_4 : IR := (.seq (.reg [⟨none, .mov 26 (.t 2)⟩,
    ⟨none, .lde 27 5 true (.t 8)⟩,
    ⟨none, .lde 28 5 true (.t 9)⟩,
    ⟨none, .dcall (some 29) 24 (.t 26) [(.t 27), (.t 28)]⟩,
    ⟨none, .un 30 .not (.t 29)⟩] []) ir_slices_EqualFunc_api_AVal_api_AVal_api_AVal_api_AVal_aval_Same_3)
def ir_slices_EqualFunc_api_AVal_api_AVal_api_AVal_api_AVal_aval_Same_5 : IR := (.seq (.reg [⟨none, .mov 22 (.t 1)⟩,
    ⟨none, .mov 23 (.t 7)⟩,
    ⟨none, .ixa 24 .aval (.t 22) (.t 23)⟩,
    ⟨none, .lde 25 5 true (.t 24)⟩,
    ⟨none, .alr 9 5⟩,
    ⟨none, .frz none 9 5 (.t 25)⟩] []) ir_slices_EqualFunc_api_AVal_api_AVal_api_AVal_api_AVal_aval_Same_4)
def ir_slices_EqualFunc_api_AVal_api_AVal_api_AVal_api_AVal_aval_Same_6 : IR := (.reg [⟨none, .bin 31 .add (.t 17) (.c (.int .i64 1))⟩,
    ⟨none, .mov 17 (.t 31)⟩] [])
def ir_slices_EqualFunc_api_AVal_api_AVal_api_AVal_api_AVal_aval_Same_7 : IR := (.seq (.block 1 (.seq (.reg [⟨none, .mov 19 (.t 17)⟩,
    ⟨none, .ixa 20 .aval (.t 15) (.t 17)⟩,
    ⟨none, .lde 21 5 true (.t 20)⟩,
    ⟨none, .alr 8 5⟩,
    ⟨none, .mov 7 (.t 19)⟩,
    ⟨none, .frz none 8 5 (.t 21)⟩] []) ir_slices_EqualFunc_api_AVal_api_AVal_api_AVal_api_AVal_aval_Same_5)) ir_slices_EqualFunc_api_AVal_api_AVal_api_AVal_api_AVal_aval_Same_6)
def ir_slices_EqualFunc_api_AVal_api_AVal_api_AVal_api_AVal_aval_Same_8 : IR := (.seq (.cond (.t 18) .skip (.exit 0)) ir_slices_EqualFunc_api_AVal_api_AVal_api_AVal_api_AVal_aval_Same_7)
def ir_slices_EqualFunc_api_AVal_api_AVal_api_AVal_api_AVal_aval_Same_9 : IR := (.seq (.reg [⟨none, .bin 18 .lss (.t 17) (.t 16)⟩] []) ir_slices_EqualFunc_api_AVal_api_AVal_api_AVal_api_AVal_aval_Same_8)
def ir_slices_EqualFunc_api_AVal_api_AVal_api_AVal_api_AVal_aval_Same_10 : IR := (.block 0 (.loop [1, 2, 15, 16, 17] 0 ir_slices_EqualFunc_api_AVal_api_AVal_api_AVal_api_AVal_aval_Same_9))
def ir_slices_EqualFunc_api_AVal_api_AVal_api_AVal_api_AVal_aval_Same_11 : IR := .ret
def ir_slices_EqualFunc_api_AVal_api_AVal_api_AVal_api_AVal_aval_Same_12 : IR := (.seq (.reg [⟨none, .mov 6 (.c (.bool true))⟩] []) ir_slices_EqualFunc_api_AVal_api_AVal_api_AVal_api_AVal_aval_Same_11)
def ir_slices_EqualFunc_api_AVal_api_AVal_api_AVal_api_AVal_aval_Same_13 : IR := (.seq (.seq (.reg [⟨none, .mov 15 (.t 0)⟩,
    ⟨none, .lenl 16 (.t 15)⟩,
    ⟨none, .mov 17 (.c (.int .i64 0))⟩] []) ir_slices_EqualFunc_api_AVal_api_AVal_api_AVal_api_AVal_aval_Same_10) ir_slices_EqualFunc_api_AVal_api_AVal_api_AVal_api_AVal_aval_Same_12)
def ir_slices_EqualFunc_api_AVal_api_AVal_api_AVal_api_AVal_aval_Same_14 : IR := (.seq (.seq (.reg [⟨none, .mov 10 (.t 0)⟩,
    ⟨none, .lenl 11 (.t 10)⟩,
    ⟨none, .mov 12 (.t 1)⟩,
    ⟨none, .lenl 13 (.t 12)⟩,
    ⟨none, .bin 14 .neq (.t 11) (.t 13)⟩] []) ir_slices_EqualFunc_api_AVal_api_AVal_api_AVal_api_AVal_aval_Same_1) ir_slices_EqualFunc_api_AVal_api_AVal_api_AVal_api_AVal_aval_Same_13)
def ir_slices_EqualFunc_api_AVal_api_AVal_api_AVal_api_AVal_aval_Same : IR := (.seq (.reg [⟨none, .mov 6 (.c (.bool false))⟩] []) ir_slices_EqualFunc_api_AVal_api_AVal_api_AVal_api_AVal_aval_Same_14)
def rs_slices_EqualFunc_api_AVal_api_AVal_api_AVal_api_AVal_aval_Same : List RV := [.t 6]
theorem chk_slices_EqualFunc_api_AVal_api_AVal_api_AVal_api_AVal_aval_Same : (chkCode Try.prog [] 0 ir_slices_EqualFunc_api_AVal_api_AVal_api_AVal_api_AVal_aval_Same (Try.f57.body.getD .skip) && chkRes Try.prog rs_slices_EqualFunc_api_AVal_api_AVal_api_AVal_api_AVal_aval_Same Try.f57.results.toList) = true := by kernel_rfl
theorem body_slices_EqualFunc_api_AVal_api_AVal_api_AVal_api_AVal_aval_Same : Try.f57.body = some (Try.f57.body.getD .skip) := by kernel_rfl
def mk_slices_EqualFunc_api_AVal_api_AVal_api_AVal_api_AVal_aval_Same_0 (x : (List AVal × List AVal × Int × Int)) : St := { env := [.undef, .sl .aval false x.1, .fn 24 [], .undef, .undef, .undef, .undef, .undef, .undef, .undef, .undef, .undef, .undef, .undef, .undef, .sl .aval false x.2.1, .int .i64 x.2.2.1, .int .i64 x.2.2.2, .undef, .undef, .undef, .undef, .undef, .undef, .undef, .undef, .undef, .undef, .undef, .undef, .undef, .undef], hp := [] }
def F_slices_EqualFunc_api_AVal_api_AVal_api_AVal_api_AVal_aval_Same_0 (N : Nat) : (St → Option (V × List AObj)) → St → Option (V × List AObj) := fun again0 s => run (Γ_slices_EqualFunc_api_AVal_api_AVal_api_AVal_api_AVal_aval_Same N) N ir_slices_EqualFunc_api_AVal_api_AVal_api_AVal_api_AVal_aval_Same_9 (kloop again0 [1, 2, 15, 16, 17] 0 (kblock 0 (kseq (run (Γ_slices_EqualFunc_api_AVal_api_AVal_api_AVal_api_AVal_aval_Same N) N ir_slices_EqualFunc_api_AVal_api_AVal_api_AVal_api_AVal_aval_Same_12) (fin rs_slices_EqualFunc_api_AVal_api_AVal_api_AVal_api_AVal_aval_Same)))) s
def B_slices_EqualFunc_api_AVal_api_AVal_api_AVal_api_AVal_aval_Same_0 (N : Nat) (again0 : (List AVal × List AVal × Int × Int) → Option (V × List AObj)) (x : (List AVal × List AVal × Int × Int)) : Option (V × List AObj) :=
  let v1 : List AVal := x.1
  let v15 : List AVal := x.2.1
  let v16 : Int := x.2.2.1
  let v17 : Int := x.2.2.2
  cond (decide (v17 < v16)) (
    chk ((decide (0 ≤ v17) && decide (v17 < ↑(List.length v15)))) (
      let x4 : Int := (List.getD v15 (Int.toNat v17) (dflt .aval)).n
      let x5 : List UInt8 := (List.getD v15 (Int.toNat v17) (dflt .aval)).s
      let x6 : List AVal := (List.getD v15 (Int.toNat v17) (dflt .aval)).l
      let x7 : List (List UInt8) := (List.getD v15 (Int.toNat v17) (dflt .aval)).keys
      let x8 : Int := (List.getD v15 (Int.toNat v17) (dflt .aval)).branch
      chk ((decide (0 ≤ v17) && decide (v17 < ↑(List.length v1)))) (
        let x9 : Int := (List.getD v1 (Int.toNat v17) (dflt .aval)).n
        let x10 : List UInt8 := (List.getD v1 (Int.toNat v17) (dflt .aval)).s
        let x11 : List AVal := (List.getD v1 (Int.toNat v17) (dflt .aval)).l
        let x12 : List (List UInt8) := (List.getD v1 (Int.toNat v17) (dflt .aval)).keys
        let x13 : Int := (List.getD v1 (Int.toNat v17) (dflt .aval)).branch
        chk (decide (1000000 ≤ N - (szL x6 + 1))) (
          let x14 : Bool := (sameV (.mk x4 x5 x6 x7 x8) (.mk x9 x10 x11 x12 x13))
          cond (!x14) (
            some (.bool false, [])) (
            let x15 : Int := (IntKind.wrap .i64 (v17 + 1))
            again0 (v1, v15, v16, x15)))))) (
    some (.bool true, []))
theorem FB_slices_EqualFunc_api_AVal_api_AVal_api_AVal_api_AVal_aval_Same_0 (N : Nat) : ∀ (again0 : St → Option (V × List AObj)) (x : (List AVal × List AVal × Int × Int)), F_slices_EqualFunc_api_AVal_api_AVal_api_AVal_api_AVal_aval_Same_0 N again0 (mk_slices_EqualFunc_api_AVal_api_AVal_api_AVal_api_AVal_aval_Same_0 x) = B_slices_EqualFunc_api_AVal_api_AVal_api_AVal_api_AVal_aval_Same_0 N (fun y => again0 (mk_slices_EqualFunc_api_AVal_api_AVal_api_AVal_api_AVal_aval_Same_0 y)) x := by
  intro again0 x
  kernel_rfl
/-- slices.EqualFunc[[]proclitic/api.AVal,[]proclitic/api.AVal,proclitic/api.AVal,proclitic/api.AVal]@proclitic/aval.Same -/
def sa_slices_EqualFunc_api_AVal_api_AVal_api_AVal_api_AVal_aval_Same (N : Nat) (p0 : List AVal) (p1 : List AVal) (q0 : (List AVal × List AVal × Int × Int) → Option (V × List AObj)) : Option (V × List AObj) :=
  let x1 : Int := (↑(List.length p0) : Int)
  let x2 : Int := (↑(List.length p1) : Int)
  cond (!(x1 == x2)) (
    some (.bool false, [])) (
    let x3 : Int := (↑(List.length p0) : Int)
    q0 (p1, p0, x3, 0))
def sh_slices_EqualFunc_api_AVal_api_AVal_api_AVal_api_AVal_aval_Same (N : Nat) (p0 : List AVal) (p1 : List AVal) : Option (V × List AObj) := sa_slices_EqualFunc_api_AVal_api_AVal_api_AVal_api_AVal_aval_Same N p0 p1 (fun z => iterL N (B_slices_EqualFunc_api_AVal_api_AVal_api_AVal_api_AVal_aval_Same_0 N) z)
theorem run_slices_EqualFunc_api_AVal_api_AVal_api_AVal_api_AVal_aval_Same (N : Nat) (p0 : List AVal) (p1 : List AVal) : callF (Γ_slices_EqualFunc_api_AVal_api_AVal_api_AVal_api_AVal_aval_Same N) N 32 rs_slices_EqualFunc_api_AVal_api_AVal_api_AVal_api_AVal_aval_Same ir_slices_EqualFunc_api_AVal_api_AVal_api_AVal_api_AVal_aval_Same [.sl .aval false p0, .sl .aval false p1, .fn 24 []] [] = sh_slices_EqualFunc_api_AVal_api_AVal_api_AVal_api_AVal_aval_Same N p0 p1 := by
  have h : callF (Γ_slices_EqualFunc_api_AVal_api_AVal_api_AVal_api_AVal_aval_Same N) N 32 rs_slices_EqualFunc_api_AVal_api_AVal_api_AVal_api_AVal_aval_Same ir_slices_EqualFunc_api_AVal_api_AVal_api_AVal_api_AVal_aval_Same [.sl .aval false p0, .sl .aval false p1, .fn 24 []] [] = sa_slices_EqualFunc_api_AVal_api_AVal_api_AVal_api_AVal_aval_Same N p0 p1 (fun z => loopN N (F_slices_EqualFunc_api_AVal_api_AVal_api_AVal_api_AVal_aval_Same_0 N) (mk_slices_EqualFunc_api_AVal_api_AVal_api_AVal_api_AVal_aval_Same_0 z)) := by kernel_rfl
  have e0 : (fun z => loopN N (F_slices_EqualFunc_api_AVal_api_AVal_api_AVal_api_AVal_aval_Same_0 N) (mk_slices_EqualFunc_api_AVal_api_AVal_api_AVal_api_AVal_aval_Same_0 z)) = (fun z => iterL N (B_slices_EqualFunc_api_AVal_api_AVal_api_AVal_api_AVal_aval_Same_0 N) z) := funext fun z => loop_eq (mk_slices_EqualFunc_api_AVal_api_AVal_api_AVal_api_AVal_aval_Same_0) (F_slices_EqualFunc_api_AVal_api_AVal_api_AVal_api_AVal_aval_Same_0 N) (B_slices_EqualFunc_api_AVal_api_AVal_api_AVal_api_AVal_aval_Same_0 N) (FB_slices_EqualFunc_api_AVal_api_AVal_api_AVal_api_AVal_aval_Same_0 N) N z
  rw [h, e0]
  rfl
theorem ok_slices_EqualFunc_api_AVal_api_AVal_api_AVal_api_AVal_aval_Same (N : Nat) (hΓ : SpecOK Try.prog (Γ_slices_EqualFunc_api_AVal_api_AVal_api_AVal_api_AVal_aval_Same N)) (p0 : List AVal) (p1 : List AVal) {v : V} {hp : List AObj} (h : sh_slices_EqualFunc_api_AVal_api_AVal_api_AVal_api_AVal_aval_Same N p0 p1 = some (v, hp)) : PureOK Try.prog i_slices_EqualFunc_api_AVal_api_AVal_api_AVal_api_AVal_aval_Same [.sl .aval false p0, .sl .aval false p1, .fn 24 []] v := by
  have hc := chk_slices_EqualFunc_api_AVal_api_AVal_api_AVal_api_AVal_aval_Same
  simp only [Bool.and_eq_true] at hc
  exact ⟨hp, fnOK_of hΓ (pureS_slices_EqualFunc_api_AVal_api_AVal_api_AVal_api_AVal_aval_Same N) Try.func57 body_slices_EqualFunc_api_AVal_api_AVal_api_AVal_api_AVal_aval_Same hc.1 hc.2 (by decide) ((run_slices_EqualFunc_api_AVal_api_AVal_api_AVal_api_AVal_aval_Same N p0 p1).trans h)⟩

def G_aval_Size (N : Nat) : Nat → List V → Option (Bool × V) := fun f vs => match f, vs with
  | 22, [.agg [.int .u64 a0_0, .str a0_1, .sl .aval false a0_2, .sl .str false a0_3, .int .i64 a0_4]] => some (decide (1000000 ≤ N - (szL a0_2 + 1)), .tup [.int .i64 ((sizeV (.mk a0_0 a0_1 a0_2 a0_3 a0_4)).1), .int .i64 ((sizeV (.mk a0_0 a0_1 a0_2 a0_3 a0_4)).2)])
  | _, _ => none
def Γ_aval_Size (N : Nat) : ASpec := liftG (G_aval_Size N)
theorem pureS_aval_Size (N : Nat) : PureS (Γ_aval_Size N) [] := liftG_pure _ _
theorem spec_aval_Size (N : Nat) (h_aval_Size : ∀ (a0_0 : Int) (a0_1 : List UInt8) (a0_2 : List AVal) (a0_3 : List (List UInt8)) (a0_4 : Int), (decide (1000000 ≤ N - (szL a0_2 + 1))) = true → PureOK Try.prog i_aval_Size [.agg [.int .u64 a0_0, .str a0_1, .sl .aval false a0_2, .sl .str false a0_3, .int .i64 a0_4]] (.tup [.int .i64 ((sizeV (.mk a0_0 a0_1 a0_2 a0_3 a0_4)).1), .int .i64 ((sizeV (.mk a0_0 a0_1 a0_2 a0_3 a0_4)).2)])) : SpecOK Try.prog (Γ_aval_Size N) := by
  intro f vs hp v hp' h0
  obtain ⟨h, he⟩ := liftG_inv h0
  subst he
  unfold G_aval_Size at h
  split at h
  · simp only [Option.some.injEq, Prod.mk.injEq] at h
    obtain ⟨hc, rfl⟩ := h
    exact (h_aval_Size _ _ _ _ _ hc).frame rfl rfl _
  · simp at h
def ir_aval_Size_0 : IR := (.reg [⟨none, .mov 24 (.t 2)⟩,
    ⟨none, .mov 25 (.t 6)⟩,
    ⟨none, .bin 26 .add (.t 25) (.c (.int .i64 1))⟩,
    ⟨none, .mx 27 false (.t 24) (.t 26)⟩,
    ⟨none, .mov 28 (.t 3)⟩,
    ⟨none, .mov 29 (.t 7)⟩,
    ⟨none, .bin 30 .add (.t 28) (.t 29)⟩,
    ⟨none, .mov 2 (.t 27)⟩,
    ⟨none, .mov 3 (.t 30)⟩] [])
def ir_aval_Size_1 : IR := (.seq (.reg [⟨none, .lde 20 5 true (.t 5)⟩,
    ⟨none, .call (some 21) 22 [(.t 20)]⟩,
    ⟨none, .mov 19 (.t 21)⟩,
    ⟨none, .ext 22 0 (.t 19)⟩,
    ⟨none, .ext 23 1 (.t 19)⟩,
    ⟨none, .mov 6 (.t 22)⟩,
    ⟨none, .mov 7 (.t 23)⟩] []) ir_aval_Size_0)
def ir_aval_Size_2 : IR := (.reg [⟨none, .bin 31 .add (.t 15) (.c (.int .i64 1))⟩,
    ⟨none, .mov 15 (.t 31)⟩] [])
def ir_aval_Size_3 : IR := (.seq (.block 1 (.seq (.reg [⟨none, .ixa 17 .aval (.t 13) (.t 15)⟩,
    ⟨none, .lde 18 5 true (.t 17)⟩,
    ⟨none, .alr 5 5⟩,
    ⟨none, .frz none 5 5 (.t 18)⟩] []) ir_aval_Size_1)) ir_aval_Size_2)
def ir_aval_Size_4 : IR := (.seq (.cond (.t 16) .skip (.exit 0)) ir_aval_Size_3)
def ir_aval_Size_5 : IR := (.seq (.reg [⟨none, .bin 16 .lss (.t 15) (.t 14)⟩] []) ir_aval_Size_4)
def ir_aval_Size_6 : IR := (.block 0 (.loop [2, 3, 13, 14, 15] 0 ir_aval_Size_5))
def ir_aval_Size_7 : IR := .ret
def ir_aval_Size_8 : IR := (.seq (.reg [⟨none, .mov 32 (.t 2)⟩,
    ⟨none, .mov 33 (.t 3)⟩,
    ⟨none, .mov 2 (.t 32)⟩,
    ⟨none, .mov 3 (.t 33)⟩] []) ir_aval_Size_7)
def ir_aval_Size_9 : IR := (.seq (.seq (.reg [⟨none, .fad 12 2 (.t 1)⟩,
    ⟨none, .lde 13 1 false (.t 12)⟩,
    ⟨none, .lenl 14 (.t 13)⟩,
    ⟨none, .mov 15 (.c (.int .i64 0))⟩] []) ir_aval_Size_6) ir_aval_Size_8)
def ir_aval_Size_10 : IR := (.seq (.reg [⟨none, .fad 8 3 (.t 1)⟩,
    ⟨none, .lde 9 1 false (.t 8)⟩,
    ⟨none, .lenl 10 (.t 9)⟩,
    ⟨none, .mx 11 true (.t 10) (.c (.int .i64 1))⟩,
    ⟨none, .mov 2 (.t 11)⟩,
    ⟨none, .mov 3 (.c (.int .i64 1))⟩] []) ir_aval_Size_9)
def ir_aval_Size : IR := (.seq (.reg [⟨none, .boxe 1 (.t 0)⟩,
    ⟨none, .mov 2 (.c (.int .i64 0))⟩,
    ⟨none, .mov 3 (.c (.int .i64 0))⟩] []) ir_aval_Size_10)
def rs_aval_Size : List RV := [.t 2, .t 3]
theorem chk_aval_Size : (chkCode Try.prog [] 0 ir_aval_Size (Try.f22.body.getD .skip) && chkRes Try.prog rs_aval_Size Try.f22.results.toList) = true := by kernel_rfl
theorem body_aval_Size : Try.f22.body = some (Try.f22.body.getD .skip) := by kernel_rfl
def mk_aval_Size_0 (x : (Int × Int × List AVal × Int × Int)) : St := { env := [.undef, .undef, .int .i64 x.1, .int .i64 x.2.1, .undef, .undef, .undef, .undef, .undef, .undef, .undef, .undef, .undef, .sl .aval false x.2.2.1, .int .i64 x.2.2.2.1, .int .i64 x.2.2.2.2, .undef, .undef, .undef, .undef, .undef, .undef, .undef, .undef, .undef, .undef, .undef, .undef, .undef, .undef, .undef, .undef, .undef, .undef], hp := [] }
def F_aval_Size_0 (N : Nat) : (St → Option (V × List AObj)) → St → Option (V × List AObj) := fun again0 s => run (Γ_aval_Size N) N ir_aval_Size_5 (kloop again0 [2, 3, 13, 14, 15] 0 (kblock 0 (kseq (run (Γ_aval_Size N) N ir_aval_Size_8) (fin rs_aval_Size)))) s
def B_aval_Size_0 (N : Nat) (again0 : (Int × Int × List AVal × Int × Int) → Option (V × List AObj)) (x : (Int × Int × List AVal × Int × Int)) : Option (V × List AObj) :=
  let v2 : Int := x.1
  let v3 : Int := x.2.1
  let v13 : List AVal := x.2.2.1
  let v14 : Int := x.2.2.2.1
  let v15 : Int := x.2.2.2.2
  cond (decide (v15 < v14)) (
    chk ((decide (0 ≤ v15) && decide (v15 < ↑(List.length v13)))) (
      let x4 : Int := (List.getD v13 (Int.toNat v15) (dflt .aval)).n
      let x5 : List UInt8 := (List.getD v13 (Int.toNat v15) (dflt .aval)).s
      let x6 : List AVal := (List.getD v13 (Int.toNat v15) (dflt .aval)).l
      let x7 : List (List UInt8) := (List.getD v13 (Int.toNat v15) (dflt .aval)).keys
      let x8 : Int := (List.getD v13 (Int.toNat v15) (dflt .aval)).branch
      chk (decide (1000000 ≤ N - (szL x6 + 1))) (
        let x9 : Int := (sizeV (.mk x4 x5 x6 x7 x8)).1
        let x10 : Int := (sizeV (.mk x4 x5 x6 x7 x8)).2
        let x11 : Int := (IntKind.wrap .i64 (x9 + 1))
        let x12 : Int := (if v2 < x11 then x11 else v2)
        let x13 : Int := (IntKind.wrap .i64 (v3 + x10))
        let x14 : Int := (IntKind.wrap .i64 (v15 + 1))
        again0 (x12, x13, v13, v14, x14)))) (
    some (.tup [.int .i64 v2, .int .i64 v3], []))
theorem FB_aval_Size_0 (N : Nat) : ∀ (again0 : St → Option (V × List AObj)) (x : (Int × Int × List AVal × Int × Int)), F_aval_Size_0 N again0 (mk_aval_Size_0 x) = B_aval_Size_0 N (fun y => again0 (mk_aval_Size_0 y)) x := by
  intro again0 x
  kernel_rfl
/-- proclitic/aval.Size -/
def sa_aval_Size (N : Nat) (p0_0 : Int) (p0_1 : List UInt8) (p0_2 : List AVal) (p0_3 : List (List UInt8)) (p0_4 : Int) (q0 : (Int × Int × List AVal × Int × Int) → Option (V × List AObj)) : Option (V × List AObj) :=
  let x1 : Int := (↑(List.length p0_3) : Int)
  let x2 : Int := (if 1 < x1 then 1 else x1)
  let x3 : Int := (↑(List.length p0_2) : Int)
  q0 (x2, 1, p0_2, x3, 0)
def sh_aval_Size (N : Nat) (p0_0 : Int) (p0_1 : List UInt8) (p0_2 : List AVal) (p0_3 : List (List UInt8)) (p0_4 : Int) : Option (V × List AObj) := sa_aval_Size N p0_0 p0_1 p0_2 p0_3 p0_4 (fun z => iterL N (B_aval_Size_0 N) z)
theorem run_aval_Size (N : Nat) (p0_0 : Int) (p0_1 : List UInt8) (p0_2 : List AVal) (p0_3 : List (List UInt8)) (p0_4 : Int) : callF (Γ_aval_Size N) N 34 rs_aval_Size ir_aval_Size [.agg [.int .u64 p0_0, .str p0_1, .sl .aval false p0_2, .sl .str false p0_3, .int .i64 p0_4]] [] = sh_aval_Size N p0_0 p0_1 p0_2 p0_3 p0_4 := by
  have h : callF (Γ_aval_Size N) N 34 rs_aval_Size ir_aval_Size [.agg [.int .u64 p0_0, .str p0_1, .sl .aval false p0_2, .sl .str false p0_3, .int .i64 p0_4]] [] = sa_aval_Size N p0_0 p0_1 p0_2 p0_3 p0_4 (fun z => loopN N (F_aval_Size_0 N) (mk_aval_Size_0 z)) := by kernel_rfl
  have e0 : (fun z => loopN N (F_aval_Size_0 N) (mk_aval_Size_0 z)) = (fun z => iterL N (B_aval_Size_0 N) z) := funext fun z => loop_eq (mk_aval_Size_0) (F_aval_Size_0 N) (B_aval_Size_0 N) (FB_aval_Size_0 N) N z
  rw [h, e0]
  rfl
theorem ok_aval_Size (N : Nat) (hΓ : SpecOK Try.prog (Γ_aval_Size N)) (p0_0 : Int) (p0_1 : List UInt8) (p0_2 : List AVal) (p0_3 : List (List UInt8)) (p0_4 : Int) {v : V} {hp : List AObj} (h : sh_aval_Size N p0_0 p0_1 p0_2 p0_3 p0_4 = some (v, hp)) : PureOK Try.prog i_aval_Size [.agg [.int .u64 p0_0, .str p0_1, .sl .aval false p0_2, .sl .str false p0_3, .int .i64 p0_4]] v := by
  have hc := chk_aval_Size
  simp only [Bool.and_eq_true] at hc
  exact ⟨hp, fnOK_of hΓ (pureS_aval_Size N) Try.func22 body_aval_Size hc.1 hc.2 (by decide) ((run_aval_Size N p0_0 p0_1 p0_2 p0_3 p0_4).trans h)⟩

end Go.Proofs.Ytdpajabhmmmjoaa
