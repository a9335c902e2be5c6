/-
  The plain functions that runs of the code are: written by wip/gen/gen.py.
-/
import Derived.Test.YtdpajabhmmmjoaaAeSpec
import Derived.Test.YtdpajabhmmmjoaaAvFun2
import Derived.Test.YtdpajabhmmmjoaaRcSpec
import Derived.KernelRfl
namespace Go.Proofs.Ytdpajabhmmmjoaa
open Go.AM
set_option autoImplicit false
set_option linter.unusedVariables false
set_option maxRecDepth 100000
abbrev i_aenc_Encode : FuncId := 37
abbrev i_aenc_fixed : FuncId := 104
abbrev i_aenc_items : FuncId := 107
abbrev i_aenc_long : FuncId := 105
abbrev i_aenc_text : FuncId := 106
abbrev i_aenc_value : FuncId := 70
abbrev i_cast_To : FuncId := 135
abbrev i_law22_AencSizes : FuncId := 12
abbrev i_law22_begun : FuncId := 36
abbrev i_rec_PutVarint : FuncId := 134
noncomputable def G_cast_To : Nat → List V → Option (Bool × V) := fun _ _ => none
noncomputable def Γ_cast_To : ASpec := liftG G_cast_To
theorem pureS_cast_To : PureS Γ_cast_To [] := liftG_pure _ _
theorem spec_cast_To  : SpecOK Try.prog Γ_cast_To := by
  intro f vs hp v hp' h
  obtain ⟨h, -⟩ := liftG_inv h
  simp [G_cast_To] at h
noncomputable def ir_cast_To_0 : IR := (.cond (.t 8) .skip (.reg [⟨none, .bin 10 .eql (.t 7) (.c (.int .i64 17))⟩,
    ⟨none, .mov 8 (.t 10)⟩] []))
noncomputable def ir_cast_To_1 : IR := .ret
noncomputable def ir_cast_To_2 : IR := (.cond (.t 13) .skip (.reg [⟨none, .bin 17 .eql (.t 7) (.c (.int .i64 11))⟩,
    ⟨none, .mov 13 (.t 17)⟩] []))
noncomputable def ir_cast_To_3 : IR := (.cond (.t 13) .skip (.seq (.reg [⟨none, .bin 16 .eql (.t 7) (.c (.int .i64 2))⟩,
    ⟨none, .mov 13 (.t 16)⟩] []) ir_cast_To_2))
noncomputable def ir_cast_To_4 : IR := (.cond (.t 13) .skip (.seq (.reg [⟨none, .bin 15 .eql (.t 7) (.c (.int .i64 9))⟩,
    ⟨none, .mov 13 (.t 15)⟩] []) ir_cast_To_3))
noncomputable def ir_cast_To_5 : IR := .ret
noncomputable def ir_cast_To_6 : IR := .ret
noncomputable def ir_cast_To_7 : IR := .ret
noncomputable def ir_cast_To_8 : IR := (.seq (.reg [⟨none, .mov 30 (.t 5)⟩,
    ⟨none, .bin 31 .shl (.t 30) (.c (.int .u64 1))⟩,
    ⟨none, .mov 32 (.t 5)⟩,
    ⟨none, .bin 33 .shr (.t 32) (.c (.int .u64 31))⟩,
    ⟨none, .bin 34 .xor (.t 31) (.t 33)⟩,
    ⟨none, .cvi 35 .u32 (.t 34)⟩,
    ⟨none, .cvi 36 .u64 (.t 35)⟩,
    ⟨none, .mov 4 (.t 36)⟩] []) ir_cast_To_7)
noncomputable def ir_cast_To_9 : IR := .ret
noncomputable def ir_cast_To_10 : IR := (.seq (.reg [⟨none, .mov 41 (.t 6)⟩,
    ⟨none, .bin 42 .shl (.t 41) (.c (.int .u64 1))⟩,
    ⟨none, .mov 43 (.t 6)⟩,
    ⟨none, .bin 44 .shr (.t 43) (.c (.int .u64 63))⟩,
    ⟨none, .bin 45 .xor (.t 42) (.t 44)⟩,
    ⟨none, .cvi 46 .u64 (.t 45)⟩,
    ⟨none, .mov 4 (.t 46)⟩] []) ir_cast_To_9)
noncomputable def ir_cast_To_11 : IR := (.cond (.t 37) (.seq (.reg [⟨none, .mov 39 (.t 1)⟩,
    ⟨none, .cvi 40 .i64 (.t 39)⟩,
    ⟨none, .mov 6 (.t 40)⟩] []) ir_cast_To_10) .skip)
noncomputable def ir_cast_To_12 : IR := (.cond (.t 25) (.seq (.reg [⟨none, .mov 27 (.t 1)⟩,
    ⟨none, .cvi 28 .u32 (.t 27)⟩,
    ⟨none, .cvi 29 .i32 (.t 28)⟩,
    ⟨none, .mov 5 (.t 29)⟩] []) ir_cast_To_8) (.seq (.reg [⟨none, .bin 38 .eql (.t 7) (.c (.int .i64 8))⟩,
    ⟨none, .mov 37 (.t 38)⟩] []) ir_cast_To_11))
noncomputable def ir_cast_To_13 : IR := (.cond (.t 21) (.seq (.reg [⟨none, .mov 23 (.t 1)⟩,
    ⟨none, .mx 24 true (.t 23) (.c (.int .u64 1))⟩,
    ⟨none, .mov 4 (.t 24)⟩] []) ir_cast_To_6) (.seq (.reg [⟨none, .bin 26 .eql (.t 7) (.c (.int .i64 7))⟩,
    ⟨none, .mov 25 (.t 26)⟩] []) ir_cast_To_12))
noncomputable def ir_cast_To_14 : IR := (.cond (.t 13) (.seq (.reg [⟨none, .mov 18 (.t 1)⟩,
    ⟨none, .cvi 19 .u32 (.t 18)⟩,
    ⟨none, .cvi 20 .u64 (.t 19)⟩,
    ⟨none, .mov 4 (.t 20)⟩] []) ir_cast_To_5) (.seq (.reg [⟨none, .bin 22 .eql (.t 7) (.c (.int .i64 13))⟩,
    ⟨none, .mov 21 (.t 22)⟩] []) ir_cast_To_13))
noncomputable def ir_cast_To_15 : IR := (.cond (.t 8) (.seq .bad ir_cast_To_1) (.seq (.seq (.reg [⟨none, .bin 14 .eql (.t 7) (.c (.int .i64 5))⟩,
    ⟨none, .mov 13 (.t 14)⟩] []) ir_cast_To_4) ir_cast_To_14))
noncomputable def ir_cast_To_16 : IR := (.block 0 (.seq (.seq (.reg [⟨none, .bin 9 .eql (.t 7) (.c (.int .i64 3))⟩,
    ⟨none, .mov 8 (.t 9)⟩] []) ir_cast_To_0) ir_cast_To_15))
noncomputable def ir_cast_To_17 : IR := .ret
noncomputable def ir_cast_To_18 : IR := (.seq (.reg [⟨none, .mov 47 (.t 1)⟩,
    ⟨none, .mov 4 (.t 47)⟩] []) ir_cast_To_17)
noncomputable def ir_cast_To_19 : IR := (.seq (.seq (.reg [⟨none, .mov 7 (.t 0)⟩] []) ir_cast_To_16) ir_cast_To_18)
noncomputable def ir_cast_To : IR := (.seq (.reg [⟨none, .mov 4 (.c (.int .u64 0))⟩] []) ir_cast_To_19)
noncomputable def rs_cast_To : List RV := [.t 4]
theorem chk_cast_To : (chkCode Try.prog [] 0 ir_cast_To (Try.f135.body.getD .skip) && chkRes Try.prog rs_cast_To Try.f135.results.toList) = true := by kernel_rfl
theorem body_cast_To : Try.f135.body = some (Try.f135.body.getD .skip) := by kernel_rfl
/-- proclitic/cast.To -/
noncomputable def sa_cast_To (N : Nat) (p0 : Int) (p1 : Int)  : Option (V × List AObj) :=
  cond (p0 == 3) (
    cond (p0 == 3) (
      none) (
      cond (p0 == 5) (
        cond (p0 == 5) (
          let x1 : Int := (IntKind.wrap .u64 (IntKind.wrap .u32 p1))
          some (.int .u64 x1, [])) (
          cond (p0 == 13) (
            let x2 : Int := (if 1 < p1 then 1 else p1)
            some (.int .u64 x2, [])) (
            cond (p0 == 7) (
              let x3 : Int := (IntKind.wrap .i32 (IntKind.wrap .u32 p1))
              let x4 : Int := (bitsI .xor .i32 (shlI .i32 x3 1) (shrI .i32 x3 31))
              let x5 : Int := (IntKind.wrap .u64 (IntKind.wrap .u32 x4))
              some (.int .u64 x5, [])) (
              cond (p0 == 8) (
                let x6 : Int := (shlI .i64 (IntKind.wrap .i64 p1) 1)
                let x7 : Int := (shrI .i64 (IntKind.wrap .i64 p1) 63)
                let x8 : Int := (IntKind.wrap .u64 (bitsI .xor .i64 x6 x7))
                some (.int .u64 x8, [])) (
                some (.int .u64 p1, [])))))) (
        cond (p0 == 9) (
          cond (p0 == 9) (
            let x9 : Int := (IntKind.wrap .u64 (IntKind.wrap .u32 p1))
            some (.int .u64 x9, [])) (
            cond (p0 == 13) (
              let x10 : Int := (if 1 < p1 then 1 else p1)
              some (.int .u64 x10, [])) (
              cond (p0 == 7) (
                let x11 : Int := (IntKind.wrap .i32 (IntKind.wrap .u32 p1))
                let x12 : Int := (bitsI .xor .i32 (shlI .i32 x11 1) (shrI .i32 x11 31))
                let x13 : Int := (IntKind.wrap .u64 (IntKind.wrap .u32 x12))
                some (.int .u64 x13, [])) (
                cond (p0 == 8) (
                  let x14 : Int := (shlI .i64 (IntKind.wrap .i64 p1) 1)
                  let x15 : Int := (shrI .i64 (IntKind.wrap .i64 p1) 63)
                  let x16 : Int := (bitsI .xor .i64 x14 x15)
                  some (.int .u64 (IntKind.wrap .u64 x16), [])) (
                  some (.int .u64 p1, [])))))) (
          cond (p0 == 2) (
            cond (p0 == 2) (
              let x17 : Int := (IntKind.wrap .u64 (IntKind.wrap .u32 p1))
              some (.int .u64 x17, [])) (
              cond (p0 == 13) (
                let x18 : Int := (if 1 < p1 then 1 else p1)
                some (.int .u64 x18, [])) (
                cond (p0 == 7) (
                  let x19 : Int := (IntKind.wrap .i32 (IntKind.wrap .u32 p1))
                  let x20 : Int := (bitsI .xor .i32 (shlI .i32 x19 1) (shrI .i32 x19 31))
                  let x21 : Int := (IntKind.wrap .u64 (IntKind.wrap .u32 x20))
                  some (.int .u64 x21, [])) (
                  cond (p0 == 8) (
                    let x22 : Int := (shlI .i64 (IntKind.wrap .i64 p1) 1)
                    let x23 : Int := (shrI .i64 (IntKind.wrap .i64 p1) 63)
                    let x24 : Int := (bitsI .xor .i64 x22 x23)
                    some (.int .u64 (IntKind.wrap .u64 x24), [])) (
                    some (.int .u64 p1, [])))))) (
            cond (p0 == 11) (
              let x25 : Int := (IntKind.wrap .u64 (IntKind.wrap .u32 p1))
              some (.int .u64 x25, [])) (
              cond (p0 == 13) (
                let x26 : Int := (if 1 < p1 then 1 else p1)
                some (.int .u64 x26, [])) (
                cond (p0 == 7) (
                  let x27 : Int := (IntKind.wrap .i32 (IntKind.wrap .u32 p1))
                  let x28 : Int := (bitsI .xor .i32 (shlI .i32 x27 1) (shrI .i32 x27 31))
                  let x29 : Int := (IntKind.wrap .u64 (IntKind.wrap .u32 x28))
                  some (.int .u64 x29, [])) (
                  cond (p0 == 8) (
                    let x30 : Int := (shlI .i64 (IntKind.wrap .i64 p1) 1)
                    let x31 : Int := (shrI .i64 (IntKind.wrap .i64 p1) 63)
                    let x32 : Int := (bitsI .xor .i64 x30 x31)
                    some (.int .u64 (IntKind.wrap .u64 x32), [])) (
                    some (.int .u64 p1, [])))))))))) (
    cond (p0 == 17) (
      none) (
      cond (p0 == 5) (
        cond (p0 == 5) (
          let x33 : Int := (IntKind.wrap .u64 (IntKind.wrap .u32 p1))
          some (.int .u64 x33, [])) (
          cond (p0 == 13) (
            let x34 : Int := (if 1 < p1 then 1 else p1)
            some (.int .u64 x34, [])) (
            cond (p0 == 7) (
              let x35 : Int := (IntKind.wrap .i32 (IntKind.wrap .u32 p1))
              let x36 : Int := (bitsI .xor .i32 (shlI .i32 x35 1) (shrI .i32 x35 31))
              let x37 : Int := (IntKind.wrap .u64 (IntKind.wrap .u32 x36))
              some (.int .u64 x37, [])) (
              cond (p0 == 8) (
                let x38 : Int := (shlI .i64 (IntKind.wrap .i64 p1) 1)
                let x39 : Int := (shrI .i64 (IntKind.wrap .i64 p1) 63)
                let x40 : Int := (bitsI .xor .i64 x38 x39)
                some (.int .u64 (IntKind.wrap .u64 x40), [])) (
                some (.int .u64 p1, [])))))) (
        cond (p0 == 9) (
          cond (p0 == 9) (
            let x41 : Int := (IntKind.wrap .u64 (IntKind.wrap .u32 p1))
            some (.int .u64 x41, [])) (
            cond (p0 == 13) (
              let x42 : Int := (if 1 < p1 then 1 else p1)
              some (.int .u64 x42, [])) (
              cond (p0 == 7) (
                let x43 : Int := (IntKind.wrap .i32 (IntKind.wrap .u32 p1))
                let x44 : Int := (bitsI .xor .i32 (shlI .i32 x43 1) (shrI .i32 x43 31))
                let x45 : Int := (IntKind.wrap .u64 (IntKind.wrap .u32 x44))
                some (.int .u64 x45, [])) (
                cond (p0 == 8) (
                  let x46 : Int := (shlI .i64 (IntKind.wrap .i64 p1) 1)
                  let x47 : Int := (shrI .i64 (IntKind.wrap .i64 p1) 63)
                  let x48 : Int := (bitsI .xor .i64 x46 x47)
                  some (.int .u64 (IntKind.wrap .u64 x48), [])) (
                  some (.int .u64 p1, [])))))) (
          cond (p0 == 2) (
            cond (p0 == 2) (
              let x49 : Int := (IntKind.wrap .u64 (IntKind.wrap .u32 p1))
              some (.int .u64 x49, [])) (
              cond (p0 == 13) (
                let x50 : Int := (if 1 < p1 then 1 else p1)
                some (.int .u64 x50, [])) (
                cond (p0 == 7) (
                  let x51 : Int := (IntKind.wrap .i32 (IntKind.wrap .u32 p1))
                  let x52 : Int := (bitsI .xor .i32 (shlI .i32 x51 1) (shrI .i32 x51 31))
                  let x53 : Int := (IntKind.wrap .u64 (IntKind.wrap .u32 x52))
                  some (.int .u64 x53, [])) (
                  cond (p0 == 8) (
                    let x54 : Int := (shlI .i64 (IntKind.wrap .i64 p1) 1)
                    let x55 : Int := (shrI .i64 (IntKind.wrap .i64 p1) 63)
                    let x56 : Int := (bitsI .xor .i64 x54 x55)
                    some (.int .u64 (IntKind.wrap .u64 x56), [])) (
                    some (.int .u64 p1, [])))))) (
            cond (p0 == 11) (
              let x57 : Int := (IntKind.wrap .u64 (IntKind.wrap .u32 p1))
              some (.int .u64 x57, [])) (
              cond (p0 == 13) (
                let x58 : Int := (if 1 < p1 then 1 else p1)
                some (.int .u64 x58, [])) (
                cond (p0 == 7) (
                  let x59 : Int := (IntKind.wrap .i32 (IntKind.wrap .u32 p1))
                  let x60 : Int := (bitsI .xor .i32 (shlI .i32 x59 1) (shrI .i32 x59 31))
                  let x61 : Int := (IntKind.wrap .u64 (IntKind.wrap .u32 x60))
                  some (.int .u64 x61, [])) (
                  cond (p0 == 8) (
                    let x62 : Int := (shlI .i64 (IntKind.wrap .i64 p1) 1)
                    let x63 : Int := (shrI .i64 (IntKind.wrap .i64 p1) 63)
                    let x64 : Int := (bitsI .xor .i64 x62 x63)
                    some (.int .u64 (IntKind.wrap .u64 x64), [])) (
                    some (.int .u64 p1, []))))))))))
noncomputable def sh_cast_To (N : Nat) (p0 : Int) (p1 : Int) : Option (V × List AObj) := sa_cast_To N p0 p1
theorem run_cast_To (N : Nat) (p0 : Int) (p1 : Int) : callF Γ_cast_To N 48 rs_cast_To ir_cast_To [.int .i64 p0, .int .u64 p1] [] = sh_cast_To N p0 p1 := by kernel_rfl
theorem ok_cast_To (hΓ : SpecOK Try.prog Γ_cast_To) (N : Nat) (p0 : Int) (p1 : Int) {v : V} {hp : List AObj} (h : sh_cast_To N p0 p1 = some (v, hp)) : PureOK Try.prog i_cast_To [.int .i64 p0, .int .u64 p1] v := by
  have hc := chk_cast_To
  simp only [Bool.and_eq_true] at hc
  exact ⟨hp, fnOK_of hΓ pureS_cast_To Try.func135 body_cast_To hc.1 hc.2 (by decide) ((run_cast_To N p0 p1).trans h)⟩

noncomputable def G_rec_PutVarint : Nat → List V → Option (Bool × V) := fun _ _ => none
noncomputable def Γ_rec_PutVarint : ASpec := liftG G_rec_PutVarint
theorem pureS_rec_PutVarint : PureS Γ_rec_PutVarint [] := liftG_pure _ _
theorem spec_rec_PutVarint  : SpecOK Try.prog Γ_rec_PutVarint := by
  intro f vs hp v hp' h
  obtain ⟨h, -⟩ := liftG_inv h
  simp [G_rec_PutVarint] at h
noncomputable def ir_rec_PutVarint_0 : IR := (.cond (.t 5) .skip (.exit 0))
noncomputable def ir_rec_PutVarint_1 : IR := (.reg [⟨none, .mov 13 (.t 0)⟩,
    ⟨none, .bin 14 .shr (.t 13) (.c (.int .u64 7))⟩,
    ⟨none, .mov 0 (.t 14)⟩] [])
noncomputable def ir_rec_PutVarint_2 : IR := (.block 1 (.seq (.reg [⟨none, .mov 6 (.tk 3)⟩,
    ⟨none, .mov 7 (.t 0)⟩,
    ⟨none, .bin 8 .rem (.t 7) (.c (.int .u64 128))⟩,
    ⟨none, .bin 9 .add (.t 8) (.c (.int .u64 128))⟩,
    ⟨none, .cvi 10 .u8 (.t 9)⟩,
    ⟨none, .bsl 11 .u8 [(.t 10)]⟩,
    ⟨none, .app 12 .u8 (.tk 6) (.t 11)⟩,
    ⟨none, .mov 3 (.tk 12)⟩] []) ir_rec_PutVarint_1))
noncomputable def ir_rec_PutVarint_3 : IR := (.seq (.seq (.reg [⟨none, .mov 4 (.t 0)⟩,
    ⟨none, .bin 5 .geq (.t 4) (.c (.int .u64 128))⟩] []) ir_rec_PutVarint_0) ir_rec_PutVarint_2)
noncomputable def ir_rec_PutVarint_4 : IR := .ret
noncomputable def ir_rec_PutVarint_5 : IR := (.seq (.reg [⟨none, .mov 15 (.tk 3)⟩,
    ⟨none, .mov 16 (.t 0)⟩,
    ⟨none, .cvi 17 .u8 (.t 16)⟩,
    ⟨none, .bsl 18 .u8 [(.t 17)]⟩,
    ⟨none, .app 19 .u8 (.tk 15) (.t 18)⟩,
    ⟨none, .b2s 20 (.t 19)⟩,
    ⟨none, .mov 2 (.t 20)⟩] []) ir_rec_PutVarint_4)
noncomputable def ir_rec_PutVarint_6 : IR := (.seq (.block 0 (.loop [0, 3] 0 ir_rec_PutVarint_3)) ir_rec_PutVarint_5)
noncomputable def ir_rec_PutVarint_7 : IR := (.seq (.reg [⟨none, .mov 3 (.c (.sl .u8 true ([] : List UInt8)))⟩] []) ir_rec_PutVarint_6)
noncomputable def ir_rec_PutVarint : IR := (.seq (.reg [⟨none, .mov 2 (.c (.str ([] : List UInt8)))⟩] []) ir_rec_PutVarint_7)
noncomputable def rs_rec_PutVarint : List RV := [.t 2]
theorem chk_rec_PutVarint : (chkCode Try.prog [] 0 ir_rec_PutVarint (Try.f134.body.getD .skip) && chkRes Try.prog rs_rec_PutVarint Try.f134.results.toList) = true := by kernel_rfl
theorem body_rec_PutVarint : Try.f134.body = some (Try.f134.body.getD .skip) := by kernel_rfl
noncomputable def mk_rec_PutVarint_0 (x : (Int × List UInt8)) : St := { env := [.int .u64 x.1, .undef, .undef, .sl .u8 true x.2, .undef, .undef, .undef, .undef, .undef, .undef, .undef, .undef, .undef, .undef, .undef, .undef, .undef, .undef, .undef, .undef, .undef], hp := [] }
noncomputable def F_rec_PutVarint_0 (N : Nat) : (St → Option (V × List AObj)) → St → Option (V × List AObj) := fun again0 s => run Γ_rec_PutVarint N ir_rec_PutVarint_3 (kloop again0 [0, 3] 0 (kblock 0 (kseq (run Γ_rec_PutVarint N ir_rec_PutVarint_5) (fin rs_rec_PutVarint)))) s
noncomputable def B_rec_PutVarint_0 (N : Nat) (again0 : (Int × List UInt8) → Option (V × List AObj)) (x : (Int × List UInt8)) : Option (V × List AObj) :=
  let v0 : Int := x.1
  let v3 : List UInt8 := x.2
  cond (decide (128 ≤ v0)) (
    let x1 : Int := (IntKind.wrap .u64 ((Int.tmod v0 128) + 128))
    chk (decide ((List.length v3 + List.length ([(UInt8.ofNat (Int.toNat (IntKind.wrap .u8 x1)))] : List UInt8)) * 1 ≤ 140737488355328)) (
      let x2 : List UInt8 := (v3 ++ ([(UInt8.ofNat (Int.toNat (IntKind.wrap .u8 x1)))] : List UInt8))
      again0 ((shrI .u64 v0 7), x2))) (
    chk (decide ((List.length v3 + List.length ([(UInt8.ofNat (Int.toNat (IntKind.wrap .u8 v0)))] : List UInt8)) * 1 ≤ 140737488355328)) (
      let x3 : List UInt8 := (v3 ++ ([(UInt8.ofNat (Int.toNat (IntKind.wrap .u8 v0)))] : List UInt8))
      some (.str x3, [])))
theorem FB_rec_PutVarint_0 (N : Nat) : ∀ (again0 : St → Option (V × List AObj)) (x : (Int × List UInt8)), F_rec_PutVarint_0 N again0 (mk_rec_PutVarint_0 x) = B_rec_PutVarint_0 N (fun y => again0 (mk_rec_PutVarint_0 y)) x := by
  intro again0 x
  kernel_rfl
/-- proclitic/rec.PutVarint -/
noncomputable def sa_rec_PutVarint (N : Nat) (p0 : Int) (q0 : (Int × List UInt8) → Option (V × List AObj)) : Option (V × List AObj) :=
  q0 (p0, ([] : List UInt8))
noncomputable def sh_rec_PutVarint (N : Nat) (p0 : Int) : Option (V × List AObj) := sa_rec_PutVarint N p0 (fun z => iterL N (B_rec_PutVarint_0 N) z)
theorem run_rec_PutVarint (N : Nat) (p0 : Int) : callF Γ_rec_PutVarint N 21 rs_rec_PutVarint ir_rec_PutVarint [.int .u64 p0] [] = sh_rec_PutVarint N p0 := by
  have h : callF Γ_rec_PutVarint N 21 rs_rec_PutVarint ir_rec_PutVarint [.int .u64 p0] [] = sa_rec_PutVarint N p0 (fun z => loopN N (F_rec_PutVarint_0 N) (mk_rec_PutVarint_0 z)) := by kernel_rfl
  have e0 : (fun z => loopN N (F_rec_PutVarint_0 N) (mk_rec_PutVarint_0 z)) = (fun z => iterL N (B_rec_PutVarint_0 N) z) := funext fun z => loop_eq (mk_rec_PutVarint_0) (F_rec_PutVarint_0 N) (B_rec_PutVarint_0 N) (FB_rec_PutVarint_0 N) N z
  rw [h, e0]
  rfl
theorem ok_rec_PutVarint (hΓ : SpecOK Try.prog Γ_rec_PutVarint) (N : Nat) (p0 : Int) {v : V} {hp : List AObj} (h : sh_rec_PutVarint N p0 = some (v, hp)) : PureOK Try.prog i_rec_PutVarint [.int .u64 p0] v := by
  have hc := chk_rec_PutVarint
  simp only [Bool.and_eq_true] at hc
  exact ⟨hp, fnOK_of hΓ pureS_rec_PutVarint Try.func134 body_rec_PutVarint hc.1 hc.2 (by decide) ((run_rec_PutVarint N p0).trans h)⟩

noncomputable def G_aenc_long : Nat → List V → Option (Bool × V) := fun f vs => match f, vs with
  | 134, [.int .u64 a0] => some (true, .str (putV a0))
  | 135, [.int .i64 a0, .int .u64 a1] => some (decide ((a0 : Int) = 8), .int .u64 (zigS a1))
  | _, _ => none
noncomputable def Γ_aenc_long : ASpec := liftG G_aenc_long
theorem pureS_aenc_long : PureS Γ_aenc_long [] := liftG_pure _ _
theorem spec_aenc_long (h_rec_PutVarint : ∀ (a0 : Int), PureOK Try.prog i_rec_PutVarint [.int .u64 a0] (.str (putV a0))) (h_cast_To : ∀ (a0 : Int) (a1 : Int), (decide ((a0 : Int) = 8)) = true → PureOK Try.prog i_cast_To [.int .i64 a0, .int .u64 a1] (.int .u64 (zigS a1))) : SpecOK Try.prog Γ_aenc_long := by
  intro f vs hp v hp' h0
  obtain ⟨h, he⟩ := liftG_inv h0
  subst he
  unfold G_aenc_long at h
  split at h
  · simp only [Option.some.injEq, Prod.mk.injEq] at h
    obtain ⟨hc, rfl⟩ := h
    exact (h_rec_PutVarint _).frame rfl rfl _
  · simp only [Option.some.injEq, Prod.mk.injEq] at h
    obtain ⟨hc, rfl⟩ := h
    exact (h_cast_To _ _ hc).frame rfl rfl _
  · simp at h
noncomputable def ir_aenc_long_0 : IR := .ret
noncomputable def ir_aenc_long_1 : IR := (.seq (.reg [⟨none, .mov 3 (.t 0)⟩,
    ⟨none, .cvi 4 .u64 (.t 3)⟩,
    ⟨none, .call (some 5) 135 [(.c (.int .i64 8)), (.t 4)]⟩,
    ⟨none, .call (some 6) 134 [(.t 5)]⟩,
    ⟨none, .mov 2 (.t 6)⟩] []) ir_aenc_long_0)
noncomputable def ir_aenc_long : IR := (.seq (.reg [⟨none, .mov 2 (.c (.str ([] : List UInt8)))⟩] []) ir_aenc_long_1)
noncomputable def rs_aenc_long : List RV := [.t 2]
theorem chk_aenc_long : (chkCode Try.prog [] 0 ir_aenc_long (Try.f105.body.getD .skip) && chkRes Try.prog rs_aenc_long Try.f105.results.toList) = true := by kernel_rfl
theorem body_aenc_long : Try.f105.body = some (Try.f105.body.getD .skip) := by kernel_rfl
/-- proclitic/aenc.long -/
noncomputable def sa_aenc_long (N : Nat) (p0 : Int)  : Option (V × List AObj) :=
  chk (decide ((8 : Int) = 8)) (
    let x1 : Int := (zigS (IntKind.wrap .u64 p0))
    some (.str (putV x1), []))
noncomputable def sh_aenc_long (N : Nat) (p0 : Int) : Option (V × List AObj) := sa_aenc_long N p0
theorem run_aenc_long (N : Nat) (p0 : Int) : callF Γ_aenc_long N 7 rs_aenc_long ir_aenc_long [.int .i64 p0] [] = sh_aenc_long N p0 := by kernel_rfl
theorem ok_aenc_long (hΓ : SpecOK Try.prog Γ_aenc_long) (N : Nat) (p0 : Int) {v : V} {hp : List AObj} (h : sh_aenc_long N p0 = some (v, hp)) : PureOK Try.prog i_aenc_long [.int .i64 p0] v := by
  have hc := chk_aenc_long
  simp only [Bool.and_eq_true] at hc
  exact ⟨hp, fnOK_of hΓ pureS_aenc_long Try.func105 body_aenc_long hc.1 hc.2 (by decide) ((run_aenc_long N p0).trans h)⟩

noncomputable def G_aenc_fixed : Nat → List V → Option (Bool × V) := fun _ _ => none
noncomputable def Γ_aenc_fixed : ASpec := liftG G_aenc_fixed
theorem pureS_aenc_fixed : PureS Γ_aenc_fixed [] := liftG_pure _ _
theorem spec_aenc_fixed  : SpecOK Try.prog Γ_aenc_fixed := by
  intro f vs hp v hp' h
  obtain ⟨h, -⟩ := liftG_inv h
  simp [G_aenc_fixed] at h
noncomputable def ir_aenc_fixed_0 : IR := (.reg [⟨none, .mov 11 (.tk 5)⟩,
    ⟨none, .mov 12 (.t 0)⟩,
    ⟨none, .mov 13 (.t 6)⟩,
    ⟨none, .bin 14 .mul (.c (.int .i64 8)) (.t 13)⟩,
    ⟨none, .bin 15 .shr (.t 12) (.t 14)⟩,
    ⟨none, .cvi 16 .u8 (.t 15)⟩,
    ⟨none, .bsl 17 .u8 [(.t 16)]⟩,
    ⟨none, .app 18 .u8 (.tk 11) (.t 17)⟩,
    ⟨none, .mov 5 (.tk 18)⟩] [])
noncomputable def ir_aenc_fixed_1 : IR := (.reg [⟨none, .bin 19 .add (.t 8) (.c (.int .i64 1))⟩,
    ⟨none, .mov 8 (.t 19)⟩] [])
noncomputable def ir_aenc_fixed_2 : IR := (.seq (.block 1 (.seq (.reg [⟨none, .mov 10 (.t 8)⟩,
    ⟨none, .mov 6 (.t 10)⟩] []) ir_aenc_fixed_0)) ir_aenc_fixed_1)
noncomputable def ir_aenc_fixed_3 : IR := (.seq (.cond (.t 9) .skip (.exit 0)) ir_aenc_fixed_2)
noncomputable def ir_aenc_fixed_4 : IR := (.seq (.reg [⟨none, .bin 9 .lss (.t 8) (.t 7)⟩] []) ir_aenc_fixed_3)
noncomputable def ir_aenc_fixed_5 : IR := (.block 0 (.loop [0, 5, 7, 8] 0 ir_aenc_fixed_4))
noncomputable def ir_aenc_fixed_6 : IR := .ret
noncomputable def ir_aenc_fixed_7 : IR := (.seq (.reg [⟨none, .mov 20 (.t 5)⟩,
    ⟨none, .b2s 21 (.t 20)⟩,
    ⟨none, .mov 4 (.t 21)⟩] []) ir_aenc_fixed_6)
noncomputable def ir_aenc_fixed_8 : IR := (.seq (.seq (.reg [⟨none, .mov 7 (.t 1)⟩,
    ⟨none, .mov 8 (.c (.int .i64 0))⟩] []) ir_aenc_fixed_5) ir_aenc_fixed_7)
noncomputable def ir_aenc_fixed_9 : IR := (.seq (.reg [⟨none, .mov 5 (.c (.sl .u8 true ([] : List UInt8)))⟩] []) ir_aenc_fixed_8)
noncomputable def ir_aenc_fixed : IR := (.seq (.reg [⟨none, .mov 4 (.c (.str ([] : List UInt8)))⟩] []) ir_aenc_fixed_9)
noncomputable def rs_aenc_fixed : List RV := [.t 4]
theorem chk_aenc_fixed : (chkCode Try.prog [] 0 ir_aenc_fixed (Try.f104.body.getD .skip) && chkRes Try.prog rs_aenc_fixed Try.f104.results.toList) = true := by kernel_rfl
theorem body_aenc_fixed : Try.f104.body = some (Try.f104.body.getD .skip) := by kernel_rfl
noncomputable def mk_aenc_fixed_0 (x : (Int × List UInt8 × Int × Int)) : St := { env := [.int .u64 x.1, .undef, .undef, .undef, .undef, .sl .u8 true x.2.1, .undef, .int .i64 x.2.2.1, .int .i64 x.2.2.2, .undef, .undef, .undef, .undef, .undef, .undef, .undef, .undef, .undef, .undef, .undef, .undef, .undef], hp := [] }
noncomputable def F_aenc_fixed_0 (N : Nat) : (St → Option (V × List AObj)) → St → Option (V × List AObj) := fun again0 s => run Γ_aenc_fixed N ir_aenc_fixed_4 (kloop again0 [0, 5, 7, 8] 0 (kblock 0 (kseq (run Γ_aenc_fixed N ir_aenc_fixed_7) (fin rs_aenc_fixed)))) s
noncomputable def B_aenc_fixed_0 (N : Nat) (again0 : (Int × List UInt8 × Int × Int) → Option (V × List AObj)) (x : (Int × List UInt8 × Int × Int)) : Option (V × List AObj) :=
  let v0 : Int := x.1
  let v5 : List UInt8 := x.2.1
  let v7 : Int := x.2.2.1
  let v8 : Int := x.2.2.2
  cond (decide (v8 < v7)) (
    let x1 : Int := (IntKind.wrap .i64 (8 * v8))
    chk (decide (0 ≤ x1)) (
      let x2 : Int := (IntKind.wrap .u8 (shrI .u64 v0 x1))
      chk (decide ((List.length v5 + List.length ([(UInt8.ofNat (Int.toNat x2))] : List UInt8)) * 1 ≤ 140737488355328)) (
        let x3 : List UInt8 := (v5 ++ ([(UInt8.ofNat (Int.toNat x2))] : List UInt8))
        let x4 : Int := (IntKind.wrap .i64 (v8 + 1))
        again0 (v0, x3, v7, x4)))) (
    some (.str v5, []))
theorem FB_aenc_fixed_0 (N : Nat) : ∀ (again0 : St → Option (V × List AObj)) (x : (Int × List UInt8 × Int × Int)), F_aenc_fixed_0 N again0 (mk_aenc_fixed_0 x) = B_aenc_fixed_0 N (fun y => again0 (mk_aenc_fixed_0 y)) x := by
  intro again0 x
  kernel_rfl
/-- proclitic/aenc.fixed -/
noncomputable def sa_aenc_fixed (N : Nat) (p0 : Int) (p1 : Int) (q0 : (Int × List UInt8 × Int × Int) → Option (V × List AObj)) : Option (V × List AObj) :=
  q0 (p0, ([] : List UInt8), p1, 0)
noncomputable def sh_aenc_fixed (N : Nat) (p0 : Int) (p1 : Int) : Option (V × List AObj) := sa_aenc_fixed N p0 p1 (fun z => iterL N (B_aenc_fixed_0 N) z)
theorem run_aenc_fixed (N : Nat) (p0 : Int) (p1 : Int) : callF Γ_aenc_fixed N 22 rs_aenc_fixed ir_aenc_fixed [.int .u64 p0, .int .i64 p1] [] = sh_aenc_fixed N p0 p1 := by
  have h : callF Γ_aenc_fixed N 22 rs_aenc_fixed ir_aenc_fixed [.int .u64 p0, .int .i64 p1] [] = sa_aenc_fixed N p0 p1 (fun z => loopN N (F_aenc_fixed_0 N) (mk_aenc_fixed_0 z)) := by kernel_rfl
  have e0 : (fun z => loopN N (F_aenc_fixed_0 N) (mk_aenc_fixed_0 z)) = (fun z => iterL N (B_aenc_fixed_0 N) z) := funext fun z => loop_eq (mk_aenc_fixed_0) (F_aenc_fixed_0 N) (B_aenc_fixed_0 N) (FB_aenc_fixed_0 N) N z
  rw [h, e0]
  rfl
theorem ok_aenc_fixed (hΓ : SpecOK Try.prog Γ_aenc_fixed) (N : Nat) (p0 : Int) (p1 : Int) {v : V} {hp : List AObj} (h : sh_aenc_fixed N p0 p1 = some (v, hp)) : PureOK Try.prog i_aenc_fixed [.int .u64 p0, .int .i64 p1] v := by
  have hc := chk_aenc_fixed
  simp only [Bool.and_eq_true] at hc
  exact ⟨hp, fnOK_of hΓ pureS_aenc_fixed Try.func104 body_aenc_fixed hc.1 hc.2 (by decide) ((run_aenc_fixed N p0 p1).trans h)⟩

noncomputable def G_aenc_text : Nat → List V → Option (Bool × V) := fun f vs => match f, vs with
  | 105, [.int .i64 a0] => some (true, .str (longS a0))
  | _, _ => none
noncomputable def Γ_aenc_text : ASpec := liftG G_aenc_text
theorem pureS_aenc_text : PureS Γ_aenc_text [] := liftG_pure _ _
theorem spec_aenc_text (h_aenc_long : ∀ (a0 : Int), PureOK Try.prog i_aenc_long [.int .i64 a0] (.str (longS a0))) : SpecOK Try.prog Γ_aenc_text := by
  intro f vs hp v hp' h0
  obtain ⟨h, he⟩ := liftG_inv h0
  subst he
  unfold G_aenc_text at h
  split at h
  · simp only [Option.some.injEq, Prod.mk.injEq] at h
    obtain ⟨hc, rfl⟩ := h
    exact (h_aenc_long _).frame rfl rfl _
  · simp at h
noncomputable def ir_aenc_text_0 : IR := .ret
noncomputable def ir_aenc_text_1 : IR := (.seq (.reg [⟨none, .mov 3 (.t 0)⟩,
    ⟨none, .lens 4 (.t 3)⟩,
    ⟨none, .call (some 5) 105 [(.t 4)]⟩,
    ⟨none, .mov 6 (.t 0)⟩,
    ⟨none, .bin 7 .add (.t 5) (.t 6)⟩,
    ⟨none, .mov 2 (.t 7)⟩] []) ir_aenc_text_0)
noncomputable def ir_aenc_text : IR := (.seq (.reg [⟨none, .mov 2 (.c (.str ([] : List UInt8)))⟩] []) ir_aenc_text_1)
noncomputable def rs_aenc_text : List RV := [.t 2]
theorem chk_aenc_text : (chkCode Try.prog [] 0 ir_aenc_text (Try.f106.body.getD .skip) && chkRes Try.prog rs_aenc_text Try.f106.results.toList) = true := by kernel_rfl
theorem body_aenc_text : Try.f106.body = some (Try.f106.body.getD .skip) := by kernel_rfl
/-- proclitic/aenc.text -/
noncomputable def sa_aenc_text (N : Nat) (p0 : List UInt8)  : Option (V × List AObj) :=
  let x1 : Int := (↑(List.length p0) : Int)
  chk (decide (List.length (longS x1) + List.length p0 ≤ 9223372036854775807)) (
    some (.str ((longS x1) ++ p0), []))
noncomputable def sh_aenc_text (N : Nat) (p0 : List UInt8) : Option (V × List AObj) := sa_aenc_text N p0
theorem run_aenc_text (N : Nat) (p0 : List UInt8) : callF Γ_aenc_text N 8 rs_aenc_text ir_aenc_text [.str p0] [] = sh_aenc_text N p0 := by kernel_rfl
theorem ok_aenc_text (hΓ : SpecOK Try.prog Γ_aenc_text) (N : Nat) (p0 : List UInt8) {v : V} {hp : List AObj} (h : sh_aenc_text N p0 = some (v, hp)) : PureOK Try.prog i_aenc_text [.str p0] v := by
  have hc := chk_aenc_text
  simp only [Bool.and_eq_true] at hc
  exact ⟨hp, fnOK_of hΓ pureS_aenc_text Try.func106 body_aenc_text hc.1 hc.2 (by decide) ((run_aenc_text N p0).trans h)⟩

noncomputable def G_aenc_items (N : Nat) : Nat → List V → Option (Bool × V) := fun f vs => match f, vs with
  | 70, [.agg [.sl .atype false a0_0], .int .i64 a1, .agg [.int .u64 a2_0, .str a2_1, .sl .aval false a2_2, .sl .str false a2_3, .int .i64 a2_4]] => some ((decide (1000000 ≤ N - (szL a2_2 + 1)) && fitOK a0_0 a1 (.mk a2_0 a2_1 a2_2 a2_3 a2_4)), .str (valueS a0_0 a1 (.mk a2_0 a2_1 a2_2 a2_3 a2_4)))
  | 105, [.int .i64 a0] => some (true, .str (longS a0))
  | 106, [.str a0] => some (decide (List.length a0 ≤ 1000000000000000), .str (textV a0))
  | _, _ => none
noncomputable def Γ_aenc_items (N : Nat) : ASpec := liftG (G_aenc_items N)
theorem pureS_aenc_items (N : Nat) : PureS (Γ_aenc_items N) [] := liftG_pure _ _
theorem spec_aenc_items (N : Nat) (h_aenc_value : ∀ (a0_0 : List AType) (a1 : Int) (a2_0 : Int) (a2_1 : List UInt8) (a2_2 : List AVal) (a2_3 : List (List UInt8)) (a2_4 : Int), (decide (1000000 ≤ N - (szL a2_2 + 1)) && fitOK a0_0 a1 (.mk a2_0 a2_1 a2_2 a2_3 a2_4)) = true → PureOK Try.prog i_aenc_value [.agg [.sl .atype false a0_0], .int .i64 a1, .agg [.int .u64 a2_0, .str a2_1, .sl .aval false a2_2, .sl .str false a2_3, .int .i64 a2_4]] (.str (valueS a0_0 a1 (.mk a2_0 a2_1 a2_2 a2_3 a2_4)))) (h_aenc_long : ∀ (a0 : Int), PureOK Try.prog i_aenc_long [.int .i64 a0] (.str (longS a0))) (h_aenc_text : ∀ (a0 : List UInt8), (decide (List.length a0 ≤ 1000000000000000)) = true → PureOK Try.prog i_aenc_text [.str a0] (.str (textV a0))) : SpecOK Try.prog (Γ_aenc_items N) := by
  intro f vs hp v hp' h0
  obtain ⟨h, he⟩ := liftG_inv h0
  subst he
  unfold G_aenc_items at h
  split at h
  · simp only [Option.some.injEq, Prod.mk.injEq] at h
    obtain ⟨hc, rfl⟩ := h
    exact (h_aenc_value _ _ _ _ _ _ _ hc).frame rfl rfl _
  · simp only [Option.some.injEq, Prod.mk.injEq] at h
    obtain ⟨hc, rfl⟩ := h
    exact (h_aenc_long _).frame rfl rfl _
  · simp only [Option.some.injEq, Prod.mk.injEq] at h
    obtain ⟨hc, rfl⟩ := h
    exact (h_aenc_text _ hc).frame rfl rfl _
  · simp at h
noncomputable def ir_aenc_items_0 : IR := (.cond (.t 13) (.reg [⟨none, .fad 14 2 (.t 5)⟩,
    ⟨none, .lde 15 1 false (.t 14)⟩,
    ⟨none, .lenl 16 (.t 15)⟩,
    ⟨none, .call (some 17) 105 [(.t 16)]⟩,
    ⟨none, .mov 7 (.t 17)⟩] []) .skip)
noncomputable def ir_aenc_items_1 : IR := (.cond (.t 28) (.reg [⟨none, .mov 29 (.t 7)⟩,
    ⟨none, .fad 30 3 (.t 5)⟩,
    ⟨none, .lde 31 1 false (.t 30)⟩,
    ⟨none, .mov 32 (.t 8)⟩,
    ⟨none, .ixa 33 .str (.t 31) (.t 32)⟩,
    ⟨none, .lde 34 1 false (.t 33)⟩,
    ⟨none, .call (some 35) 106 [(.t 34)]⟩,
    ⟨none, .bin 36 .add (.t 29) (.t 35)⟩,
    ⟨none, .mov 7 (.t 36)⟩] []) .skip)
noncomputable def ir_aenc_items_2 : IR := (.reg [⟨none, .mov 37 (.t 7)⟩,
    ⟨none, .lde 38 1 true (.t 3)⟩,
    ⟨none, .fad 39 3 (.t 4)⟩,
    ⟨none, .lde 40 1 false (.t 39)⟩,
    ⟨none, .lde 41 5 true (.t 9)⟩,
    ⟨none, .call (some 42) 70 [(.t 38), (.t 40), (.t 41)]⟩,
    ⟨none, .bin 43 .add (.t 37) (.t 42)⟩,
    ⟨none, .mov 7 (.t 43)⟩] [])
noncomputable def ir_aenc_items_3 : IR := (.seq (.seq (.reg [⟨none, .fad 26 0 (.t 4)⟩,
    ⟨none, .lde 27 1 false (.t 26)⟩,
    ⟨none, .bin 28 .eql (.t 27) (.c (.int .i64 13))⟩] []) ir_aenc_items_1) ir_aenc_items_2)
noncomputable def ir_aenc_items_4 : IR := (.reg [⟨none, .bin 44 .add (.t 21) (.c (.int .i64 1))⟩,
    ⟨none, .mov 21 (.t 44)⟩] [])
noncomputable def ir_aenc_items_5 : IR := (.seq (.block 1 (.seq (.reg [⟨none, .mov 23 (.t 21)⟩,
    ⟨none, .ixa 24 .aval (.t 19) (.t 21)⟩,
    ⟨none, .lde 25 5 true (.t 24)⟩,
    ⟨none, .alr 9 5⟩,
    ⟨none, .mov 8 (.t 23)⟩,
    ⟨none, .frz none 9 5 (.t 25)⟩] []) ir_aenc_items_3)) ir_aenc_items_4)
noncomputable def ir_aenc_items_6 : IR := (.seq (.cond (.t 22) .skip (.exit 0)) ir_aenc_items_5)
noncomputable def ir_aenc_items_7 : IR := (.seq (.reg [⟨none, .bin 22 .lss (.t 21) (.t 20)⟩] []) ir_aenc_items_6)
noncomputable def ir_aenc_items_8 : IR := (.block 0 (.loop [3, 4, 5, 7, 19, 20, 21] 0 ir_aenc_items_7))
noncomputable def ir_aenc_items_9 : IR := .ret
noncomputable def ir_aenc_items_10 : IR := (.seq (.reg [⟨none, .mov 45 (.t 7)⟩,
    ⟨none, .call (some 46) 105 [(.c (.int .i64 0))]⟩,
    ⟨none, .bin 47 .add (.t 45) (.t 46)⟩,
    ⟨none, .mov 6 (.t 47)⟩] []) ir_aenc_items_9)
noncomputable def ir_aenc_items_11 : IR := (.seq (.seq (.reg [⟨none, .fad 18 2 (.t 5)⟩,
    ⟨none, .lde 19 1 false (.t 18)⟩,
    ⟨none, .lenl 20 (.t 19)⟩,
    ⟨none, .mov 21 (.c (.int .i64 0))⟩] []) ir_aenc_items_8) ir_aenc_items_10)
noncomputable def ir_aenc_items_12 : IR := (.seq (.seq (.reg [⟨none, .fad 10 2 (.t 5)⟩,
    ⟨none, .lde 11 1 false (.t 10)⟩,
    ⟨none, .lenl 12 (.t 11)⟩,
    ⟨none, .bin 13 .gtr (.t 12) (.c (.int .i64 0))⟩] []) ir_aenc_items_0) ir_aenc_items_11)
noncomputable def ir_aenc_items_13 : IR := (.seq (.reg [⟨none, .mov 7 (.c (.str ([] : List UInt8)))⟩] []) ir_aenc_items_12)
noncomputable def ir_aenc_items : IR := (.seq (.reg [⟨none, .boxe 3 (.t 0)⟩,
    ⟨none, .boxe 4 (.t 1)⟩,
    ⟨none, .boxe 5 (.t 2)⟩,
    ⟨none, .mov 6 (.c (.str ([] : List UInt8)))⟩] []) ir_aenc_items_13)
noncomputable def rs_aenc_items : List RV := [.t 6]
theorem chk_aenc_items : (chkCode Try.prog [] 0 ir_aenc_items (Try.f107.body.getD .skip) && chkRes Try.prog rs_aenc_items Try.f107.results.toList) = true := by kernel_rfl
theorem body_aenc_items : Try.f107.body = some (Try.f107.body.getD .skip) := by kernel_rfl
noncomputable def mk_aenc_items_0 (x : (List AType × Int × List UInt8 × List (List UInt8) × Int × List (List UInt8) × Bool × List UInt8 × Int × List AField × List Int × Int × List UInt8 × List AVal × List (List UInt8) × Int × List UInt8 × List AVal × Int × Int)) : St := { env := [.undef, .undef, .undef, .ea [.sl .atype false x.1], .ea [.int .i64 x.2.1, .str x.2.2.1, .sl .str false x.2.2.2.1, .int .i64 x.2.2.2.2.1, .sl .str false x.2.2.2.2.2.1, .bool x.2.2.2.2.2.2.1, .str x.2.2.2.2.2.2.2.1, .int .i64 x.2.2.2.2.2.2.2.2.1, .sl .afield false x.2.2.2.2.2.2.2.2.2.1, .sl (.num .i64) false x.2.2.2.2.2.2.2.2.2.2.1], .ea [.int .u64 x.2.2.2.2.2.2.2.2.2.2.2.1, .str x.2.2.2.2.2.2.2.2.2.2.2.2.1, .sl .aval false x.2.2.2.2.2.2.2.2.2.2.2.2.2.1, .sl .str false x.2.2.2.2.2.2.2.2.2.2.2.2.2.2.1, .int .i64 x.2.2.2.2.2.2.2.2.2.2.2.2.2.2.2.1], .undef, .str x.2.2.2.2.2.2.2.2.2.2.2.2.2.2.2.2.1, .undef, .undef, .undef, .undef, .undef, .undef, .undef, .undef, .undef, .undef, .undef, .sl .aval false x.2.2.2.2.2.2.2.2.2.2.2.2.2.2.2.2.2.1, .int .i64 x.2.2.2.2.2.2.2.2.2.2.2.2.2.2.2.2.2.2.1, .int .i64 x.2.2.2.2.2.2.2.2.2.2.2.2.2.2.2.2.2.2.2, .undef, .undef, .undef, .undef, .undef, .undef, .undef, .undef, .undef, .undef, .undef, .undef, .undef, .undef, .undef, .undef, .undef, .undef, .undef, .undef, .undef, .undef, .undef, .undef, .undef, .undef], hp := [] }
noncomputable def F_aenc_items_0 (N : Nat) : (St → Option (V × List AObj)) → St → Option (V × List AObj) := fun again0 s => run (Γ_aenc_items N) N ir_aenc_items_7 (kloop again0 [3, 4, 5, 7, 19, 20, 21] 0 (kblock 0 (kseq (run (Γ_aenc_items N) N ir_aenc_items_10) (fin rs_aenc_items)))) s
noncomputable def B_aenc_items_0 (N : Nat) (again0 : (List AType × Int × List UInt8 × List (List UInt8) × Int × List (List UInt8) × Bool × List UInt8 × Int × List AField × List Int × Int × List UInt8 × List AVal × List (List UInt8) × Int × List UInt8 × List AVal × Int × Int) → Option (V × List AObj)) (x : (List AType × Int × List UInt8 × List (List UInt8) × Int × List (List UInt8) × Bool × List UInt8 × Int × List AField × List Int × Int × List UInt8 × List AVal × List (List UInt8) × Int × List UInt8 × List AVal × Int × Int)) : Option (V × List AObj) :=
  let v3_0 : List AType := x.1
  let v4_0 : Int := x.2.1
  let v4_1 : List UInt8 := x.2.2.1
  let v4_2 : List (List UInt8) := x.2.2.2.1
  let v4_3 : Int := x.2.2.2.2.1
  let v4_4 : List (List UInt8) := x.2.2.2.2.2.1
  let v4_5 : Bool := x.2.2.2.2.2.2.1
  let v4_6 : List UInt8 := x.2.2.2.2.2.2.2.1
  let v4_7 : Int := x.2.2.2.2.2.2.2.2.1
  let v4_8 : List AField := x.2.2.2.2.2.2.2.2.2.1
  let v4_9 : List Int := x.2.2.2.2.2.2.2.2.2.2.1
  let v5_0 : Int := x.2.2.2.2.2.2.2.2.2.2.2.1
  let v5_1 : List UInt8 := x.2.2.2.2.2.2.2.2.2.2.2.2.1
  let v5_2 : List AVal := x.2.2.2.2.2.2.2.2.2.2.2.2.2.1
  let v5_3 : List (List UInt8) := x.2.2.2.2.2.2.2.2.2.2.2.2.2.2.1
  let v5_4 : Int := x.2.2.2.2.2.2.2.2.2.2.2.2.2.2.2.1
  let v7 : List UInt8 := x.2.2.2.2.2.2.2.2.2.2.2.2.2.2.2.2.1
  let v19 : List AVal := x.2.2.2.2.2.2.2.2.2.2.2.2.2.2.2.2.2.1
  let v20 : Int := x.2.2.2.2.2.2.2.2.2.2.2.2.2.2.2.2.2.2.1
  let v21 : Int := x.2.2.2.2.2.2.2.2.2.2.2.2.2.2.2.2.2.2.2
  cond (decide (v21 < v20)) (
    chk ((decide (0 ≤ v21) && decide (v21 < ↑(List.length v19)))) (
      let x4 : Int := (List.getD v19 (Int.toNat v21) (dflt .aval)).n
      let x5 : List UInt8 := (List.getD v19 (Int.toNat v21) (dflt .aval)).s
      let x6 : List AVal := (List.getD v19 (Int.toNat v21) (dflt .aval)).l
      let x7 : List (List UInt8) := (List.getD v19 (Int.toNat v21) (dflt .aval)).keys
      let x8 : Int := (List.getD v19 (Int.toNat v21) (dflt .aval)).branch
      cond (v4_0 == 13) (
        chk ((decide (0 ≤ v21) && decide (v21 < ↑(List.length v5_3)))) (
          let x9 : List UInt8 := List.getD v5_3 (Int.toNat v21) (dflt .str)
          chk (decide (List.length x9 ≤ 1000000000000000)) (
            chk (decide (List.length v7 + List.length (textV x9) ≤ 9223372036854775807)) (
              chk ((decide (1000000 ≤ N - (szL x6 + 1)) && fitOK v3_0 v4_3 (.mk x4 x5 x6 x7 x8))) (
                let x10 : List UInt8 := (valueS v3_0 v4_3 (.mk x4 x5 x6 x7 x8))
                chk (decide (List.length (v7 ++ (textV x9)) + List.length x10 ≤ 9223372036854775807)) (
                  let x11 : List UInt8 := ((v7 ++ (textV x9)) ++ x10)
                  let x12 : Int := (IntKind.wrap .i64 (v21 + 1))
                  again0 (v3_0, v4_0, v4_1, v4_2, v4_3, v4_4, v4_5, v4_6, v4_7, v4_8, v4_9, v5_0, v5_1, v5_2, v5_3, v5_4, x11, v19, v20, x12))))))) (
        chk ((decide (1000000 ≤ N - (szL x6 + 1)) && fitOK v3_0 v4_3 (.mk x4 x5 x6 x7 x8))) (
          let x13 : List UInt8 := (valueS v3_0 v4_3 (.mk x4 x5 x6 x7 x8))
          chk (decide (List.length v7 + List.length x13 ≤ 9223372036854775807)) (
            let x14 : Int := (IntKind.wrap .i64 (v21 + 1))
            again0 (v3_0, v4_0, v4_1, v4_2, v4_3, v4_4, v4_5, v4_6, v4_7, v4_8, v4_9, v5_0, v5_1, v5_2, v5_3, v5_4, (v7 ++ x13), v19, v20, x14)))))) (
    chk (decide (List.length v7 + List.length (longS 0) ≤ 9223372036854775807)) (
      some (.str (v7 ++ (longS 0)), [])))
theorem FB_aenc_items_0 (N : Nat) : ∀ (again0 : St → Option (V × List AObj)) (x : (List AType × Int × List UInt8 × List (List UInt8) × Int × List (List UInt8) × Bool × List UInt8 × Int × List AField × List Int × Int × List UInt8 × List AVal × List (List UInt8) × Int × List UInt8 × List AVal × Int × Int)), F_aenc_items_0 N again0 (mk_aenc_items_0 x) = B_aenc_items_0 N (fun y => again0 (mk_aenc_items_0 y)) x := by
  intro again0 x
  kernel_rfl
/-- proclitic/aenc.items -/
noncomputable def sa_aenc_items (N : Nat) (p0_0 : List AType) (p1_0 : Int) (p1_1 : List UInt8) (p1_2 : List (List UInt8)) (p1_3 : Int) (p1_4 : List (List UInt8)) (p1_5 : Bool) (p1_6 : List UInt8) (p1_7 : Int) (p1_8 : List AField) (p1_9 : List Int) (p2_0 : Int) (p2_1 : List UInt8) (p2_2 : List AVal) (p2_3 : List (List UInt8)) (p2_4 : Int) (q0 : (List AType × Int × List UInt8 × List (List UInt8) × Int × List (List UInt8) × Bool × List UInt8 × Int × List AField × List Int × Int × List UInt8 × List AVal × List (List UInt8) × Int × List UInt8 × List AVal × Int × Int) → Option (V × List AObj)) : Option (V × List AObj) :=
  let x1 : Int := (↑(List.length p2_2) : Int)
  cond (decide (0 < x1)) (
    let x2 : Int := (↑(List.length p2_2) : Int)
    let x3 : Int := (↑(List.length p2_2) : Int)
    q0 (p0_0, p1_0, p1_1, p1_2, p1_3, p1_4, p1_5, p1_6, p1_7, p1_8, p1_9, p2_0, p2_1, p2_2, p2_3, p2_4, (longS x2), p2_2, x3, 0)) (
    let x15 : Int := (↑(List.length p2_2) : Int)
    q0 (p0_0, p1_0, p1_1, p1_2, p1_3, p1_4, p1_5, p1_6, p1_7, p1_8, p1_9, p2_0, p2_1, p2_2, p2_3, p2_4, ([] : List UInt8), p2_2, x15, 0))
noncomputable def sh_aenc_items (N : Nat) (p0_0 : List AType) (p1_0 : Int) (p1_1 : List UInt8) (p1_2 : List (List UInt8)) (p1_3 : Int) (p1_4 : List (List UInt8)) (p1_5 : Bool) (p1_6 : List UInt8) (p1_7 : Int) (p1_8 : List AField) (p1_9 : List Int) (p2_0 : Int) (p2_1 : List UInt8) (p2_2 : List AVal) (p2_3 : List (List UInt8)) (p2_4 : Int) : Option (V × List AObj) := sa_aenc_items N p0_0 p1_0 p1_1 p1_2 p1_3 p1_4 p1_5 p1_6 p1_7 p1_8 p1_9 p2_0 p2_1 p2_2 p2_3 p2_4 (fun z => iterL N (B_aenc_items_0 N) z)
theorem run_aenc_items (N : Nat) (p0_0 : List AType) (p1_0 : Int) (p1_1 : List UInt8) (p1_2 : List (List UInt8)) (p1_3 : Int) (p1_4 : List (List UInt8)) (p1_5 : Bool) (p1_6 : List UInt8) (p1_7 : Int) (p1_8 : List AField) (p1_9 : List Int) (p2_0 : Int) (p2_1 : List UInt8) (p2_2 : List AVal) (p2_3 : List (List UInt8)) (p2_4 : Int) : callF (Γ_aenc_items N) N 48 rs_aenc_items ir_aenc_items [.agg [.sl .atype false p0_0], .agg [.int .i64 p1_0, .str p1_1, .sl .str false p1_2, .int .i64 p1_3, .sl .str false p1_4, .bool p1_5, .str p1_6, .int .i64 p1_7, .sl .afield false p1_8, .sl (.num .i64) false p1_9], .agg [.int .u64 p2_0, .str p2_1, .sl .aval false p2_2, .sl .str false p2_3, .int .i64 p2_4]] [] = sh_aenc_items N p0_0 p1_0 p1_1 p1_2 p1_3 p1_4 p1_5 p1_6 p1_7 p1_8 p1_9 p2_0 p2_1 p2_2 p2_3 p2_4 := by
  have h : callF (Γ_aenc_items N) N 48 rs_aenc_items ir_aenc_items [.agg [.sl .atype false p0_0], .agg [.int .i64 p1_0, .str p1_1, .sl .str false p1_2, .int .i64 p1_3, .sl .str false p1_4, .bool p1_5, .str p1_6, .int .i64 p1_7, .sl .afield false p1_8, .sl (.num .i64) false p1_9], .agg [.int .u64 p2_0, .str p2_1, .sl .aval false p2_2, .sl .str false p2_3, .int .i64 p2_4]] [] = sa_aenc_items N p0_0 p1_0 p1_1 p1_2 p1_3 p1_4 p1_5 p1_6 p1_7 p1_8 p1_9 p2_0 p2_1 p2_2 p2_3 p2_4 (fun z => loopN N (F_aenc_items_0 N) (mk_aenc_items_0 z)) := by kernel_rfl
  have e0 : (fun z => loopN N (F_aenc_items_0 N) (mk_aenc_items_0 z)) = (fun z => iterL N (B_aenc_items_0 N) z) := funext fun z => loop_eq (mk_aenc_items_0) (F_aenc_items_0 N) (B_aenc_items_0 N) (FB_aenc_items_0 N) N z
  rw [h, e0]
  rfl
theorem ok_aenc_items (N : Nat) (hΓ : SpecOK Try.prog (Γ_aenc_items N)) (p0_0 : List AType) (p1_0 : Int) (p1_1 : List UInt8) (p1_2 : List (List UInt8)) (p1_3 : Int) (p1_4 : List (List UInt8)) (p1_5 : Bool) (p1_6 : List UInt8) (p1_7 : Int) (p1_8 : List AField) (p1_9 : List Int) (p2_0 : Int) (p2_1 : List UInt8) (p2_2 : List AVal) (p2_3 : List (List UInt8)) (p2_4 : Int) {v : V} {hp : List AObj} (h : sh_aenc_items N p0_0 p1_0 p1_1 p1_2 p1_3 p1_4 p1_5 p1_6 p1_7 p1_8 p1_9 p2_0 p2_1 p2_2 p2_3 p2_4 = some (v, hp)) : PureOK Try.prog i_aenc_items [.agg [.sl .atype false p0_0], .agg [.int .i64 p1_0, .str p1_1, .sl .str false p1_2, .int .i64 p1_3, .sl .str false p1_4, .bool p1_5, .str p1_6, .int .i64 p1_7, .sl .afield false p1_8, .sl (.num .i64) false p1_9], .agg [.int .u64 p2_0, .str p2_1, .sl .aval false p2_2, .sl .str false p2_3, .int .i64 p2_4]] v := by
  have hc := chk_aenc_items
  simp only [Bool.and_eq_true] at hc
  exact ⟨hp, fnOK_of hΓ (pureS_aenc_items N) Try.func107 body_aenc_items hc.1 hc.2 (by decide) ((run_aenc_items N p0_0 p1_0 p1_1 p1_2 p1_3 p1_4 p1_5 p1_6 p1_7 p1_8 p1_9 p2_0 p2_1 p2_2 p2_3 p2_4).trans h)⟩

noncomputable def G_aenc_value (N : Nat) : Nat → List V → Option (Bool × V) := fun f vs => match f, vs with
  | 70, [.agg [.sl .atype false a0_0], .int .i64 a1, .agg [.int .u64 a2_0, .str a2_1, .sl .aval false a2_2, .sl .str false a2_3, .int .i64 a2_4]] => some ((decide (1000000 ≤ N - (szL a2_2 + 1)) && fitOK a0_0 a1 (.mk a2_0 a2_1 a2_2 a2_3 a2_4)), .str (valueS a0_0 a1 (.mk a2_0 a2_1 a2_2 a2_3 a2_4)))
  | 104, [.int .u64 a0, .int .i64 a1] => some ((decide (0 ≤ (a1 : Int)) && decide ((a1 : Int) ≤ 8)), .str (lowsR a0 a1))
  | 105, [.int .i64 a0] => some (true, .str (longS a0))
  | 106, [.str a0] => some (decide (List.length a0 ≤ 1000000000000000), .str (textV a0))
  | 107, [.agg [.sl .atype false a0_0], .agg [.int .i64 a1_0, .str a1_1, .sl .str false a1_2, .int .i64 a1_3, .sl .str false a1_4, .bool a1_5, .str a1_6, .int .i64 a1_7, .sl .afield false a1_8, .sl (.num .i64) false a1_9], .agg [.int .u64 a2_0, .str a2_1, .sl .aval false a2_2, .sl .str false a2_3, .int .i64 a2_4]] => some ((decide (1000000 ≤ N - szL a2_2) && itemsOK a0_0 a1_0 a1_3 a2_3 a2_2), .str (itemsS a0_0 a1_0 a1_3 a2_3 a2_2))
  | _, _ => none
noncomputable def Γ_aenc_value (N : Nat) : ASpec := liftG (G_aenc_value N)
theorem pureS_aenc_value (N : Nat) : PureS (Γ_aenc_value N) [] := liftG_pure _ _
theorem spec_aenc_value (N : Nat) (h_aenc_value : ∀ (a0_0 : List AType) (a1 : Int) (a2_0 : Int) (a2_1 : List UInt8) (a2_2 : List AVal) (a2_3 : List (List UInt8)) (a2_4 : Int), (decide (1000000 ≤ N - (szL a2_2 + 1)) && fitOK a0_0 a1 (.mk a2_0 a2_1 a2_2 a2_3 a2_4)) = true → PureOK Try.prog i_aenc_value [.agg [.sl .atype false a0_0], .int .i64 a1, .agg [.int .u64 a2_0, .str a2_1, .sl .aval false a2_2, .sl .str false a2_3, .int .i64 a2_4]] (.str (valueS a0_0 a1 (.mk a2_0 a2_1 a2_2 a2_3 a2_4)))) (h_aenc_fixed : ∀ (a0 : Int) (a1 : Int), (decide (0 ≤ (a1 : Int)) && decide ((a1 : Int) ≤ 8)) = true → PureOK Try.prog i_aenc_fixed [.int .u64 a0, .int .i64 a1] (.str (lowsR a0 a1))) (h_aenc_long : ∀ (a0 : Int), PureOK Try.prog i_aenc_long [.int .i64 a0] (.str (longS a0))) (h_aenc_text : ∀ (a0 : List UInt8), (decide (List.length a0 ≤ 1000000000000000)) = true → PureOK Try.prog i_aenc_text [.str a0] (.str (textV a0))) (h_aenc_items : ∀ (a0_0 : List AType) (a1_0 : Int) (a1_1 : List UInt8) (a1_2 : List (List UInt8)) (a1_3 : Int) (a1_4 : List (List UInt8)) (a1_5 : Bool) (a1_6 : List UInt8) (a1_7 : Int) (a1_8 : List AField) (a1_9 : List Int) (a2_0 : Int) (a2_1 : List UInt8) (a2_2 : List AVal) (a2_3 : List (List UInt8)) (a2_4 : Int), (decide (1000000 ≤ N - szL a2_2) && itemsOK a0_0 a1_0 a1_3 a2_3 a2_2) = true → PureOK Try.prog i_aenc_items [.agg [.sl .atype false a0_0], .agg [.int .i64 a1_0, .str a1_1, .sl .str false a1_2, .int .i64 a1_3, .sl .str false a1_4, .bool a1_5, .str a1_6, .int .i64 a1_7, .sl .afield false a1_8, .sl (.num .i64) false a1_9], .agg [.int .u64 a2_0, .str a2_1, .sl .aval false a2_2, .sl .str false a2_3, .int .i64 a2_4]] (.str (itemsS a0_0 a1_0 a1_3 a2_3 a2_2))) : SpecOK Try.prog (Γ_aenc_value N) := by
  intro f vs hp v hp' h0
  obtain ⟨h, he⟩ := liftG_inv h0
  subst he
  unfold G_aenc_value at h
  split at h
  · simp only [Option.some.injEq, Prod.mk.injEq] at h
    obtain ⟨hc, rfl⟩ := h
    exact (h_aenc_value _ _ _ _ _ _ _ hc).frame rfl rfl _
  · simp only [Option.some.injEq, Prod.mk.injEq] at h
    obtain ⟨hc, rfl⟩ := h
    exact (h_aenc_fixed _ _ hc).frame rfl rfl _
  · simp only [Option.some.injEq, Prod.mk.injEq] at h
    obtain ⟨hc, rfl⟩ := h
    exact (h_aenc_long _).frame rfl rfl _
  · simp only [Option.some.injEq, Prod.mk.injEq] at h
    obtain ⟨hc, rfl⟩ := h
    exact (h_aenc_text _ hc).frame rfl rfl _
  · simp only [Option.some.injEq, Prod.mk.injEq] at h
    obtain ⟨hc, rfl⟩ := h
    exact (h_aenc_items _ _ _ _ _ _ _ _ _ _ _ _ _ _ _ _ hc).frame rfl rfl _
  · simp at h
noncomputable def ir_aenc_value_0 : IR := .ret
noncomputable def ir_aenc_value_1 : IR := (.cond (.t 23) .skip (.reg [⟨none, .bin 26 .eql (.t 17) (.c (.int .i64 10))⟩,
    ⟨none, .mov 23 (.t 26)⟩] []))
noncomputable def ir_aenc_value_2 : IR := (.cond (.t 23) .skip (.seq (.reg [⟨none, .bin 25 .eql (.t 17) (.c (.int .i64 4))⟩,
    ⟨none, .mov 23 (.t 25)⟩] []) ir_aenc_value_1))
noncomputable def ir_aenc_value_3 : IR := .ret
noncomputable def ir_aenc_value_4 : IR := .ret
noncomputable def ir_aenc_value_5 : IR := .ret
noncomputable def ir_aenc_value_6 : IR := (.cond (.t 41) .skip (.reg [⟨none, .bin 43 .eql (.t 17) (.c (.int .i64 8))⟩,
    ⟨none, .mov 41 (.t 43)⟩] []))
noncomputable def ir_aenc_value_7 : IR := .ret
noncomputable def ir_aenc_value_8 : IR := .ret
noncomputable def ir_aenc_value_9 : IR := .ret
noncomputable def ir_aenc_value_10 : IR := (.reg [⟨none, .mov 79 (.t 8)⟩,
    ⟨none, .lde 80 1 true (.t 3)⟩,
    ⟨none, .fad 81 2 (.t 10)⟩,
    ⟨none, .lde 82 1 false (.t 81)⟩,
    ⟨none, .fad 83 2 (.t 5)⟩,
    ⟨none, .lde 84 1 false (.t 83)⟩,
    ⟨none, .mov 85 (.t 9)⟩,
    ⟨none, .ixa 86 .aval (.t 84) (.t 85)⟩,
    ⟨none, .lde 87 5 true (.t 86)⟩,
    ⟨none, .call (some 88) 70 [(.t 80), (.t 82), (.t 87)]⟩,
    ⟨none, .bin 89 .add (.t 79) (.t 88)⟩,
    ⟨none, .mov 8 (.t 89)⟩] [[], [], [], [2], [], [4], [], [4, 5, 6], [4, 5, 6, 7], [1, 2, 3, 4, 5, 6, 7, 8], [0, 1, 2, 3, 4, 5, 6, 7, 8, 9], [0, 1, 2, 3, 4, 5, 6, 7, 8, 9, 10]])
noncomputable def ir_aenc_value_11 : IR := (.reg [⟨none, .bin 90 .add (.t 74) (.c (.int .i64 1))⟩,
    ⟨none, .mov 74 (.t 90)⟩] [])
noncomputable def ir_aenc_value_12 : IR := (.seq (.block 2 (.seq (.reg [⟨none, .mov 76 (.t 74)⟩,
    ⟨none, .ixa 77 .afield (.t 72) (.t 74)⟩,
    ⟨none, .lde 78 9 true (.t 77)⟩,
    ⟨none, .alr 10 9⟩,
    ⟨none, .mov 9 (.t 76)⟩,
    ⟨none, .frz none 10 9 (.t 78)⟩] []) ir_aenc_value_10)) ir_aenc_value_11)
noncomputable def ir_aenc_value_13 : IR := (.seq (.cond (.t 75) .skip (.exit 1)) ir_aenc_value_12)
noncomputable def ir_aenc_value_14 : IR := (.seq (.reg [⟨none, .bin 75 .lss (.t 74) (.t 73)⟩] []) ir_aenc_value_13)
noncomputable def ir_aenc_value_15 : IR := (.block 1 (.loop [3, 5, 8, 72, 73, 74] 0 ir_aenc_value_14))
noncomputable def ir_aenc_value_16 : IR := .ret
noncomputable def ir_aenc_value_17 : IR := (.seq (.reg [⟨none, .mov 91 (.t 8)⟩,
    ⟨none, .mov 6 (.t 91)⟩] []) ir_aenc_value_16)
noncomputable def ir_aenc_value_18 : IR := (.seq (.seq (.reg [⟨none, .fad 71 8 (.t 7)⟩,
    ⟨none, .lde 72 1 false (.t 71)⟩,
    ⟨none, .lenl 73 (.t 72)⟩,
    ⟨none, .mov 74 (.c (.int .i64 0))⟩] []) ir_aenc_value_15) ir_aenc_value_17)
noncomputable def ir_aenc_value_19 : IR := (.cond (.t 92) .skip (.reg [⟨none, .bin 94 .eql (.t 17) (.c (.int .i64 13))⟩,
    ⟨none, .mov 92 (.t 94)⟩] []))
noncomputable def ir_aenc_value_20 : IR := .ret
noncomputable def ir_aenc_value_21 : IR := (.cond (.t 92) (.seq (.reg [⟨none, .lde 95 1 true (.t 3)⟩,
    ⟨none, .lde 96 10 true (.t 7)⟩,
    ⟨none, .lde 97 5 true (.t 5)⟩,
    ⟨none, .call (some 98) 107 [(.t 95), (.t 96), (.t 97)]⟩,
    ⟨none, .mov 6 (.t 98)⟩] []) ir_aenc_value_20) .skip)
noncomputable def ir_aenc_value_22 : IR := (.cond (.t 69) (.seq (.reg [⟨none, .mov 8 (.c (.str ([] : List UInt8)))⟩] []) ir_aenc_value_18) (.seq (.seq (.reg [⟨none, .bin 93 .eql (.t 17) (.c (.int .i64 12))⟩,
    ⟨none, .mov 92 (.t 93)⟩] []) ir_aenc_value_19) ir_aenc_value_21))
noncomputable def ir_aenc_value_23 : IR := (.cond (.t 51) (.seq (.reg [⟨none, .fad 53 4 (.t 5)⟩,
    ⟨none, .lde 54 1 false (.t 53)⟩,
    ⟨none, .call (some 55) 105 [(.t 54)]⟩,
    ⟨none, .lde 56 1 true (.t 3)⟩,
    ⟨none, .fad 57 9 (.t 7)⟩,
    ⟨none, .lde 58 1 false (.t 57)⟩,
    ⟨none, .fad 59 4 (.t 5)⟩,
    ⟨none, .lde 60 1 false (.t 59)⟩,
    ⟨none, .ixa 61 (.num .i64) (.t 58) (.t 60)⟩,
    ⟨none, .lde 62 1 false (.t 61)⟩,
    ⟨none, .fad 63 2 (.t 5)⟩,
    ⟨none, .lde 64 1 false (.t 63)⟩,
    ⟨none, .ixa 65 .aval (.t 64) (.c (.int .i64 0))⟩,
    ⟨none, .lde 66 5 true (.t 65)⟩,
    ⟨none, .call (some 67) 70 [(.t 56), (.t 62), (.t 66)]⟩,
    ⟨none, .bin 68 .add (.t 55) (.t 67)⟩,
    ⟨none, .mov 6 (.t 68)⟩] [[], [0], [0, 1], [], [], [4], [], [6], [4, 5, 6, 7], [4, 5, 6, 7, 8], [], [10], [10, 11], [10, 11, 12], [0, 1, 2, 3, 4, 5, 6, 7, 8, 9, 10, 11, 12, 13], [0, 1, 2, 3, 4, 5, 6, 7, 8, 9, 10, 11, 12, 13, 14], [0, 1, 2, 3, 4, 5, 6, 7, 8, 9, 10, 11, 12, 13, 14, 15]]) ir_aenc_value_9) (.seq (.reg [⟨none, .bin 70 .eql (.t 17) (.c (.int .i64 9))⟩,
    ⟨none, .mov 69 (.t 70)⟩] []) ir_aenc_value_22))
noncomputable def ir_aenc_value_24 : IR := (.cond (.t 47) (.seq (.reg [⟨none, .fad 49 1 (.t 5)⟩,
    ⟨none, .lde 50 1 false (.t 49)⟩,
    ⟨none, .mov 6 (.t 50)⟩] []) ir_aenc_value_8) (.seq (.reg [⟨none, .bin 52 .eql (.t 17) (.c (.int .i64 14))⟩,
    ⟨none, .mov 51 (.t 52)⟩] []) ir_aenc_value_23))
noncomputable def ir_aenc_value_25 : IR := (.cond (.t 41) (.seq (.reg [⟨none, .fad 44 1 (.t 5)⟩,
    ⟨none, .lde 45 1 false (.t 44)⟩,
    ⟨none, .call (some 46) 106 [(.t 45)]⟩,
    ⟨none, .mov 6 (.t 46)⟩] []) ir_aenc_value_7) (.seq (.reg [⟨none, .bin 48 .eql (.t 17) (.c (.int .i64 11))⟩,
    ⟨none, .mov 47 (.t 48)⟩] []) ir_aenc_value_24))
noncomputable def ir_aenc_value_26 : IR := (.cond (.t 36) (.seq (.reg [⟨none, .fad 38 0 (.t 5)⟩,
    ⟨none, .lde 39 1 false (.t 38)⟩,
    ⟨none, .call (some 40) 104 [(.t 39), (.c (.int .i64 8))]⟩,
    ⟨none, .mov 6 (.t 40)⟩] []) ir_aenc_value_5) (.seq (.seq (.reg [⟨none, .bin 42 .eql (.t 17) (.c (.int .i64 7))⟩,
    ⟨none, .mov 41 (.t 42)⟩] []) ir_aenc_value_6) ir_aenc_value_25))
noncomputable def ir_aenc_value_27 : IR := (.cond (.t 31) (.seq (.reg [⟨none, .fad 33 0 (.t 5)⟩,
    ⟨none, .lde 34 1 false (.t 33)⟩,
    ⟨none, .call (some 35) 104 [(.t 34), (.c (.int .i64 4))]⟩,
    ⟨none, .mov 6 (.t 35)⟩] []) ir_aenc_value_4) (.seq (.reg [⟨none, .bin 37 .eql (.t 17) (.c (.int .i64 6))⟩,
    ⟨none, .mov 36 (.t 37)⟩] []) ir_aenc_value_26))
noncomputable def ir_aenc_value_28 : IR := (.cond (.t 23) (.seq (.reg [⟨none, .fad 27 0 (.t 5)⟩,
    ⟨none, .lde 28 1 false (.t 27)⟩,
    ⟨none, .cvi 29 .i64 (.t 28)⟩,
    ⟨none, .call (some 30) 105 [(.t 29)]⟩,
    ⟨none, .mov 6 (.t 30)⟩] []) ir_aenc_value_3) (.seq (.reg [⟨none, .bin 32 .eql (.t 17) (.c (.int .i64 5))⟩,
    ⟨none, .mov 31 (.t 32)⟩] []) ir_aenc_value_27))
noncomputable def ir_aenc_value_29 : IR := (.cond (.t 18) (.seq (.reg [⟨none, .fad 20 0 (.t 5)⟩,
    ⟨none, .lde 21 1 false (.t 20)⟩,
    ⟨none, .call (some 22) 104 [(.t 21), (.c (.int .i64 1))]⟩,
    ⟨none, .mov 6 (.t 22)⟩] []) ir_aenc_value_0) (.seq (.seq (.reg [⟨none, .bin 24 .eql (.t 17) (.c (.int .i64 3))⟩,
    ⟨none, .mov 23 (.t 24)⟩] []) ir_aenc_value_2) ir_aenc_value_28))
noncomputable def ir_aenc_value_30 : IR := (.block 0 (.seq (.reg [⟨none, .bin 19 .eql (.t 17) (.c (.int .i64 2))⟩,
    ⟨none, .mov 18 (.t 19)⟩] []) ir_aenc_value_29))
noncomputable def ir_aenc_value_31 : IR := .ret
noncomputable def ir_aenc_value_32 : IR := (.seq (.reg [⟨none, .mov 6 (.c (.str ([] : List UInt8)))⟩] []) ir_aenc_value_31)
noncomputable def ir_aenc_value_33 : IR := (.seq (.seq (.reg [⟨none, .fad 16 0 (.t 7)⟩,
    ⟨none, .lde 17 1 false (.t 16)⟩] []) ir_aenc_value_30) ir_aenc_value_32)
noncomputable def ir_aenc_value_34 : IR := (.seq (.reg [⟨none, .fad 11 0 (.t 3)⟩,
    ⟨none, .lde 12 1 false (.t 11)⟩,
    ⟨none, .mov 13 (.t 1)⟩,
    ⟨none, .ixa 14 .atype (.t 12) (.t 13)⟩,
    ⟨none, .lde 15 10 true (.t 14)⟩,
    ⟨none, .alr 7 10⟩,
    ⟨none, .frz none 7 10 (.t 15)⟩] []) ir_aenc_value_33)
noncomputable def ir_aenc_value : IR := (.seq (.reg [⟨none, .boxe 3 (.t 0)⟩,
    ⟨none, .boxe 5 (.t 2)⟩,
    ⟨none, .mov 6 (.c (.str ([] : List UInt8)))⟩] []) ir_aenc_value_34)
noncomputable def rs_aenc_value : List RV := [.t 6]
theorem chk_aenc_value : (chkCode Try.prog [] 0 ir_aenc_value (Try.f70.body.getD .skip) && chkRes Try.prog rs_aenc_value Try.f70.results.toList) = true := by kernel_rfl
theorem body_aenc_value : Try.f70.body = some (Try.f70.body.getD .skip) := by kernel_rfl
noncomputable def mk_aenc_value_0 (x : (List AType × Int × List UInt8 × List AVal × List (List UInt8) × Int × List UInt8 × List AField × Int × Int)) : St := { env := [.undef, .undef, .undef, .ea [.sl .atype false x.1], .undef, .ea [.int .u64 x.2.1, .str x.2.2.1, .sl .aval false x.2.2.2.1, .sl .str false x.2.2.2.2.1, .int .i64 x.2.2.2.2.2.1], .undef, .undef, .str x.2.2.2.2.2.2.1, .undef, .undef, .undef, .undef, .undef, .undef, .undef, .undef, .undef, .undef, .undef, .undef, .undef, .undef, .undef, .undef, .undef, .undef, .undef, .undef, .undef, .undef, .undef, .undef, .undef, .undef, .undef, .undef, .undef, .undef, .undef, .undef, .undef, .undef, .undef, .undef, .undef, .undef, .undef, .undef, .undef, .undef, .undef, .undef, .undef, .undef, .undef, .undef, .undef, .undef, .undef, .undef, .undef, .undef, .undef, .undef, .undef, .undef, .undef, .undef, .undef, .undef, .undef, .sl .afield false x.2.2.2.2.2.2.2.1, .int .i64 x.2.2.2.2.2.2.2.2.1, .int .i64 x.2.2.2.2.2.2.2.2.2, .undef, .undef, .undef, .undef, .undef, .undef, .undef, .undef, .undef, .undef, .undef, .undef, .undef, .undef, .undef, .undef, .undef, .undef, .undef, .undef, .undef, .undef, .undef, .undef], hp := [] }
noncomputable def F_aenc_value_0 (N : Nat) : (St → Option (V × List AObj)) → St → Option (V × List AObj) := fun again0 s => run (Γ_aenc_value N) N ir_aenc_value_14 (kloop again0 [3, 5, 8, 72, 73, 74] 0 (kblock 1 (kseq (run (Γ_aenc_value N) N ir_aenc_value_17) (kblock 0 (kseq (run (Γ_aenc_value N) N ir_aenc_value_32) (fin rs_aenc_value)))))) s
noncomputable def B_aenc_value_0 (N : Nat) (again0 : (List AType × Int × List UInt8 × List AVal × List (List UInt8) × Int × List UInt8 × List AField × Int × Int) → Option (V × List AObj)) (x : (List AType × Int × List UInt8 × List AVal × List (List UInt8) × Int × List UInt8 × List AField × Int × Int)) : Option (V × List AObj) :=
  let v3_0 : List AType := x.1
  let v5_0 : Int := x.2.1
  let v5_1 : List UInt8 := x.2.2.1
  let v5_2 : List AVal := x.2.2.2.1
  let v5_3 : List (List UInt8) := x.2.2.2.2.1
  let v5_4 : Int := x.2.2.2.2.2.1
  let v8 : List UInt8 := x.2.2.2.2.2.2.1
  let v72 : List AField := x.2.2.2.2.2.2.2.1
  let v73 : Int := x.2.2.2.2.2.2.2.2.1
  let v74 : Int := x.2.2.2.2.2.2.2.2.2
  cond (decide (v74 < v73)) (
    chk ((decide (0 ≤ v74) && decide (v74 < ↑(List.length v72)))) (
      let x20 : List UInt8 := (List.getD v72 (Int.toNat v74) (dflt .afield)).name
      let x21 : List (List UInt8) := (List.getD v72 (Int.toNat v74) (dflt .afield)).aliases
      let x22 : Int := (List.getD v72 (Int.toNat v74) (dflt .afield)).typ
      let x23 : Bool := (List.getD v72 (Int.toNat v74) (dflt .afield)).hasdef
      let x24 : Int := (List.getD v72 (Int.toNat v74) (dflt .afield)).df.kind
      let x25 : Int := (List.getD v72 (Int.toNat v74) (dflt .afield)).df.n
      let x26 : List UInt8 := (List.getD v72 (Int.toNat v74) (dflt .afield)).df.s
      let x27 : List JNode := (List.getD v72 (Int.toNat v74) (dflt .afield)).df.l
      let x28 : List (List UInt8) := (List.getD v72 (Int.toNat v74) (dflt .afield)).df.names
      chk ((decide (0 ≤ v74) && decide (v74 < ↑(List.length v5_2)))) (
        let x29 : Int := (List.getD v5_2 (Int.toNat v74) (dflt .aval)).n
        let x30 : List UInt8 := (List.getD v5_2 (Int.toNat v74) (dflt .aval)).s
        let x31 : List AVal := (List.getD v5_2 (Int.toNat v74) (dflt .aval)).l
        let x32 : List (List UInt8) := (List.getD v5_2 (Int.toNat v74) (dflt .aval)).keys
        let x33 : Int := (List.getD v5_2 (Int.toNat v74) (dflt .aval)).branch
        chk ((decide (1000000 ≤ N - (szL x31 + 1)) && fitOK v3_0 x22 (.mk x29 x30 x31 x32 x33))) (
          let x34 : List UInt8 := (valueS v3_0 x22 (.mk x29 x30 x31 x32 x33))
          chk (decide (List.length v8 + List.length x34 ≤ 9223372036854775807)) (
            let x35 : Int := (IntKind.wrap .i64 (v74 + 1))
            again0 (v3_0, v5_0, v5_1, v5_2, v5_3, v5_4, (v8 ++ x34), v72, v73, x35)))))) (
    some (.str v8, []))
theorem FB_aenc_value_0 (N : Nat) : ∀ (again0 : St → Option (V × List AObj)) (x : (List AType × Int × List UInt8 × List AVal × List (List UInt8) × Int × List UInt8 × List AField × Int × Int)), F_aenc_value_0 N again0 (mk_aenc_value_0 x) = B_aenc_value_0 N (fun y => again0 (mk_aenc_value_0 y)) x := by
  intro again0 x
  kernel_rfl
/-- proclitic/aenc.value -/
noncomputable def sa_aenc_value (N : Nat) (p0_0 : List AType) (p1 : Int) (p2_0 : Int) (p2_1 : List UInt8) (p2_2 : List AVal) (p2_3 : List (List UInt8)) (p2_4 : Int) (q0 : (List AType × Int × List UInt8 × List AVal × List (List UInt8) × Int × List UInt8 × List AField × Int × Int) → Option (V × List AObj)) : Option (V × List AObj) :=
  chk ((decide (0 ≤ p1) && decide (p1 < ↑(List.length p0_0)))) (
    let x1 : Int := (List.getD p0_0 (Int.toNat p1) (dflt .atype)).kind
    let x2 : List UInt8 := (List.getD p0_0 (Int.toNat p1) (dflt .atype)).name
    let x3 : List (List UInt8) := (List.getD p0_0 (Int.toNat p1) (dflt .atype)).aliases
    let x4 : Int := (List.getD p0_0 (Int.toNat p1) (dflt .atype)).items
    let x5 : List (List UInt8) := (List.getD p0_0 (Int.toNat p1) (dflt .atype)).syms
    let x6 : Bool := (List.getD p0_0 (Int.toNat p1) (dflt .atype)).hasdef
    let x7 : List UInt8 := (List.getD p0_0 (Int.toNat p1) (dflt .atype)).df
    let x8 : Int := (List.getD p0_0 (Int.toNat p1) (dflt .atype)).size
    let x9 : List AField := (List.getD p0_0 (Int.toNat p1) (dflt .atype)).fields
    let x10 : List Int := (List.getD p0_0 (Int.toNat p1) (dflt .atype)).branches
    cond (x1 == 2) (
      chk ((decide (0 ≤ (1 : Int)) && decide ((1 : Int) ≤ 8))) (
        some (.str (lowsR p2_0 1), []))) (
      cond (x1 == 3) (
        cond (x1 == 3) (
          let x11 : List UInt8 := (longS (IntKind.wrap .i64 p2_0))
          some (.str x11, [])) (
          cond (x1 == 5) (
            chk ((decide (0 ≤ (4 : Int)) && decide ((4 : Int) ≤ 8))) (
              some (.str (lowsR p2_0 4), []))) (
            cond (x1 == 6) (
              chk ((decide (0 ≤ (8 : Int)) && decide ((8 : Int) ≤ 8))) (
                some (.str (lowsR p2_0 8), []))) (
              cond (x1 == 7) (
                cond (x1 == 7) (
                  chk (decide (List.length p2_1 ≤ 1000000000000000)) (
                    some (.str (textV p2_1), []))) (
                  cond (x1 == 11) (
                    some (.str p2_1, [])) (
                    cond (x1 == 14) (
                      chk ((decide (0 ≤ p2_4) && decide (p2_4 < ↑(List.length x10)))) (
                        let x12 : Int := List.getD x10 (Int.toNat p2_4) (dflt (.num .i64))
                        chk (decide ((0 : Int) < ↑(List.length p2_2))) (
                          let x13 : Int := (List.getD p2_2 (Int.toNat 0) (dflt .aval)).n
                          let x14 : List UInt8 := (List.getD p2_2 (Int.toNat 0) (dflt .aval)).s
                          let x15 : List AVal := (List.getD p2_2 (Int.toNat 0) (dflt .aval)).l
                          let x16 : List (List UInt8) := (List.getD p2_2 (Int.toNat 0) (dflt .aval)).keys
                          let x17 : Int := (List.getD p2_2 (Int.toNat 0) (dflt .aval)).branch
                          chk ((decide (1000000 ≤ N - (szL x15 + 1)) && fitOK p0_0 x12 (.mk x13 x14 x15 x16 x17))) (
                            let x18 : List UInt8 := (valueS p0_0 x12 (.mk x13 x14 x15 x16 x17))
                            chk (decide (List.length (longS p2_4) + List.length x18 ≤ 9223372036854775807)) (
                              some (.str ((longS p2_4) ++ x18), [])))))) (
                      cond (x1 == 9) (
                        let x19 : Int := (↑(List.length x9) : Int)
                        q0 (p0_0, p2_0, p2_1, p2_2, p2_3, p2_4, ([] : List UInt8), x9, x19, 0)) (
                        cond (x1 == 12) (
                          cond (x1 == 12) (
                            chk ((decide (1000000 ≤ N - szL p2_2) && itemsOK p0_0 x1 x4 p2_3 p2_2)) (
                              let x36 : List UInt8 := (itemsS p0_0 x1 x4 p2_3 p2_2)
                              some (.str x36, []))) (
                            some (.str ([] : List UInt8), []))) (
                          cond (x1 == 13) (
                            chk ((decide (1000000 ≤ N - szL p2_2) && itemsOK p0_0 x1 x4 p2_3 p2_2)) (
                              let x37 : List UInt8 := (itemsS p0_0 x1 x4 p2_3 p2_2)
                              some (.str x37, []))) (
                            some (.str ([] : List UInt8), [])))))))) (
                cond (x1 == 8) (
                  chk (decide (List.length p2_1 ≤ 1000000000000000)) (
                    some (.str (textV p2_1), []))) (
                  cond (x1 == 11) (
                    some (.str p2_1, [])) (
                    cond (x1 == 14) (
                      chk ((decide (0 ≤ p2_4) && decide (p2_4 < ↑(List.length x10)))) (
                        let x38 : Int := List.getD x10 (Int.toNat p2_4) (dflt (.num .i64))
                        chk (decide ((0 : Int) < ↑(List.length p2_2))) (
                          let x39 : Int := (List.getD p2_2 (Int.toNat 0) (dflt .aval)).n
                          let x40 : List UInt8 := (List.getD p2_2 (Int.toNat 0) (dflt .aval)).s
                          let x41 : List AVal := (List.getD p2_2 (Int.toNat 0) (dflt .aval)).l
                          let x42 : List (List UInt8) := (List.getD p2_2 (Int.toNat 0) (dflt .aval)).keys
                          let x43 : Int := (List.getD p2_2 (Int.toNat 0) (dflt .aval)).branch
                          chk ((decide (1000000 ≤ N - (szL x41 + 1)) && fitOK p0_0 x38 (.mk x39 x40 x41 x42 x43))) (
                            let x44 : List UInt8 := (valueS p0_0 x38 (.mk x39 x40 x41 x42 x43))
                            chk (decide (List.length (longS p2_4) + List.length x44 ≤ 9223372036854775807)) (
                              some (.str ((longS p2_4) ++ x44), [])))))) (
                      cond (x1 == 9) (
                        let x45 : Int := (↑(List.length x9) : Int)
                        q0 (p0_0, p2_0, p2_1, p2_2, p2_3, p2_4, ([] : List UInt8), x9, x45, 0)) (
                        cond (x1 == 12) (
                          cond (x1 == 12) (
                            chk ((decide (1000000 ≤ N - szL p2_2) && itemsOK p0_0 x1 x4 p2_3 p2_2)) (
                              let x46 : List UInt8 := (itemsS p0_0 x1 x4 p2_3 p2_2)
                              some (.str x46, []))) (
                            some (.str ([] : List UInt8), []))) (
                          cond (x1 == 13) (
                            chk ((decide (1000000 ≤ N - szL p2_2) && itemsOK p0_0 x1 x4 p2_3 p2_2)) (
                              let x47 : List UInt8 := (itemsS p0_0 x1 x4 p2_3 p2_2)
                              some (.str x47, []))) (
                            some (.str ([] : List UInt8), [])))))))))))) (
        cond (x1 == 4) (
          cond (x1 == 4) (
            let x48 : List UInt8 := (longS (IntKind.wrap .i64 p2_0))
            some (.str x48, [])) (
            cond (x1 == 5) (
              chk ((decide (0 ≤ (4 : Int)) && decide ((4 : Int) ≤ 8))) (
                some (.str (lowsR p2_0 4), []))) (
              cond (x1 == 6) (
                chk ((decide (0 ≤ (8 : Int)) && decide ((8 : Int) ≤ 8))) (
                  some (.str (lowsR p2_0 8), []))) (
                cond (x1 == 7) (
                  cond (x1 == 7) (
                    chk (decide (List.length p2_1 ≤ 1000000000000000)) (
                      some (.str (textV p2_1), []))) (
                    cond (x1 == 11) (
                      some (.str p2_1, [])) (
                      cond (x1 == 14) (
                        chk ((decide (0 ≤ p2_4) && decide (p2_4 < ↑(List.length x10)))) (
                          let x49 : Int := List.getD x10 (Int.toNat p2_4) (dflt (.num .i64))
                          chk (decide ((0 : Int) < ↑(List.length p2_2))) (
                            let x50 : Int := (List.getD p2_2 (Int.toNat 0) (dflt .aval)).n
                            let x51 : List UInt8 := (List.getD p2_2 (Int.toNat 0) (dflt .aval)).s
                            let x52 : List AVal := (List.getD p2_2 (Int.toNat 0) (dflt .aval)).l
                            let x53 : List (List UInt8) := (List.getD p2_2 (Int.toNat 0) (dflt .aval)).keys
                            let x54 : Int := (List.getD p2_2 (Int.toNat 0) (dflt .aval)).branch
                            chk ((decide (1000000 ≤ N - (szL x52 + 1)) && fitOK p0_0 x49 (.mk x50 x51 x52 x53 x54))) (
                              let x55 : List UInt8 := (valueS p0_0 x49 (.mk x50 x51 x52 x53 x54))
                              chk (decide (List.length (longS p2_4) + List.length x55 ≤ 9223372036854775807)) (
                                some (.str ((longS p2_4) ++ x55), [])))))) (
                        cond (x1 == 9) (
                          let x56 : Int := (↑(List.length x9) : Int)
                          q0 (p0_0, p2_0, p2_1, p2_2, p2_3, p2_4, ([] : List UInt8), x9, x56, 0)) (
                          cond (x1 == 12) (
                            cond (x1 == 12) (
                              chk ((decide (1000000 ≤ N - szL p2_2) && itemsOK p0_0 x1 x4 p2_3 p2_2)) (
                                let x57 : List UInt8 := (itemsS p0_0 x1 x4 p2_3 p2_2)
                                some (.str x57, []))) (
                              some (.str ([] : List UInt8), []))) (
                            cond (x1 == 13) (
                              chk ((decide (1000000 ≤ N - szL p2_2) && itemsOK p0_0 x1 x4 p2_3 p2_2)) (
                                let x58 : List UInt8 := (itemsS p0_0 x1 x4 p2_3 p2_2)
                                some (.str x58, []))) (
                              some (.str ([] : List UInt8), [])))))))) (
                  cond (x1 == 8) (
                    chk (decide (List.length p2_1 ≤ 1000000000000000)) (
                      some (.str (textV p2_1), []))) (
                    cond (x1 == 11) (
                      some (.str p2_1, [])) (
                      cond (x1 == 14) (
                        chk ((decide (0 ≤ p2_4) && decide (p2_4 < ↑(List.length x10)))) (
                          let x59 : Int := List.getD x10 (Int.toNat p2_4) (dflt (.num .i64))
                          chk (decide ((0 : Int) < ↑(List.length p2_2))) (
                            let x60 : Int := (List.getD p2_2 (Int.toNat 0) (dflt .aval)).n
                            let x61 : List UInt8 := (List.getD p2_2 (Int.toNat 0) (dflt .aval)).s
                            let x62 : List AVal := (List.getD p2_2 (Int.toNat 0) (dflt .aval)).l
                            let x63 : List (List UInt8) := (List.getD p2_2 (Int.toNat 0) (dflt .aval)).keys
                            let x64 : Int := (List.getD p2_2 (Int.toNat 0) (dflt .aval)).branch
                            chk ((decide (1000000 ≤ N - (szL x62 + 1)) && fitOK p0_0 x59 (.mk x60 x61 x62 x63 x64))) (
                              let x65 : List UInt8 := (valueS p0_0 x59 (.mk x60 x61 x62 x63 x64))
                              chk (decide (List.length (longS p2_4) + List.length x65 ≤ 9223372036854775807)) (
                                some (.str ((longS p2_4) ++ x65), [])))))) (
                        cond (x1 == 9) (
                          let x66 : Int := (↑(List.length x9) : Int)
                          q0 (p0_0, p2_0, p2_1, p2_2, p2_3, p2_4, ([] : List UInt8), x9, x66, 0)) (
                          cond (x1 == 12) (
                            cond (x1 == 12) (
                              chk ((decide (1000000 ≤ N - szL p2_2) && itemsOK p0_0 x1 x4 p2_3 p2_2)) (
                                let x67 : List UInt8 := (itemsS p0_0 x1 x4 p2_3 p2_2)
                                some (.str x67, []))) (
                              some (.str ([] : List UInt8), []))) (
                            cond (x1 == 13) (
                              chk ((decide (1000000 ≤ N - szL p2_2) && itemsOK p0_0 x1 x4 p2_3 p2_2)) (
                                let x68 : List UInt8 := (itemsS p0_0 x1 x4 p2_3 p2_2)
                                some (.str x68, []))) (
                              some (.str ([] : List UInt8), [])))))))))))) (
          cond (x1 == 10) (
            let x69 : List UInt8 := (longS (IntKind.wrap .i64 p2_0))
            some (.str x69, [])) (
            cond (x1 == 5) (
              chk ((decide (0 ≤ (4 : Int)) && decide ((4 : Int) ≤ 8))) (
                some (.str (lowsR p2_0 4), []))) (
              cond (x1 == 6) (
                chk ((decide (0 ≤ (8 : Int)) && decide ((8 : Int) ≤ 8))) (
                  some (.str (lowsR p2_0 8), []))) (
                cond (x1 == 7) (
                  cond (x1 == 7) (
                    chk (decide (List.length p2_1 ≤ 1000000000000000)) (
                      some (.str (textV p2_1), []))) (
                    cond (x1 == 11) (
                      some (.str p2_1, [])) (
                      cond (x1 == 14) (
                        chk ((decide (0 ≤ p2_4) && decide (p2_4 < ↑(List.length x10)))) (
                          let x70 : Int := List.getD x10 (Int.toNat p2_4) (dflt (.num .i64))
                          chk (decide ((0 : Int) < ↑(List.length p2_2))) (
                            let x71 : Int := (List.getD p2_2 (Int.toNat 0) (dflt .aval)).n
                            let x72 : List UInt8 := (List.getD p2_2 (Int.toNat 0) (dflt .aval)).s
                            let x73 : List AVal := (List.getD p2_2 (Int.toNat 0) (dflt .aval)).l
                            let x74 : List (List UInt8) := (List.getD p2_2 (Int.toNat 0) (dflt .aval)).keys
                            let x75 : Int := (List.getD p2_2 (Int.toNat 0) (dflt .aval)).branch
                            chk ((decide (1000000 ≤ N - (szL x73 + 1)) && fitOK p0_0 x70 (.mk x71 x72 x73 x74 x75))) (
                              let x76 : List UInt8 := (valueS p0_0 x70 (.mk x71 x72 x73 x74 x75))
                              chk (decide (List.length (longS p2_4) + List.length x76 ≤ 9223372036854775807)) (
                                some (.str ((longS p2_4) ++ x76), [])))))) (
                        cond (x1 == 9) (
                          let x77 : Int := (↑(List.length x9) : Int)
                          q0 (p0_0, p2_0, p2_1, p2_2, p2_3, p2_4, ([] : List UInt8), x9, x77, 0)) (
                          cond (x1 == 12) (
                            cond (x1 == 12) (
                              chk ((decide (1000000 ≤ N - szL p2_2) && itemsOK p0_0 x1 x4 p2_3 p2_2)) (
                                let x78 : List UInt8 := (itemsS p0_0 x1 x4 p2_3 p2_2)
                                some (.str x78, []))) (
                              some (.str ([] : List UInt8), []))) (
                            cond (x1 == 13) (
                              chk ((decide (1000000 ≤ N - szL p2_2) && itemsOK p0_0 x1 x4 p2_3 p2_2)) (
                                let x79 : List UInt8 := (itemsS p0_0 x1 x4 p2_3 p2_2)
                                some (.str x79, []))) (
                              some (.str ([] : List UInt8), [])))))))) (
                  cond (x1 == 8) (
                    chk (decide (List.length p2_1 ≤ 1000000000000000)) (
                      some (.str (textV p2_1), []))) (
                    cond (x1 == 11) (
                      some (.str p2_1, [])) (
                      cond (x1 == 14) (
                        chk ((decide (0 ≤ p2_4) && decide (p2_4 < ↑(List.length x10)))) (
                          let x80 : Int := List.getD x10 (Int.toNat p2_4) (dflt (.num .i64))
                          chk (decide ((0 : Int) < ↑(List.length p2_2))) (
                            let x81 : Int := (List.getD p2_2 (Int.toNat 0) (dflt .aval)).n
                            let x82 : List UInt8 := (List.getD p2_2 (Int.toNat 0) (dflt .aval)).s
                            let x83 : List AVal := (List.getD p2_2 (Int.toNat 0) (dflt .aval)).l
                            let x84 : List (List UInt8) := (List.getD p2_2 (Int.toNat 0) (dflt .aval)).keys
                            let x85 : Int := (List.getD p2_2 (Int.toNat 0) (dflt .aval)).branch
                            chk ((decide (1000000 ≤ N - (szL x83 + 1)) && fitOK p0_0 x80 (.mk x81 x82 x83 x84 x85))) (
                              let x86 : List UInt8 := (valueS p0_0 x80 (.mk x81 x82 x83 x84 x85))
                              chk (decide (List.length (longS p2_4) + List.length x86 ≤ 9223372036854775807)) (
                                some (.str ((longS p2_4) ++ x86), [])))))) (
                        cond (x1 == 9) (
                          let x87 : Int := (↑(List.length x9) : Int)
                          q0 (p0_0, p2_0, p2_1, p2_2, p2_3, p2_4, ([] : List UInt8), x9, x87, 0)) (
                          cond (x1 == 12) (
                            cond (x1 == 12) (
                              chk ((decide (1000000 ≤ N - szL p2_2) && itemsOK p0_0 x1 x4 p2_3 p2_2)) (
                                let x88 : List UInt8 := (itemsS p0_0 x1 x4 p2_3 p2_2)
                                some (.str x88, []))) (
                              some (.str ([] : List UInt8), []))) (
                            cond (x1 == 13) (
                              chk ((decide (1000000 ≤ N - szL p2_2) && itemsOK p0_0 x1 x4 p2_3 p2_2)) (
                                let x89 : List UInt8 := (itemsS p0_0 x1 x4 p2_3 p2_2)
                                some (.str x89, []))) (
                              some (.str ([] : List UInt8), [])))))))))))))))
noncomputable def sh_aenc_value (N : Nat) (p0_0 : List AType) (p1 : Int) (p2_0 : Int) (p2_1 : List UInt8) (p2_2 : List AVal) (p2_3 : List (List UInt8)) (p2_4 : Int) : Option (V × List AObj) := sa_aenc_value N p0_0 p1 p2_0 p2_1 p2_2 p2_3 p2_4 (fun z => iterL N (B_aenc_value_0 N) z)
theorem run_aenc_value (N : Nat) (p0_0 : List AType) (p1 : Int) (p2_0 : Int) (p2_1 : List UInt8) (p2_2 : List AVal) (p2_3 : List (List UInt8)) (p2_4 : Int) : callF (Γ_aenc_value N) N 99 rs_aenc_value ir_aenc_value [.agg [.sl .atype false p0_0], .int .i64 p1, .agg [.int .u64 p2_0, .str p2_1, .sl .aval false p2_2, .sl .str false p2_3, .int .i64 p2_4]] [] = sh_aenc_value N p0_0 p1 p2_0 p2_1 p2_2 p2_3 p2_4 := by
  have h : callF (Γ_aenc_value N) N 99 rs_aenc_value ir_aenc_value [.agg [.sl .atype false p0_0], .int .i64 p1, .agg [.int .u64 p2_0, .str p2_1, .sl .aval false p2_2, .sl .str false p2_3, .int .i64 p2_4]] [] = sa_aenc_value N p0_0 p1 p2_0 p2_1 p2_2 p2_3 p2_4 (fun z => loopN N (F_aenc_value_0 N) (mk_aenc_value_0 z)) := by kernel_rfl
  have e0 : (fun z => loopN N (F_aenc_value_0 N) (mk_aenc_value_0 z)) = (fun z => iterL N (B_aenc_value_0 N) z) := funext fun z => loop_eq (mk_aenc_value_0) (F_aenc_value_0 N) (B_aenc_value_0 N) (FB_aenc_value_0 N) N z
  rw [h, e0]
  rfl
theorem ok_aenc_value (N : Nat) (hΓ : SpecOK Try.prog (Γ_aenc_value N)) (p0_0 : List AType) (p1 : Int) (p2_0 : Int) (p2_1 : List UInt8) (p2_2 : List AVal) (p2_3 : List (List UInt8)) (p2_4 : Int) {v : V} {hp : List AObj} (h : sh_aenc_value N p0_0 p1 p2_0 p2_1 p2_2 p2_3 p2_4 = some (v, hp)) : PureOK Try.prog i_aenc_value [.agg [.sl .atype false p0_0], .int .i64 p1, .agg [.int .u64 p2_0, .str p2_1, .sl .aval false p2_2, .sl .str false p2_3, .int .i64 p2_4]] v := by
  have hc := chk_aenc_value
  simp only [Bool.and_eq_true] at hc
  exact ⟨hp, fnOK_of hΓ (pureS_aenc_value N) Try.func70 body_aenc_value hc.1 hc.2 (by decide) ((run_aenc_value N p0_0 p1 p2_0 p2_1 p2_2 p2_3 p2_4).trans h)⟩

noncomputable def G_aenc_Encode (N : Nat) : Nat → List V → Option (Bool × V) := fun f vs => match f, vs with
  | 21, [.agg [.sl .atype false a0_0], .int .i64 a1, .agg [.int .u64 a2_0, .str a2_1, .sl .aval false a2_2, .sl .str false a2_3, .int .i64 a2_4]] => some (decide (1000000 ≤ N - (szL a2_2 + 1)), .bool (fitsS a0_0 a1 (.mk a2_0 a2_1 a2_2 a2_3 a2_4)))
  | 70, [.agg [.sl .atype false a0_0], .int .i64 a1, .agg [.int .u64 a2_0, .str a2_1, .sl .aval false a2_2, .sl .str false a2_3, .int .i64 a2_4]] => some ((decide (1000000 ≤ N - (szL a2_2 + 1)) && fitOK a0_0 a1 (.mk a2_0 a2_1 a2_2 a2_3 a2_4)), .str (valueS a0_0 a1 (.mk a2_0 a2_1 a2_2 a2_3 a2_4)))
  | _, _ => none
noncomputable def Γ_aenc_Encode (N : Nat) : ASpec := liftG (G_aenc_Encode N)
theorem pureS_aenc_Encode (N : Nat) : PureS (Γ_aenc_Encode N) [] := liftG_pure _ _
theorem spec_aenc_Encode (N : Nat) (h_aval_Fits : ∀ (a0_0 : List AType) (a1 : Int) (a2_0 : Int) (a2_1 : List UInt8) (a2_2 : List AVal) (a2_3 : List (List UInt8)) (a2_4 : Int), (decide (1000000 ≤ N - (szL a2_2 + 1))) = true → PureOK Try.prog i_aval_Fits [.agg [.sl .atype false a0_0], .int .i64 a1, .agg [.int .u64 a2_0, .str a2_1, .sl .aval false a2_2, .sl .str false a2_3, .int .i64 a2_4]] (.bool (fitsS a0_0 a1 (.mk a2_0 a2_1 a2_2 a2_3 a2_4)))) (h_aenc_value : ∀ (a0_0 : List AType) (a1 : Int) (a2_0 : Int) (a2_1 : List UInt8) (a2_2 : List AVal) (a2_3 : List (List UInt8)) (a2_4 : Int), (decide (1000000 ≤ N - (szL a2_2 + 1)) && fitOK a0_0 a1 (.mk a2_0 a2_1 a2_2 a2_3 a2_4)) = true → PureOK Try.prog i_aenc_value [.agg [.sl .atype false a0_0], .int .i64 a1, .agg [.int .u64 a2_0, .str a2_1, .sl .aval false a2_2, .sl .str false a2_3, .int .i64 a2_4]] (.str (valueS a0_0 a1 (.mk a2_0 a2_1 a2_2 a2_3 a2_4)))) : SpecOK Try.prog (Γ_aenc_Encode N) := by
  intro f vs hp v hp' h0
  obtain ⟨h, he⟩ := liftG_inv h0
  subst he
  unfold G_aenc_Encode at h
  split at h
  · simp only [Option.some.injEq, Prod.mk.injEq] at h
    obtain ⟨hc, rfl⟩ := h
    exact (h_aval_Fits _ _ _ _ _ _ _ hc).frame rfl rfl _
  · simp only [Option.some.injEq, Prod.mk.injEq] at h
    obtain ⟨hc, rfl⟩ := h
    exact (h_aenc_value _ _ _ _ _ _ _ hc).frame rfl rfl _
  · simp at h
noncomputable def ir_aenc_Encode_0 : IR := .ret
noncomputable def ir_aenc_Encode_1 : IR := .ret
noncomputable def ir_aenc_Encode_2 : IR := (.cond (.t 19) (.seq (.reg [⟨none, .mov 6 (.c (.sl .u8 true ([] : List UInt8)))⟩,
    ⟨none, .mov 7 (.c (.int .i64 7))⟩] []) ir_aenc_Encode_1) .skip)
noncomputable def ir_aenc_Encode_3 : IR := (.cond (.t 9) (.seq (.reg [⟨none, .mov 6 (.c (.sl .u8 true ([] : List UInt8)))⟩,
    ⟨none, .mov 7 (.c (.int .i64 1))⟩] []) ir_aenc_Encode_0) (.seq (.reg [⟨none, .lde 20 1 true (.t 3)⟩,
    ⟨none, .mov 21 (.t 1)⟩,
    ⟨none, .lde 22 5 true (.t 5)⟩,
    ⟨none, .call (some 23) 21 [(.t 20), (.t 21), (.t 22)]⟩,
    ⟨none, .un 24 .not (.t 23)⟩,
    ⟨none, .mov 19 (.t 24)⟩] []) ir_aenc_Encode_2))
noncomputable def ir_aenc_Encode_4 : IR := .ret
noncomputable def ir_aenc_Encode_5 : IR := (.cond (.t 31) (.seq (.reg [⟨none, .mov 6 (.c (.sl .u8 true ([] : List UInt8)))⟩,
    ⟨none, .mov 7 (.c (.int .i64 3))⟩] []) ir_aenc_Encode_4) .skip)
noncomputable def ir_aenc_Encode_6 : IR := .ret
noncomputable def ir_aenc_Encode_7 : IR := (.seq (.reg [⟨none, .mov 32 (.t 8)⟩,
    ⟨none, .s2b 33 (.t 32)⟩,
    ⟨none, .mov 6 (.t 33)⟩,
    ⟨none, .mov 7 (.c (.int .i64 0))⟩] []) ir_aenc_Encode_6)
noncomputable def ir_aenc_Encode_8 : IR := (.seq (.seq (.reg [⟨none, .mov 29 (.t 8)⟩,
    ⟨none, .lens 30 (.t 29)⟩,
    ⟨none, .bin 31 .gtr (.t 30) (.c (.int .i64 5000))⟩] []) ir_aenc_Encode_5) ir_aenc_Encode_7)
noncomputable def ir_aenc_Encode_9 : IR := (.seq (.reg [⟨none, .lde 25 1 true (.t 3)⟩,
    ⟨none, .mov 26 (.t 1)⟩,
    ⟨none, .lde 27 5 true (.t 5)⟩,
    ⟨none, .call (some 28) 70 [(.t 25), (.t 26), (.t 27)]⟩,
    ⟨none, .mov 8 (.t 28)⟩] []) ir_aenc_Encode_8)
noncomputable def ir_aenc_Encode_10 : IR := (.seq (.block 0 (.seq (.reg [⟨none, .mov 10 (.t 1)⟩,
    ⟨none, .bin 11 .lss (.t 10) (.c (.int .i64 0))⟩,
    ⟨none, .mov 12 (.t 11)⟩,
    ⟨some (12, false), .mov 13 (.t 1)⟩,
    ⟨some (12, false), .fad 14 0 (.t 3)⟩,
    ⟨some (12, false), .lde 15 1 false (.t 14)⟩,
    ⟨some (12, false), .lenl 16 (.t 15)⟩,
    ⟨some (12, false), .bin 17 .geq (.t 13) (.t 16)⟩,
    ⟨none, .pick 18 (.t 12) (.c (.bool true)) (.t 17)⟩,
    ⟨none, .mov 9 (.t 18)⟩] []) ir_aenc_Encode_3)) ir_aenc_Encode_9)
noncomputable def ir_aenc_Encode : IR := (.seq (.reg [⟨none, .boxe 3 (.t 0)⟩,
    ⟨none, .boxe 5 (.t 2)⟩,
    ⟨none, .mov 6 (.c (.sl .u8 true ([] : List UInt8)))⟩,
    ⟨none, .mov 7 (.c (.int .i64 0))⟩] []) ir_aenc_Encode_10)
noncomputable def rs_aenc_Encode : List RV := [.t 6, .t 7]
theorem chk_aenc_Encode : (chkCode Try.prog [] 0 ir_aenc_Encode (Try.f37.body.getD .skip) && chkRes Try.prog rs_aenc_Encode Try.f37.results.toList) = true := by kernel_rfl
theorem body_aenc_Encode : Try.f37.body = some (Try.f37.body.getD .skip) := by kernel_rfl
/-- proclitic/aenc.Encode -/
noncomputable def sa_aenc_Encode (N : Nat) (p0_0 : List AType) (p1 : Int) (p2_0 : Int) (p2_1 : List UInt8) (p2_2 : List AVal) (p2_3 : List (List UInt8)) (p2_4 : Int)  : Option (V × List AObj) :=
  cond (decide (p1 < 0)) (
    some (.tup [.sl .u8 false ([] : List UInt8), .int .i64 1], [])) (
    let x1 : Int := (↑(List.length p0_0) : Int)
    cond (decide (x1 ≤ p1)) (
      some (.tup [.sl .u8 false ([] : List UInt8), .int .i64 1], [])) (
      chk (decide (1000000 ≤ N - (szL p2_2 + 1))) (
        let x2 : Bool := (fitsS p0_0 p1 (.mk p2_0 p2_1 p2_2 p2_3 p2_4))
        cond (!x2) (
          some (.tup [.sl .u8 false ([] : List UInt8), .int .i64 7], [])) (
          chk ((decide (1000000 ≤ N - (szL p2_2 + 1)) && fitOK p0_0 p1 (.mk p2_0 p2_1 p2_2 p2_3 p2_4))) (
            let x3 : List UInt8 := (valueS p0_0 p1 (.mk p2_0 p2_1 p2_2 p2_3 p2_4))
            let x4 : Int := (↑(List.length x3) : Int)
            cond (decide (5000 < x4)) (
              some (.tup [.sl .u8 false ([] : List UInt8), .int .i64 3], [])) (
              some (.tup [.sl .u8 false x3, .int .i64 0], [])))))))
noncomputable def sh_aenc_Encode (N : Nat) (p0_0 : List AType) (p1 : Int) (p2_0 : Int) (p2_1 : List UInt8) (p2_2 : List AVal) (p2_3 : List (List UInt8)) (p2_4 : Int) : Option (V × List AObj) := sa_aenc_Encode N p0_0 p1 p2_0 p2_1 p2_2 p2_3 p2_4
theorem run_aenc_Encode (N : Nat) (p0_0 : List AType) (p1 : Int) (p2_0 : Int) (p2_1 : List UInt8) (p2_2 : List AVal) (p2_3 : List (List UInt8)) (p2_4 : Int) : callF (Γ_aenc_Encode N) N 34 rs_aenc_Encode ir_aenc_Encode [.agg [.sl .atype false p0_0], .int .i64 p1, .agg [.int .u64 p2_0, .str p2_1, .sl .aval false p2_2, .sl .str false p2_3, .int .i64 p2_4]] [] = sh_aenc_Encode N p0_0 p1 p2_0 p2_1 p2_2 p2_3 p2_4 := by kernel_rfl
theorem ok_aenc_Encode (N : Nat) (hΓ : SpecOK Try.prog (Γ_aenc_Encode N)) (p0_0 : List AType) (p1 : Int) (p2_0 : Int) (p2_1 : List UInt8) (p2_2 : List AVal) (p2_3 : List (List UInt8)) (p2_4 : Int) {v : V} {hp : List AObj} (h : sh_aenc_Encode N p0_0 p1 p2_0 p2_1 p2_2 p2_3 p2_4 = some (v, hp)) : PureOK Try.prog i_aenc_Encode [.agg [.sl .atype false p0_0], .int .i64 p1, .agg [.int .u64 p2_0, .str p2_1, .sl .aval false p2_2, .sl .str false p2_3, .int .i64 p2_4]] v := by
  have hc := chk_aenc_Encode
  simp only [Bool.and_eq_true] at hc
  exact ⟨hp, fnOK_of hΓ (pureS_aenc_Encode N) Try.func37 body_aenc_Encode hc.1 hc.2 (by decide) ((run_aenc_Encode N p0_0 p1 p2_0 p2_1 p2_2 p2_3 p2_4).trans h)⟩

noncomputable def G_law22_begun (N : Nat) : Nat → List V → Option (Bool × V) := fun f vs => match f, vs with
  | 37, [.agg [.sl .atype false a0_0], .int .i64 a1, .agg [.int .u64 a2_0, .str a2_1, .sl .aval false a2_2, .sl .str false a2_3, .int .i64 a2_4]] => some ((decide (1000000 ≤ N - (szL a2_2 + 1)) && decide (wV (.mk a2_0 a2_1 a2_2 a2_3 a2_4) ≤ 1000000000000000)), .tup [.sl .u8 false ((encS a0_0 a1 (.mk a2_0 a2_1 a2_2 a2_3 a2_4)).1), .int .i64 ((encS a0_0 a1 (.mk a2_0 a2_1 a2_2 a2_3 a2_4)).2)])
  | _, _ => none
noncomputable def Γ_law22_begun (N : Nat) : ASpec := liftG (G_law22_begun N)
theorem pureS_law22_begun (N : Nat) : PureS (Γ_law22_begun N) [] := liftG_pure _ _
theorem spec_law22_begun (N : Nat) (h_aenc_Encode : ∀ (a0_0 : List AType) (a1 : Int) (a2_0 : Int) (a2_1 : List UInt8) (a2_2 : List AVal) (a2_3 : List (List UInt8)) (a2_4 : Int), (decide (1000000 ≤ N - (szL a2_2 + 1)) && decide (wV (.mk a2_0 a2_1 a2_2 a2_3 a2_4) ≤ 1000000000000000)) = true → PureOK Try.prog i_aenc_Encode [.agg [.sl .atype false a0_0], .int .i64 a1, .agg [.int .u64 a2_0, .str a2_1, .sl .aval false a2_2, .sl .str false a2_3, .int .i64 a2_4]] (.tup [.sl .u8 false ((encS a0_0 a1 (.mk a2_0 a2_1 a2_2 a2_3 a2_4)).1), .int .i64 ((encS a0_0 a1 (.mk a2_0 a2_1 a2_2 a2_3 a2_4)).2)])) : SpecOK Try.prog (Γ_law22_begun N) := by
  intro f vs hp v hp' h0
  obtain ⟨h, he⟩ := liftG_inv h0
  subst he
  unfold G_law22_begun at h
  split at h
  · simp only [Option.some.injEq, Prod.mk.injEq] at h
    obtain ⟨hc, rfl⟩ := h
    exact (h_aenc_Encode _ _ _ _ _ _ _ hc).frame rfl rfl _
  · simp at h
noncomputable def ir_law22_begun_0 : IR := .ret
noncomputable def ir_law22_begun_1 : IR := (.seq (.reg [⟨none, .mov 21 (.t 3)⟩,
    ⟨none, .bin 22 .eql (.t 21) (.c (.int .i64 0))⟩,
    ⟨none, .mov 23 (.t 22)⟩,
    ⟨some (23, true), .mov 24 (.t 2)⟩,
    ⟨some (23, true), .b2s 25 (.t 24)⟩,
    ⟨some (23, true), .bin 26 .eql (.t 25) (.c (.str ([1] : List UInt8)))⟩,
    ⟨none, .pick 27 (.t 23) (.t 26) (.c (.bool false))⟩,
    ⟨none, .mov 28 (.t 27)⟩,
    ⟨some (28, true), .mov 29 (.t 5)⟩,
    ⟨some (28, true), .bin 30 .eql (.t 29) (.c (.int .i64 1))⟩,
    ⟨none, .pick 31 (.t 28) (.t 30) (.c (.bool false))⟩,
    ⟨none, .mov 0 (.t 31)⟩] []) ir_law22_begun_0)
noncomputable def ir_law22_begun_2 : IR := (.seq (.reg [⟨none, .lde 16 1 true (.t 1)⟩,
    ⟨none, .bld 17 [.int .u64 0, .str ([] : List UInt8), .sl .aval false ([] : List AVal), .sl .str false ([] : List (List UInt8)), .int .i64 0] []⟩,
    ⟨none, .call (some 18) 37 [(.t 16), (.c (.int .i64 1)), (.t 17)]⟩,
    ⟨none, .mov 15 (.t 18)⟩,
    ⟨none, .ext 19 0 (.t 15)⟩,
    ⟨none, .ext 20 1 (.t 15)⟩,
    ⟨none, .mov 4 (.t 19)⟩,
    ⟨none, .mov 5 (.t 20)⟩] []) ir_law22_begun_1)
noncomputable def ir_law22_begun_3 : IR := (.seq (.reg [⟨none, .lde 10 1 true (.t 1)⟩,
    ⟨none, .bld 11 [.int .u64 0, .str ([] : List UInt8), .sl .aval false ([] : List AVal), .sl .str false ([] : List (List UInt8)), .int .i64 0] [(0, 1, (.c (.int .u64 18446744073709551615)))]⟩,
    ⟨none, .call (some 12) 37 [(.t 10), (.c (.int .i64 0)), (.t 11)]⟩,
    ⟨none, .mov 9 (.t 12)⟩,
    ⟨none, .ext 13 0 (.t 9)⟩,
    ⟨none, .ext 14 1 (.t 9)⟩,
    ⟨none, .mov 2 (.t 13)⟩,
    ⟨none, .mov 3 (.t 14)⟩] []) ir_law22_begun_2)
noncomputable def ir_law22_begun_4 : IR := (.seq (.reg [⟨none, .bld 6 [.int .i64 0, .str ([] : List UInt8), .sl .str false ([] : List (List UInt8)), .int .i64 0, .sl .str false ([] : List (List UInt8)), .bool false, .str ([] : List UInt8), .int .i64 0, .sl .afield false ([] : List AField), .sl (.num .i64) false ([] : List Int)] [(0, 1, (.c (.int .i64 4)))]⟩,
    ⟨none, .bsl 7 .atype [(.t 6)]⟩,
    ⟨none, .bld 8 [.sl .atype true ([] : List AType)] [(0, 1, (.t 7))]⟩,
    ⟨none, .alr 1 1⟩,
    ⟨none, .frz none 1 1 (.t 8)⟩] []) ir_law22_begun_3)
noncomputable def ir_law22_begun : IR := (.seq (.reg [⟨none, .mov 0 (.c (.bool false))⟩] []) ir_law22_begun_4)
noncomputable def rs_law22_begun : List RV := [.t 0]
theorem chk_law22_begun : (chkCode Try.prog [] 0 ir_law22_begun (Try.f36.body.getD .skip) && chkRes Try.prog rs_law22_begun Try.f36.results.toList) = true := by kernel_rfl
theorem body_law22_begun : Try.f36.body = some (Try.f36.body.getD .skip) := by kernel_rfl
/-- proclitic/procliticlaw22.begun -/
noncomputable def sa_law22_begun (N : Nat)   : Option (V × List AObj) :=
  chk ((decide (1000000 ≤ N - (szL ([] : List AVal) + 1)) && decide (wV (.mk 18446744073709551615 ([] : List UInt8) ([] : List AVal) ([] : List (List UInt8)) 0) ≤ 1000000000000000))) (
    let x1 : List UInt8 := (encS ([⟨4, ([] : List UInt8), ([] : List (List UInt8)), 0, ([] : List (List UInt8)), false, ([] : List UInt8), 0, ([] : List AField), ([] : List Int)⟩] : List AType) 0 (.mk 18446744073709551615 ([] : List UInt8) ([] : List AVal) ([] : List (List UInt8)) 0)).1
    let x2 : Int := (encS ([⟨4, ([] : List UInt8), ([] : List (List UInt8)), 0, ([] : List (List UInt8)), false, ([] : List UInt8), 0, ([] : List AField), ([] : List Int)⟩] : List AType) 0 (.mk 18446744073709551615 ([] : List UInt8) ([] : List AVal) ([] : List (List UInt8)) 0)).2
    chk ((decide (1000000 ≤ N - (szL ([] : List AVal) + 1)) && decide (wV (.mk 0 ([] : List UInt8) ([] : List AVal) ([] : List (List UInt8)) 0) ≤ 1000000000000000))) (
      let x3 : List UInt8 := (encS ([⟨4, ([] : List UInt8), ([] : List (List UInt8)), 0, ([] : List (List UInt8)), false, ([] : List UInt8), 0, ([] : List AField), ([] : List Int)⟩] : List AType) 1 (.mk 0 ([] : List UInt8) ([] : List AVal) ([] : List (List UInt8)) 0)).1
      let x4 : Int := (encS ([⟨4, ([] : List UInt8), ([] : List (List UInt8)), 0, ([] : List (List UInt8)), false, ([] : List UInt8), 0, ([] : List AField), ([] : List Int)⟩] : List AType) 1 (.mk 0 ([] : List UInt8) ([] : List AVal) ([] : List (List UInt8)) 0)).2
      cond (x2 == 0) (
        let x5 : Bool := decide (x1 = ([1] : List UInt8))
        cond x5 (
          some (.bool (x4 == 1), [])) (
          some (.bool false, []))) (
        some (.bool false, []))))
noncomputable def sh_law22_begun (N : Nat)  : Option (V × List AObj) := sa_law22_begun N 
theorem run_law22_begun (N : Nat)  : callF (Γ_law22_begun N) N 32 rs_law22_begun ir_law22_begun [] [] = sh_law22_begun N  := by kernel_rfl
theorem ok_law22_begun (N : Nat) (hΓ : SpecOK Try.prog (Γ_law22_begun N))  {v : V} {hp : List AObj} (h : sh_law22_begun N  = some (v, hp)) : PureOK Try.prog i_law22_begun [] v := by
  have hc := chk_law22_begun
  simp only [Bool.and_eq_true] at hc
  exact ⟨hp, fnOK_of hΓ (pureS_law22_begun N) Try.func36 body_law22_begun hc.1 hc.2 (by decide) ((run_law22_begun N ).trans h)⟩

noncomputable def G_law22_AencSizes (N : Nat) : Nat → List V → Option (Bool × V) := fun f vs => match f, vs with
  | 36, [] => some (true, .bool true)
  | 37, [.agg [.sl .atype false a0_0], .int .i64 a1, .agg [.int .u64 a2_0, .str a2_1, .sl .aval false a2_2, .sl .str false a2_3, .int .i64 a2_4]] => some ((decide (1000000 ≤ N - (szL a2_2 + 1)) && decide (wV (.mk a2_0 a2_1 a2_2 a2_3 a2_4) ≤ 1000000000000000)), .tup [.sl .u8 false ((encS a0_0 a1 (.mk a2_0 a2_1 a2_2 a2_3 a2_4)).1), .int .i64 ((encS a0_0 a1 (.mk a2_0 a2_1 a2_2 a2_3 a2_4)).2)])
  | _, _ => none
noncomputable def Γ_law22_AencSizes (N : Nat) : ASpec := liftG (G_law22_AencSizes N)
theorem pureS_law22_AencSizes (N : Nat) : PureS (Γ_law22_AencSizes N) [] := liftG_pure _ _
theorem spec_law22_AencSizes (N : Nat) (h_law22_begun : PureOK Try.prog i_law22_begun [] (.bool true)) (h_aenc_Encode : ∀ (a0_0 : List AType) (a1 : Int) (a2_0 : Int) (a2_1 : List UInt8) (a2_2 : List AVal) (a2_3 : List (List UInt8)) (a2_4 : Int), (decide (1000000 ≤ N - (szL a2_2 + 1)) && decide (wV (.mk a2_0 a2_1 a2_2 a2_3 a2_4) ≤ 1000000000000000)) = true → PureOK Try.prog i_aenc_Encode [.agg [.sl .atype false a0_0], .int .i64 a1, .agg [.int .u64 a2_0, .str a2_1, .sl .aval false a2_2, .sl .str false a2_3, .int .i64 a2_4]] (.tup [.sl .u8 false ((encS a0_0 a1 (.mk a2_0 a2_1 a2_2 a2_3 a2_4)).1), .int .i64 ((encS a0_0 a1 (.mk a2_0 a2_1 a2_2 a2_3 a2_4)).2)])) : SpecOK Try.prog (Γ_law22_AencSizes N) := by
  intro f vs hp v hp' h0
  obtain ⟨h, he⟩ := liftG_inv h0
  subst he
  unfold G_law22_AencSizes at h
  split at h
  · simp only [Option.some.injEq, Prod.mk.injEq] at h
    obtain ⟨hc, rfl⟩ := h
    exact (h_law22_begun ).frame rfl rfl _
  · simp only [Option.some.injEq, Prod.mk.injEq] at h
    obtain ⟨hc, rfl⟩ := h
    exact (h_aenc_Encode _ _ _ _ _ _ _ hc).frame rfl rfl _
  · simp at h
noncomputable def ir_law22_AencSizes_0 : IR := .ret
noncomputable def ir_law22_AencSizes_1 : IR := (.cond (.t 23) (.seq (.reg [⟨none, .mov 6 (.c (.bool false))⟩] []) ir_law22_AencSizes_0) .skip)
noncomputable def ir_law22_AencSizes_2 : IR := .ret
noncomputable def ir_law22_AencSizes_3 : IR := (.cond (.t 33) (.seq (.reg [⟨none, .mov 6 (.c (.bool true))⟩] []) ir_law22_AencSizes_2) .skip)
noncomputable def ir_law22_AencSizes_4 : IR := (.cond (.t 50) .skip (.exit 0))
noncomputable def ir_law22_AencSizes_5 : IR := (.reg [⟨none, .mov 51 (.t 8)⟩,
    ⟨none, .bin 52 .add (.t 51) (.c (.int .i64 1))⟩,
    ⟨none, .mov 8 (.t 52)⟩] [])
noncomputable def ir_law22_AencSizes_6 : IR := (.seq (.block 1 (.reg [⟨none, .mov 53 (.t 9)⟩,
    ⟨none, .bin 54 .mul (.t 53) (.c (.int .i64 128))⟩,
    ⟨none, .mov 55 (.t 10)⟩,
    ⟨none, .bin 56 .mul (.t 55) (.c (.int .i64 128))⟩,
    ⟨none, .bin 57 .add (.t 56) (.c (.int .i64 127))⟩,
    ⟨none, .mov 9 (.t 54)⟩,
    ⟨none, .mov 10 (.t 57)⟩] [])) ir_law22_AencSizes_5)
noncomputable def ir_law22_AencSizes_7 : IR := (.seq (.seq (.reg [⟨none, .mov 39 (.t 8)⟩,
    ⟨none, .bin 40 .lss (.t 39) (.c (.int .i64 10))⟩,
    ⟨none, .mov 41 (.t 40)⟩,
    ⟨some (41, true), .mov 42 (.t 0)⟩,
    ⟨some (41, true), .mov 43 (.t 9)⟩,
    ⟨some (41, true), .bin 44 .lss (.t 42) (.t 43)⟩,
    ⟨some (41, true), .mov 45 (.t 44)⟩,
    ⟨some (45, false), .mov 46 (.t 0)⟩,
    ⟨some (45, false), .mov 47 (.t 10)⟩,
    ⟨some (45, false), .bin 48 .gtr (.t 46) (.t 47)⟩,
    ⟨some (41, true), .pick 49 (.t 45) (.c (.bool true)) (.t 48)⟩,
    ⟨none, .pick 50 (.t 41) (.t 49) (.c (.bool false))⟩] []) ir_law22_AencSizes_4) ir_law22_AencSizes_6)
noncomputable def ir_law22_AencSizes_8 : IR := (.block 0 (.loop [0, 1, 2, 7, 8, 9, 10] 0 ir_law22_AencSizes_7))
noncomputable def ir_law22_AencSizes_9 : IR := (.cond (.t 65) .skip (.exit 2))
noncomputable def ir_law22_AencSizes_10 : IR := (.reg [⟨none, .mov 66 (.t 13)⟩,
    ⟨none, .bin 67 .add (.t 66) (.c (.int .i64 1))⟩,
    ⟨none, .mov 13 (.t 67)⟩] [])
noncomputable def ir_law22_AencSizes_11 : IR := (.seq (.block 3 (.reg [⟨none, .fad 68 2 (.t 12)⟩,
    ⟨none, .ld 69 1 false true (.t 68)⟩,
    ⟨none, .lde 70 5 true (.t 11)⟩,
    ⟨none, .bsl 71 .aval [(.t 70)]⟩,
    ⟨none, .app 72 .aval (.tk 69) (.t 71)⟩,
    ⟨none, .fad 73 2 (.t 12)⟩,
    ⟨none, .st none 1 (.t 73) (.tk 72)⟩] [])) ir_law22_AencSizes_10)
noncomputable def ir_law22_AencSizes_12 : IR := (.seq (.seq (.reg [⟨none, .mov 62 (.t 13)⟩,
    ⟨none, .mov 63 (.t 2)⟩,
    ⟨none, .cvi 64 .i64 (.t 63)⟩,
    ⟨none, .bin 65 .lss (.t 62) (.t 64)⟩] []) ir_law22_AencSizes_9) ir_law22_AencSizes_11)
noncomputable def ir_law22_AencSizes_13 : IR := (.block 2 (.loop [1, 2, 7, 8, 11, 12, 13] 1 ir_law22_AencSizes_12))
noncomputable def ir_law22_AencSizes_14 : IR := (.cond (.t 95) (.reg [⟨none, .mov 20 (.c (.int .i64 2))⟩] []) .skip)
noncomputable def ir_law22_AencSizes_15 : IR := (.cond (.t 102) (.reg [⟨none, .mov 103 (.t 21)⟩,
    ⟨none, .bin 104 .add (.t 103) (.c (.int .i64 1))⟩,
    ⟨none, .mov 21 (.t 104)⟩] []) .skip)
noncomputable def ir_law22_AencSizes_16 : IR := (.cond (.t 106) (.reg [⟨none, .mov 107 (.t 21)⟩,
    ⟨none, .bin 108 .add (.t 107) (.c (.int .i64 1))⟩,
    ⟨none, .mov 21 (.t 108)⟩] []) .skip)
noncomputable def ir_law22_AencSizes_17 : IR := .ret
noncomputable def ir_law22_AencSizes_18 : IR := (.seq (.reg [⟨none, .mov 109 (.t 15)⟩,
    ⟨none, .bin 110 .eql (.t 109) (.c (.int .i64 0))⟩,
    ⟨none, .mov 111 (.t 110)⟩,
    ⟨some (111, true), .mov 112 (.t 14)⟩,
    ⟨some (111, true), .lenl 113 (.t 112)⟩,
    ⟨some (111, true), .mov 114 (.t 8)⟩,
    ⟨some (111, true), .bin 115 .eql (.t 113) (.t 114)⟩,
    ⟨none, .pick 116 (.t 111) (.t 115) (.c (.bool false))⟩,
    ⟨none, .mov 117 (.t 116)⟩,
    ⟨some (117, true), .mov 118 (.t 17)⟩,
    ⟨some (117, true), .bin 119 .eql (.t 118) (.c (.int .i64 0))⟩,
    ⟨none, .pick 120 (.t 117) (.t 119) (.c (.bool false))⟩,
    ⟨none, .mov 121 (.t 120)⟩,
    ⟨some (121, true), .mov 122 (.t 16)⟩,
    ⟨some (121, true), .lenl 123 (.t 122)⟩,
    ⟨some (121, true), .mov 124 (.t 20)⟩,
    ⟨some (121, true), .mov 125 (.t 1)⟩,
    ⟨some (121, true), .lens 126 (.t 125)⟩,
    ⟨some (121, true), .bin 127 .add (.t 124) (.t 126)⟩,
    ⟨some (121, true), .bin 128 .eql (.t 123) (.t 127)⟩,
    ⟨none, .pick 129 (.t 121) (.t 128) (.c (.bool false))⟩,
    ⟨none, .mov 130 (.t 129)⟩,
    ⟨some (130, true), .mov 131 (.t 19)⟩,
    ⟨some (130, true), .bin 132 .eql (.t 131) (.c (.int .i64 0))⟩,
    ⟨none, .pick 133 (.t 130) (.t 132) (.c (.bool false))⟩,
    ⟨none, .mov 134 (.t 133)⟩,
    ⟨some (134, true), .mov 135 (.t 18)⟩,
    ⟨some (134, true), .lenl 136 (.t 135)⟩,
    ⟨some (134, true), .mov 137 (.t 21)⟩,
    ⟨some (134, true), .bin 138 .eql (.t 136) (.t 137)⟩,
    ⟨none, .pick 139 (.t 134) (.t 138) (.c (.bool false))⟩,
    ⟨none, .mov 6 (.t 139)⟩] []) ir_law22_AencSizes_17)
noncomputable def ir_law22_AencSizes_19 : IR := (.seq (.seq (.reg [⟨none, .mov 105 (.t 2)⟩,
    ⟨none, .bin 106 .geq (.t 105) (.c (.int .u8 64))⟩] []) ir_law22_AencSizes_16) ir_law22_AencSizes_18)
noncomputable def ir_law22_AencSizes_20 : IR := (.seq (.seq (.reg [⟨none, .mov 101 (.t 2)⟩,
    ⟨none, .bin 102 .gtr (.t 101) (.c (.int .u8 0))⟩] []) ir_law22_AencSizes_15) ir_law22_AencSizes_19)
noncomputable def ir_law22_AencSizes_21 : IR := (.seq (.reg [⟨none, .mov 96 (.t 2)⟩,
    ⟨none, .cvi 97 .i64 (.t 96)⟩,
    ⟨none, .mov 98 (.t 8)⟩,
    ⟨none, .bin 99 .mul (.t 97) (.t 98)⟩,
    ⟨none, .bin 100 .add (.c (.int .i64 1)) (.t 99)⟩,
    ⟨none, .mov 21 (.t 100)⟩] []) ir_law22_AencSizes_20)
noncomputable def ir_law22_AencSizes_22 : IR := (.seq (.seq (.reg [⟨none, .mov 93 (.t 1)⟩,
    ⟨none, .lens 94 (.t 93)⟩,
    ⟨none, .bin 95 .geq (.t 94) (.c (.int .i64 64))⟩] []) ir_law22_AencSizes_14) ir_law22_AencSizes_21)
noncomputable def ir_law22_AencSizes_23 : IR := (.seq (.reg [⟨none, .mov 20 (.c (.int .i64 1))⟩] []) ir_law22_AencSizes_22)
noncomputable def ir_law22_AencSizes_24 : IR := (.seq (.reg [⟨none, .lde 88 1 true (.t 7)⟩,
    ⟨none, .ld 89 5 true false (.t 12)⟩,
    ⟨none, .call (some 90) 37 [(.t 88), (.c (.int .i64 2)), (.t 89)]⟩,
    ⟨none, .mov 87 (.t 90)⟩,
    ⟨none, .ext 91 0 (.t 87)⟩,
    ⟨none, .ext 92 1 (.t 87)⟩,
    ⟨none, .mov 18 (.t 91)⟩,
    ⟨none, .mov 19 (.t 92)⟩] []) ir_law22_AencSizes_23)
noncomputable def ir_law22_AencSizes_25 : IR := (.seq (.reg [⟨none, .lde 81 1 true (.t 7)⟩,
    ⟨none, .mov 82 (.t 1)⟩,
    ⟨none, .bld 83 [.int .u64 0, .str ([] : List UInt8), .sl .aval false ([] : List AVal), .sl .str false ([] : List (List UInt8)), .int .i64 0] [(1, 1, (.t 82))]⟩,
    ⟨none, .call (some 84) 37 [(.t 81), (.c (.int .i64 1)), (.t 83)]⟩,
    ⟨none, .mov 80 (.t 84)⟩,
    ⟨none, .ext 85 0 (.t 80)⟩,
    ⟨none, .ext 86 1 (.t 80)⟩,
    ⟨none, .mov 16 (.t 85)⟩,
    ⟨none, .mov 17 (.t 86)⟩] []) ir_law22_AencSizes_24)
noncomputable def ir_law22_AencSizes_26 : IR := (.seq (.reg [⟨none, .lde 75 1 true (.t 7)⟩,
    ⟨none, .lde 76 5 true (.t 11)⟩,
    ⟨none, .call (some 77) 37 [(.t 75), (.c (.int .i64 0)), (.t 76)]⟩,
    ⟨none, .mov 74 (.t 77)⟩,
    ⟨none, .ext 78 0 (.t 74)⟩,
    ⟨none, .ext 79 1 (.t 74)⟩,
    ⟨none, .mov 14 (.t 78)⟩,
    ⟨none, .mov 15 (.t 79)⟩] []) ir_law22_AencSizes_25)
noncomputable def ir_law22_AencSizes_27 : IR := (.seq (.seq (.reg [⟨none, .mov 13 (.c (.int .i64 0))⟩] []) ir_law22_AencSizes_13) ir_law22_AencSizes_26)
noncomputable def ir_law22_AencSizes_28 : IR := (.seq (.reg [⟨none, .bld 61 [.int .u64 0, .str ([] : List UInt8), .sl .aval true ([] : List AVal), .sl .str true ([] : List (List UInt8)), .int .i64 0] []⟩,
    ⟨none, .new 12 [.int .u64 0, .str ([] : List UInt8), .sl .aval true ([] : List AVal), .sl .str true ([] : List (List UInt8)), .int .i64 0]⟩,
    ⟨none, .st none 5 (.t 12) (.t 61)⟩] []) ir_law22_AencSizes_27)
noncomputable def ir_law22_AencSizes_29 : IR := (.seq (.reg [⟨none, .mov 58 (.t 0)⟩,
    ⟨none, .cvi 59 .u64 (.t 58)⟩,
    ⟨none, .bld 60 [.int .u64 0, .str ([] : List UInt8), .sl .aval true ([] : List AVal), .sl .str true ([] : List (List UInt8)), .int .i64 0] [(0, 1, (.t 59))]⟩,
    ⟨none, .alr 11 5⟩,
    ⟨none, .frz none 11 5 (.t 60)⟩] []) ir_law22_AencSizes_28)
noncomputable def ir_law22_AencSizes_30 : IR := (.seq (.seq (.reg [⟨none, .mov 9 (.c (.int .i64 (-64)))⟩,
    ⟨none, .mov 10 (.c (.int .i64 63))⟩] []) ir_law22_AencSizes_8) ir_law22_AencSizes_29)
noncomputable def ir_law22_AencSizes_31 : IR := (.seq (.reg [⟨none, .mov 8 (.c (.int .i64 1))⟩] []) ir_law22_AencSizes_30)
noncomputable def ir_law22_AencSizes_32 : IR := (.seq (.reg [⟨none, .bld 34 [.int .i64 0, .str ([] : List UInt8), .sl .str false ([] : List (List UInt8)), .int .i64 0, .sl .str false ([] : List (List UInt8)), .bool false, .str ([] : List UInt8), .int .i64 0, .sl .afield false ([] : List AField), .sl (.num .i64) false ([] : List Int)] [(0, 1, (.c (.int .i64 4)))]⟩,
    ⟨none, .bld 35 [.int .i64 0, .str ([] : List UInt8), .sl .str false ([] : List (List UInt8)), .int .i64 0, .sl .str false ([] : List (List UInt8)), .bool false, .str ([] : List UInt8), .int .i64 0, .sl .afield false ([] : List AField), .sl (.num .i64) false ([] : List Int)] [(0, 1, (.c (.int .i64 8)))]⟩,
    ⟨none, .bld 36 [.int .i64 0, .str ([] : List UInt8), .sl .str false ([] : List (List UInt8)), .int .i64 0, .sl .str false ([] : List (List UInt8)), .bool false, .str ([] : List UInt8), .int .i64 0, .sl .afield false ([] : List AField), .sl (.num .i64) false ([] : List Int)] [(0, 1, (.c (.int .i64 12))), (3, 1, (.c (.int .i64 0)))]⟩,
    ⟨none, .bsl 37 .atype [(.t 34), (.t 35), (.t 36)]⟩,
    ⟨none, .bld 38 [.sl .atype true ([] : List AType)] [(0, 1, (.t 37))]⟩,
    ⟨none, .alr 7 1⟩,
    ⟨none, .frz none 7 1 (.t 38)⟩] []) ir_law22_AencSizes_31)
noncomputable def ir_law22_AencSizes_33 : IR := (.seq (.seq (.reg [⟨none, .mov 24 (.t 1)⟩,
    ⟨none, .lens 25 (.t 24)⟩,
    ⟨none, .bin 26 .gtr (.t 25) (.c (.int .i64 100))⟩,
    ⟨none, .mov 27 (.t 26)⟩,
    ⟨some (27, false), .mov 28 (.t 1)⟩,
    ⟨some (27, false), .s2r 29 (.t 28)⟩,
    ⟨some (27, false), .r2s 30 (.t 29)⟩,
    ⟨some (27, false), .mov 31 (.t 1)⟩,
    ⟨some (27, false), .bin 32 .neq (.t 30) (.t 31)⟩,
    ⟨none, .pick 33 (.t 27) (.c (.bool true)) (.t 32)⟩] []) ir_law22_AencSizes_3) ir_law22_AencSizes_32)
noncomputable def ir_law22_AencSizes_34 : IR := (.seq (.seq (.reg [⟨none, .call (some 22) 36 []⟩,
    ⟨none, .un 23 .not (.t 22)⟩] []) ir_law22_AencSizes_1) ir_law22_AencSizes_33)
noncomputable def ir_law22_AencSizes : IR := (.seq (.reg [⟨none, .mov 6 (.c (.bool false))⟩] []) ir_law22_AencSizes_34)
noncomputable def rs_law22_AencSizes : List RV := [.t 6]
theorem chk_law22_AencSizes : (chkCode Try.prog [] 0 ir_law22_AencSizes (Try.f12.body.getD .skip) && chkRes Try.prog rs_law22_AencSizes Try.f12.results.toList) = true := by kernel_rfl
theorem body_law22_AencSizes : Try.f12.body = some (Try.f12.body.getD .skip) := by kernel_rfl
noncomputable def mk_law22_AencSizes_0 (x : (Int × List UInt8 × Int × List AType × Int × Int × Int)) : St := { env := [.int .i64 x.1, .str x.2.1, .int .u8 x.2.2.1, .undef, .undef, .undef, .undef, .ea [.sl .atype false x.2.2.2.1], .int .i64 x.2.2.2.2.1, .int .i64 x.2.2.2.2.2.1, .int .i64 x.2.2.2.2.2.2, .undef, .undef, .undef, .undef, .undef, .undef, .undef, .undef, .undef, .undef, .undef, .undef, .undef, .undef, .undef, .undef, .undef, .undef, .undef, .undef, .undef, .undef, .undef, .undef, .undef, .undef, .undef, .undef, .undef, .undef, .undef, .undef, .undef, .undef, .undef, .undef, .undef, .undef, .undef, .undef, .undef, .undef, .undef, .undef, .undef, .undef, .undef, .undef, .undef, .undef, .undef, .undef, .undef, .undef, .undef, .undef, .undef, .undef, .undef, .undef, .undef, .undef, .undef, .undef, .undef, .undef, .undef, .undef, .undef, .undef, .undef, .undef, .undef, .undef, .undef, .undef, .undef, .undef, .undef, .undef, .undef, .undef, .undef, .undef, .undef, .undef, .undef, .undef, .undef, .undef, .undef, .undef, .undef, .undef, .undef, .undef, .undef, .undef, .undef, .undef, .undef, .undef, .undef, .undef, .undef, .undef, .undef, .undef, .undef, .undef, .undef, .undef, .undef, .undef, .undef, .undef, .undef, .undef, .undef, .undef, .undef, .undef, .undef, .undef, .undef, .undef, .undef, .undef, .undef], hp := [] }
noncomputable def mk_law22_AencSizes_1 (x : (List UInt8 × Int × List AType × Int × Int × List UInt8 × List AVal × List (List UInt8) × Int × Int × Int × List UInt8 × List AVal × List (List UInt8) × Int)) : St := { env := [.undef, .str x.1, .int .u8 x.2.1, .undef, .undef, .undef, .undef, .ea [.sl .atype false x.2.2.1], .int .i64 x.2.2.2.1, .undef, .undef, .ea [.int .u64 x.2.2.2.2.1, .str x.2.2.2.2.2.1, .sl .aval false x.2.2.2.2.2.2.1, .sl .str false x.2.2.2.2.2.2.2.1, .int .i64 x.2.2.2.2.2.2.2.2.1], .ptr 0 0, .int .i64 x.2.2.2.2.2.2.2.2.2.1, .undef, .undef, .undef, .undef, .undef, .undef, .undef, .undef, .undef, .undef, .undef, .undef, .undef, .undef, .undef, .undef, .undef, .undef, .undef, .undef, .undef, .undef, .undef, .undef, .undef, .undef, .undef, .undef, .undef, .undef, .undef, .undef, .undef, .undef, .undef, .undef, .undef, .undef, .undef, .undef, .undef, .undef, .undef, .undef, .undef, .undef, .undef, .undef, .undef, .undef, .undef, .undef, .undef, .undef, .undef, .undef, .undef, .undef, .undef, .undef, .undef, .undef, .undef, .undef, .undef, .undef, .undef, .undef, .undef, .undef, .undef, .undef, .undef, .undef, .undef, .undef, .undef, .undef, .undef, .undef, .undef, .undef, .undef, .undef, .undef, .undef, .undef, .undef, .undef, .undef, .undef, .undef, .undef, .undef, .undef, .undef, .undef, .undef, .undef, .undef, .undef, .undef, .undef, .undef, .undef, .undef, .undef, .undef, .undef, .undef, .undef, .undef, .undef, .undef, .undef, .undef, .undef, .undef, .undef, .undef, .undef, .undef, .undef, .undef, .undef, .undef], hp := [some [.int .u64 x.2.2.2.2.2.2.2.2.2.2.1, .str x.2.2.2.2.2.2.2.2.2.2.2.1, .sl .aval true x.2.2.2.2.2.2.2.2.2.2.2.2.1, .sl .str true x.2.2.2.2.2.2.2.2.2.2.2.2.2.1, .int .i64 x.2.2.2.2.2.2.2.2.2.2.2.2.2.2]] }
noncomputable def F_law22_AencSizes_1 (N : Nat) : (St → Option (V × List AObj)) → St → Option (V × List AObj) := fun again1 s => run (Γ_law22_AencSizes N) N ir_law22_AencSizes_12 (kloop again1 [1, 2, 7, 8, 11, 12, 13] 1 (kblock 2 (kseq (run (Γ_law22_AencSizes N) N ir_law22_AencSizes_26) (fin rs_law22_AencSizes)))) s
noncomputable def B_law22_AencSizes_1 (N : Nat) (again1 : (List UInt8 × Int × List AType × Int × Int × List UInt8 × List AVal × List (List UInt8) × Int × Int × Int × List UInt8 × List AVal × List (List UInt8) × Int) → Option (V × List AObj)) (x : (List UInt8 × Int × List AType × Int × Int × List UInt8 × List AVal × List (List UInt8) × Int × Int × Int × List UInt8 × List AVal × List (List UInt8) × Int)) : Option (V × List AObj) :=
  let v1 : List UInt8 := x.1
  let v2 : Int := x.2.1
  let v7_0 : List AType := x.2.2.1
  let v8 : Int := x.2.2.2.1
  let v11_0 : Int := x.2.2.2.2.1
  let v11_1 : List UInt8 := x.2.2.2.2.2.1
  let v11_2 : List AVal := x.2.2.2.2.2.2.1
  let v11_3 : List (List UInt8) := x.2.2.2.2.2.2.2.1
  let v11_4 : Int := x.2.2.2.2.2.2.2.2.1
  let v13 : Int := x.2.2.2.2.2.2.2.2.2.1
  let o0_0 : Int := x.2.2.2.2.2.2.2.2.2.2.1
  let o0_1 : List UInt8 := x.2.2.2.2.2.2.2.2.2.2.2.1
  let o0_2 : List AVal := x.2.2.2.2.2.2.2.2.2.2.2.2.1
  let o0_3 : List (List UInt8) := x.2.2.2.2.2.2.2.2.2.2.2.2.2.1
  let o0_4 : Int := x.2.2.2.2.2.2.2.2.2.2.2.2.2.2
  let x11 : Bool := decide (v13 < (IntKind.wrap .i64 v2))
  cond x11 (
    chk (decide ((List.length o0_2 + List.length ([⟨v11_0, v11_1, v11_2, v11_3, v11_4⟩] : List AVal)) * 80 ≤ 140737488355328)) (
      let x12 : List AVal := (o0_2 ++ ([⟨v11_0, v11_1, v11_2, v11_3, v11_4⟩] : List AVal))
      let x13 : Int := (IntKind.wrap .i64 (v13 + 1))
      again1 (v1, v2, v7_0, v8, v11_0, v11_1, v11_2, v11_3, v11_4, x13, o0_0, o0_1, x12, o0_3, o0_4))) (
    chk ((decide (1000000 ≤ N - (szL v11_2 + 1)) && decide (wV (.mk v11_0 v11_1 v11_2 v11_3 v11_4) ≤ 1000000000000000))) (
      let x14 : List UInt8 := (encS v7_0 0 (.mk v11_0 v11_1 v11_2 v11_3 v11_4)).1
      let x15 : Int := (encS v7_0 0 (.mk v11_0 v11_1 v11_2 v11_3 v11_4)).2
      chk ((decide (1000000 ≤ N - (szL ([] : List AVal) + 1)) && decide (wV (.mk 0 v1 ([] : List AVal) ([] : List (List UInt8)) 0) ≤ 1000000000000000))) (
        let x16 : List UInt8 := (encS v7_0 1 (.mk 0 v1 ([] : List AVal) ([] : List (List UInt8)) 0)).1
        let x17 : Int := (encS v7_0 1 (.mk 0 v1 ([] : List AVal) ([] : List (List UInt8)) 0)).2
        chk ((decide (1000000 ≤ N - (szL o0_2 + 1)) && decide (wV (.mk o0_0 o0_1 o0_2 o0_3 o0_4) ≤ 1000000000000000))) (
          let x18 : List UInt8 := (encS v7_0 2 (.mk o0_0 o0_1 o0_2 o0_3 o0_4)).1
          let x19 : Int := (encS v7_0 2 (.mk o0_0 o0_1 o0_2 o0_3 o0_4)).2
          let x20 : Int := (↑(List.length v1) : Int)
          cond (decide (64 ≤ x20)) (
            let x21 : Int := (IntKind.wrap .i64 ((IntKind.wrap .i64 v2) * v8))
            let x22 : Int := (IntKind.wrap .i64 (1 + x21))
            cond (decide (0 < v2)) (
              let x23 : Int := (IntKind.wrap .i64 (x22 + 1))
              cond (decide (64 ≤ v2)) (
                let x24 : Int := (IntKind.wrap .i64 (x23 + 1))
                cond (x15 == 0) (
                  let x25 : Int := (↑(List.length x14) : Int)
                  cond (x25 == v8) (
                    cond (x17 == 0) (
                      let x26 : Int := (↑(List.length x16) : Int)
                      let x27 : Int := (↑(List.length v1) : Int)
                      let x28 : Int := (IntKind.wrap .i64 (2 + x27))
                      cond (x26 == x28) (
                        cond (x19 == 0) (
                          let x29 : Int := (↑(List.length x18) : Int)
                          some (.bool (x29 == x24), [some [.int .u64 o0_0, .str o0_1, .sl .aval true o0_2, .sl .str true o0_3, .int .i64 o0_4]])) (
                          some (.bool false, [some [.int .u64 o0_0, .str o0_1, .sl .aval true o0_2, .sl .str true o0_3, .int .i64 o0_4]]))) (
                        some (.bool false, [some [.int .u64 o0_0, .str o0_1, .sl .aval true o0_2, .sl .str true o0_3, .int .i64 o0_4]]))) (
                      some (.bool false, [some [.int .u64 o0_0, .str o0_1, .sl .aval true o0_2, .sl .str true o0_3, .int .i64 o0_4]]))) (
                    some (.bool false, [some [.int .u64 o0_0, .str o0_1, .sl .aval true o0_2, .sl .str true o0_3, .int .i64 o0_4]]))) (
                  some (.bool false, [some [.int .u64 o0_0, .str o0_1, .sl .aval true o0_2, .sl .str true o0_3, .int .i64 o0_4]]))) (
                cond (x15 == 0) (
                  let x30 : Int := (↑(List.length x14) : Int)
                  cond (x30 == v8) (
                    cond (x17 == 0) (
                      let x31 : Int := (↑(List.length x16) : Int)
                      let x32 : Int := (↑(List.length v1) : Int)
                      let x33 : Int := (IntKind.wrap .i64 (2 + x32))
                      cond (x31 == x33) (
                        cond (x19 == 0) (
                          let x34 : Int := (↑(List.length x18) : Int)
                          some (.bool (x34 == x23), [some [.int .u64 o0_0, .str o0_1, .sl .aval true o0_2, .sl .str true o0_3, .int .i64 o0_4]])) (
                          some (.bool false, [some [.int .u64 o0_0, .str o0_1, .sl .aval true o0_2, .sl .str true o0_3, .int .i64 o0_4]]))) (
                        some (.bool false, [some [.int .u64 o0_0, .str o0_1, .sl .aval true o0_2, .sl .str true o0_3, .int .i64 o0_4]]))) (
                      some (.bool false, [some [.int .u64 o0_0, .str o0_1, .sl .aval true o0_2, .sl .str true o0_3, .int .i64 o0_4]]))) (
                    some (.bool false, [some [.int .u64 o0_0, .str o0_1, .sl .aval true o0_2, .sl .str true o0_3, .int .i64 o0_4]]))) (
                  some (.bool false, [some [.int .u64 o0_0, .str o0_1, .sl .aval true o0_2, .sl .str true o0_3, .int .i64 o0_4]])))) (
              cond (decide (64 ≤ v2)) (
                let x35 : Int := (IntKind.wrap .i64 (x22 + 1))
                cond (x15 == 0) (
                  let x36 : Int := (↑(List.length x14) : Int)
                  cond (x36 == v8) (
                    cond (x17 == 0) (
                      let x37 : Int := (↑(List.length x16) : Int)
                      let x38 : Int := (↑(List.length v1) : Int)
                      let x39 : Int := (IntKind.wrap .i64 (2 + x38))
                      cond (x37 == x39) (
                        cond (x19 == 0) (
                          let x40 : Int := (↑(List.length x18) : Int)
                          some (.bool (x40 == x35), [some [.int .u64 o0_0, .str o0_1, .sl .aval true o0_2, .sl .str true o0_3, .int .i64 o0_4]])) (
                          some (.bool false, [some [.int .u64 o0_0, .str o0_1, .sl .aval true o0_2, .sl .str true o0_3, .int .i64 o0_4]]))) (
                        some (.bool false, [some [.int .u64 o0_0, .str o0_1, .sl .aval true o0_2, .sl .str true o0_3, .int .i64 o0_4]]))) (
                      some (.bool false, [some [.int .u64 o0_0, .str o0_1, .sl .aval true o0_2, .sl .str true o0_3, .int .i64 o0_4]]))) (
                    some (.bool false, [some [.int .u64 o0_0, .str o0_1, .sl .aval true o0_2, .sl .str true o0_3, .int .i64 o0_4]]))) (
                  some (.bool false, [some [.int .u64 o0_0, .str o0_1, .sl .aval true o0_2, .sl .str true o0_3, .int .i64 o0_4]]))) (
                cond (x15 == 0) (
                  let x41 : Int := (↑(List.length x14) : Int)
                  cond (x41 == v8) (
                    cond (x17 == 0) (
                      let x42 : Int := (↑(List.length x16) : Int)
                      let x43 : Int := (↑(List.length v1) : Int)
                      let x44 : Int := (IntKind.wrap .i64 (2 + x43))
                      cond (x42 == x44) (
                        cond (x19 == 0) (
                          let x45 : Int := (↑(List.length x18) : Int)
                          some (.bool (x45 == x22), [some [.int .u64 o0_0, .str o0_1, .sl .aval true o0_2, .sl .str true o0_3, .int .i64 o0_4]])) (
                          some (.bool false, [some [.int .u64 o0_0, .str o0_1, .sl .aval true o0_2, .sl .str true o0_3, .int .i64 o0_4]]))) (
                        some (.bool false, [some [.int .u64 o0_0, .str o0_1, .sl .aval true o0_2, .sl .str true o0_3, .int .i64 o0_4]]))) (
                      some (.bool false, [some [.int .u64 o0_0, .str o0_1, .sl .aval true o0_2, .sl .str true o0_3, .int .i64 o0_4]]))) (
                    some (.bool false, [some [.int .u64 o0_0, .str o0_1, .sl .aval true o0_2, .sl .str true o0_3, .int .i64 o0_4]]))) (
                  some (.bool false, [some [.int .u64 o0_0, .str o0_1, .sl .aval true o0_2, .sl .str true o0_3, .int .i64 o0_4]]))))) (
            let x46 : Int := (IntKind.wrap .i64 ((IntKind.wrap .i64 v2) * v8))
            let x47 : Int := (IntKind.wrap .i64 (1 + x46))
            cond (decide (0 < v2)) (
              let x48 : Int := (IntKind.wrap .i64 (x47 + 1))
              cond (decide (64 ≤ v2)) (
                let x49 : Int := (IntKind.wrap .i64 (x48 + 1))
                cond (x15 == 0) (
                  let x50 : Int := (↑(List.length x14) : Int)
                  cond (x50 == v8) (
                    cond (x17 == 0) (
                      let x51 : Int := (↑(List.length x16) : Int)
                      let x52 : Int := (↑(List.length v1) : Int)
                      let x53 : Int := (IntKind.wrap .i64 (1 + x52))
                      cond (x51 == x53) (
                        cond (x19 == 0) (
                          let x54 : Int := (↑(List.length x18) : Int)
                          some (.bool (x54 == x49), [some [.int .u64 o0_0, .str o0_1, .sl .aval true o0_2, .sl .str true o0_3, .int .i64 o0_4]])) (
                          some (.bool false, [some [.int .u64 o0_0, .str o0_1, .sl .aval true o0_2, .sl .str true o0_3, .int .i64 o0_4]]))) (
                        some (.bool false, [some [.int .u64 o0_0, .str o0_1, .sl .aval true o0_2, .sl .str true o0_3, .int .i64 o0_4]]))) (
                      some (.bool false, [some [.int .u64 o0_0, .str o0_1, .sl .aval true o0_2, .sl .str true o0_3, .int .i64 o0_4]]))) (
                    some (.bool false, [some [.int .u64 o0_0, .str o0_1, .sl .aval true o0_2, .sl .str true o0_3, .int .i64 o0_4]]))) (
                  some (.bool false, [some [.int .u64 o0_0, .str o0_1, .sl .aval true o0_2, .sl .str true o0_3, .int .i64 o0_4]]))) (
                cond (x15 == 0) (
                  let x55 : Int := (↑(List.length x14) : Int)
                  cond (x55 == v8) (
                    cond (x17 == 0) (
                      let x56 : Int := (↑(List.length x16) : Int)
                      let x57 : Int := (↑(List.length v1) : Int)
                      let x58 : Int := (IntKind.wrap .i64 (1 + x57))
                      cond (x56 == x58) (
                        cond (x19 == 0) (
                          let x59 : Int := (↑(List.length x18) : Int)
                          some (.bool (x59 == x48), [some [.int .u64 o0_0, .str o0_1, .sl .aval true o0_2, .sl .str true o0_3, .int .i64 o0_4]])) (
                          some (.bool false, [some [.int .u64 o0_0, .str o0_1, .sl .aval true o0_2, .sl .str true o0_3, .int .i64 o0_4]]))) (
                        some (.bool false, [some [.int .u64 o0_0, .str o0_1, .sl .aval true o0_2, .sl .str true o0_3, .int .i64 o0_4]]))) (
                      some (.bool false, [some [.int .u64 o0_0, .str o0_1, .sl .aval true o0_2, .sl .str true o0_3, .int .i64 o0_4]]))) (
                    some (.bool false, [some [.int .u64 o0_0, .str o0_1, .sl .aval true o0_2, .sl .str true o0_3, .int .i64 o0_4]]))) (
                  some (.bool false, [some [.int .u64 o0_0, .str o0_1, .sl .aval true o0_2, .sl .str true o0_3, .int .i64 o0_4]])))) (
              cond (decide (64 ≤ v2)) (
                let x60 : Int := (IntKind.wrap .i64 (x47 + 1))
                cond (x15 == 0) (
                  let x61 : Int := (↑(List.length x14) : Int)
                  cond (x61 == v8) (
                    cond (x17 == 0) (
                      let x62 : Int := (↑(List.length x16) : Int)
                      let x63 : Int := (↑(List.length v1) : Int)
                      let x64 : Int := (IntKind.wrap .i64 (1 + x63))
                      cond (x62 == x64) (
                        cond (x19 == 0) (
                          let x65 : Int := (↑(List.length x18) : Int)
                          some (.bool (x65 == x60), [some [.int .u64 o0_0, .str o0_1, .sl .aval true o0_2, .sl .str true o0_3, .int .i64 o0_4]])) (
                          some (.bool false, [some [.int .u64 o0_0, .str o0_1, .sl .aval true o0_2, .sl .str true o0_3, .int .i64 o0_4]]))) (
                        some (.bool false, [some [.int .u64 o0_0, .str o0_1, .sl .aval true o0_2, .sl .str true o0_3, .int .i64 o0_4]]))) (
                      some (.bool false, [some [.int .u64 o0_0, .str o0_1, .sl .aval true o0_2, .sl .str true o0_3, .int .i64 o0_4]]))) (
                    some (.bool false, [some [.int .u64 o0_0, .str o0_1, .sl .aval true o0_2, .sl .str true o0_3, .int .i64 o0_4]]))) (
                  some (.bool false, [some [.int .u64 o0_0, .str o0_1, .sl .aval true o0_2, .sl .str true o0_3, .int .i64 o0_4]]))) (
                cond (x15 == 0) (
                  let x66 : Int := (↑(List.length x14) : Int)
                  cond (x66 == v8) (
                    cond (x17 == 0) (
                      let x67 : Int := (↑(List.length x16) : Int)
                      let x68 : Int := (↑(List.length v1) : Int)
                      let x69 : Int := (IntKind.wrap .i64 (1 + x68))
                      cond (x67 == x69) (
                        cond (x19 == 0) (
                          let x70 : Int := (↑(List.length x18) : Int)
                          some (.bool (x70 == x47), [some [.int .u64 o0_0, .str o0_1, .sl .aval true o0_2, .sl .str true o0_3, .int .i64 o0_4]])) (
                          some (.bool false, [some [.int .u64 o0_0, .str o0_1, .sl .aval true o0_2, .sl .str true o0_3, .int .i64 o0_4]]))) (
                        some (.bool false, [some [.int .u64 o0_0, .str o0_1, .sl .aval true o0_2, .sl .str true o0_3, .int .i64 o0_4]]))) (
                      some (.bool false, [some [.int .u64 o0_0, .str o0_1, .sl .aval true o0_2, .sl .str true o0_3, .int .i64 o0_4]]))) (
                    some (.bool false, [some [.int .u64 o0_0, .str o0_1, .sl .aval true o0_2, .sl .str true o0_3, .int .i64 o0_4]]))) (
                  some (.bool false, [some [.int .u64 o0_0, .str o0_1, .sl .aval true o0_2, .sl .str true o0_3, .int .i64 o0_4]])))))))))
theorem FB_law22_AencSizes_1 (N : Nat) : ∀ (again1 : St → Option (V × List AObj)) (x : (List UInt8 × Int × List AType × Int × Int × List UInt8 × List AVal × List (List UInt8) × Int × Int × Int × List UInt8 × List AVal × List (List UInt8) × Int)), F_law22_AencSizes_1 N again1 (mk_law22_AencSizes_1 x) = B_law22_AencSizes_1 N (fun y => again1 (mk_law22_AencSizes_1 y)) x := by
  intro again1 x
  kernel_rfl
noncomputable def F_law22_AencSizes_0 (N : Nat) : (St → Option (V × List AObj)) → St → Option (V × List AObj) := fun again0 s => run (Γ_law22_AencSizes N) N ir_law22_AencSizes_7 (kloop again0 [0, 1, 2, 7, 8, 9, 10] 0 (kblock 0 (kseq (run (Γ_law22_AencSizes N) N ir_law22_AencSizes_29) (fin rs_law22_AencSizes)))) s
noncomputable def BA_law22_AencSizes_0 (N : Nat) (again0 : (Int × List UInt8 × Int × List AType × Int × Int × Int) → Option (V × List AObj)) (q1 : (List UInt8 × Int × List AType × Int × Int × List UInt8 × List AVal × List (List UInt8) × Int × Int × Int × List UInt8 × List AVal × List (List UInt8) × Int) → Option (V × List AObj)) (x : (Int × List UInt8 × Int × List AType × Int × Int × Int)) : Option (V × List AObj) :=
  let v0 : Int := x.1
  let v1 : List UInt8 := x.2.1
  let v2 : Int := x.2.2.1
  let v7_0 : List AType := x.2.2.2.1
  let v8 : Int := x.2.2.2.2.1
  let v9 : Int := x.2.2.2.2.2.1
  let v10 : Int := x.2.2.2.2.2.2
  cond (decide (v8 < 10)) (
    cond (decide (v0 < v9)) (
      let x3 : Int := (IntKind.wrap .i64 (v9 * 128))
      let x4 : Int := (IntKind.wrap .i64 (v10 * 128))
      let x5 : Int := (IntKind.wrap .i64 (x4 + 127))
      let x6 : Int := (IntKind.wrap .i64 (v8 + 1))
      again0 (v0, v1, v2, v7_0, x6, x3, x5)) (
      cond (decide (v10 < v0)) (
        let x7 : Int := (IntKind.wrap .i64 (v9 * 128))
        let x8 : Int := (IntKind.wrap .i64 (v10 * 128))
        let x9 : Int := (IntKind.wrap .i64 (x8 + 127))
        let x10 : Int := (IntKind.wrap .i64 (v8 + 1))
        again0 (v0, v1, v2, v7_0, x10, x7, x9)) (
        q1 (v1, v2, v7_0, v8, (IntKind.wrap .u64 v0), ([] : List UInt8), ([] : List AVal), ([] : List (List UInt8)), 0, 0, 0, ([] : List UInt8), ([] : List AVal), ([] : List (List UInt8)), 0)))) (
    q1 (v1, v2, v7_0, v8, (IntKind.wrap .u64 v0), ([] : List UInt8), ([] : List AVal), ([] : List (List UInt8)), 0, 0, 0, ([] : List UInt8), ([] : List AVal), ([] : List (List UInt8)), 0))
noncomputable def B_law22_AencSizes_0 (N : Nat) (again0 : (Int × List UInt8 × Int × List AType × Int × Int × Int) → Option (V × List AObj)) (x : (Int × List UInt8 × Int × List AType × Int × Int × Int)) : Option (V × List AObj) := BA_law22_AencSizes_0 N again0 (fun z => iterL N (B_law22_AencSizes_1 N) z) x
theorem FB_law22_AencSizes_0 (N : Nat) : ∀ (again0 : St → Option (V × List AObj)) (x : (Int × List UInt8 × Int × List AType × Int × Int × Int)), F_law22_AencSizes_0 N again0 (mk_law22_AencSizes_0 x) = B_law22_AencSizes_0 N (fun y => again0 (mk_law22_AencSizes_0 y)) x := by
  intro again0 x
  have h : F_law22_AencSizes_0 N again0 (mk_law22_AencSizes_0 x) = BA_law22_AencSizes_0 N (fun y => again0 (mk_law22_AencSizes_0 y)) (fun z => loopN N (F_law22_AencSizes_1 N) (mk_law22_AencSizes_1 z)) x := by kernel_rfl
  have e1 : (fun z => loopN N (F_law22_AencSizes_1 N) (mk_law22_AencSizes_1 z)) = (fun z => iterL N (B_law22_AencSizes_1 N) z) := funext fun z => loop_eq (mk_law22_AencSizes_1) (F_law22_AencSizes_1 N) (B_law22_AencSizes_1 N) (FB_law22_AencSizes_1 N) N z
  rw [h, e1]
  rfl
/-- proclitic/procliticlaw22.AencSizes -/
noncomputable def sa_law22_AencSizes (N : Nat) (p0 : Int) (p1 : List UInt8) (p2 : Int) (q0 : (Int × List UInt8 × Int × List AType × Int × Int × Int) → Option (V × List AObj)) : Option (V × List AObj) :=
  let x1 : Int := (↑(List.length p1) : Int)
  cond (decide (100 < x1)) (
    some (.bool true, [])) (
    chk (decide (List.length (runesOf p1) ≤ 70368744177664)) (
      chk (decide (List.length (runesOf p1) ≤ 140737488355328)) (
        let x2 : Bool := (!decide ((utf8s (runesOf p1)) = p1))
        cond x2 (
          some (.bool true, [])) (
          q0 (p0, p1, p2, ([⟨4, ([] : List UInt8), ([] : List (List UInt8)), 0, ([] : List (List UInt8)), false, ([] : List UInt8), 0, ([] : List AField), ([] : List Int)⟩, ⟨8, ([] : List UInt8), ([] : List (List UInt8)), 0, ([] : List (List UInt8)), false, ([] : List UInt8), 0, ([] : List AField), ([] : List Int)⟩, ⟨12, ([] : List UInt8), ([] : List (List UInt8)), 0, ([] : List (List UInt8)), false, ([] : List UInt8), 0, ([] : List AField), ([] : List Int)⟩] : List AType), 1, (-64), 63)))))
noncomputable def sh_law22_AencSizes (N : Nat) (p0 : Int) (p1 : List UInt8) (p2 : Int) : Option (V × List AObj) := sa_law22_AencSizes N p0 p1 p2 (fun z => iterL N (B_law22_AencSizes_0 N) z)
theorem run_law22_AencSizes (N : Nat) (p0 : Int) (p1 : List UInt8) (p2 : Int) : callF (Γ_law22_AencSizes N) N 140 rs_law22_AencSizes ir_law22_AencSizes [.int .i64 p0, .str p1, .int .u8 p2] [] = sh_law22_AencSizes N p0 p1 p2 := by
  have h : callF (Γ_law22_AencSizes N) N 140 rs_law22_AencSizes ir_law22_AencSizes [.int .i64 p0, .str p1, .int .u8 p2] [] = sa_law22_AencSizes N p0 p1 p2 (fun z => loopN N (F_law22_AencSizes_0 N) (mk_law22_AencSizes_0 z)) := by kernel_rfl
  have e0 : (fun z => loopN N (F_law22_AencSizes_0 N) (mk_law22_AencSizes_0 z)) = (fun z => iterL N (B_law22_AencSizes_0 N) z) := funext fun z => loop_eq (mk_law22_AencSizes_0) (F_law22_AencSizes_0 N) (B_law22_AencSizes_0 N) (FB_law22_AencSizes_0 N) N z
  rw [h, e0]
  rfl
theorem ok_law22_AencSizes (N : Nat) (hΓ : SpecOK Try.prog (Γ_law22_AencSizes N)) (p0 : Int) (p1 : List UInt8) (p2 : Int) {v : V} {hp : List AObj} (h : sh_law22_AencSizes N p0 p1 p2 = some (v, hp)) : PureOK Try.prog i_law22_AencSizes [.int .i64 p0, .str p1, .int .u8 p2] v := by
  have hc := chk_law22_AencSizes
  simp only [Bool.and_eq_true] at hc
  exact ⟨hp, fnOK_of hΓ (pureS_law22_AencSizes N) Try.func12 body_law22_AencSizes hc.1 hc.2 (by decide) ((run_law22_AencSizes N p0 p1 p2).trans h)⟩

end Go.Proofs.Ytdpajabhmmmjoaa
