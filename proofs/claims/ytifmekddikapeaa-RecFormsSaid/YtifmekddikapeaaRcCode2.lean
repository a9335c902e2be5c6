/-
  The plain functions that runs of the code are: written by wip/gen/gen.py.
-/
import Derived.Test.YtifmekddikapeaaRcOk
import Derived.KernelRfl
namespace Go.Proofs.Ytifmekddikapeaa
open Go.AM
set_option autoImplicit false
set_option linter.unusedVariables false
set_option maxRecDepth 100000
abbrev i_law1_RecForms : FuncId := 8
def G_law1_RecForms : Nat → List V → Option (Bool × V) := fun f vs => match f, vs with
  | 10, [] => some (true, .bool true)
  | 15, [.str a0] => some (true, .tup [.sl .record false ((splitR a0).1), .int .i64 ((splitR a0).2)])
  | 18, [.agg [.int .i64 a0_0, .int .i64 a0_1, .int .u64 a0_2, .str a0_3, .str a0_4]] => some (decide (List.length a0_3 ≤ 9223372036854000000), .str (putR ⟨a0_0, a0_1, a0_2, a0_3, a0_4⟩))
  | _, _ => none
def Γ_law1_RecForms : ASpec := liftG G_law1_RecForms
theorem pureS_law1_RecForms : PureS Γ_law1_RecForms [] := liftG_pure _ _
theorem spec_law1_RecForms (h_law1_begun : PureOK Try.prog i_law1_begun [] (.bool true)) (h_rec_Split : ∀ (a0 : List UInt8), PureOK Try.prog i_rec_Split [.str a0] (.tup [.sl .record false ((splitR a0).1), .int .i64 ((splitR a0).2)])) (h_rec_Put : ∀ (a0_0 : Int) (a0_1 : Int) (a0_2 : Int) (a0_3 : List UInt8) (a0_4 : List UInt8), (decide (List.length a0_3 ≤ 9223372036854000000)) = true → PureOK Try.prog i_rec_Put [.agg [.int .i64 a0_0, .int .i64 a0_1, .int .u64 a0_2, .str a0_3, .str a0_4]] (.str (putR ⟨a0_0, a0_1, a0_2, a0_3, a0_4⟩))) : SpecOK Try.prog Γ_law1_RecForms := by
  intro f vs hp v hp' h0
  obtain ⟨h, he⟩ := liftG_inv h0
  subst he
  unfold G_law1_RecForms at h
  split at h
  · simp only [Option.some.injEq, Prod.mk.injEq] at h
    obtain ⟨hc, rfl⟩ := h
    exact (h_law1_begun ).frame rfl rfl _
  · simp only [Option.some.injEq, Prod.mk.injEq] at h
    obtain ⟨hc, rfl⟩ := h
    exact (h_rec_Split _).frame rfl rfl _
  · simp only [Option.some.injEq, Prod.mk.injEq] at h
    obtain ⟨hc, rfl⟩ := h
    exact (h_rec_Put _ _ _ _ _ hc).frame rfl rfl _
  · simp at h
def ir_law1_RecForms_0 : IR := .ret
def ir_law1_RecForms_1 : IR := (.cond (.t 10) (.seq (.reg [⟨none, .mov 0 (.c (.bool false))⟩] []) ir_law1_RecForms_0) .skip)
def ir_law1_RecForms_2 : IR := (.cond (.t 15) .skip (.exit 0))
def ir_law1_RecForms_3 : IR := .ret
def ir_law1_RecForms_4 : IR := (.cond (.t 32) (.seq (.reg [⟨none, .mov 0 (.c (.bool false))⟩] []) ir_law1_RecForms_3) .skip)
def ir_law1_RecForms_5 : IR := (.seq (.reg [⟨none, .mov 26 (.t 4)⟩,
    ⟨none, .bin 27 .neq (.t 26) (.c (.int .i64 2))⟩,
    ⟨none, .mov 28 (.t 27)⟩,
    ⟨some (28, false), .mov 29 (.t 3)⟩,
    ⟨some (28, false), .lenl 30 (.t 29)⟩,
    ⟨some (28, false), .bin 31 .neq (.t 30) (.c (.int .i64 0))⟩,
    ⟨none, .pick 32 (.t 28) (.c (.bool true)) (.t 31)⟩] []) ir_law1_RecForms_4)
def ir_law1_RecForms_6 : IR := (.reg [⟨none, .mov 16 (.t 2)⟩,
    ⟨none, .bin 17 .add (.t 16) (.c (.int .i64 1))⟩,
    ⟨none, .mov 2 (.t 17)⟩] [])
def ir_law1_RecForms_7 : IR := (.seq (.block 1 (.seq (.reg [⟨none, .mov 19 (.t 1)⟩,
    ⟨none, .mov 20 (.t 2)⟩,
    ⟨none, .ixa 21 .str (.t 19) (.t 20)⟩,
    ⟨none, .ld 22 1 false false (.t 21)⟩,
    ⟨none, .call (some 23) 15 [(.t 22)]⟩,
    ⟨none, .mov 18 (.t 23)⟩,
    ⟨none, .ext 24 0 (.t 18)⟩,
    ⟨none, .ext 25 1 (.t 18)⟩,
    ⟨none, .mov 3 (.t 24)⟩,
    ⟨none, .mov 4 (.t 25)⟩] []) ir_law1_RecForms_5)) ir_law1_RecForms_6)
def ir_law1_RecForms_8 : IR := (.seq (.seq (.reg [⟨none, .mov 12 (.t 2)⟩,
    ⟨none, .mov 13 (.t 1)⟩,
    ⟨none, .lenl 14 (.t 13)⟩,
    ⟨none, .bin 15 .lss (.t 12) (.t 14)⟩] []) ir_law1_RecForms_2) ir_law1_RecForms_7)
def ir_law1_RecForms_9 : IR := (.block 0 (.loop [1, 2] 0 ir_law1_RecForms_8))
def ir_law1_RecForms_10 : IR := .ret
def ir_law1_RecForms_11 : IR := (.seq (.reg [⟨none, .mov 43 (.t 6)⟩,
    ⟨none, .bin 44 .eql (.t 43) (.c (.int .i64 0))⟩,
    ⟨none, .mov 45 (.t 44)⟩,
    ⟨some (45, true), .mov 46 (.t 5)⟩,
    ⟨some (45, true), .lenl 47 (.t 46)⟩,
    ⟨some (45, true), .bin 48 .eql (.t 47) (.c (.int .i64 4))⟩,
    ⟨none, .pick 49 (.t 45) (.t 48) (.c (.bool false))⟩,
    ⟨none, .mov 50 (.t 49)⟩,
    ⟨some (50, true), .mov 51 (.t 5)⟩,
    ⟨some (50, true), .ixa 52 .record (.t 51) (.c (.int .i64 0))⟩,
    ⟨some (50, true), .fad 53 2 (.t 52)⟩,
    ⟨some (50, true), .ld 54 1 false false (.t 53)⟩,
    ⟨some (50, true), .bin 55 .eql (.t 54) (.c (.int .u64 5))⟩,
    ⟨none, .pick 56 (.t 50) (.t 55) (.c (.bool false))⟩,
    ⟨none, .mov 57 (.t 56)⟩,
    ⟨some (57, true), .mov 58 (.t 5)⟩,
    ⟨some (57, true), .ixa 59 .record (.t 58) (.c (.int .i64 1))⟩,
    ⟨some (57, true), .fad 60 3 (.t 59)⟩,
    ⟨some (57, true), .ld 61 1 false false (.t 60)⟩,
    ⟨some (57, true), .bin 62 .eql (.t 61) (.c (.str ([122] : List UInt8)))⟩,
    ⟨none, .pick 63 (.t 57) (.t 62) (.c (.bool false))⟩,
    ⟨none, .mov 64 (.t 63)⟩,
    ⟨some (64, true), .mov 65 (.t 5)⟩,
    ⟨some (64, true), .ixa 66 .record (.t 65) (.c (.int .i64 2))⟩,
    ⟨some (64, true), .fad 67 2 (.t 66)⟩,
    ⟨some (64, true), .ld 68 1 false false (.t 67)⟩,
    ⟨some (64, true), .bin 69 .eql (.t 68) (.c (.int .u64 9223372036854775809))⟩,
    ⟨none, .pick 70 (.t 64) (.t 69) (.c (.bool false))⟩,
    ⟨none, .mov 71 (.t 70)⟩,
    ⟨some (71, true), .mov 72 (.t 5)⟩,
    ⟨some (71, true), .ixa 73 .record (.t 72) (.c (.int .i64 3))⟩,
    ⟨some (71, true), .fad 74 0 (.t 73)⟩,
    ⟨some (71, true), .ld 75 1 false false (.t 74)⟩,
    ⟨some (71, true), .bin 76 .eql (.t 75) (.c (.int .i64 536870911))⟩,
    ⟨none, .pick 77 (.t 71) (.t 76) (.c (.bool false))⟩,
    ⟨none, .mov 78 (.t 77)⟩,
    ⟨some (78, true), .mov 79 (.t 5)⟩,
    ⟨some (78, true), .ixa 80 .record (.t 79) (.c (.int .i64 3))⟩,
    ⟨some (78, true), .fad 81 1 (.t 80)⟩,
    ⟨some (78, true), .ld 82 1 false false (.t 81)⟩,
    ⟨some (78, true), .bin 83 .eql (.t 82) (.c (.int .i64 5))⟩,
    ⟨none, .pick 84 (.t 78) (.t 83) (.c (.bool false))⟩,
    ⟨none, .mov 85 (.t 84)⟩,
    ⟨some (85, true), .mov 86 (.t 5)⟩,
    ⟨some (85, true), .ixa 87 .record (.t 86) (.c (.int .i64 3))⟩,
    ⟨some (85, true), .fad 88 2 (.t 87)⟩,
    ⟨some (85, true), .ld 89 1 false false (.t 88)⟩,
    ⟨some (85, true), .bin 90 .eql (.t 89) (.c (.int .u64 7))⟩,
    ⟨none, .pick 91 (.t 85) (.t 90) (.c (.bool false))⟩,
    ⟨none, .mov 92 (.t 91)⟩,
    ⟨some (92, true), .mov 93 (.t 8)⟩,
    ⟨some (92, true), .bin 94 .eql (.t 93) (.c (.int .i64 3))⟩,
    ⟨none, .pick 95 (.t 92) (.t 94) (.c (.bool false))⟩,
    ⟨none, .mov 96 (.t 95)⟩,
    ⟨some (96, true), .bld 97 [.int .i64 0, .int .i64 0, .int .u64 0, .str ([] : List UInt8), .str ([] : List UInt8)] [(0, 1, (.c (.int .i64 0)))]⟩,
    ⟨some (96, true), .call (some 98) 18 [(.t 97)]⟩,
    ⟨some (96, true), .bin 99 .eql (.t 98) (.c (.str ([] : List UInt8)))⟩,
    ⟨none, .pick 100 (.t 96) (.t 99) (.c (.bool false))⟩,
    ⟨none, .mov 101 (.t 100)⟩,
    ⟨some (101, true), .bld 102 [.int .i64 0, .int .i64 0, .int .u64 0, .str ([] : List UInt8), .str ([] : List UInt8)] [(0, 1, (.c (.int .i64 1))), (1, 1, (.c (.int .i64 3)))]⟩,
    ⟨some (101, true), .call (some 103) 18 [(.t 102)]⟩,
    ⟨some (101, true), .bin 104 .eql (.t 103) (.c (.str ([] : List UInt8)))⟩,
    ⟨none, .pick 105 (.t 101) (.t 104) (.c (.bool false))⟩,
    ⟨none, .mov 106 (.t 105)⟩,
    ⟨some (106, true), .bld 107 [.int .i64 0, .int .i64 0, .int .u64 0, .str ([] : List UInt8), .str ([] : List UInt8)] [(0, 1, (.c (.int .i64 536870912)))]⟩,
    ⟨some (106, true), .call (some 108) 18 [(.t 107)]⟩,
    ⟨some (106, true), .bin 109 .eql (.t 108) (.c (.str ([] : List UInt8)))⟩,
    ⟨none, .pick 110 (.t 106) (.t 109) (.c (.bool false))⟩,
    ⟨none, .mov 0 (.t 110)⟩] []) ir_law1_RecForms_10)
def ir_law1_RecForms_12 : IR := (.seq (.reg [⟨none, .mks 38 .u8 (.c (.int .i64 5001))⟩,
    ⟨none, .b2s 39 (.t 38)⟩,
    ⟨none, .call (some 40) 15 [(.t 39)]⟩,
    ⟨none, .mov 37 (.t 40)⟩,
    ⟨none, .ext 41 0 (.t 37)⟩,
    ⟨none, .ext 42 1 (.t 37)⟩,
    ⟨none, .mov 7 (.t 41)⟩,
    ⟨none, .mov 8 (.t 42)⟩] []) ir_law1_RecForms_11)
def ir_law1_RecForms_13 : IR := (.seq (.reg [⟨none, .call (some 34) 15 [(.c (.str ([136, 0, 133, 128, 0, 10, 129, 0, 122, 9, 1, 0, 0, 0, 0, 0, 0, 128, 253, 255, 255, 255, 15, 7, 0, 0, 0] : List UInt8)))]⟩,
    ⟨none, .mov 33 (.t 34)⟩,
    ⟨none, .ext 35 0 (.t 33)⟩,
    ⟨none, .ext 36 1 (.t 33)⟩,
    ⟨none, .mov 5 (.t 35)⟩,
    ⟨none, .mov 6 (.t 36)⟩] []) ir_law1_RecForms_12)
def ir_law1_RecForms_14 : IR := (.seq (.seq (.reg [⟨none, .mov 2 (.c (.int .i64 0))⟩] []) ir_law1_RecForms_9) ir_law1_RecForms_13)
def ir_law1_RecForms_15 : IR := (.seq (.reg [⟨none, .bsl 11 .str [(.c (.str ([8] : List UInt8))), (.c (.str ([0, 1] : List UInt8))), (.c (.str ([11] : List UInt8))), (.c (.str ([12] : List UInt8))), (.c (.str ([14] : List UInt8))), (.c (.str ([15] : List UInt8))), (.c (.str ([10, 2, 97] : List UInt8))), (.c (.str ([9, 1, 2, 3, 4, 5, 6, 7] : List UInt8))), (.c (.str ([13, 1, 2, 3] : List UInt8))), (.c (.str ([8, 255, 255, 255, 255, 255, 255, 255, 255, 255, 2] : List UInt8))), (.c (.str ([8, 128, 128, 128, 128, 128, 128, 128, 128, 128, 128, 0] : List UInt8))), (.c (.str ([10, 255, 255, 255, 255, 255, 255, 255, 255, 255, 1] : List UInt8))), (.c (.str ([128, 128, 128, 128, 16, 0] : List UInt8)))]⟩,
    ⟨none, .mov 1 (.t 11)⟩] []) ir_law1_RecForms_14)
def ir_law1_RecForms_16 : IR := (.seq (.seq (.reg [⟨none, .call (some 9) 10 []⟩,
    ⟨none, .un 10 .not (.t 9)⟩] []) ir_law1_RecForms_1) ir_law1_RecForms_15)
def ir_law1_RecForms : IR := (.seq (.reg [⟨none, .mov 0 (.c (.bool false))⟩] []) ir_law1_RecForms_16)
def rs_law1_RecForms : List RV := [.t 0]
theorem chk_law1_RecForms : (chkCode Try.prog [] 0 ir_law1_RecForms (Try.f8.body.getD .skip) && chkRes Try.prog rs_law1_RecForms Try.f8.results.toList) = true := by kernel_rfl
theorem body_law1_RecForms : Try.f8.body = some (Try.f8.body.getD .skip) := by kernel_rfl
def mk_law1_RecForms_0 (x : (List (List UInt8) × Int)) : St := { env := [.undef, .sl .str false x.1, .int .i64 x.2, .undef, .undef, .undef, .undef, .undef, .undef, .undef, .undef, .undef, .undef, .undef, .undef, .undef, .undef, .undef, .undef, .undef, .undef, .undef, .undef, .undef, .undef, .undef, .undef, .undef, .undef, .undef, .undef, .undef, .undef, .undef, .undef, .undef, .undef, .undef, .undef, .undef, .undef, .undef, .undef, .undef, .undef, .undef, .undef, .undef, .undef, .undef, .undef, .undef, .undef, .undef, .undef, .undef, .undef, .undef, .undef, .undef, .undef, .undef, .undef, .undef, .undef, .undef, .undef, .undef, .undef, .undef, .undef, .undef, .undef, .undef, .undef, .undef, .undef, .undef, .undef, .undef, .undef, .undef, .undef, .undef, .undef, .undef, .undef, .undef, .undef, .undef, .undef, .undef, .undef, .undef, .undef, .undef, .undef, .undef, .undef, .undef, .undef, .undef, .undef, .undef, .undef, .undef, .undef, .undef, .undef, .undef, .undef], hp := [] }
def F_law1_RecForms_0 (N : Nat) : (St → Option (V × List AObj)) → St → Option (V × List AObj) := fun again0 s => run Γ_law1_RecForms N ir_law1_RecForms_8 (kloop again0 [1, 2] 0 (kblock 0 (kseq (run Γ_law1_RecForms N ir_law1_RecForms_13) (fin rs_law1_RecForms)))) s
def B_law1_RecForms_0 (N : Nat) (again0 : (List (List UInt8) × Int) → Option (V × List AObj)) (x : (List (List UInt8) × Int)) : Option (V × List AObj) :=
  let v1 : List (List UInt8) := x.1
  let v2 : Int := x.2
  let x1 : Int := (↑(List.length v1) : Int)
  cond (decide (v2 < x1)) (
    chk ((decide (0 ≤ v2) && decide (v2 < ↑(List.length v1)))) (
      let x2 : List UInt8 := List.getD v1 (Int.toNat v2) (dflt .str)
      let x3 : Bool := (!(((splitR x2).2) == 2))
      cond x3 (
        some (.bool false, [])) (
        let x4 : Int := (↑(List.length ((splitR x2).1)) : Int)
        cond (!(x4 == 0)) (
          some (.bool false, [])) (
          let x5 : Int := (IntKind.wrap .i64 (v2 + 1))
          again0 (v1, x5))))) (
    let x6 : List Record := (splitR ([136, 0, 133, 128, 0, 10, 129, 0, 122, 9, 1, 0, 0, 0, 0, 0, 0, 128, 253, 255, 255, 255, 15, 7, 0, 0, 0] : List UInt8)).1
    let x7 : Int := (splitR ([136, 0, 133, 128, 0, 10, 129, 0, 122, 9, 1, 0, 0, 0, 0, 0, 0, 128, 253, 255, 255, 255, 15, 7, 0, 0, 0] : List UInt8)).2
    chk ((decide (0 ≤ (5001 : Int)) && decide ((5001 : Int) * 1 ≤ 140737488355328))) (
      let x8 : List UInt8 := (List.replicate (Int.toNat 5001) (dflt .u8))
      cond (x7 == 0) (
        let x9 : Int := (↑(List.length x6) : Int)
        cond (x9 == 4) (
          chk (decide ((0 : Int) < ↑(List.length x6))) (
            let x10 : Int := (List.getD x6 (Int.toNat 0) (dflt .record)).num
            let x11 : Int := (List.getD x6 (Int.toNat 0) (dflt .record)).wire
            let x12 : Int := (List.getD x6 (Int.toNat 0) (dflt .record)).n
            let x13 : List UInt8 := (List.getD x6 (Int.toNat 0) (dflt .record)).s
            let x14 : List UInt8 := (List.getD x6 (Int.toNat 0) (dflt .record)).raw
            cond (x12 == 5) (
              chk (decide ((1 : Int) < ↑(List.length x6))) (
                let x15 : Int := (List.getD x6 (Int.toNat 1) (dflt .record)).num
                let x16 : Int := (List.getD x6 (Int.toNat 1) (dflt .record)).wire
                let x17 : Int := (List.getD x6 (Int.toNat 1) (dflt .record)).n
                let x18 : List UInt8 := (List.getD x6 (Int.toNat 1) (dflt .record)).s
                let x19 : List UInt8 := (List.getD x6 (Int.toNat 1) (dflt .record)).raw
                let x20 : Bool := decide (x18 = ([122] : List UInt8))
                cond x20 (
                  chk (decide ((2 : Int) < ↑(List.length x6))) (
                    let x21 : Int := (List.getD x6 (Int.toNat 2) (dflt .record)).num
                    let x22 : Int := (List.getD x6 (Int.toNat 2) (dflt .record)).wire
                    let x23 : Int := (List.getD x6 (Int.toNat 2) (dflt .record)).n
                    let x24 : List UInt8 := (List.getD x6 (Int.toNat 2) (dflt .record)).s
                    let x25 : List UInt8 := (List.getD x6 (Int.toNat 2) (dflt .record)).raw
                    let x26 : Bool := (x23 == 9223372036854775809)
                    cond x26 (
                      chk (decide ((3 : Int) < ↑(List.length x6))) (
                        let x27 : Int := (List.getD x6 (Int.toNat 3) (dflt .record)).num
                        let x28 : Int := (List.getD x6 (Int.toNat 3) (dflt .record)).wire
                        let x29 : Int := (List.getD x6 (Int.toNat 3) (dflt .record)).n
                        let x30 : List UInt8 := (List.getD x6 (Int.toNat 3) (dflt .record)).s
                        let x31 : List UInt8 := (List.getD x6 (Int.toNat 3) (dflt .record)).raw
                        cond (x27 == 536870911) (
                          chk (decide ((3 : Int) < ↑(List.length x6))) (
                            let x32 : Int := (List.getD x6 (Int.toNat 3) (dflt .record)).num
                            let x33 : Int := (List.getD x6 (Int.toNat 3) (dflt .record)).wire
                            let x34 : Int := (List.getD x6 (Int.toNat 3) (dflt .record)).n
                            let x35 : List UInt8 := (List.getD x6 (Int.toNat 3) (dflt .record)).s
                            let x36 : List UInt8 := (List.getD x6 (Int.toNat 3) (dflt .record)).raw
                            cond (x33 == 5) (
                              chk (decide ((3 : Int) < ↑(List.length x6))) (
                                let x37 : Int := (List.getD x6 (Int.toNat 3) (dflt .record)).num
                                let x38 : Int := (List.getD x6 (Int.toNat 3) (dflt .record)).wire
                                let x39 : Int := (List.getD x6 (Int.toNat 3) (dflt .record)).n
                                let x40 : List UInt8 := (List.getD x6 (Int.toNat 3) (dflt .record)).s
                                let x41 : List UInt8 := (List.getD x6 (Int.toNat 3) (dflt .record)).raw
                                cond (x39 == 7) (
                                  cond (((splitR x8).2) == 3) (
                                    chk (decide (List.length ([] : List UInt8) ≤ 9223372036854000000)) (
                                      let x42 : List UInt8 := (putR ⟨0, 0, 0, ([] : List UInt8), ([] : List UInt8)⟩)
                                      let x43 : Bool := decide (x42 = ([] : List UInt8))
                                      cond x43 (
                                        chk (decide (List.length ([] : List UInt8) ≤ 9223372036854000000)) (
                                          let x44 : List UInt8 := (putR ⟨1, 3, 0, ([] : List UInt8), ([] : List UInt8)⟩)
                                          let x45 : Bool := decide (x44 = ([] : List UInt8))
                                          cond x45 (
                                            chk (decide (List.length ([] : List UInt8) ≤ 9223372036854000000)) (
                                              let x46 : List UInt8 := (putR ⟨536870912, 0, 0, ([] : List UInt8), ([] : List UInt8)⟩)
                                              let x47 : Bool := decide (x46 = ([] : List UInt8))
                                              some (.bool x47, []))) (
                                            some (.bool false, [])))) (
                                        some (.bool false, [])))) (
                                    some (.bool false, []))) (
                                  some (.bool false, [])))) (
                              some (.bool false, [])))) (
                          some (.bool false, [])))) (
                      some (.bool false, [])))) (
                  some (.bool false, [])))) (
              some (.bool false, [])))) (
          some (.bool false, []))) (
        some (.bool false, []))))
theorem FB_law1_RecForms_0 (N : Nat) : ∀ (again0 : St → Option (V × List AObj)) (x : (List (List UInt8) × Int)), F_law1_RecForms_0 N again0 (mk_law1_RecForms_0 x) = B_law1_RecForms_0 N (fun y => again0 (mk_law1_RecForms_0 y)) x := by
  intro again0 x
  kernel_rfl
/-- proclitic/procliticlaw1.RecForms -/
def sa_law1_RecForms (N : Nat)  (q0 : (List (List UInt8) × Int) → Option (V × List AObj)) : Option (V × List AObj) :=
  q0 (([([8] : List UInt8), ([0, 1] : List UInt8), ([11] : List UInt8), ([12] : List UInt8), ([14] : List UInt8), ([15] : List UInt8), ([10, 2, 97] : List UInt8), ([9, 1, 2, 3, 4, 5, 6, 7] : List UInt8), ([13, 1, 2, 3] : List UInt8), ([8, 255, 255, 255, 255, 255, 255, 255, 255, 255, 2] : List UInt8), ([8, 128, 128, 128, 128, 128, 128, 128, 128, 128, 128, 0] : List UInt8), ([10, 255, 255, 255, 255, 255, 255, 255, 255, 255, 1] : List UInt8), ([128, 128, 128, 128, 16, 0] : List UInt8)] : List (List UInt8)), 0)
def sh_law1_RecForms (N : Nat)  : Option (V × List AObj) := sa_law1_RecForms N  (fun z => iterL N (B_law1_RecForms_0 N) z)
theorem run_law1_RecForms (N : Nat)  : callF Γ_law1_RecForms N 111 rs_law1_RecForms ir_law1_RecForms [] [] = sh_law1_RecForms N  := by
  have h : callF Γ_law1_RecForms N 111 rs_law1_RecForms ir_law1_RecForms [] [] = sa_law1_RecForms N  (fun z => loopN N (F_law1_RecForms_0 N) (mk_law1_RecForms_0 z)) := by kernel_rfl
  have e0 : (fun z => loopN N (F_law1_RecForms_0 N) (mk_law1_RecForms_0 z)) = (fun z => iterL N (B_law1_RecForms_0 N) z) := funext fun z => loop_eq (mk_law1_RecForms_0) (F_law1_RecForms_0 N) (B_law1_RecForms_0 N) (FB_law1_RecForms_0 N) N z
  rw [h, e0]
  rfl
theorem ok_law1_RecForms (hΓ : SpecOK Try.prog Γ_law1_RecForms) (N : Nat)  {v : V} {hp : List AObj} (h : sh_law1_RecForms N  = some (v, hp)) : PureOK Try.prog i_law1_RecForms [] v := by
  have hc := chk_law1_RecForms
  simp only [Bool.and_eq_true] at hc
  exact ⟨hp, fnOK_of hΓ pureS_law1_RecForms Try.func8 body_law1_RecForms hc.1 hc.2 (by decide) ((run_law1_RecForms N ).trans h)⟩
end Go.Proofs.Ytifmekddikapeaa
