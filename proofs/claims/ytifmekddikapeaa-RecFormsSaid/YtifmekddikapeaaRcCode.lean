/-
  The plain functions that runs of the code are: written by wip/gen/gen.py.
-/
import Derived.Test.YtifmekddikapeaaAmLaw
import Derived.Test.YtifmekddikapeaaRcSpec
import Derived.Test.YtifmekddikapeaaLbB
import Derived.Test.YtifmekddikapeaaChecked
import Derived.KernelRfl
namespace Go.Proofs.Ytifmekddikapeaa
open Go.AM
set_option autoImplicit false
set_option linter.unusedVariables false
set_option maxRecDepth 100000
abbrev i_law1_RecJoins : FuncId := 5
abbrev i_law1_RecLengths : FuncId := 7
abbrev i_law1_RecNumbers : FuncId := 3
abbrev i_law1_RecSplits : FuncId := 4
abbrev i_law1_begun : FuncId := 10
abbrev i_ref1_Join : FuncId := 21
abbrev i_ref1_Low : FuncId := 25
abbrev i_ref1_Put : FuncId := 19
abbrev i_ref1_PutVarint : FuncId := 14
abbrev i_ref1_SameRecords : FuncId := 17
abbrev i_ref1_Split : FuncId := 16
abbrev i_ref1_Varint : FuncId := 12
abbrev i_ref1_low : FuncId := 23
abbrev i_rec_Join : FuncId := 20
abbrev i_rec_Put : FuncId := 18
abbrev i_rec_PutVarint : FuncId := 13
abbrev i_rec_Split : FuncId := 15
abbrev i_rec_Varint : FuncId := 11
abbrev i_rec_fixed : FuncId := 28
abbrev i_rec_one : FuncId := 22
abbrev i_rec_size : FuncId := 24
def G_rec_Join : Nat → List V → Option (Bool × V) := fun _ _ => none
def Γ_rec_Join : ASpec := withB (liftG G_rec_Join)
theorem pureS_rec_Join : PureS Γ_rec_Join [26, 27] := withB_pure (liftG_pure _ _)
theorem spec_rec_Join : SpecOK Try.prog Γ_rec_Join := by
  refine withB_ok ?_
  intro f vs hp v hp' h
  obtain ⟨h, -⟩ := liftG_inv h
  simp [G_rec_Join] at h
def ir_rec_Join_0 : IR := (.reg [⟨none, .fad 12 4 (.t 5)⟩,
    ⟨none, .ld 13 1 false false (.t 12)⟩,
    ⟨none, .call (some 14) 26 [(.t 3), (.t 13)]⟩] [])
def ir_rec_Join_1 : IR := (.reg [⟨none, .bin 15 .add (.t 8) (.c (.int .i64 1))⟩,
    ⟨none, .mov 8 (.t 15)⟩] [])
def ir_rec_Join_2 : IR := (.seq (.block 1 (.seq (.reg [⟨none, .ixa 10 .record (.t 6) (.t 8)⟩,
    ⟨none, .ld 11 5 true false (.t 10)⟩,
    ⟨none, .new 5 [.int .i64 0, .int .i64 0, .int .u64 0, .str ([] : List UInt8), .str ([] : List UInt8)]⟩,
    ⟨none, .st none 5 (.t 5) (.t 11)⟩] []) ir_rec_Join_0)) ir_rec_Join_1)
def ir_rec_Join_3 : IR := (.seq (.cond (.t 9) .skip (.exit 0)) ir_rec_Join_2)
def ir_rec_Join_4 : IR := (.seq (.reg [⟨none, .bin 9 .lss (.t 8) (.t 7)⟩] []) ir_rec_Join_3)
def ir_rec_Join_5 : IR := (.block 0 (.loop [3, 6, 7, 8] 1 ir_rec_Join_4))
def ir_rec_Join_6 : IR := .ret
def ir_rec_Join_7 : IR := (.seq (.reg [⟨none, .call (some 16) 27 [(.t 3)]⟩,
    ⟨none, .mov 2 (.t 16)⟩] []) ir_rec_Join_6)
def ir_rec_Join_8 : IR := (.seq (.seq (.reg [⟨none, .mov 6 (.t 0)⟩,
    ⟨none, .lenl 7 (.t 6)⟩,
    ⟨none, .mov 8 (.c (.int .i64 0))⟩] []) ir_rec_Join_5) ir_rec_Join_7)
def ir_rec_Join_9 : IR := (.seq (.reg [⟨none, .newb 3 [.bn 54 2, .sl .u8 true ([] : List UInt8)]⟩] []) ir_rec_Join_8)
def ir_rec_Join : IR := (.seq (.reg [⟨none, .mov 2 (.c (.str ([] : List UInt8)))⟩] []) ir_rec_Join_9)
def rs_rec_Join : List RV := [.t 2]
theorem chk_rec_Join : (chkCode Try.prog [26, 27] 0 ir_rec_Join (Try.f20.body.getD .skip) && chkRes Try.prog rs_rec_Join Try.f20.results.toList) = true := by kernel_rfl
theorem body_rec_Join : Try.f20.body = some (Try.f20.body.getD .skip) := by kernel_rfl
def mk_rec_Join_0 (x : (List Record × Int × Int × List UInt8)) : St := { env := [.undef, .undef, .undef, .ptr 0 0, .undef, .undef, .sl .record false x.1, .int .i64 x.2.1, .int .i64 x.2.2.1, .undef, .undef, .undef, .undef, .undef, .undef, .undef, .undef], hp := [some [.bn 54 2, .sl .u8 true x.2.2.2]] }
def F_rec_Join_0 (N : Nat) : (St → Option (V × List AObj)) → St → Option (V × List AObj) := fun again0 s => run Γ_rec_Join N ir_rec_Join_4 (kloop again0 [3, 6, 7, 8] 1 (kblock 0 (kseq (run Γ_rec_Join N ir_rec_Join_7) (fin rs_rec_Join)))) s
def B_rec_Join_0 (N : Nat) (again0 : (List Record × Int × Int × List UInt8) → Option (V × List AObj)) (x : (List Record × Int × Int × List UInt8)) : Option (V × List AObj) :=
  let v6 : List Record := x.1
  let v7 : Int := x.2.1
  let v8 : Int := x.2.2.1
  let o0_1 : List UInt8 := x.2.2.2
  cond (decide (v8 < v7)) (
    chk ((decide (0 ≤ v8) && decide (v8 < ↑(List.length v6)))) (
      let x2 : Int := (List.getD v6 (Int.toNat v8) (dflt .record)).num
      let x3 : Int := (List.getD v6 (Int.toNat v8) (dflt .record)).wire
      let x4 : Int := (List.getD v6 (Int.toNat v8) (dflt .record)).n
      let x5 : List UInt8 := (List.getD v6 (Int.toNat v8) (dflt .record)).s
      let x6 : List UInt8 := (List.getD v6 (Int.toNat v8) (dflt .record)).raw
      chk (decide (List.length o0_1 + List.length x6 ≤ 140737488355328)) (
        let x7 : Int := (↑(List.length x6) : Int)
        let x8 : Int := (IntKind.wrap .i64 (v8 + 1))
        again0 (v6, v7, x8, (o0_1 ++ x6))))) (
    some (.str o0_1, [some [.bn 54 2, .sl .u8 false o0_1]]))
theorem FB_rec_Join_0 (N : Nat) : ∀ (again0 : St → Option (V × List AObj)) (x : (List Record × Int × Int × List UInt8)), F_rec_Join_0 N again0 (mk_rec_Join_0 x) = B_rec_Join_0 N (fun y => again0 (mk_rec_Join_0 y)) x := by
  intro again0 x
  kernel_rfl
/-- proclitic/rec.Join -/
def sa_rec_Join (N : Nat) (p0 : List Record) (q0 : (List Record × Int × Int × List UInt8) → Option (V × List AObj)) : Option (V × List AObj) :=
  let x1 : Int := (↑(List.length p0) : Int)
  q0 (p0, x1, 0, ([] : List UInt8))
def sh_rec_Join (N : Nat) (p0 : List Record) : Option (V × List AObj) := sa_rec_Join N p0 (fun z => iterL N (B_rec_Join_0 N) z)
theorem run_rec_Join (N : Nat) (p0 : List Record) : callF Γ_rec_Join N 17 rs_rec_Join ir_rec_Join [.sl .record false p0] [] = sh_rec_Join N p0 := by
  have h : callF Γ_rec_Join N 17 rs_rec_Join ir_rec_Join [.sl .record false p0] [] = sa_rec_Join N p0 (fun z => loopN N (F_rec_Join_0 N) (mk_rec_Join_0 z)) := by kernel_rfl
  have e0 : (fun z => loopN N (F_rec_Join_0 N) (mk_rec_Join_0 z)) = (fun z => iterL N (B_rec_Join_0 N) z) := funext fun z => loop_eq (mk_rec_Join_0) (F_rec_Join_0 N) (B_rec_Join_0 N) (FB_rec_Join_0 N) N z
  rw [h, e0]
  rfl
theorem ok_rec_Join (hΓ : SpecOK Try.prog Γ_rec_Join) (N : Nat) (p0 : List Record) {v : V} {hp : List AObj} (h : sh_rec_Join N p0 = some (v, hp)) : PureOK Try.prog i_rec_Join [.sl .record false p0] v := by
  have hc := chk_rec_Join
  simp only [Bool.and_eq_true] at hc
  exact ⟨hp, fnOK_of hΓ pureS_rec_Join Try.func20 body_rec_Join hc.1 hc.2 (by decide) ((run_rec_Join N p0).trans h)⟩

def G_law1_RecJoins : Nat → List V → Option (Bool × V) := fun f vs => match f, vs with
  | 10, [] => some (true, .bool true)
  | 15, [.str a0] => some (true, .tup [.sl .record false ((splitR a0).1), .int .i64 ((splitR a0).2)])
  | 20, [.sl .record false a0] => some (decide (List.length (joinR a0) ≤ 140737488355328), .str (joinR a0))
  | _, _ => none
def Γ_law1_RecJoins : ASpec := liftG G_law1_RecJoins
theorem pureS_law1_RecJoins : PureS Γ_law1_RecJoins [] := liftG_pure _ _
theorem spec_law1_RecJoins (h_law1_begun : PureOK Try.prog i_law1_begun [] (.bool true)) (h_rec_Split : ∀ (a0 : List UInt8), PureOK Try.prog i_rec_Split [.str a0] (.tup [.sl .record false ((splitR a0).1), .int .i64 ((splitR a0).2)])) (h_rec_Join : ∀ (a0 : List Record), (decide (List.length (joinR a0) ≤ 140737488355328)) = true → PureOK Try.prog i_rec_Join [.sl .record false a0] (.str (joinR a0))) : SpecOK Try.prog Γ_law1_RecJoins := by
  intro f vs hp v hp' h0
  obtain ⟨h, he⟩ := liftG_inv h0
  subst he
  unfold G_law1_RecJoins at h
  split at h
  · simp only [Option.some.injEq, Prod.mk.injEq] at h
    obtain ⟨hc, rfl⟩ := h
    exact (h_law1_begun ).frame rfl rfl _
  · simp only [Option.some.injEq, Prod.mk.injEq] at h
    obtain ⟨hc, rfl⟩ := h
    exact (h_rec_Split _).frame rfl rfl _
  · simp only [Option.some.injEq, Prod.mk.injEq] at h
    obtain ⟨hc, rfl⟩ := h
    exact (h_rec_Join _ hc).frame rfl rfl _
  · simp at h
def ir_law1_RecJoins_0 : IR := .ret
def ir_law1_RecJoins_1 : IR := (.cond (.t 16) (.seq (.reg [⟨none, .mov 4 (.c (.bool false))⟩] []) ir_law1_RecJoins_0) .skip)
def ir_law1_RecJoins_2 : IR := .ret
def ir_law1_RecJoins_3 : IR := (.cond (.t 24) (.seq (.reg [⟨none, .mov 4 (.c (.bool true))⟩] []) ir_law1_RecJoins_2) .skip)
def ir_law1_RecJoins_4 : IR := .ret
def ir_law1_RecJoins_5 : IR := (.cond (.t 40) (.seq (.reg [⟨none, .mov 41 (.t 6)⟩,
    ⟨none, .bin 42 .eql (.t 41) (.c (.int .i64 0))⟩,
    ⟨none, .mov 43 (.t 42)⟩,
    ⟨some (43, false), .mov 44 (.t 5)⟩,
    ⟨some (43, false), .lenl 45 (.t 44)⟩,
    ⟨some (43, false), .bin 46 .eql (.t 45) (.c (.int .i64 0))⟩,
    ⟨none, .pick 47 (.t 43) (.c (.bool true)) (.t 46)⟩,
    ⟨none, .mov 48 (.t 47)⟩,
    ⟨some (48, true), .mov 49 (.t 8)⟩,
    ⟨some (48, true), .bin 50 .eql (.t 49) (.c (.int .i64 0))⟩,
    ⟨some (48, true), .mov 51 (.t 50)⟩,
    ⟨some (51, false), .mov 52 (.t 7)⟩,
    ⟨some (51, false), .lenl 53 (.t 52)⟩,
    ⟨some (51, false), .bin 54 .eql (.t 53) (.c (.int .i64 0))⟩,
    ⟨some (48, true), .pick 55 (.t 51) (.c (.bool true)) (.t 54)⟩,
    ⟨none, .pick 56 (.t 48) (.t 55) (.c (.bool false))⟩,
    ⟨none, .mov 4 (.t 56)⟩] []) ir_law1_RecJoins_4) .skip)
def ir_law1_RecJoins_6 : IR := .ret
def ir_law1_RecJoins_7 : IR := (.cond (.t 81) (.seq (.reg [⟨none, .mov 4 (.c (.bool false))⟩] []) ir_law1_RecJoins_6) .skip)
def ir_law1_RecJoins_8 : IR := (.cond (.t 85) .skip (.exit 0))
def ir_law1_RecJoins_9 : IR := (.cond (.t 92) (.reg [⟨none, .mov 93 (.t 5)⟩,
    ⟨none, .mov 94 (.t 11)⟩,
    ⟨none, .ixa 95 .record (.t 93) (.t 94)⟩,
    ⟨none, .ld 96 5 true false (.t 95)⟩,
    ⟨none, .st none 5 (.t 12) (.t 96)⟩] []) (.reg [⟨none, .mov 97 (.t 7)⟩,
    ⟨none, .mov 98 (.t 11)⟩,
    ⟨none, .mov 99 (.t 5)⟩,
    ⟨none, .lenl 100 (.t 99)⟩,
    ⟨none, .bin 101 .sub (.t 98) (.t 100)⟩,
    ⟨none, .ixa 102 .record (.t 97) (.t 101)⟩,
    ⟨none, .ld 103 5 true false (.t 102)⟩,
    ⟨none, .st none 5 (.t 12) (.t 103)⟩] []))
def ir_law1_RecJoins_10 : IR := .ret
def ir_law1_RecJoins_11 : IR := (.cond (.t 134) (.seq (.reg [⟨none, .mov 4 (.c (.bool false))⟩] []) ir_law1_RecJoins_10) .skip)
def ir_law1_RecJoins_12 : IR := (.seq (.reg [⟨none, .mov 113 (.t 9)⟩,
    ⟨none, .mov 114 (.t 11)⟩,
    ⟨none, .ixa 115 .record (.t 113) (.t 114)⟩,
    ⟨none, .ld 116 5 true false (.t 115)⟩,
    ⟨none, .ld 117 5 true false (.t 12)⟩,
    ⟨none, .eqs 118 true [0, 0, 0, 1, 1] (.t 116) (.t 117)⟩,
    ⟨none, .mov 119 (.t 118)⟩,
    ⟨some (119, false), .mov 120 (.t 14)⟩,
    ⟨some (119, false), .bin 121 .neq (.t 120) (.c (.int .i64 0))⟩,
    ⟨none, .pick 122 (.t 119) (.c (.bool true)) (.t 121)⟩,
    ⟨none, .mov 123 (.t 122)⟩,
    ⟨some (123, false), .mov 124 (.t 13)⟩,
    ⟨some (123, false), .lenl 125 (.t 124)⟩,
    ⟨some (123, false), .bin 126 .neq (.t 125) (.c (.int .i64 1))⟩,
    ⟨none, .pick 127 (.t 123) (.c (.bool true)) (.t 126)⟩,
    ⟨none, .mov 128 (.t 127)⟩,
    ⟨some (128, false), .mov 129 (.t 13)⟩,
    ⟨some (128, false), .ixa 130 .record (.t 129) (.c (.int .i64 0))⟩,
    ⟨some (128, false), .ld 131 5 true false (.t 130)⟩,
    ⟨some (128, false), .ld 132 5 true false (.t 12)⟩,
    ⟨some (128, false), .eqs 133 true [0, 0, 0, 1, 1] (.t 131) (.t 132)⟩,
    ⟨none, .pick 134 (.t 128) (.c (.bool true)) (.t 133)⟩] [[], [], [0, 1], [0, 1, 2], [], [0, 1, 2, 3, 4], [0, 1, 2, 3, 4, 5], [0, 1, 2, 3, 4, 5, 6], [0, 1, 2, 3, 4, 5, 6, 7], [0, 1, 2, 3, 4, 5, 6, 7, 8], [0, 1, 2, 3, 4, 5, 6, 7, 8, 9], [0, 1, 2, 3, 4, 5, 6, 7, 8, 9, 10], [0, 1, 2, 3, 4, 5, 6, 7, 8, 9, 10, 11], [0, 1, 2, 3, 4, 5, 6, 7, 8, 9, 10, 11, 12], [0, 1, 2, 3, 4, 5, 6, 7, 8, 9, 10, 11, 12, 13], [0, 1, 2, 3, 4, 5, 6, 7, 8, 9, 10, 11, 12, 13, 14], [0, 1, 2, 3, 4, 5, 6, 7, 8, 9, 10, 11, 12, 13, 14, 15], [0, 1, 2, 3, 4, 5, 6, 7, 8, 9, 10, 11, 12, 13, 14, 15, 16], [0, 1, 2, 3, 4, 5, 6, 7, 8, 9, 10, 11, 12, 13, 14, 15, 16, 17], [0, 1, 2, 3, 4, 5, 6, 7, 8, 9, 10, 11, 12, 13, 14, 15], [0, 1, 2, 3, 4, 5, 6, 7, 8, 9, 10, 11, 12, 13, 14, 15, 16, 17, 18, 19], [0, 1, 2, 3, 4, 5, 6, 7, 8, 9, 10, 11, 12, 13, 14, 15, 16, 17, 18, 19, 20]]) ir_law1_RecJoins_11)
def ir_law1_RecJoins_13 : IR := (.seq (.reg [⟨none, .mov 105 (.t 9)⟩,
    ⟨none, .mov 106 (.t 11)⟩,
    ⟨none, .ixa 107 .record (.t 105) (.t 106)⟩,
    ⟨none, .fad 108 4 (.t 107)⟩,
    ⟨none, .ld 109 1 false false (.t 108)⟩,
    ⟨none, .call (some 110) 15 [(.t 109)]⟩,
    ⟨none, .mov 104 (.t 110)⟩,
    ⟨none, .ext 111 0 (.t 104)⟩,
    ⟨none, .ext 112 1 (.t 104)⟩,
    ⟨none, .mov 13 (.t 111)⟩,
    ⟨none, .mov 14 (.t 112)⟩] []) ir_law1_RecJoins_12)
def ir_law1_RecJoins_14 : IR := (.seq (.seq (.reg [⟨none, .mov 89 (.t 11)⟩,
    ⟨none, .mov 90 (.t 5)⟩,
    ⟨none, .lenl 91 (.t 90)⟩,
    ⟨none, .bin 92 .lss (.t 89) (.t 91)⟩] []) ir_law1_RecJoins_9) ir_law1_RecJoins_13)
def ir_law1_RecJoins_15 : IR := (.reg [⟨none, .mov 86 (.t 11)⟩,
    ⟨none, .bin 87 .add (.t 86) (.c (.int .i64 1))⟩,
    ⟨none, .mov 11 (.t 87)⟩] [])
def ir_law1_RecJoins_16 : IR := (.seq (.block 1 (.seq (.reg [⟨none, .bld 88 [.int .i64 0, .int .i64 0, .int .u64 0, .str ([] : List UInt8), .str ([] : List UInt8)] []⟩,
    ⟨none, .new 12 [.int .i64 0, .int .i64 0, .int .u64 0, .str ([] : List UInt8), .str ([] : List UInt8)]⟩,
    ⟨none, .st none 5 (.t 12) (.t 88)⟩] []) ir_law1_RecJoins_14)) ir_law1_RecJoins_15)
def ir_law1_RecJoins_17 : IR := (.seq (.seq (.reg [⟨none, .mov 82 (.t 11)⟩,
    ⟨none, .mov 83 (.t 9)⟩,
    ⟨none, .lenl 84 (.t 83)⟩,
    ⟨none, .bin 85 .lss (.t 82) (.t 84)⟩] []) ir_law1_RecJoins_8) ir_law1_RecJoins_16)
def ir_law1_RecJoins_18 : IR := (.block 0 (.loop [5, 7, 9, 11] 0 ir_law1_RecJoins_17))
def ir_law1_RecJoins_19 : IR := .ret
def ir_law1_RecJoins_20 : IR := (.seq (.reg [⟨none, .mov 4 (.c (.bool true))⟩] []) ir_law1_RecJoins_19)
def ir_law1_RecJoins_21 : IR := (.seq (.seq (.reg [⟨none, .mov 11 (.c (.int .i64 0))⟩] []) ir_law1_RecJoins_18) ir_law1_RecJoins_20)
def ir_law1_RecJoins_22 : IR := (.seq (.seq (.reg [⟨none, .mov 64 (.t 10)⟩,
    ⟨none, .bin 65 .neq (.t 64) (.c (.int .i64 0))⟩,
    ⟨none, .mov 66 (.t 65)⟩,
    ⟨some (66, false), .mov 67 (.t 5)⟩,
    ⟨some (66, false), .call (some 68) 20 [(.t 67)]⟩,
    ⟨some (66, false), .mov 69 (.t 0)⟩,
    ⟨some (66, false), .bin 70 .neq (.t 68) (.t 69)⟩,
    ⟨none, .pick 71 (.t 66) (.c (.bool true)) (.t 70)⟩,
    ⟨none, .mov 72 (.t 71)⟩,
    ⟨some (72, false), .mov 73 (.t 9)⟩,
    ⟨some (72, false), .lenl 74 (.t 73)⟩,
    ⟨some (72, false), .mov 75 (.t 5)⟩,
    ⟨some (72, false), .lenl 76 (.t 75)⟩,
    ⟨some (72, false), .mov 77 (.t 7)⟩,
    ⟨some (72, false), .lenl 78 (.t 77)⟩,
    ⟨some (72, false), .bin 79 .add (.t 76) (.t 78)⟩,
    ⟨some (72, false), .bin 80 .neq (.t 74) (.t 79)⟩,
    ⟨none, .pick 81 (.t 72) (.c (.bool true)) (.t 80)⟩] []) ir_law1_RecJoins_7) ir_law1_RecJoins_21)
def ir_law1_RecJoins_23 : IR := (.seq (.reg [⟨none, .mov 58 (.t 0)⟩,
    ⟨none, .mov 59 (.t 1)⟩,
    ⟨none, .bin 60 .add (.t 58) (.t 59)⟩,
    ⟨none, .call (some 61) 15 [(.t 60)]⟩,
    ⟨none, .mov 57 (.t 61)⟩,
    ⟨none, .ext 62 0 (.t 57)⟩,
    ⟨none, .ext 63 1 (.t 57)⟩,
    ⟨none, .mov 9 (.t 62)⟩,
    ⟨none, .mov 10 (.t 63)⟩] []) ir_law1_RecJoins_22)
def ir_law1_RecJoins_24 : IR := (.seq (.seq (.reg [⟨none, .mov 35 (.t 6)⟩,
    ⟨none, .bin 36 .neq (.t 35) (.c (.int .i64 0))⟩,
    ⟨none, .mov 37 (.t 36)⟩,
    ⟨some (37, false), .mov 38 (.t 8)⟩,
    ⟨some (37, false), .bin 39 .neq (.t 38) (.c (.int .i64 0))⟩,
    ⟨none, .pick 40 (.t 37) (.c (.bool true)) (.t 39)⟩] []) ir_law1_RecJoins_5) ir_law1_RecJoins_23)
def ir_law1_RecJoins_25 : IR := (.seq (.reg [⟨none, .mov 31 (.t 1)⟩,
    ⟨none, .call (some 32) 15 [(.t 31)]⟩,
    ⟨none, .mov 30 (.t 32)⟩,
    ⟨none, .ext 33 0 (.t 30)⟩,
    ⟨none, .ext 34 1 (.t 30)⟩,
    ⟨none, .mov 7 (.t 33)⟩,
    ⟨none, .mov 8 (.t 34)⟩] []) ir_law1_RecJoins_24)
def ir_law1_RecJoins_26 : IR := (.seq (.reg [⟨none, .mov 26 (.t 0)⟩,
    ⟨none, .call (some 27) 15 [(.t 26)]⟩,
    ⟨none, .mov 25 (.t 27)⟩,
    ⟨none, .ext 28 0 (.t 25)⟩,
    ⟨none, .ext 29 1 (.t 25)⟩,
    ⟨none, .mov 5 (.t 28)⟩,
    ⟨none, .mov 6 (.t 29)⟩] []) ir_law1_RecJoins_25)
def ir_law1_RecJoins_27 : IR := (.seq (.seq (.reg [⟨none, .mov 17 (.t 0)⟩,
    ⟨none, .lens 18 (.t 17)⟩,
    ⟨none, .bin 19 .gtr (.t 18) (.c (.int .i64 100))⟩,
    ⟨none, .mov 20 (.t 19)⟩,
    ⟨some (20, false), .mov 21 (.t 1)⟩,
    ⟨some (20, false), .lens 22 (.t 21)⟩,
    ⟨some (20, false), .bin 23 .gtr (.t 22) (.c (.int .i64 100))⟩,
    ⟨none, .pick 24 (.t 20) (.c (.bool true)) (.t 23)⟩] []) ir_law1_RecJoins_3) ir_law1_RecJoins_26)
def ir_law1_RecJoins_28 : IR := (.seq (.seq (.reg [⟨none, .call (some 15) 10 []⟩,
    ⟨none, .un 16 .not (.t 15)⟩] []) ir_law1_RecJoins_1) ir_law1_RecJoins_27)
def ir_law1_RecJoins : IR := (.seq (.reg [⟨none, .mov 4 (.c (.bool false))⟩] []) ir_law1_RecJoins_28)
def rs_law1_RecJoins : List RV := [.t 4]
theorem chk_law1_RecJoins : (chkCode Try.prog [] 0 ir_law1_RecJoins (Try.f5.body.getD .skip) && chkRes Try.prog rs_law1_RecJoins Try.f5.results.toList) = true := by kernel_rfl
theorem body_law1_RecJoins : Try.f5.body = some (Try.f5.body.getD .skip) := by kernel_rfl
def mk_law1_RecJoins_0 (x : (List Record × List Record × List Record × Int)) : St := { env := [.undef, .undef, .undef, .undef, .undef, .sl .record false x.1, .undef, .sl .record false x.2.1, .undef, .sl .record false x.2.2.1, .undef, .int .i64 x.2.2.2, .undef, .undef, .undef, .undef, .undef, .undef, .undef, .undef, .undef, .undef, .undef, .undef, .undef, .undef, .undef, .undef, .undef, .undef, .undef, .undef, .undef, .undef, .undef, .undef, .undef, .undef, .undef, .undef, .undef, .undef, .undef, .undef, .undef, .undef, .undef, .undef, .undef, .undef, .undef, .undef, .undef, .undef, .undef, .undef, .undef, .undef, .undef, .undef, .undef, .undef, .undef, .undef, .undef, .undef, .undef, .undef, .undef, .undef, .undef, .undef, .undef, .undef, .undef, .undef, .undef, .undef, .undef, .undef, .undef, .undef, .undef, .undef, .undef, .undef, .undef, .undef, .undef, .undef, .undef, .undef, .undef, .undef, .undef, .undef, .undef, .undef, .undef, .undef, .undef, .undef, .undef, .undef, .undef, .undef, .undef, .undef, .undef, .undef, .undef, .undef, .undef, .undef, .undef, .undef, .undef, .undef, .undef, .undef, .undef, .undef, .undef, .undef, .undef, .undef, .undef, .undef, .undef, .undef, .undef, .undef, .undef, .undef, .undef], hp := [] }
def F_law1_RecJoins_0 (N : Nat) : (St → Option (V × List AObj)) → St → Option (V × List AObj) := fun again0 s => run Γ_law1_RecJoins N ir_law1_RecJoins_17 (kloop again0 [5, 7, 9, 11] 0 (kblock 0 (kseq (run Γ_law1_RecJoins N ir_law1_RecJoins_20) (fin rs_law1_RecJoins)))) s
def B_law1_RecJoins_0 (N : Nat) (again0 : (List Record × List Record × List Record × Int) → Option (V × List AObj)) (x : (List Record × List Record × List Record × Int)) : Option (V × List AObj) :=
  let v5 : List Record := x.1
  let v7 : List Record := x.2.1
  let v9 : List Record := x.2.2.1
  let v11 : Int := x.2.2.2
  let x17 : Int := (↑(List.length v9) : Int)
  cond (decide (v11 < x17)) (
    let x18 : Int := (↑(List.length v5) : Int)
    cond (decide (v11 < x18)) (
      chk ((decide (0 ≤ v11) && decide (v11 < ↑(List.length v5)))) (
        let x19 : Int := (List.getD v5 (Int.toNat v11) (dflt .record)).num
        let x20 : Int := (List.getD v5 (Int.toNat v11) (dflt .record)).wire
        let x21 : Int := (List.getD v5 (Int.toNat v11) (dflt .record)).n
        let x22 : List UInt8 := (List.getD v5 (Int.toNat v11) (dflt .record)).s
        let x23 : List UInt8 := (List.getD v5 (Int.toNat v11) (dflt .record)).raw
        chk ((decide (0 ≤ v11) && decide (v11 < ↑(List.length v9)))) (
          let x24 : Int := (List.getD v9 (Int.toNat v11) (dflt .record)).num
          let x25 : Int := (List.getD v9 (Int.toNat v11) (dflt .record)).wire
          let x26 : Int := (List.getD v9 (Int.toNat v11) (dflt .record)).n
          let x27 : List UInt8 := (List.getD v9 (Int.toNat v11) (dflt .record)).s
          let x28 : List UInt8 := (List.getD v9 (Int.toNat v11) (dflt .record)).raw
          chk ((decide (0 ≤ v11) && decide (v11 < ↑(List.length v9)))) (
            let x29 : Int := (List.getD v9 (Int.toNat v11) (dflt .record)).num
            let x30 : Int := (List.getD v9 (Int.toNat v11) (dflt .record)).wire
            let x31 : Int := (List.getD v9 (Int.toNat v11) (dflt .record)).n
            let x32 : List UInt8 := (List.getD v9 (Int.toNat v11) (dflt .record)).s
            let x33 : List UInt8 := (List.getD v9 (Int.toNat v11) (dflt .record)).raw
            let x34 : Bool := (!((x29 == x19) && ((x30 == x20) && ((x31 == x21) && (decide (x32 = x22) && (decide (x33 = x23) && true))))))
            cond x34 (
              some (.bool false, [some [.int .i64 x19, .int .i64 x20, .int .u64 x21, .str x22, .str x23]])) (
              let x35 : Bool := (!(((splitR x28).2) == 0))
              cond x35 (
                some (.bool false, [some [.int .i64 x19, .int .i64 x20, .int .u64 x21, .str x22, .str x23]])) (
                let x36 : Int := (↑(List.length ((splitR x28).1)) : Int)
                cond (!(x36 == 1)) (
                  some (.bool false, [some [.int .i64 x19, .int .i64 x20, .int .u64 x21, .str x22, .str x23]])) (
                  chk (decide ((0 : Int) < ↑(List.length ((splitR x28).1)))) (
                    let x37 : Int := (List.getD ((splitR x28).1) (Int.toNat 0) (dflt .record)).num
                    let x38 : Int := (List.getD ((splitR x28).1) (Int.toNat 0) (dflt .record)).wire
                    let x39 : Int := (List.getD ((splitR x28).1) (Int.toNat 0) (dflt .record)).n
                    let x40 : List UInt8 := (List.getD ((splitR x28).1) (Int.toNat 0) (dflt .record)).s
                    let x41 : List UInt8 := (List.getD ((splitR x28).1) (Int.toNat 0) (dflt .record)).raw
                    let x42 : Bool := (!((x37 == x19) && ((x38 == x20) && ((x39 == x21) && (decide (x40 = x22) && (decide (x41 = x23) && true))))))
                    cond x42 (
                      some (.bool false, [some [.int .i64 x19, .int .i64 x20, .int .u64 x21, .str x22, .str x23]])) (
                      let x43 : Int := (IntKind.wrap .i64 (v11 + 1))
                      again0 (v5, v7, v9, x43)))))))))) (
      let x44 : Int := (↑(List.length v5) : Int)
      let x45 : Int := (IntKind.wrap .i64 (v11 - x44))
      chk ((decide (0 ≤ x45) && decide (x45 < ↑(List.length v7)))) (
        let x46 : Int := (List.getD v7 (Int.toNat x45) (dflt .record)).num
        let x47 : Int := (List.getD v7 (Int.toNat x45) (dflt .record)).wire
        let x48 : Int := (List.getD v7 (Int.toNat x45) (dflt .record)).n
        let x49 : List UInt8 := (List.getD v7 (Int.toNat x45) (dflt .record)).s
        let x50 : List UInt8 := (List.getD v7 (Int.toNat x45) (dflt .record)).raw
        chk ((decide (0 ≤ v11) && decide (v11 < ↑(List.length v9)))) (
          let x51 : Int := (List.getD v9 (Int.toNat v11) (dflt .record)).num
          let x52 : Int := (List.getD v9 (Int.toNat v11) (dflt .record)).wire
          let x53 : Int := (List.getD v9 (Int.toNat v11) (dflt .record)).n
          let x54 : List UInt8 := (List.getD v9 (Int.toNat v11) (dflt .record)).s
          let x55 : List UInt8 := (List.getD v9 (Int.toNat v11) (dflt .record)).raw
          chk ((decide (0 ≤ v11) && decide (v11 < ↑(List.length v9)))) (
            let x56 : Int := (List.getD v9 (Int.toNat v11) (dflt .record)).num
            let x57 : Int := (List.getD v9 (Int.toNat v11) (dflt .record)).wire
            let x58 : Int := (List.getD v9 (Int.toNat v11) (dflt .record)).n
            let x59 : List UInt8 := (List.getD v9 (Int.toNat v11) (dflt .record)).s
            let x60 : List UInt8 := (List.getD v9 (Int.toNat v11) (dflt .record)).raw
            let x61 : Bool := (!((x56 == x46) && ((x57 == x47) && ((x58 == x48) && (decide (x59 = x49) && (decide (x60 = x50) && true))))))
            cond x61 (
              some (.bool false, [some [.int .i64 x46, .int .i64 x47, .int .u64 x48, .str x49, .str x50]])) (
              let x62 : Bool := (!(((splitR x55).2) == 0))
              cond x62 (
                some (.bool false, [some [.int .i64 x46, .int .i64 x47, .int .u64 x48, .str x49, .str x50]])) (
                let x63 : Int := (↑(List.length ((splitR x55).1)) : Int)
                cond (!(x63 == 1)) (
                  some (.bool false, [some [.int .i64 x46, .int .i64 x47, .int .u64 x48, .str x49, .str x50]])) (
                  chk (decide ((0 : Int) < ↑(List.length ((splitR x55).1)))) (
                    let x64 : Int := (List.getD ((splitR x55).1) (Int.toNat 0) (dflt .record)).num
                    let x65 : Int := (List.getD ((splitR x55).1) (Int.toNat 0) (dflt .record)).wire
                    let x66 : Int := (List.getD ((splitR x55).1) (Int.toNat 0) (dflt .record)).n
                    let x67 : List UInt8 := (List.getD ((splitR x55).1) (Int.toNat 0) (dflt .record)).s
                    let x68 : List UInt8 := (List.getD ((splitR x55).1) (Int.toNat 0) (dflt .record)).raw
                    let x69 : Bool := (!((x64 == x46) && ((x65 == x47) && ((x66 == x48) && (decide (x67 = x49) && (decide (x68 = x50) && true))))))
                    cond x69 (
                      some (.bool false, [some [.int .i64 x46, .int .i64 x47, .int .u64 x48, .str x49, .str x50]])) (
                      let x70 : Int := (IntKind.wrap .i64 (v11 + 1))
                      again0 (v5, v7, v9, x70))))))))))) (
    some (.bool true, []))
theorem FB_law1_RecJoins_0 (N : Nat) : ∀ (again0 : St → Option (V × List AObj)) (x : (List Record × List Record × List Record × Int)), F_law1_RecJoins_0 N again0 (mk_law1_RecJoins_0 x) = B_law1_RecJoins_0 N (fun y => again0 (mk_law1_RecJoins_0 y)) x := by
  intro again0 x
  kernel_rfl
/-- proclitic/procliticlaw1.RecJoins -/
def sa_law1_RecJoins (N : Nat) (p0 : List UInt8) (p1 : List UInt8) (q0 : (List Record × List Record × List Record × Int) → Option (V × List AObj)) : Option (V × List AObj) :=
  let x1 : Int := (↑(List.length p0) : Int)
  cond (decide (100 < x1)) (
    some (.bool true, [])) (
    let x2 : Int := (↑(List.length p1) : Int)
    cond (decide (100 < x2)) (
      some (.bool true, [])) (
      let x3 : Bool := (!(((splitR p0).2) == 0))
      cond x3 (
        cond (((splitR p0).2) == 0) (
          cond (((splitR p1).2) == 0) (
            some (.bool true, [])) (
            let x4 : Int := (↑(List.length ((splitR p1).1)) : Int)
            some (.bool (x4 == 0), []))) (
          let x5 : Int := (↑(List.length ((splitR p0).1)) : Int)
          cond (x5 == 0) (
            cond (((splitR p1).2) == 0) (
              some (.bool true, [])) (
              let x6 : Int := (↑(List.length ((splitR p1).1)) : Int)
              some (.bool (x6 == 0), []))) (
            some (.bool false, [])))) (
        let x7 : Bool := (!(((splitR p1).2) == 0))
        cond x7 (
          cond (((splitR p0).2) == 0) (
            cond (((splitR p1).2) == 0) (
              some (.bool true, [])) (
              let x8 : Int := (↑(List.length ((splitR p1).1)) : Int)
              some (.bool (x8 == 0), []))) (
            let x9 : Int := (↑(List.length ((splitR p0).1)) : Int)
            cond (x9 == 0) (
              cond (((splitR p1).2) == 0) (
                some (.bool true, [])) (
                let x10 : Int := (↑(List.length ((splitR p1).1)) : Int)
                some (.bool (x10 == 0), []))) (
              some (.bool false, [])))) (
          chk (decide (List.length p0 + List.length p1 ≤ 9223372036854775807)) (
            let x11 : Bool := (!(((splitR (p0 ++ p1)).2) == 0))
            cond x11 (
              some (.bool false, [])) (
              chk (decide (List.length (joinR ((splitR p0).1)) ≤ 140737488355328)) (
                let x12 : Bool := (!decide ((joinR ((splitR p0).1)) = p0))
                cond x12 (
                  some (.bool false, [])) (
                  let x13 : Int := (↑(List.length ((splitR (p0 ++ p1)).1)) : Int)
                  let x14 : Int := (↑(List.length ((splitR p0).1)) : Int)
                  let x15 : Int := (↑(List.length ((splitR p1).1)) : Int)
                  let x16 : Int := (IntKind.wrap .i64 (x14 + x15))
                  cond (!(x13 == x16)) (
                    some (.bool false, [])) (
                    q0 ((splitR p0).1, (splitR p1).1, (splitR (p0 ++ p1)).1, 0))))))))))
def sh_law1_RecJoins (N : Nat) (p0 : List UInt8) (p1 : List UInt8) : Option (V × List AObj) := sa_law1_RecJoins N p0 p1 (fun z => iterL N (B_law1_RecJoins_0 N) z)
theorem run_law1_RecJoins (N : Nat) (p0 : List UInt8) (p1 : List UInt8) : callF Γ_law1_RecJoins N 135 rs_law1_RecJoins ir_law1_RecJoins [.str p0, .str p1] [] = sh_law1_RecJoins N p0 p1 := by
  have h : callF Γ_law1_RecJoins N 135 rs_law1_RecJoins ir_law1_RecJoins [.str p0, .str p1] [] = sa_law1_RecJoins N p0 p1 (fun z => loopN N (F_law1_RecJoins_0 N) (mk_law1_RecJoins_0 z)) := by kernel_rfl
  have e0 : (fun z => loopN N (F_law1_RecJoins_0 N) (mk_law1_RecJoins_0 z)) = (fun z => iterL N (B_law1_RecJoins_0 N) z) := funext fun z => loop_eq (mk_law1_RecJoins_0) (F_law1_RecJoins_0 N) (B_law1_RecJoins_0 N) (FB_law1_RecJoins_0 N) N z
  rw [h, e0]
  rfl
theorem ok_law1_RecJoins (hΓ : SpecOK Try.prog Γ_law1_RecJoins) (N : Nat) (p0 : List UInt8) (p1 : List UInt8) {v : V} {hp : List AObj} (h : sh_law1_RecJoins N p0 p1 = some (v, hp)) : PureOK Try.prog i_law1_RecJoins [.str p0, .str p1] v := by
  have hc := chk_law1_RecJoins
  simp only [Bool.and_eq_true] at hc
  exact ⟨hp, fnOK_of hΓ pureS_law1_RecJoins Try.func5 body_law1_RecJoins hc.1 hc.2 (by decide) ((run_law1_RecJoins N p0 p1).trans h)⟩

def G_rec_Varint : Nat → List V → Option (Bool × V) := fun _ _ => none
def Γ_rec_Varint : ASpec := liftG G_rec_Varint
theorem pureS_rec_Varint : PureS Γ_rec_Varint [] := liftG_pure _ _
theorem spec_rec_Varint : SpecOK Try.prog Γ_rec_Varint := by
  intro f vs hp v hp' h
  obtain ⟨h, -⟩ := liftG_inv h
  simp [G_rec_Varint] at h
def ir_rec_Varint_0 : IR := (.cond (.t 13) .skip (.exit 0))
def ir_rec_Varint_1 : IR := .ret
def ir_rec_Varint_2 : IR := (.cond (.t 23) (.seq (.reg [⟨none, .mov 2 (.c (.int .u64 0))⟩,
    ⟨none, .mov 3 (.c (.int .i64 0))⟩,
    ⟨none, .mov 4 (.c (.int .i64 2))⟩] []) ir_rec_Varint_1) .skip)
def ir_rec_Varint_3 : IR := .ret
def ir_rec_Varint_4 : IR := (.cond (.t 34) (.seq (.reg [⟨none, .mov 35 (.t 2)⟩,
    ⟨none, .mov 36 (.t 3)⟩,
    ⟨none, .mov 2 (.t 35)⟩,
    ⟨none, .mov 3 (.t 36)⟩,
    ⟨none, .mov 4 (.c (.int .i64 0))⟩] []) ir_rec_Varint_3) .skip)
def ir_rec_Varint_5 : IR := (.seq (.reg [⟨none, .mov 33 (.t 5)⟩,
    ⟨none, .bin 34 .lss (.t 33) (.c (.int .u64 128))⟩] []) ir_rec_Varint_4)
def ir_rec_Varint_6 : IR := (.seq (.reg [⟨none, .mov 31 (.t 3)⟩,
    ⟨none, .bin 32 .add (.t 31) (.c (.int .i64 1))⟩,
    ⟨none, .mov 3 (.t 32)⟩] []) ir_rec_Varint_5)
def ir_rec_Varint_7 : IR := (.seq (.reg [⟨none, .mov 24 (.t 2)⟩,
    ⟨none, .mov 25 (.t 5)⟩,
    ⟨none, .bin 26 .rem (.t 25) (.c (.int .u64 128))⟩,
    ⟨none, .mov 27 (.t 3)⟩,
    ⟨none, .bin 28 .mul (.c (.int .i64 7)) (.t 27)⟩,
    ⟨none, .bin 29 .shl (.t 26) (.t 28)⟩,
    ⟨none, .bin 30 .or (.t 24) (.t 29)⟩,
    ⟨none, .mov 2 (.t 30)⟩] []) ir_rec_Varint_6)
def ir_rec_Varint_8 : IR := (.seq (.seq (.reg [⟨none, .mov 18 (.t 3)⟩,
    ⟨none, .bin 19 .eql (.t 18) (.c (.int .i64 9))⟩,
    ⟨none, .mov 20 (.t 19)⟩,
    ⟨some (20, true), .mov 21 (.t 5)⟩,
    ⟨some (20, true), .bin 22 .gtr (.t 21) (.c (.int .u64 1))⟩,
    ⟨none, .pick 23 (.t 20) (.t 22) (.c (.bool false))⟩] []) ir_rec_Varint_2) ir_rec_Varint_7)
def ir_rec_Varint_9 : IR := (.block 1 (.seq (.reg [⟨none, .mov 14 (.t 0)⟩,
    ⟨none, .mov 15 (.t 3)⟩,
    ⟨none, .idx 16 (.t 14) (.t 15)⟩,
    ⟨none, .cvi 17 .u64 (.t 16)⟩,
    ⟨none, .mov 5 (.t 17)⟩] []) ir_rec_Varint_8))
def ir_rec_Varint_10 : IR := (.seq (.seq (.reg [⟨none, .mov 6 (.t 3)⟩,
    ⟨none, .mov 7 (.t 0)⟩,
    ⟨none, .lens 8 (.t 7)⟩,
    ⟨none, .bin 9 .lss (.t 6) (.t 8)⟩,
    ⟨none, .mov 10 (.t 9)⟩,
    ⟨some (10, true), .mov 11 (.t 3)⟩,
    ⟨some (10, true), .bin 12 .lss (.t 11) (.c (.int .i64 10))⟩,
    ⟨none, .pick 13 (.t 10) (.t 12) (.c (.bool false))⟩] []) ir_rec_Varint_0) ir_rec_Varint_9)
def ir_rec_Varint_11 : IR := .ret
def ir_rec_Varint_12 : IR := (.seq (.reg [⟨none, .mov 2 (.c (.int .u64 0))⟩,
    ⟨none, .mov 3 (.c (.int .i64 0))⟩,
    ⟨none, .mov 4 (.c (.int .i64 2))⟩] []) ir_rec_Varint_11)
def ir_rec_Varint_13 : IR := (.seq (.block 0 (.loop [0, 2, 3] 0 ir_rec_Varint_10)) ir_rec_Varint_12)
def ir_rec_Varint : IR := (.seq (.reg [⟨none, .mov 2 (.c (.int .u64 0))⟩,
    ⟨none, .mov 3 (.c (.int .i64 0))⟩,
    ⟨none, .mov 4 (.c (.int .i64 0))⟩] []) ir_rec_Varint_13)
def rs_rec_Varint : List RV := [.t 2, .t 3, .t 4]
theorem chk_rec_Varint : (chkCode Try.prog [] 0 ir_rec_Varint (Try.f11.body.getD .skip) && chkRes Try.prog rs_rec_Varint Try.f11.results.toList) = true := by kernel_rfl
theorem body_rec_Varint : Try.f11.body = some (Try.f11.body.getD .skip) := by kernel_rfl
def mk_rec_Varint_0 (x : (List UInt8 × Int × Int)) : St := { env := [.str x.1, .undef, .int .u64 x.2.1, .int .i64 x.2.2, .undef, .undef, .undef, .undef, .undef, .undef, .undef, .undef, .undef, .undef, .undef, .undef, .undef, .undef, .undef, .undef, .undef, .undef, .undef, .undef, .undef, .undef, .undef, .undef, .undef, .undef, .undef, .undef, .undef, .undef, .undef, .undef, .undef], hp := [] }
def F_rec_Varint_0 (N : Nat) : (St → Option (V × List AObj)) → St → Option (V × List AObj) := fun again0 s => run Γ_rec_Varint N ir_rec_Varint_10 (kloop again0 [0, 2, 3] 0 (kblock 0 (kseq (run Γ_rec_Varint N ir_rec_Varint_12) (fin rs_rec_Varint)))) s
def B_rec_Varint_0 (N : Nat) (again0 : (List UInt8 × Int × Int) → Option (V × List AObj)) (x : (List UInt8 × Int × Int)) : Option (V × List AObj) :=
  let v0 : List UInt8 := x.1
  let v2 : Int := x.2.1
  let v3 : Int := x.2.2
  let x1 : Int := (↑(List.length v0) : Int)
  cond (decide (v3 < x1)) (
    cond (decide (v3 < 10)) (
      chk ((decide (0 ≤ v3) && decide (v3 < ↑(List.length v0)))) (
        let x2 : Int := (↑(UInt8.toNat (List.getD v0 (Int.toNat v3) 0)) : Int)
        cond (v3 == 9) (
          let x3 : Bool := decide (1 < (IntKind.wrap .u64 x2))
          cond x3 (
            some (.tup [.int .u64 0, .int .i64 0, .int .i64 2], [])) (
            let x4 : Int := (Int.tmod (IntKind.wrap .u64 x2) 128)
            let x5 : Int := (IntKind.wrap .i64 (7 * v3))
            chk (decide (0 ≤ x5)) (
              let x6 : Int := (bitsI .or .u64 v2 (shlI .u64 x4 x5))
              let x7 : Int := (IntKind.wrap .i64 (v3 + 1))
              let x8 : Bool := decide ((IntKind.wrap .u64 x2) < 128)
              cond x8 (
                some (.tup [.int .u64 x6, .int .i64 x7, .int .i64 0], [])) (
                again0 (v0, x6, x7))))) (
          let x9 : Int := (Int.tmod (IntKind.wrap .u64 x2) 128)
          let x10 : Int := (IntKind.wrap .i64 (7 * v3))
          chk (decide (0 ≤ x10)) (
            let x11 : Int := (bitsI .or .u64 v2 (shlI .u64 x9 x10))
            let x12 : Int := (IntKind.wrap .i64 (v3 + 1))
            let x13 : Bool := decide ((IntKind.wrap .u64 x2) < 128)
            cond x13 (
              some (.tup [.int .u64 x11, .int .i64 x12, .int .i64 0], [])) (
              again0 (v0, x11, x12)))))) (
      some (.tup [.int .u64 0, .int .i64 0, .int .i64 2], []))) (
    some (.tup [.int .u64 0, .int .i64 0, .int .i64 2], []))
theorem FB_rec_Varint_0 (N : Nat) : ∀ (again0 : St → Option (V × List AObj)) (x : (List UInt8 × Int × Int)), F_rec_Varint_0 N again0 (mk_rec_Varint_0 x) = B_rec_Varint_0 N (fun y => again0 (mk_rec_Varint_0 y)) x := by
  intro again0 x
  kernel_rfl
/-- proclitic/rec.Varint -/
def sa_rec_Varint (N : Nat) (p0 : List UInt8) (q0 : (List UInt8 × Int × Int) → Option (V × List AObj)) : Option (V × List AObj) :=
  q0 (p0, 0, 0)
def sh_rec_Varint (N : Nat) (p0 : List UInt8) : Option (V × List AObj) := sa_rec_Varint N p0 (fun z => iterL N (B_rec_Varint_0 N) z)
theorem run_rec_Varint (N : Nat) (p0 : List UInt8) : callF Γ_rec_Varint N 37 rs_rec_Varint ir_rec_Varint [.str p0] [] = sh_rec_Varint N p0 := by
  have h : callF Γ_rec_Varint N 37 rs_rec_Varint ir_rec_Varint [.str p0] [] = sa_rec_Varint N p0 (fun z => loopN N (F_rec_Varint_0 N) (mk_rec_Varint_0 z)) := by kernel_rfl
  have e0 : (fun z => loopN N (F_rec_Varint_0 N) (mk_rec_Varint_0 z)) = (fun z => iterL N (B_rec_Varint_0 N) z) := funext fun z => loop_eq (mk_rec_Varint_0) (F_rec_Varint_0 N) (B_rec_Varint_0 N) (FB_rec_Varint_0 N) N z
  rw [h, e0]
  rfl
theorem ok_rec_Varint (hΓ : SpecOK Try.prog Γ_rec_Varint) (N : Nat) (p0 : List UInt8) {v : V} {hp : List AObj} (h : sh_rec_Varint N p0 = some (v, hp)) : PureOK Try.prog i_rec_Varint [.str p0] v := by
  have hc := chk_rec_Varint
  simp only [Bool.and_eq_true] at hc
  exact ⟨hp, fnOK_of hΓ pureS_rec_Varint Try.func11 body_rec_Varint hc.1 hc.2 (by decide) ((run_rec_Varint N p0).trans h)⟩

def G_ref1_Varint : Nat → List V → Option (Bool × V) := fun _ _ => none
def Γ_ref1_Varint : ASpec := liftG G_ref1_Varint
theorem pureS_ref1_Varint : PureS Γ_ref1_Varint [] := liftG_pure _ _
theorem spec_ref1_Varint : SpecOK Try.prog Γ_ref1_Varint := by
  intro f vs hp v hp' h
  obtain ⟨h, -⟩ := liftG_inv h
  simp [G_ref1_Varint] at h
def ir_ref1_Varint_0 : IR := (.cond (.t 9) .skip (.exit 0))
def ir_ref1_Varint_1 : IR := (.cond (.t 15) (.exit 0) .skip)
def ir_ref1_Varint_2 : IR := (.cond (.t 25) (.exit 0) .skip)
def ir_ref1_Varint_3 : IR := .ret
def ir_ref1_Varint_4 : IR := (.cond (.t 34) (.seq (.reg [⟨none, .mov 35 (.t 5)⟩,
    ⟨none, .mov 36 (.t 6)⟩,
    ⟨none, .bin 37 .add (.t 36) (.c (.int .i64 1))⟩,
    ⟨none, .mov 2 (.t 35)⟩,
    ⟨none, .mov 3 (.t 37)⟩,
    ⟨none, .mov 4 (.c (.int .i64 0))⟩] []) ir_ref1_Varint_3) .skip)
def ir_ref1_Varint_5 : IR := (.seq (.reg [⟨none, .mov 33 (.t 7)⟩,
    ⟨none, .bin 34 .lss (.t 33) (.c (.int .u64 128))⟩] []) ir_ref1_Varint_4)
def ir_ref1_Varint_6 : IR := (.seq (.reg [⟨none, .mov 26 (.t 5)⟩,
    ⟨none, .mov 27 (.t 7)⟩,
    ⟨none, .bin 28 .rem (.t 27) (.c (.int .u64 128))⟩,
    ⟨none, .mov 29 (.t 6)⟩,
    ⟨none, .bin 30 .mul (.c (.int .i64 7)) (.t 29)⟩,
    ⟨none, .bin 31 .shl (.t 28) (.t 30)⟩,
    ⟨none, .bin 32 .or (.t 26) (.t 31)⟩,
    ⟨none, .mov 5 (.t 32)⟩] []) ir_ref1_Varint_5)
def ir_ref1_Varint_7 : IR := (.seq (.seq (.reg [⟨none, .mov 20 (.t 6)⟩,
    ⟨none, .bin 21 .eql (.t 20) (.c (.int .i64 9))⟩,
    ⟨none, .mov 22 (.t 21)⟩,
    ⟨some (22, true), .mov 23 (.t 7)⟩,
    ⟨some (22, true), .bin 24 .gtr (.t 23) (.c (.int .u64 1))⟩,
    ⟨none, .pick 25 (.t 22) (.t 24) (.c (.bool false))⟩] []) ir_ref1_Varint_2) ir_ref1_Varint_6)
def ir_ref1_Varint_8 : IR := (.seq (.reg [⟨none, .mov 16 (.t 0)⟩,
    ⟨none, .mov 17 (.t 6)⟩,
    ⟨none, .idx 18 (.t 16) (.t 17)⟩,
    ⟨none, .cvi 19 .u64 (.t 18)⟩,
    ⟨none, .mov 7 (.t 19)⟩] []) ir_ref1_Varint_7)
def ir_ref1_Varint_9 : IR := (.reg [⟨none, .mov 10 (.t 6)⟩,
    ⟨none, .bin 11 .add (.t 10) (.c (.int .i64 1))⟩,
    ⟨none, .mov 6 (.t 11)⟩] [])
def ir_ref1_Varint_10 : IR := (.seq (.block 1 (.seq (.seq (.reg [⟨none, .mov 12 (.t 6)⟩,
    ⟨none, .mov 13 (.t 0)⟩,
    ⟨none, .lens 14 (.t 13)⟩,
    ⟨none, .bin 15 .eql (.t 12) (.t 14)⟩] []) ir_ref1_Varint_1) ir_ref1_Varint_8)) ir_ref1_Varint_9)
def ir_ref1_Varint_11 : IR := (.seq (.seq (.reg [⟨none, .mov 8 (.t 6)⟩,
    ⟨none, .bin 9 .lss (.t 8) (.c (.int .i64 10))⟩] []) ir_ref1_Varint_0) ir_ref1_Varint_10)
def ir_ref1_Varint_12 : IR := (.block 0 (.loop [0, 5, 6] 0 ir_ref1_Varint_11))
def ir_ref1_Varint_13 : IR := .ret
def ir_ref1_Varint_14 : IR := (.seq (.reg [⟨none, .mov 2 (.c (.int .u64 0))⟩,
    ⟨none, .mov 3 (.c (.int .i64 0))⟩,
    ⟨none, .mov 4 (.c (.int .i64 2))⟩] []) ir_ref1_Varint_13)
def ir_ref1_Varint_15 : IR := (.seq (.seq (.reg [⟨none, .mov 6 (.c (.int .i64 0))⟩] []) ir_ref1_Varint_12) ir_ref1_Varint_14)
def ir_ref1_Varint_16 : IR := (.seq (.reg [⟨none, .mov 5 (.c (.int .u64 0))⟩] []) ir_ref1_Varint_15)
def ir_ref1_Varint : IR := (.seq (.reg [⟨none, .mov 2 (.c (.int .u64 0))⟩,
    ⟨none, .mov 3 (.c (.int .i64 0))⟩,
    ⟨none, .mov 4 (.c (.int .i64 0))⟩] []) ir_ref1_Varint_16)
def rs_ref1_Varint : List RV := [.t 2, .t 3, .t 4]
theorem chk_ref1_Varint : (chkCode Try.prog [] 0 ir_ref1_Varint (Try.f12.body.getD .skip) && chkRes Try.prog rs_ref1_Varint Try.f12.results.toList) = true := by kernel_rfl
theorem body_ref1_Varint : Try.f12.body = some (Try.f12.body.getD .skip) := by kernel_rfl
def mk_ref1_Varint_0 (x : (List UInt8 × Int × Int)) : St := { env := [.str x.1, .undef, .undef, .undef, .undef, .int .u64 x.2.1, .int .i64 x.2.2, .undef, .undef, .undef, .undef, .undef, .undef, .undef, .undef, .undef, .undef, .undef, .undef, .undef, .undef, .undef, .undef, .undef, .undef, .undef, .undef, .undef, .undef, .undef, .undef, .undef, .undef, .undef, .undef, .undef, .undef, .undef], hp := [] }
def F_ref1_Varint_0 (N : Nat) : (St → Option (V × List AObj)) → St → Option (V × List AObj) := fun again0 s => run Γ_ref1_Varint N ir_ref1_Varint_11 (kloop again0 [0, 5, 6] 0 (kblock 0 (kseq (run Γ_ref1_Varint N ir_ref1_Varint_14) (fin rs_ref1_Varint)))) s
def B_ref1_Varint_0 (N : Nat) (again0 : (List UInt8 × Int × Int) → Option (V × List AObj)) (x : (List UInt8 × Int × Int)) : Option (V × List AObj) :=
  let v0 : List UInt8 := x.1
  let v5 : Int := x.2.1
  let v6 : Int := x.2.2
  cond (decide (v6 < 10)) (
    let x1 : Int := (↑(List.length v0) : Int)
    cond (v6 == x1) (
      some (.tup [.int .u64 0, .int .i64 0, .int .i64 2], [])) (
      chk ((decide (0 ≤ v6) && decide (v6 < ↑(List.length v0)))) (
        let x2 : Int := (↑(UInt8.toNat (List.getD v0 (Int.toNat v6) 0)) : Int)
        cond (v6 == 9) (
          let x3 : Bool := decide (1 < (IntKind.wrap .u64 x2))
          cond x3 (
            some (.tup [.int .u64 0, .int .i64 0, .int .i64 2], [])) (
            let x4 : Int := (Int.tmod (IntKind.wrap .u64 x2) 128)
            let x5 : Int := (IntKind.wrap .i64 (7 * v6))
            chk (decide (0 ≤ x5)) (
              let x6 : Int := (bitsI .or .u64 v5 (shlI .u64 x4 x5))
              let x7 : Bool := decide ((IntKind.wrap .u64 x2) < 128)
              cond x7 (
                let x8 : Int := (IntKind.wrap .i64 (v6 + 1))
                some (.tup [.int .u64 x6, .int .i64 x8, .int .i64 0], [])) (
                let x9 : Int := (IntKind.wrap .i64 (v6 + 1))
                again0 (v0, x6, x9))))) (
          let x10 : Int := (Int.tmod (IntKind.wrap .u64 x2) 128)
          let x11 : Int := (IntKind.wrap .i64 (7 * v6))
          chk (decide (0 ≤ x11)) (
            let x12 : Int := (bitsI .or .u64 v5 (shlI .u64 x10 x11))
            let x13 : Bool := decide ((IntKind.wrap .u64 x2) < 128)
            cond x13 (
              let x14 : Int := (IntKind.wrap .i64 (v6 + 1))
              some (.tup [.int .u64 x12, .int .i64 x14, .int .i64 0], [])) (
              let x15 : Int := (IntKind.wrap .i64 (v6 + 1))
              again0 (v0, x12, x15))))))) (
    some (.tup [.int .u64 0, .int .i64 0, .int .i64 2], []))
theorem FB_ref1_Varint_0 (N : Nat) : ∀ (again0 : St → Option (V × List AObj)) (x : (List UInt8 × Int × Int)), F_ref1_Varint_0 N again0 (mk_ref1_Varint_0 x) = B_ref1_Varint_0 N (fun y => again0 (mk_ref1_Varint_0 y)) x := by
  intro again0 x
  kernel_rfl
/-- proclitic/procliticref1.Varint -/
def sa_ref1_Varint (N : Nat) (p0 : List UInt8) (q0 : (List UInt8 × Int × Int) → Option (V × List AObj)) : Option (V × List AObj) :=
  q0 (p0, 0, 0)
def sh_ref1_Varint (N : Nat) (p0 : List UInt8) : Option (V × List AObj) := sa_ref1_Varint N p0 (fun z => iterL N (B_ref1_Varint_0 N) z)
theorem run_ref1_Varint (N : Nat) (p0 : List UInt8) : callF Γ_ref1_Varint N 38 rs_ref1_Varint ir_ref1_Varint [.str p0] [] = sh_ref1_Varint N p0 := by
  have h : callF Γ_ref1_Varint N 38 rs_ref1_Varint ir_ref1_Varint [.str p0] [] = sa_ref1_Varint N p0 (fun z => loopN N (F_ref1_Varint_0 N) (mk_ref1_Varint_0 z)) := by kernel_rfl
  have e0 : (fun z => loopN N (F_ref1_Varint_0 N) (mk_ref1_Varint_0 z)) = (fun z => iterL N (B_ref1_Varint_0 N) z) := funext fun z => loop_eq (mk_ref1_Varint_0) (F_ref1_Varint_0 N) (B_ref1_Varint_0 N) (FB_ref1_Varint_0 N) N z
  rw [h, e0]
  rfl
theorem ok_ref1_Varint (hΓ : SpecOK Try.prog Γ_ref1_Varint) (N : Nat) (p0 : List UInt8) {v : V} {hp : List AObj} (h : sh_ref1_Varint N p0 = some (v, hp)) : PureOK Try.prog i_ref1_Varint [.str p0] v := by
  have hc := chk_ref1_Varint
  simp only [Bool.and_eq_true] at hc
  exact ⟨hp, fnOK_of hΓ pureS_ref1_Varint Try.func12 body_ref1_Varint hc.1 hc.2 (by decide) ((run_ref1_Varint N p0).trans h)⟩

def G_rec_PutVarint : Nat → List V → Option (Bool × V) := fun _ _ => none
def Γ_rec_PutVarint : ASpec := liftG G_rec_PutVarint
theorem pureS_rec_PutVarint : PureS Γ_rec_PutVarint [] := liftG_pure _ _
theorem spec_rec_PutVarint : SpecOK Try.prog Γ_rec_PutVarint := by
  intro f vs hp v hp' h
  obtain ⟨h, -⟩ := liftG_inv h
  simp [G_rec_PutVarint] at h
def ir_rec_PutVarint_0 : IR := (.cond (.t 5) .skip (.exit 0))
def ir_rec_PutVarint_1 : IR := (.reg [⟨none, .mov 13 (.t 0)⟩,
    ⟨none, .bin 14 .shr (.t 13) (.c (.int .u64 7))⟩,
    ⟨none, .mov 0 (.t 14)⟩] [])
def ir_rec_PutVarint_2 : IR := (.block 1 (.seq (.reg [⟨none, .mov 6 (.tk 3)⟩,
    ⟨none, .mov 7 (.t 0)⟩,
    ⟨none, .bin 8 .rem (.t 7) (.c (.int .u64 128))⟩,
    ⟨none, .bin 9 .add (.t 8) (.c (.int .u64 128))⟩,
    ⟨none, .cvi 10 .u8 (.t 9)⟩,
    ⟨none, .bsl 11 .u8 [(.t 10)]⟩,
    ⟨none, .app 12 .u8 (.tk 6) (.t 11)⟩,
    ⟨none, .mov 3 (.tk 12)⟩] []) ir_rec_PutVarint_1))
def ir_rec_PutVarint_3 : IR := (.seq (.seq (.reg [⟨none, .mov 4 (.t 0)⟩,
    ⟨none, .bin 5 .geq (.t 4) (.c (.int .u64 128))⟩] []) ir_rec_PutVarint_0) ir_rec_PutVarint_2)
def ir_rec_PutVarint_4 : IR := .ret
def ir_rec_PutVarint_5 : IR := (.seq (.reg [⟨none, .mov 15 (.tk 3)⟩,
    ⟨none, .mov 16 (.t 0)⟩,
    ⟨none, .cvi 17 .u8 (.t 16)⟩,
    ⟨none, .bsl 18 .u8 [(.t 17)]⟩,
    ⟨none, .app 19 .u8 (.tk 15) (.t 18)⟩,
    ⟨none, .b2s 20 (.t 19)⟩,
    ⟨none, .mov 2 (.t 20)⟩] []) ir_rec_PutVarint_4)
def ir_rec_PutVarint_6 : IR := (.seq (.block 0 (.loop [0, 3] 0 ir_rec_PutVarint_3)) ir_rec_PutVarint_5)
def ir_rec_PutVarint_7 : IR := (.seq (.reg [⟨none, .mov 3 (.c (.sl .u8 true ([] : List UInt8)))⟩] []) ir_rec_PutVarint_6)
def ir_rec_PutVarint : IR := (.seq (.reg [⟨none, .mov 2 (.c (.str ([] : List UInt8)))⟩] []) ir_rec_PutVarint_7)
def rs_rec_PutVarint : List RV := [.t 2]
theorem chk_rec_PutVarint : (chkCode Try.prog [] 0 ir_rec_PutVarint (Try.f13.body.getD .skip) && chkRes Try.prog rs_rec_PutVarint Try.f13.results.toList) = true := by kernel_rfl
theorem body_rec_PutVarint : Try.f13.body = some (Try.f13.body.getD .skip) := by kernel_rfl
def mk_rec_PutVarint_0 (x : (Int × List UInt8)) : St := { env := [.int .u64 x.1, .undef, .undef, .sl .u8 true x.2, .undef, .undef, .undef, .undef, .undef, .undef, .undef, .undef, .undef, .undef, .undef, .undef, .undef, .undef, .undef, .undef, .undef], hp := [] }
def F_rec_PutVarint_0 (N : Nat) : (St → Option (V × List AObj)) → St → Option (V × List AObj) := fun again0 s => run Γ_rec_PutVarint N ir_rec_PutVarint_3 (kloop again0 [0, 3] 0 (kblock 0 (kseq (run Γ_rec_PutVarint N ir_rec_PutVarint_5) (fin rs_rec_PutVarint)))) s
def B_rec_PutVarint_0 (N : Nat) (again0 : (Int × List UInt8) → Option (V × List AObj)) (x : (Int × List UInt8)) : Option (V × List AObj) :=
  let v0 : Int := x.1
  let v3 : List UInt8 := x.2
  cond (decide (128 ≤ v0)) (
    let x1 : Int := (IntKind.wrap .u64 ((Int.tmod v0 128) + 128))
    chk (decide ((List.length v3 + List.length ([(UInt8.ofNat (Int.toNat (IntKind.wrap .u8 x1)))] : List UInt8)) * 1 ≤ 140737488355328)) (
      let x2 : List UInt8 := (v3 ++ ([(UInt8.ofNat (Int.toNat (IntKind.wrap .u8 x1)))] : List UInt8))
      again0 ((shrI .u64 v0 7), x2))) (
    chk (decide ((List.length v3 + List.length ([(UInt8.ofNat (Int.toNat (IntKind.wrap .u8 v0)))] : List UInt8)) * 1 ≤ 140737488355328)) (
      let x3 : List UInt8 := (v3 ++ ([(UInt8.ofNat (Int.toNat (IntKind.wrap .u8 v0)))] : List UInt8))
      some (.str x3, [])))
theorem FB_rec_PutVarint_0 (N : Nat) : ∀ (again0 : St → Option (V × List AObj)) (x : (Int × List UInt8)), F_rec_PutVarint_0 N again0 (mk_rec_PutVarint_0 x) = B_rec_PutVarint_0 N (fun y => again0 (mk_rec_PutVarint_0 y)) x := by
  intro again0 x
  kernel_rfl
/-- proclitic/rec.PutVarint -/
def sa_rec_PutVarint (N : Nat) (p0 : Int) (q0 : (Int × List UInt8) → Option (V × List AObj)) : Option (V × List AObj) :=
  q0 (p0, ([] : List UInt8))
def sh_rec_PutVarint (N : Nat) (p0 : Int) : Option (V × List AObj) := sa_rec_PutVarint N p0 (fun z => iterL N (B_rec_PutVarint_0 N) z)
theorem run_rec_PutVarint (N : Nat) (p0 : Int) : callF Γ_rec_PutVarint N 21 rs_rec_PutVarint ir_rec_PutVarint [.int .u64 p0] [] = sh_rec_PutVarint N p0 := by
  have h : callF Γ_rec_PutVarint N 21 rs_rec_PutVarint ir_rec_PutVarint [.int .u64 p0] [] = sa_rec_PutVarint N p0 (fun z => loopN N (F_rec_PutVarint_0 N) (mk_rec_PutVarint_0 z)) := by kernel_rfl
  have e0 : (fun z => loopN N (F_rec_PutVarint_0 N) (mk_rec_PutVarint_0 z)) = (fun z => iterL N (B_rec_PutVarint_0 N) z) := funext fun z => loop_eq (mk_rec_PutVarint_0) (F_rec_PutVarint_0 N) (B_rec_PutVarint_0 N) (FB_rec_PutVarint_0 N) N z
  rw [h, e0]
  rfl
theorem ok_rec_PutVarint (hΓ : SpecOK Try.prog Γ_rec_PutVarint) (N : Nat) (p0 : Int) {v : V} {hp : List AObj} (h : sh_rec_PutVarint N p0 = some (v, hp)) : PureOK Try.prog i_rec_PutVarint [.int .u64 p0] v := by
  have hc := chk_rec_PutVarint
  simp only [Bool.and_eq_true] at hc
  exact ⟨hp, fnOK_of hΓ pureS_rec_PutVarint Try.func13 body_rec_PutVarint hc.1 hc.2 (by decide) ((run_rec_PutVarint N p0).trans h)⟩

def G_rec_size : Nat → List V → Option (Bool × V) := fun _ _ => none
def Γ_rec_size : ASpec := liftG G_rec_size
theorem pureS_rec_size : PureS Γ_rec_size [] := liftG_pure _ _
theorem spec_rec_size : SpecOK Try.prog Γ_rec_size := by
  intro f vs hp v hp' h
  obtain ⟨h, -⟩ := liftG_inv h
  simp [G_rec_size] at h
def ir_rec_size_0 : IR := .ret
def ir_rec_size_1 : IR := (.cond (.t 4) (.seq (.reg [⟨none, .mov 2 (.c (.int .i64 8))⟩] []) ir_rec_size_0) .skip)
def ir_rec_size_2 : IR := .ret
def ir_rec_size_3 : IR := (.seq (.reg [⟨none, .mov 2 (.c (.int .i64 4))⟩] []) ir_rec_size_2)
def ir_rec_size_4 : IR := (.seq (.seq (.reg [⟨none, .mov 3 (.t 0)⟩,
    ⟨none, .bin 4 .eql (.t 3) (.c (.int .i64 1))⟩] []) ir_rec_size_1) ir_rec_size_3)
def ir_rec_size : IR := (.seq (.reg [⟨none, .mov 2 (.c (.int .i64 0))⟩] []) ir_rec_size_4)
def rs_rec_size : List RV := [.t 2]
theorem chk_rec_size : (chkCode Try.prog [] 0 ir_rec_size (Try.f24.body.getD .skip) && chkRes Try.prog rs_rec_size Try.f24.results.toList) = true := by kernel_rfl
theorem body_rec_size : Try.f24.body = some (Try.f24.body.getD .skip) := by kernel_rfl
/-- proclitic/rec.size -/
def sa_rec_size (N : Nat) (p0 : Int)  : Option (V × List AObj) :=
  cond (p0 == 1) (
    some (.int .i64 8, [])) (
    some (.int .i64 4, []))
def sh_rec_size (N : Nat) (p0 : Int) : Option (V × List AObj) := sa_rec_size N p0
theorem run_rec_size (N : Nat) (p0 : Int) : callF Γ_rec_size N 5 rs_rec_size ir_rec_size [.int .i64 p0] [] = sh_rec_size N p0 := by kernel_rfl
theorem ok_rec_size (hΓ : SpecOK Try.prog Γ_rec_size) (N : Nat) (p0 : Int) {v : V} {hp : List AObj} (h : sh_rec_size N p0 = some (v, hp)) : PureOK Try.prog i_rec_size [.int .i64 p0] v := by
  have hc := chk_rec_size
  simp only [Bool.and_eq_true] at hc
  exact ⟨hp, fnOK_of hΓ pureS_rec_size Try.func24 body_rec_size hc.1 hc.2 (by decide) ((run_rec_size N p0).trans h)⟩

def G_rec_fixed : Nat → List V → Option (Bool × V) := fun _ _ => none
def Γ_rec_fixed : ASpec := liftG G_rec_fixed
theorem pureS_rec_fixed : PureS Γ_rec_fixed [] := liftG_pure _ _
theorem spec_rec_fixed : SpecOK Try.prog Γ_rec_fixed := by
  intro f vs hp v hp' h
  obtain ⟨h, -⟩ := liftG_inv h
  simp [G_rec_fixed] at h
def ir_rec_fixed_0 : IR := (.cond (.t 8) .skip (.exit 0))
def ir_rec_fixed_1 : IR := (.reg [⟨none, .mov 9 (.t 3)⟩,
    ⟨none, .bin 10 .sub (.t 9) (.c (.int .i64 1))⟩,
    ⟨none, .mov 3 (.t 10)⟩] [])
def ir_rec_fixed_2 : IR := (.seq (.block 1 (.reg [⟨none, .mov 11 (.t 2)⟩,
    ⟨none, .bin 12 .shl (.t 11) (.c (.int .u64 8))⟩,
    ⟨none, .mov 13 (.t 0)⟩,
    ⟨none, .mov 14 (.t 3)⟩,
    ⟨none, .idx 15 (.t 13) (.t 14)⟩,
    ⟨none, .cvi 16 .u64 (.t 15)⟩,
    ⟨none, .bin 17 .or (.t 12) (.t 16)⟩,
    ⟨none, .mov 2 (.t 17)⟩] [])) ir_rec_fixed_1)
def ir_rec_fixed_3 : IR := (.seq (.seq (.reg [⟨none, .mov 7 (.t 3)⟩,
    ⟨none, .bin 8 .geq (.t 7) (.c (.int .i64 0))⟩] []) ir_rec_fixed_0) ir_rec_fixed_2)
def ir_rec_fixed_4 : IR := (.block 0 (.loop [0, 2, 3] 0 ir_rec_fixed_3))
def ir_rec_fixed_5 : IR := .ret
def ir_rec_fixed_6 : IR := (.seq (.reg [⟨none, .mov 18 (.t 2)⟩,
    ⟨none, .mov 2 (.t 18)⟩] []) ir_rec_fixed_5)
def ir_rec_fixed_7 : IR := (.seq (.seq (.reg [⟨none, .mov 4 (.t 0)⟩,
    ⟨none, .lens 5 (.t 4)⟩,
    ⟨none, .bin 6 .sub (.t 5) (.c (.int .i64 1))⟩,
    ⟨none, .mov 3 (.t 6)⟩] []) ir_rec_fixed_4) ir_rec_fixed_6)
def ir_rec_fixed : IR := (.seq (.reg [⟨none, .mov 2 (.c (.int .u64 0))⟩] []) ir_rec_fixed_7)
def rs_rec_fixed : List RV := [.t 2]
theorem chk_rec_fixed : (chkCode Try.prog [] 0 ir_rec_fixed (Try.f28.body.getD .skip) && chkRes Try.prog rs_rec_fixed Try.f28.results.toList) = true := by kernel_rfl
theorem body_rec_fixed : Try.f28.body = some (Try.f28.body.getD .skip) := by kernel_rfl
def mk_rec_fixed_0 (x : (List UInt8 × Int × Int)) : St := { env := [.str x.1, .undef, .int .u64 x.2.1, .int .i64 x.2.2, .undef, .undef, .undef, .undef, .undef, .undef, .undef, .undef, .undef, .undef, .undef, .undef, .undef, .undef, .undef], hp := [] }
def F_rec_fixed_0 (N : Nat) : (St → Option (V × List AObj)) → St → Option (V × List AObj) := fun again0 s => run Γ_rec_fixed N ir_rec_fixed_3 (kloop again0 [0, 2, 3] 0 (kblock 0 (kseq (run Γ_rec_fixed N ir_rec_fixed_6) (fin rs_rec_fixed)))) s
def B_rec_fixed_0 (N : Nat) (again0 : (List UInt8 × Int × Int) → Option (V × List AObj)) (x : (List UInt8 × Int × Int)) : Option (V × List AObj) :=
  let v0 : List UInt8 := x.1
  let v2 : Int := x.2.1
  let v3 : Int := x.2.2
  cond (decide (0 ≤ v3)) (
    chk ((decide (0 ≤ v3) && decide (v3 < ↑(List.length v0)))) (
      let x3 : Int := (↑(UInt8.toNat (List.getD v0 (Int.toNat v3) 0)) : Int)
      let x4 : Int := (bitsI .or .u64 (shlI .u64 v2 8) (IntKind.wrap .u64 x3))
      let x5 : Int := (IntKind.wrap .i64 (v3 - 1))
      again0 (v0, x4, x5))) (
    some (.int .u64 v2, []))
theorem FB_rec_fixed_0 (N : Nat) : ∀ (again0 : St → Option (V × List AObj)) (x : (List UInt8 × Int × Int)), F_rec_fixed_0 N again0 (mk_rec_fixed_0 x) = B_rec_fixed_0 N (fun y => again0 (mk_rec_fixed_0 y)) x := by
  intro again0 x
  kernel_rfl
/-- proclitic/rec.fixed -/
def sa_rec_fixed (N : Nat) (p0 : List UInt8) (q0 : (List UInt8 × Int × Int) → Option (V × List AObj)) : Option (V × List AObj) :=
  let x1 : Int := (↑(List.length p0) : Int)
  let x2 : Int := (IntKind.wrap .i64 (x1 - 1))
  q0 (p0, 0, x2)
def sh_rec_fixed (N : Nat) (p0 : List UInt8) : Option (V × List AObj) := sa_rec_fixed N p0 (fun z => iterL N (B_rec_fixed_0 N) z)
theorem run_rec_fixed (N : Nat) (p0 : List UInt8) : callF Γ_rec_fixed N 19 rs_rec_fixed ir_rec_fixed [.str p0] [] = sh_rec_fixed N p0 := by
  have h : callF Γ_rec_fixed N 19 rs_rec_fixed ir_rec_fixed [.str p0] [] = sa_rec_fixed N p0 (fun z => loopN N (F_rec_fixed_0 N) (mk_rec_fixed_0 z)) := by kernel_rfl
  have e0 : (fun z => loopN N (F_rec_fixed_0 N) (mk_rec_fixed_0 z)) = (fun z => iterL N (B_rec_fixed_0 N) z) := funext fun z => loop_eq (mk_rec_fixed_0) (F_rec_fixed_0 N) (B_rec_fixed_0 N) (FB_rec_fixed_0 N) N z
  rw [h, e0]
  rfl
theorem ok_rec_fixed (hΓ : SpecOK Try.prog Γ_rec_fixed) (N : Nat) (p0 : List UInt8) {v : V} {hp : List AObj} (h : sh_rec_fixed N p0 = some (v, hp)) : PureOK Try.prog i_rec_fixed [.str p0] v := by
  have hc := chk_rec_fixed
  simp only [Bool.and_eq_true] at hc
  exact ⟨hp, fnOK_of hΓ pureS_rec_fixed Try.func28 body_rec_fixed hc.1 hc.2 (by decide) ((run_rec_fixed N p0).trans h)⟩

def G_ref1_low : Nat → List V → Option (Bool × V) := fun _ _ => none
def Γ_ref1_low : ASpec := liftG G_ref1_low
theorem pureS_ref1_low : PureS Γ_ref1_low [] := liftG_pure _ _
theorem spec_ref1_low : SpecOK Try.prog Γ_ref1_low := by
  intro f vs hp v hp' h
  obtain ⟨h, -⟩ := liftG_inv h
  simp [G_ref1_low] at h
def ir_ref1_low_0 : IR := (.cond (.t 9) .skip (.exit 0))
def ir_ref1_low_1 : IR := (.reg [⟨none, .mov 10 (.t 4)⟩,
    ⟨none, .bin 11 .sub (.t 10) (.c (.int .i64 1))⟩,
    ⟨none, .mov 4 (.t 11)⟩] [])
def ir_ref1_low_2 : IR := (.seq (.block 1 (.reg [⟨none, .mov 12 (.t 3)⟩,
    ⟨none, .bin 13 .mul (.t 12) (.c (.int .u64 256))⟩,
    ⟨none, .mov 14 (.t 0)⟩,
    ⟨none, .mov 15 (.t 4)⟩,
    ⟨none, .idx 16 (.t 14) (.t 15)⟩,
    ⟨none, .cvi 17 .u64 (.t 16)⟩,
    ⟨none, .bin 18 .add (.t 13) (.t 17)⟩,
    ⟨none, .mov 3 (.t 18)⟩] [])) ir_ref1_low_1)
def ir_ref1_low_3 : IR := (.seq (.seq (.reg [⟨none, .mov 8 (.t 4)⟩,
    ⟨none, .bin 9 .geq (.t 8) (.c (.int .i64 0))⟩] []) ir_ref1_low_0) ir_ref1_low_2)
def ir_ref1_low_4 : IR := (.block 0 (.loop [0, 3, 4] 0 ir_ref1_low_3))
def ir_ref1_low_5 : IR := .ret
def ir_ref1_low_6 : IR := (.seq (.reg [⟨none, .mov 19 (.t 3)⟩,
    ⟨none, .mov 2 (.t 19)⟩] []) ir_ref1_low_5)
def ir_ref1_low_7 : IR := (.seq (.seq (.reg [⟨none, .mov 5 (.t 0)⟩,
    ⟨none, .lens 6 (.t 5)⟩,
    ⟨none, .bin 7 .sub (.t 6) (.c (.int .i64 1))⟩,
    ⟨none, .mov 4 (.t 7)⟩] []) ir_ref1_low_4) ir_ref1_low_6)
def ir_ref1_low_8 : IR := (.seq (.reg [⟨none, .mov 3 (.c (.int .u64 0))⟩] []) ir_ref1_low_7)
def ir_ref1_low : IR := (.seq (.reg [⟨none, .mov 2 (.c (.int .u64 0))⟩] []) ir_ref1_low_8)
def rs_ref1_low : List RV := [.t 2]
theorem chk_ref1_low : (chkCode Try.prog [] 0 ir_ref1_low (Try.f23.body.getD .skip) && chkRes Try.prog rs_ref1_low Try.f23.results.toList) = true := by kernel_rfl
theorem body_ref1_low : Try.f23.body = some (Try.f23.body.getD .skip) := by kernel_rfl
def mk_ref1_low_0 (x : (List UInt8 × Int × Int)) : St := { env := [.str x.1, .undef, .undef, .int .u64 x.2.1, .int .i64 x.2.2, .undef, .undef, .undef, .undef, .undef, .undef, .undef, .undef, .undef, .undef, .undef, .undef, .undef, .undef, .undef], hp := [] }
def F_ref1_low_0 (N : Nat) : (St → Option (V × List AObj)) → St → Option (V × List AObj) := fun again0 s => run Γ_ref1_low N ir_ref1_low_3 (kloop again0 [0, 3, 4] 0 (kblock 0 (kseq (run Γ_ref1_low N ir_ref1_low_6) (fin rs_ref1_low)))) s
def B_ref1_low_0 (N : Nat) (again0 : (List UInt8 × Int × Int) → Option (V × List AObj)) (x : (List UInt8 × Int × Int)) : Option (V × List AObj) :=
  let v0 : List UInt8 := x.1
  let v3 : Int := x.2.1
  let v4 : Int := x.2.2
  cond (decide (0 ≤ v4)) (
    let x3 : Int := (IntKind.wrap .u64 (v3 * 256))
    chk ((decide (0 ≤ v4) && decide (v4 < ↑(List.length v0)))) (
      let x4 : Int := (↑(UInt8.toNat (List.getD v0 (Int.toNat v4) 0)) : Int)
      let x5 : Int := (IntKind.wrap .u64 (x3 + (IntKind.wrap .u64 x4)))
      let x6 : Int := (IntKind.wrap .i64 (v4 - 1))
      again0 (v0, x5, x6))) (
    some (.int .u64 v3, []))
theorem FB_ref1_low_0 (N : Nat) : ∀ (again0 : St → Option (V × List AObj)) (x : (List UInt8 × Int × Int)), F_ref1_low_0 N again0 (mk_ref1_low_0 x) = B_ref1_low_0 N (fun y => again0 (mk_ref1_low_0 y)) x := by
  intro again0 x
  kernel_rfl
/-- proclitic/procliticref1.low -/
def sa_ref1_low (N : Nat) (p0 : List UInt8) (q0 : (List UInt8 × Int × Int) → Option (V × List AObj)) : Option (V × List AObj) :=
  let x1 : Int := (↑(List.length p0) : Int)
  let x2 : Int := (IntKind.wrap .i64 (x1 - 1))
  q0 (p0, 0, x2)
def sh_ref1_low (N : Nat) (p0 : List UInt8) : Option (V × List AObj) := sa_ref1_low N p0 (fun z => iterL N (B_ref1_low_0 N) z)
theorem run_ref1_low (N : Nat) (p0 : List UInt8) : callF Γ_ref1_low N 20 rs_ref1_low ir_ref1_low [.str p0] [] = sh_ref1_low N p0 := by
  have h : callF Γ_ref1_low N 20 rs_ref1_low ir_ref1_low [.str p0] [] = sa_ref1_low N p0 (fun z => loopN N (F_ref1_low_0 N) (mk_ref1_low_0 z)) := by kernel_rfl
  have e0 : (fun z => loopN N (F_ref1_low_0 N) (mk_ref1_low_0 z)) = (fun z => iterL N (B_ref1_low_0 N) z) := funext fun z => loop_eq (mk_ref1_low_0) (F_ref1_low_0 N) (B_ref1_low_0 N) (FB_ref1_low_0 N) N z
  rw [h, e0]
  rfl
theorem ok_ref1_low (hΓ : SpecOK Try.prog Γ_ref1_low) (N : Nat) (p0 : List UInt8) {v : V} {hp : List AObj} (h : sh_ref1_low N p0 = some (v, hp)) : PureOK Try.prog i_ref1_low [.str p0] v := by
  have hc := chk_ref1_low
  simp only [Bool.and_eq_true] at hc
  exact ⟨hp, fnOK_of hΓ pureS_ref1_low Try.func23 body_ref1_low hc.1 hc.2 (by decide) ((run_ref1_low N p0).trans h)⟩

def G_ref1_Low : Nat → List V → Option (Bool × V) := fun _ _ => none
def Γ_ref1_Low : ASpec := liftG G_ref1_Low
theorem pureS_ref1_Low : PureS Γ_ref1_Low [] := liftG_pure _ _
theorem spec_ref1_Low : SpecOK Try.prog Γ_ref1_Low := by
  intro f vs hp v hp' h
  obtain ⟨h, -⟩ := liftG_inv h
  simp [G_ref1_Low] at h
def ir_ref1_Low_0 : IR := (.cond (.t 9) .skip (.exit 0))
def ir_ref1_Low_1 : IR := (.reg [⟨none, .mov 19 (.t 0)⟩,
    ⟨none, .bin 20 .quo (.t 19) (.c (.int .u64 256))⟩,
    ⟨none, .mov 0 (.t 20)⟩] [])
def ir_ref1_Low_2 : IR := (.reg [⟨none, .mov 10 (.t 6)⟩,
    ⟨none, .bin 11 .add (.t 10) (.c (.int .i64 1))⟩,
    ⟨none, .mov 6 (.t 11)⟩] [])
def ir_ref1_Low_3 : IR := (.seq (.block 1 (.seq (.reg [⟨none, .mov 12 (.t 5)⟩,
    ⟨none, .mov 13 (.t 0)⟩,
    ⟨none, .bin 14 .rem (.t 13) (.c (.int .u64 256))⟩,
    ⟨none, .cvi 15 .u8 (.t 14)⟩,
    ⟨none, .bsl 16 .u8 [(.t 15)]⟩,
    ⟨none, .b2s 17 (.t 16)⟩,
    ⟨none, .bin 18 .add (.t 12) (.t 17)⟩,
    ⟨none, .mov 5 (.t 18)⟩] []) ir_ref1_Low_1)) ir_ref1_Low_2)
def ir_ref1_Low_4 : IR := (.seq (.seq (.reg [⟨none, .mov 7 (.t 6)⟩,
    ⟨none, .mov 8 (.t 1)⟩,
    ⟨none, .bin 9 .lss (.t 7) (.t 8)⟩] []) ir_ref1_Low_0) ir_ref1_Low_3)
def ir_ref1_Low_5 : IR := (.block 0 (.loop [0, 1, 5, 6] 0 ir_ref1_Low_4))
def ir_ref1_Low_6 : IR := .ret
def ir_ref1_Low_7 : IR := (.seq (.reg [⟨none, .mov 21 (.t 5)⟩,
    ⟨none, .mov 4 (.t 21)⟩] []) ir_ref1_Low_6)
def ir_ref1_Low_8 : IR := (.seq (.seq (.reg [⟨none, .mov 6 (.c (.int .i64 0))⟩] []) ir_ref1_Low_5) ir_ref1_Low_7)
def ir_ref1_Low_9 : IR := (.seq (.reg [⟨none, .mov 5 (.c (.str ([] : List UInt8)))⟩] []) ir_ref1_Low_8)
def ir_ref1_Low : IR := (.seq (.reg [⟨none, .mov 4 (.c (.str ([] : List UInt8)))⟩] []) ir_ref1_Low_9)
def rs_ref1_Low : List RV := [.t 4]
theorem chk_ref1_Low : (chkCode Try.prog [] 0 ir_ref1_Low (Try.f25.body.getD .skip) && chkRes Try.prog rs_ref1_Low Try.f25.results.toList) = true := by kernel_rfl
theorem body_ref1_Low : Try.f25.body = some (Try.f25.body.getD .skip) := by kernel_rfl
def mk_ref1_Low_0 (x : (Int × Int × List UInt8 × Int)) : St := { env := [.int .u64 x.1, .int .i64 x.2.1, .undef, .undef, .undef, .str x.2.2.1, .int .i64 x.2.2.2, .undef, .undef, .undef, .undef, .undef, .undef, .undef, .undef, .undef, .undef, .undef, .undef, .undef, .undef, .undef], hp := [] }
def F_ref1_Low_0 (N : Nat) : (St → Option (V × List AObj)) → St → Option (V × List AObj) := fun again0 s => run Γ_ref1_Low N ir_ref1_Low_4 (kloop again0 [0, 1, 5, 6] 0 (kblock 0 (kseq (run Γ_ref1_Low N ir_ref1_Low_7) (fin rs_ref1_Low)))) s
def B_ref1_Low_0 (N : Nat) (again0 : (Int × Int × List UInt8 × Int) → Option (V × List AObj)) (x : (Int × Int × List UInt8 × Int)) : Option (V × List AObj) :=
  let v0 : Int := x.1
  let v1 : Int := x.2.1
  let v5 : List UInt8 := x.2.2.1
  let v6 : Int := x.2.2.2
  cond (decide (v6 < v1)) (
    let x1 : Int := (IntKind.wrap .u8 (Int.tmod v0 256))
    chk (decide (List.length v5 + List.length ([(UInt8.ofNat (Int.toNat x1))] : List UInt8) ≤ 9223372036854775807)) (
      let x2 : List UInt8 := (v5 ++ ([(UInt8.ofNat (Int.toNat x1))] : List UInt8))
      let x3 : Int := (IntKind.wrap .u64 (Int.tdiv v0 256))
      let x4 : Int := (IntKind.wrap .i64 (v6 + 1))
      again0 (x3, v1, x2, x4))) (
    some (.str v5, []))
theorem FB_ref1_Low_0 (N : Nat) : ∀ (again0 : St → Option (V × List AObj)) (x : (Int × Int × List UInt8 × Int)), F_ref1_Low_0 N again0 (mk_ref1_Low_0 x) = B_ref1_Low_0 N (fun y => again0 (mk_ref1_Low_0 y)) x := by
  intro again0 x
  kernel_rfl
/-- proclitic/procliticref1.Low -/
def sa_ref1_Low (N : Nat) (p0 : Int) (p1 : Int) (q0 : (Int × Int × List UInt8 × Int) → Option (V × List AObj)) : Option (V × List AObj) :=
  q0 (p0, p1, ([] : List UInt8), 0)
def sh_ref1_Low (N : Nat) (p0 : Int) (p1 : Int) : Option (V × List AObj) := sa_ref1_Low N p0 p1 (fun z => iterL N (B_ref1_Low_0 N) z)
theorem run_ref1_Low (N : Nat) (p0 : Int) (p1 : Int) : callF Γ_ref1_Low N 22 rs_ref1_Low ir_ref1_Low [.int .u64 p0, .int .i64 p1] [] = sh_ref1_Low N p0 p1 := by
  have h : callF Γ_ref1_Low N 22 rs_ref1_Low ir_ref1_Low [.int .u64 p0, .int .i64 p1] [] = sa_ref1_Low N p0 p1 (fun z => loopN N (F_ref1_Low_0 N) (mk_ref1_Low_0 z)) := by kernel_rfl
  have e0 : (fun z => loopN N (F_ref1_Low_0 N) (mk_ref1_Low_0 z)) = (fun z => iterL N (B_ref1_Low_0 N) z) := funext fun z => loop_eq (mk_ref1_Low_0) (F_ref1_Low_0 N) (B_ref1_Low_0 N) (FB_ref1_Low_0 N) N z
  rw [h, e0]
  rfl
theorem ok_ref1_Low (hΓ : SpecOK Try.prog Γ_ref1_Low) (N : Nat) (p0 : Int) (p1 : Int) {v : V} {hp : List AObj} (h : sh_ref1_Low N p0 p1 = some (v, hp)) : PureOK Try.prog i_ref1_Low [.int .u64 p0, .int .i64 p1] v := by
  have hc := chk_ref1_Low
  simp only [Bool.and_eq_true] at hc
  exact ⟨hp, fnOK_of hΓ pureS_ref1_Low Try.func25 body_ref1_Low hc.1 hc.2 (by decide) ((run_ref1_Low N p0 p1).trans h)⟩

def G_rec_one : Nat → List V → Option (Bool × V) := fun f vs => match f, vs with
  | 11, [.str a0] => some (true, .tup [.int .u64 ((vintR a0).1), .int .i64 ((vintR a0).2.1), .int .i64 ((vintR a0).2.2)])
  | 24, [.int .i64 a0] => some (true, .int .i64 (sizeR a0))
  | 28, [.str a0] => some (true, .int .u64 (lowR a0))
  | _, _ => none
def Γ_rec_one : ASpec := liftG G_rec_one
theorem pureS_rec_one : PureS Γ_rec_one [] := liftG_pure _ _
theorem spec_rec_one (h_rec_Varint : ∀ (a0 : List UInt8), PureOK Try.prog i_rec_Varint [.str a0] (.tup [.int .u64 ((vintR a0).1), .int .i64 ((vintR a0).2.1), .int .i64 ((vintR a0).2.2)])) (h_rec_size : ∀ (a0 : Int), PureOK Try.prog i_rec_size [.int .i64 a0] (.int .i64 (sizeR a0))) (h_rec_fixed : ∀ (a0 : List UInt8), PureOK Try.prog i_rec_fixed [.str a0] (.int .u64 (lowR a0))) : SpecOK Try.prog Γ_rec_one := by
  intro f vs hp v hp' h0
  obtain ⟨h, he⟩ := liftG_inv h0
  subst he
  unfold G_rec_one at h
  split at h
  · simp only [Option.some.injEq, Prod.mk.injEq] at h
    obtain ⟨hc, rfl⟩ := h
    exact (h_rec_Varint _).frame rfl rfl _
  · simp only [Option.some.injEq, Prod.mk.injEq] at h
    obtain ⟨hc, rfl⟩ := h
    exact (h_rec_size _).frame rfl rfl _
  · simp only [Option.some.injEq, Prod.mk.injEq] at h
    obtain ⟨hc, rfl⟩ := h
    exact (h_rec_fixed _).frame rfl rfl _
  · simp at h
def ir_rec_one_0 : IR := .ret
def ir_rec_one_1 : IR := (.cond (.t 28) (.seq (.reg [⟨none, .ld 29 5 true false (.t 2)⟩,
    ⟨none, .st none 5 (.t 2) (.t 29)⟩,
    ⟨none, .mov 3 (.c (.int .i64 2))⟩] []) ir_rec_one_0) .skip)
def ir_rec_one_2 : IR := (.cond (.t 44) .skip (.reg [⟨none, .bin 46 .eql (.t 42) (.c (.int .i64 2))⟩,
    ⟨none, .mov 44 (.t 46)⟩] []))
def ir_rec_one_3 : IR := .ret
def ir_rec_one_4 : IR := (.cond (.t 54) (.seq (.reg [⟨none, .bld 55 [.int .i64 0, .int .i64 0, .int .u64 0, .str ([] : List UInt8), .str ([] : List UInt8)] []⟩,
    ⟨none, .mov 56 (.t 9)⟩,
    ⟨none, .st none 5 (.t 2) (.t 55)⟩,
    ⟨none, .mov 3 (.t 56)⟩] []) ir_rec_one_3) .skip)
def ir_rec_one_5 : IR := (.exit 0)
def ir_rec_one_6 : IR := (.cond (.t 65) (.seq (.reg [⟨none, .mov 66 (.t 7)⟩,
    ⟨none, .fad 67 2 (.t 2)⟩,
    ⟨none, .st none 1 (.t 67) (.t 66)⟩] []) ir_rec_one_5) .skip)
def ir_rec_one_7 : IR := .ret
def ir_rec_one_8 : IR := (.cond (.t 72) (.seq (.reg [⟨none, .bld 73 [.int .i64 0, .int .i64 0, .int .u64 0, .str ([] : List UInt8), .str ([] : List UInt8)] []⟩,
    ⟨none, .st none 5 (.t 2) (.t 73)⟩,
    ⟨none, .mov 3 (.c (.int .i64 2))⟩] []) ir_rec_one_7) .skip)
def ir_rec_one_9 : IR := (.reg [⟨none, .mov 78 (.t 5)⟩,
    ⟨none, .fad 79 3 (.t 2)⟩,
    ⟨none, .ld 80 1 false false (.t 79)⟩,
    ⟨none, .lens 81 (.t 80)⟩,
    ⟨none, .bin 82 .add (.t 78) (.t 81)⟩,
    ⟨none, .mov 5 (.t 82)⟩] [])
def ir_rec_one_10 : IR := (.seq (.reg [⟨none, .mov 74 (.t 6)⟩,
    ⟨none, .mov 75 (.t 7)⟩,
    ⟨none, .subs 76 (.t 74) none (some (.t 75))⟩,
    ⟨none, .fad 77 3 (.t 2)⟩,
    ⟨none, .st none 1 (.t 77) (.t 76)⟩] []) ir_rec_one_9)
def ir_rec_one_11 : IR := (.seq (.seq (.reg [⟨none, .mov 68 (.t 7)⟩,
    ⟨none, .mov 69 (.t 6)⟩,
    ⟨none, .lens 70 (.t 69)⟩,
    ⟨none, .cvi 71 .u64 (.t 70)⟩,
    ⟨none, .bin 72 .gtr (.t 68) (.t 71)⟩] []) ir_rec_one_8) ir_rec_one_10)
def ir_rec_one_12 : IR := (.seq (.seq (.reg [⟨none, .fad 63 1 (.t 2)⟩,
    ⟨none, .ld 64 1 false false (.t 63)⟩,
    ⟨none, .bin 65 .eql (.t 64) (.c (.int .i64 0))⟩] []) ir_rec_one_6) ir_rec_one_11)
def ir_rec_one_13 : IR := (.seq (.reg [⟨none, .mov 57 (.t 5)⟩,
    ⟨none, .mov 58 (.t 8)⟩,
    ⟨none, .bin 59 .add (.t 57) (.t 58)⟩,
    ⟨none, .mov 60 (.t 6)⟩,
    ⟨none, .mov 61 (.t 8)⟩,
    ⟨none, .subs 62 (.t 60) (some (.t 61)) none⟩,
    ⟨none, .mov 5 (.t 59)⟩,
    ⟨none, .mov 6 (.t 62)⟩] [[], [], [0, 1], [], [], [3, 4], [0, 1, 2], [0, 1, 2, 3, 4, 5, 6]]) ir_rec_one_12)
def ir_rec_one_14 : IR := (.seq (.seq (.reg [⟨none, .mov 53 (.t 9)⟩,
    ⟨none, .bin 54 .neq (.t 53) (.c (.int .i64 0))⟩] []) ir_rec_one_4) ir_rec_one_13)
def ir_rec_one_15 : IR := (.cond (.t 83) .skip (.reg [⟨none, .bin 85 .eql (.t 42) (.c (.int .i64 5))⟩,
    ⟨none, .mov 83 (.t 85)⟩] []))
def ir_rec_one_16 : IR := .ret
def ir_rec_one_17 : IR := (.cond (.t 92) (.seq (.reg [⟨none, .bld 93 [.int .i64 0, .int .i64 0, .int .u64 0, .str ([] : List UInt8), .str ([] : List UInt8)] []⟩,
    ⟨none, .st none 5 (.t 2) (.t 93)⟩,
    ⟨none, .mov 3 (.c (.int .i64 2))⟩] []) ir_rec_one_16) .skip)
def ir_rec_one_18 : IR := (.reg [⟨none, .mov 99 (.t 5)⟩,
    ⟨none, .mov 100 (.t 10)⟩,
    ⟨none, .bin 101 .add (.t 99) (.t 100)⟩,
    ⟨none, .mov 5 (.t 101)⟩] [])
def ir_rec_one_19 : IR := (.seq (.reg [⟨none, .mov 94 (.t 6)⟩,
    ⟨none, .mov 95 (.t 10)⟩,
    ⟨none, .subs 96 (.t 94) none (some (.t 95))⟩,
    ⟨none, .call (some 97) 28 [(.t 96)]⟩,
    ⟨none, .fad 98 2 (.t 2)⟩,
    ⟨none, .st none 1 (.t 98) (.t 97)⟩] []) ir_rec_one_18)
def ir_rec_one_20 : IR := (.seq (.seq (.reg [⟨none, .mov 89 (.t 6)⟩,
    ⟨none, .lens 90 (.t 89)⟩,
    ⟨none, .mov 91 (.t 10)⟩,
    ⟨none, .bin 92 .lss (.t 90) (.t 91)⟩] []) ir_rec_one_17) ir_rec_one_19)
def ir_rec_one_21 : IR := .ret
def ir_rec_one_22 : IR := (.cond (.t 83) (.seq (.reg [⟨none, .fad 86 1 (.t 2)⟩,
    ⟨none, .ld 87 1 false false (.t 86)⟩,
    ⟨none, .call (some 88) 24 [(.t 87)]⟩,
    ⟨none, .mov 10 (.t 88)⟩] []) ir_rec_one_20) (.seq (.reg [⟨none, .bld 43 [.int .i64 0, .int .i64 0, .int .u64 0, .str ([] : List UInt8), .str ([] : List UInt8)] []⟩,
    ⟨none, .st none 5 (.t 2) (.t 43)⟩,
    ⟨none, .mov 3 (.c (.int .i64 2))⟩] []) ir_rec_one_21))
def ir_rec_one_23 : IR := (.cond (.t 44) (.seq (.reg [⟨none, .mov 48 (.t 6)⟩,
    ⟨none, .call (some 49) 11 [(.t 48)]⟩,
    ⟨none, .mov 47 (.t 49)⟩,
    ⟨none, .ext 50 0 (.t 47)⟩,
    ⟨none, .ext 51 1 (.t 47)⟩,
    ⟨none, .ext 52 2 (.t 47)⟩,
    ⟨none, .mov 7 (.t 50)⟩,
    ⟨none, .mov 8 (.t 51)⟩,
    ⟨none, .mov 9 (.t 52)⟩] []) ir_rec_one_14) (.seq (.seq (.reg [⟨none, .bin 84 .eql (.t 42) (.c (.int .i64 1))⟩,
    ⟨none, .mov 83 (.t 84)⟩] []) ir_rec_one_15) ir_rec_one_22))
def ir_rec_one_24 : IR := (.block 0 (.seq (.seq (.reg [⟨none, .bin 45 .eql (.t 42) (.c (.int .i64 0))⟩,
    ⟨none, .mov 44 (.t 45)⟩] []) ir_rec_one_2) ir_rec_one_23))
def ir_rec_one_25 : IR := .ret
def ir_rec_one_26 : IR := (.seq (.reg [⟨none, .ld 106 5 true false (.t 2)⟩,
    ⟨none, .st none 5 (.t 2) (.t 106)⟩,
    ⟨none, .mov 3 (.c (.int .i64 0))⟩] []) ir_rec_one_25)
def ir_rec_one_27 : IR := (.seq (.reg [⟨none, .mov 102 (.t 0)⟩,
    ⟨none, .mov 103 (.t 5)⟩,
    ⟨none, .subs 104 (.t 102) none (some (.t 103))⟩,
    ⟨none, .fad 105 4 (.t 2)⟩,
    ⟨none, .st none 1 (.t 105) (.t 104)⟩] []) ir_rec_one_26)
def ir_rec_one_28 : IR := (.seq (.seq (.reg [⟨none, .fad 41 1 (.t 2)⟩,
    ⟨none, .ld 42 1 false false (.t 41)⟩] []) ir_rec_one_24) ir_rec_one_27)
def ir_rec_one_29 : IR := (.seq (.reg [⟨none, .mov 38 (.t 0)⟩,
    ⟨none, .mov 39 (.t 5)⟩,
    ⟨none, .subs 40 (.t 38) (some (.t 39)) none⟩,
    ⟨none, .mov 6 (.t 40)⟩] []) ir_rec_one_28)
def ir_rec_one_30 : IR := (.seq (.reg [⟨none, .mov 30 (.t 4)⟩,
    ⟨none, .bin 31 .quo (.t 30) (.c (.int .u64 8))⟩,
    ⟨none, .cvi 32 .i64 (.t 31)⟩,
    ⟨none, .mov 33 (.t 4)⟩,
    ⟨none, .bin 34 .rem (.t 33) (.c (.int .u64 8))⟩,
    ⟨none, .cvi 35 .i64 (.t 34)⟩,
    ⟨none, .fad 36 0 (.t 2)⟩,
    ⟨none, .st none 1 (.t 36) (.t 32)⟩,
    ⟨none, .fad 37 1 (.t 2)⟩,
    ⟨none, .st none 1 (.t 37) (.t 35)⟩] []) ir_rec_one_29)
def ir_rec_one_31 : IR := (.seq (.seq (.reg [⟨none, .mov 17 (.t 3)⟩,
    ⟨none, .bin 18 .neq (.t 17) (.c (.int .i64 0))⟩,
    ⟨none, .mov 19 (.t 18)⟩,
    ⟨some (19, false), .mov 20 (.t 4)⟩,
    ⟨some (19, false), .bin 21 .quo (.t 20) (.c (.int .u64 8))⟩,
    ⟨some (19, false), .bin 22 .lss (.t 21) (.c (.int .u64 1))⟩,
    ⟨none, .pick 23 (.t 19) (.c (.bool true)) (.t 22)⟩,
    ⟨none, .mov 24 (.t 23)⟩,
    ⟨some (24, false), .mov 25 (.t 4)⟩,
    ⟨some (24, false), .bin 26 .quo (.t 25) (.c (.int .u64 8))⟩,
    ⟨some (24, false), .bin 27 .gtr (.t 26) (.c (.int .u64 536870911))⟩,
    ⟨none, .pick 28 (.t 24) (.c (.bool true)) (.t 27)⟩] []) ir_rec_one_1) ir_rec_one_30)
def ir_rec_one_32 : IR := (.seq (.reg [⟨none, .mov 12 (.t 0)⟩,
    ⟨none, .call (some 13) 11 [(.t 12)]⟩,
    ⟨none, .mov 11 (.t 13)⟩,
    ⟨none, .ext 14 0 (.t 11)⟩,
    ⟨none, .ext 15 1 (.t 11)⟩,
    ⟨none, .ext 16 2 (.t 11)⟩,
    ⟨none, .mov 4 (.t 14)⟩,
    ⟨none, .mov 5 (.t 15)⟩,
    ⟨none, .mov 3 (.t 16)⟩] []) ir_rec_one_31)
def ir_rec_one : IR := (.seq (.reg [⟨none, .new 2 [.int .i64 0, .int .i64 0, .int .u64 0, .str ([] : List UInt8), .str ([] : List UInt8)]⟩,
    ⟨none, .mov 3 (.c (.int .i64 0))⟩] []) ir_rec_one_32)
def rs_rec_one : List RV := [.cell 2 5 true, .t 3]
theorem chk_rec_one : (chkCode Try.prog [] 0 ir_rec_one (Try.f22.body.getD .skip) && chkRes Try.prog rs_rec_one Try.f22.results.toList) = true := by kernel_rfl
theorem body_rec_one : Try.f22.body = some (Try.f22.body.getD .skip) := by kernel_rfl
/-- proclitic/rec.one -/
def sa_rec_one (N : Nat) (p0 : List UInt8)  : Option (V × List AObj) :=
  let x1 : Bool := (!(((vintR p0).2.2) == 0))
  cond x1 (
    some (.tup [.agg [.int .i64 0, .int .i64 0, .int .u64 0, .str ([] : List UInt8), .str ([] : List UInt8)], .int .i64 2], [some [.int .i64 0, .int .i64 0, .int .u64 0, .str ([] : List UInt8), .str ([] : List UInt8)]])) (
    let x2 : Int := (IntKind.wrap .u64 (Int.tdiv ((vintR p0).1) 8))
    cond (decide (x2 < 1)) (
      some (.tup [.agg [.int .i64 0, .int .i64 0, .int .u64 0, .str ([] : List UInt8), .str ([] : List UInt8)], .int .i64 2], [some [.int .i64 0, .int .i64 0, .int .u64 0, .str ([] : List UInt8), .str ([] : List UInt8)]])) (
      let x3 : Int := (IntKind.wrap .u64 (Int.tdiv ((vintR p0).1) 8))
      cond (decide (536870911 < x3)) (
        some (.tup [.agg [.int .i64 0, .int .i64 0, .int .u64 0, .str ([] : List UInt8), .str ([] : List UInt8)], .int .i64 2], [some [.int .i64 0, .int .i64 0, .int .u64 0, .str ([] : List UInt8), .str ([] : List UInt8)]])) (
        let x4 : Int := (IntKind.wrap .u64 (Int.tdiv ((vintR p0).1) 8))
        let x5 : Int := (Int.tmod ((vintR p0).1) 8)
        chk ((decide (0 ≤ ((vintR p0).2.1)) && decide (((vintR p0).2.1) ≤ (↑(List.length p0) : Int)))) (
          let x6 : List UInt8 := (List.drop (Int.toNat ((vintR p0).2.1)) (List.take (List.length p0) p0))
          let x7 : Bool := ((IntKind.wrap .i64 x5) == 0)
          cond x7 (
            cond x7 (
              let x8 : Bool := (!(((vintR x6).2.2) == 0))
              cond x8 (
                some (.tup [.agg [.int .i64 0, .int .i64 0, .int .u64 0, .str ([] : List UInt8), .str ([] : List UInt8)], .int .i64 ((vintR x6).2.2)], [some [.int .i64 0, .int .i64 0, .int .u64 0, .str ([] : List UInt8), .str ([] : List UInt8)]])) (
                let x9 : Int := (IntKind.wrap .i64 (((vintR p0).2.1) + ((vintR x6).2.1)))
                chk ((decide (0 ≤ ((vintR x6).2.1)) && decide (((vintR x6).2.1) ≤ (↑(List.length x6) : Int)))) (
                  let x10 : List UInt8 := (List.drop (Int.toNat ((vintR x6).2.1)) (List.take (List.length x6) x6))
                  let x11 : Bool := ((IntKind.wrap .i64 x5) == 0)
                  cond x11 (
                    chk ((decide (0 ≤ x9) && decide (x9 ≤ (↑(List.length p0) : Int)))) (
                      let x12 : List UInt8 := (List.drop 0 (List.take (Int.toNat x9) p0))
                      some (.tup [.agg [.int .i64 (IntKind.wrap .i64 x4), .int .i64 (IntKind.wrap .i64 x5), .int .u64 ((vintR x6).1), .str ([] : List UInt8), .str x12], .int .i64 0], [some [.int .i64 (IntKind.wrap .i64 x4), .int .i64 (IntKind.wrap .i64 x5), .int .u64 ((vintR x6).1), .str ([] : List UInt8), .str x12]]))) (
                    let x13 : Int := (↑(List.length x10) : Int)
                    let x14 : Bool := decide ((IntKind.wrap .u64 x13) < ((vintR x6).1))
                    cond x14 (
                      some (.tup [.agg [.int .i64 0, .int .i64 0, .int .u64 0, .str ([] : List UInt8), .str ([] : List UInt8)], .int .i64 2], [some [.int .i64 0, .int .i64 0, .int .u64 0, .str ([] : List UInt8), .str ([] : List UInt8)]])) (
                      chk ((decide (0 ≤ ((vintR x6).1)) && decide (((vintR x6).1) ≤ (↑(List.length x10) : Int)))) (
                        let x15 : List UInt8 := (List.drop 0 (List.take (Int.toNat ((vintR x6).1)) x10))
                        let x16 : Int := (↑(List.length x15) : Int)
                        let x17 : Int := (IntKind.wrap .i64 (x9 + x16))
                        chk ((decide (0 ≤ x17) && decide (x17 ≤ (↑(List.length p0) : Int)))) (
                          let x18 : List UInt8 := (List.drop 0 (List.take (Int.toNat x17) p0))
                          some (.tup [.agg [.int .i64 (IntKind.wrap .i64 x4), .int .i64 (IntKind.wrap .i64 x5), .int .u64 0, .str x15, .str x18], .int .i64 0], [some [.int .i64 (IntKind.wrap .i64 x4), .int .i64 (IntKind.wrap .i64 x5), .int .u64 0, .str x15, .str x18]])))))))) (
              let x19 : Bool := ((IntKind.wrap .i64 x5) == 1)
              cond x19 (
                cond x19 (
                  let x20 : Int := (sizeR (IntKind.wrap .i64 x5))
                  let x21 : Int := (↑(List.length x6) : Int)
                  cond (decide (x21 < x20)) (
                    some (.tup [.agg [.int .i64 0, .int .i64 0, .int .u64 0, .str ([] : List UInt8), .str ([] : List UInt8)], .int .i64 2], [some [.int .i64 0, .int .i64 0, .int .u64 0, .str ([] : List UInt8), .str ([] : List UInt8)]])) (
                    chk ((decide (0 ≤ x20) && decide (x20 ≤ (↑(List.length x6) : Int)))) (
                      let x22 : List UInt8 := (List.drop 0 (List.take (Int.toNat x20) x6))
                      let x23 : Int := (IntKind.wrap .i64 (((vintR p0).2.1) + x20))
                      chk ((decide (0 ≤ x23) && decide (x23 ≤ (↑(List.length p0) : Int)))) (
                        let x24 : List UInt8 := (List.drop 0 (List.take (Int.toNat x23) p0))
                        some (.tup [.agg [.int .i64 (IntKind.wrap .i64 x4), .int .i64 (IntKind.wrap .i64 x5), .int .u64 (lowR x22), .str ([] : List UInt8), .str x24], .int .i64 0], [some [.int .i64 (IntKind.wrap .i64 x4), .int .i64 (IntKind.wrap .i64 x5), .int .u64 (lowR x22), .str ([] : List UInt8), .str x24]]))))) (
                  some (.tup [.agg [.int .i64 0, .int .i64 0, .int .u64 0, .str ([] : List UInt8), .str ([] : List UInt8)], .int .i64 2], [some [.int .i64 0, .int .i64 0, .int .u64 0, .str ([] : List UInt8), .str ([] : List UInt8)]]))) (
                let x25 : Bool := ((IntKind.wrap .i64 x5) == 5)
                cond x25 (
                  let x26 : Int := (sizeR (IntKind.wrap .i64 x5))
                  let x27 : Int := (↑(List.length x6) : Int)
                  cond (decide (x27 < x26)) (
                    some (.tup [.agg [.int .i64 0, .int .i64 0, .int .u64 0, .str ([] : List UInt8), .str ([] : List UInt8)], .int .i64 2], [some [.int .i64 0, .int .i64 0, .int .u64 0, .str ([] : List UInt8), .str ([] : List UInt8)]])) (
                    chk ((decide (0 ≤ x26) && decide (x26 ≤ (↑(List.length x6) : Int)))) (
                      let x28 : List UInt8 := (List.drop 0 (List.take (Int.toNat x26) x6))
                      let x29 : Int := (IntKind.wrap .i64 (((vintR p0).2.1) + x26))
                      chk ((decide (0 ≤ x29) && decide (x29 ≤ (↑(List.length p0) : Int)))) (
                        let x30 : List UInt8 := (List.drop 0 (List.take (Int.toNat x29) p0))
                        some (.tup [.agg [.int .i64 (IntKind.wrap .i64 x4), .int .i64 (IntKind.wrap .i64 x5), .int .u64 (lowR x28), .str ([] : List UInt8), .str x30], .int .i64 0], [some [.int .i64 (IntKind.wrap .i64 x4), .int .i64 (IntKind.wrap .i64 x5), .int .u64 (lowR x28), .str ([] : List UInt8), .str x30]]))))) (
                  some (.tup [.agg [.int .i64 0, .int .i64 0, .int .u64 0, .str ([] : List UInt8), .str ([] : List UInt8)], .int .i64 2], [some [.int .i64 0, .int .i64 0, .int .u64 0, .str ([] : List UInt8), .str ([] : List UInt8)]]))))) (
            let x31 : Bool := ((IntKind.wrap .i64 x5) == 2)
            cond x31 (
              let x32 : Bool := (!(((vintR x6).2.2) == 0))
              cond x32 (
                some (.tup [.agg [.int .i64 0, .int .i64 0, .int .u64 0, .str ([] : List UInt8), .str ([] : List UInt8)], .int .i64 ((vintR x6).2.2)], [some [.int .i64 0, .int .i64 0, .int .u64 0, .str ([] : List UInt8), .str ([] : List UInt8)]])) (
                let x33 : Int := (IntKind.wrap .i64 (((vintR p0).2.1) + ((vintR x6).2.1)))
                chk ((decide (0 ≤ ((vintR x6).2.1)) && decide (((vintR x6).2.1) ≤ (↑(List.length x6) : Int)))) (
                  let x34 : List UInt8 := (List.drop (Int.toNat ((vintR x6).2.1)) (List.take (List.length x6) x6))
                  let x35 : Bool := ((IntKind.wrap .i64 x5) == 0)
                  cond x35 (
                    chk ((decide (0 ≤ x33) && decide (x33 ≤ (↑(List.length p0) : Int)))) (
                      let x36 : List UInt8 := (List.drop 0 (List.take (Int.toNat x33) p0))
                      some (.tup [.agg [.int .i64 (IntKind.wrap .i64 x4), .int .i64 (IntKind.wrap .i64 x5), .int .u64 ((vintR x6).1), .str ([] : List UInt8), .str x36], .int .i64 0], [some [.int .i64 (IntKind.wrap .i64 x4), .int .i64 (IntKind.wrap .i64 x5), .int .u64 ((vintR x6).1), .str ([] : List UInt8), .str x36]]))) (
                    let x37 : Int := (↑(List.length x34) : Int)
                    let x38 : Bool := decide ((IntKind.wrap .u64 x37) < ((vintR x6).1))
                    cond x38 (
                      some (.tup [.agg [.int .i64 0, .int .i64 0, .int .u64 0, .str ([] : List UInt8), .str ([] : List UInt8)], .int .i64 2], [some [.int .i64 0, .int .i64 0, .int .u64 0, .str ([] : List UInt8), .str ([] : List UInt8)]])) (
                      chk ((decide (0 ≤ ((vintR x6).1)) && decide (((vintR x6).1) ≤ (↑(List.length x34) : Int)))) (
                        let x39 : List UInt8 := (List.drop 0 (List.take (Int.toNat ((vintR x6).1)) x34))
                        let x40 : Int := (↑(List.length x39) : Int)
                        let x41 : Int := (IntKind.wrap .i64 (x33 + x40))
                        chk ((decide (0 ≤ x41) && decide (x41 ≤ (↑(List.length p0) : Int)))) (
                          let x42 : List UInt8 := (List.drop 0 (List.take (Int.toNat x41) p0))
                          some (.tup [.agg [.int .i64 (IntKind.wrap .i64 x4), .int .i64 (IntKind.wrap .i64 x5), .int .u64 0, .str x39, .str x42], .int .i64 0], [some [.int .i64 (IntKind.wrap .i64 x4), .int .i64 (IntKind.wrap .i64 x5), .int .u64 0, .str x39, .str x42]])))))))) (
              let x43 : Bool := ((IntKind.wrap .i64 x5) == 1)
              cond x43 (
                cond x43 (
                  let x44 : Int := (sizeR (IntKind.wrap .i64 x5))
                  let x45 : Int := (↑(List.length x6) : Int)
                  cond (decide (x45 < x44)) (
                    some (.tup [.agg [.int .i64 0, .int .i64 0, .int .u64 0, .str ([] : List UInt8), .str ([] : List UInt8)], .int .i64 2], [some [.int .i64 0, .int .i64 0, .int .u64 0, .str ([] : List UInt8), .str ([] : List UInt8)]])) (
                    chk ((decide (0 ≤ x44) && decide (x44 ≤ (↑(List.length x6) : Int)))) (
                      let x46 : List UInt8 := (List.drop 0 (List.take (Int.toNat x44) x6))
                      let x47 : Int := (IntKind.wrap .i64 (((vintR p0).2.1) + x44))
                      chk ((decide (0 ≤ x47) && decide (x47 ≤ (↑(List.length p0) : Int)))) (
                        let x48 : List UInt8 := (List.drop 0 (List.take (Int.toNat x47) p0))
                        some (.tup [.agg [.int .i64 (IntKind.wrap .i64 x4), .int .i64 (IntKind.wrap .i64 x5), .int .u64 (lowR x46), .str ([] : List UInt8), .str x48], .int .i64 0], [some [.int .i64 (IntKind.wrap .i64 x4), .int .i64 (IntKind.wrap .i64 x5), .int .u64 (lowR x46), .str ([] : List UInt8), .str x48]]))))) (
                  some (.tup [.agg [.int .i64 0, .int .i64 0, .int .u64 0, .str ([] : List UInt8), .str ([] : List UInt8)], .int .i64 2], [some [.int .i64 0, .int .i64 0, .int .u64 0, .str ([] : List UInt8), .str ([] : List UInt8)]]))) (
                let x49 : Bool := ((IntKind.wrap .i64 x5) == 5)
                cond x49 (
                  let x50 : Int := (sizeR (IntKind.wrap .i64 x5))
                  let x51 : Int := (↑(List.length x6) : Int)
                  cond (decide (x51 < x50)) (
                    some (.tup [.agg [.int .i64 0, .int .i64 0, .int .u64 0, .str ([] : List UInt8), .str ([] : List UInt8)], .int .i64 2], [some [.int .i64 0, .int .i64 0, .int .u64 0, .str ([] : List UInt8), .str ([] : List UInt8)]])) (
                    chk ((decide (0 ≤ x50) && decide (x50 ≤ (↑(List.length x6) : Int)))) (
                      let x52 : List UInt8 := (List.drop 0 (List.take (Int.toNat x50) x6))
                      let x53 : Int := (IntKind.wrap .i64 (((vintR p0).2.1) + x50))
                      chk ((decide (0 ≤ x53) && decide (x53 ≤ (↑(List.length p0) : Int)))) (
                        let x54 : List UInt8 := (List.drop 0 (List.take (Int.toNat x53) p0))
                        some (.tup [.agg [.int .i64 (IntKind.wrap .i64 x4), .int .i64 (IntKind.wrap .i64 x5), .int .u64 (lowR x52), .str ([] : List UInt8), .str x54], .int .i64 0], [some [.int .i64 (IntKind.wrap .i64 x4), .int .i64 (IntKind.wrap .i64 x5), .int .u64 (lowR x52), .str ([] : List UInt8), .str x54]]))))) (
                  some (.tup [.agg [.int .i64 0, .int .i64 0, .int .u64 0, .str ([] : List UInt8), .str ([] : List UInt8)], .int .i64 2], [some [.int .i64 0, .int .i64 0, .int .u64 0, .str ([] : List UInt8), .str ([] : List UInt8)]])))))))))
def sh_rec_one (N : Nat) (p0 : List UInt8) : Option (V × List AObj) := sa_rec_one N p0
theorem run_rec_one (N : Nat) (p0 : List UInt8) : callF Γ_rec_one N 107 rs_rec_one ir_rec_one [.str p0] [] = sh_rec_one N p0 := by kernel_rfl
theorem ok_rec_one (hΓ : SpecOK Try.prog Γ_rec_one) (N : Nat) (p0 : List UInt8) {v : V} {hp : List AObj} (h : sh_rec_one N p0 = some (v, hp)) : PureOK Try.prog i_rec_one [.str p0] v := by
  have hc := chk_rec_one
  simp only [Bool.and_eq_true] at hc
  exact ⟨hp, fnOK_of hΓ pureS_rec_one Try.func22 body_rec_one hc.1 hc.2 (by decide) ((run_rec_one N p0).trans h)⟩

def G_rec_Split : Nat → List V → Option (Bool × V) := fun f vs => match f, vs with
  | 22, [.str a0] => some (true, .tup [.agg [.int .i64 (((oneR a0).1).num), .int .i64 (((oneR a0).1).wire), .int .u64 (((oneR a0).1).n), .str (((oneR a0).1).s), .str (((oneR a0).1).raw)], .int .i64 ((oneR a0).2)])
  | _, _ => none
def Γ_rec_Split : ASpec := liftG G_rec_Split
theorem pureS_rec_Split : PureS Γ_rec_Split [] := liftG_pure _ _
theorem spec_rec_Split (h_rec_one : ∀ (a0 : List UInt8), PureOK Try.prog i_rec_one [.str a0] (.tup [.agg [.int .i64 (((oneR a0).1).num), .int .i64 (((oneR a0).1).wire), .int .u64 (((oneR a0).1).n), .str (((oneR a0).1).s), .str (((oneR a0).1).raw)], .int .i64 ((oneR a0).2)])) : SpecOK Try.prog Γ_rec_Split := by
  intro f vs hp v hp' h0
  obtain ⟨h, he⟩ := liftG_inv h0
  subst he
  unfold G_rec_Split at h
  split at h
  · simp only [Option.some.injEq, Prod.mk.injEq] at h
    obtain ⟨hc, rfl⟩ := h
    exact (h_rec_one _).frame rfl rfl _
  · simp at h
def ir_rec_Split_0 : IR := .ret
def ir_rec_Split_1 : IR := (.cond (.t 9) (.seq (.reg [⟨none, .mov 2 (.c (.sl .record true ([] : List Record)))⟩,
    ⟨none, .mov 3 (.c (.int .i64 3))⟩] []) ir_rec_Split_0) .skip)
def ir_rec_Split_2 : IR := (.cond (.t 11) .skip (.exit 0))
def ir_rec_Split_3 : IR := .ret
def ir_rec_Split_4 : IR := (.cond (.t 18) (.seq (.reg [⟨none, .mov 19 (.t 6)⟩,
    ⟨none, .mov 2 (.c (.sl .record true ([] : List Record)))⟩,
    ⟨none, .mov 3 (.t 19)⟩] []) ir_rec_Split_3) .skip)
def ir_rec_Split_5 : IR := (.reg [⟨none, .mov 20 (.tk 4)⟩,
    ⟨none, .ld 21 5 true false (.t 5)⟩,
    ⟨none, .bsl 22 .record [(.t 21)]⟩,
    ⟨none, .app 23 .record (.tk 20) (.t 22)⟩,
    ⟨none, .mov 24 (.t 0)⟩,
    ⟨none, .fad 25 4 (.t 5)⟩,
    ⟨none, .ld 26 1 false false (.t 25)⟩,
    ⟨none, .lens 27 (.t 26)⟩,
    ⟨none, .subs 28 (.t 24) (some (.t 27)) none⟩,
    ⟨none, .mov 4 (.tk 23)⟩,
    ⟨none, .mov 0 (.t 28)⟩] [[], [], [1], [0, 1, 2], [], [], [5], [5, 6], [4, 5, 6, 7], [0, 1, 2, 3], [0, 1, 2, 3, 4, 5, 6, 7, 8, 9]])
def ir_rec_Split_6 : IR := (.seq (.seq (.reg [⟨none, .mov 17 (.t 6)⟩,
    ⟨none, .bin 18 .neq (.t 17) (.c (.int .i64 0))⟩] []) ir_rec_Split_4) ir_rec_Split_5)
def ir_rec_Split_7 : IR := (.block 1 (.seq (.reg [⟨none, .mov 13 (.t 0)⟩,
    ⟨none, .call (some 14) 22 [(.t 13)]⟩,
    ⟨none, .mov 12 (.t 14)⟩,
    ⟨none, .ext 15 0 (.t 12)⟩,
    ⟨none, .ext 16 1 (.t 12)⟩,
    ⟨none, .new 5 [.int .i64 0, .int .i64 0, .int .u64 0, .str ([] : List UInt8), .str ([] : List UInt8)]⟩,
    ⟨none, .st none 5 (.t 5) (.t 15)⟩,
    ⟨none, .mov 6 (.t 16)⟩] []) ir_rec_Split_6))
def ir_rec_Split_8 : IR := (.seq (.seq (.reg [⟨none, .mov 10 (.t 0)⟩,
    ⟨none, .bin 11 .neq (.t 10) (.c (.str ([] : List UInt8)))⟩] []) ir_rec_Split_2) ir_rec_Split_7)
def ir_rec_Split_9 : IR := .ret
def ir_rec_Split_10 : IR := (.seq (.reg [⟨none, .mov 29 (.t 4)⟩,
    ⟨none, .mov 2 (.t 29)⟩,
    ⟨none, .mov 3 (.c (.int .i64 0))⟩] []) ir_rec_Split_9)
def ir_rec_Split_11 : IR := (.seq (.block 0 (.loop [0, 4] 0 ir_rec_Split_8)) ir_rec_Split_10)
def ir_rec_Split_12 : IR := (.seq (.reg [⟨none, .mov 4 (.c (.sl .record true ([] : List Record)))⟩] []) ir_rec_Split_11)
def ir_rec_Split_13 : IR := (.seq (.seq (.reg [⟨none, .mov 7 (.t 0)⟩,
    ⟨none, .lens 8 (.t 7)⟩,
    ⟨none, .bin 9 .gtr (.t 8) (.c (.int .i64 5000))⟩] []) ir_rec_Split_1) ir_rec_Split_12)
def ir_rec_Split : IR := (.seq (.reg [⟨none, .mov 2 (.c (.sl .record true ([] : List Record)))⟩,
    ⟨none, .mov 3 (.c (.int .i64 0))⟩] []) ir_rec_Split_13)
def rs_rec_Split : List RV := [.t 2, .t 3]
theorem chk_rec_Split : (chkCode Try.prog [] 0 ir_rec_Split (Try.f15.body.getD .skip) && chkRes Try.prog rs_rec_Split Try.f15.results.toList) = true := by kernel_rfl
theorem body_rec_Split : Try.f15.body = some (Try.f15.body.getD .skip) := by kernel_rfl
def mk_rec_Split_0 (x : (List UInt8 × List Record)) : St := { env := [.str x.1, .undef, .undef, .undef, .sl .record true x.2, .undef, .undef, .undef, .undef, .undef, .undef, .undef, .undef, .undef, .undef, .undef, .undef, .undef, .undef, .undef, .undef, .undef, .undef, .undef, .undef, .undef, .undef, .undef, .undef, .undef], hp := [] }
def F_rec_Split_0 (N : Nat) : (St → Option (V × List AObj)) → St → Option (V × List AObj) := fun again0 s => run Γ_rec_Split N ir_rec_Split_8 (kloop again0 [0, 4] 0 (kblock 0 (kseq (run Γ_rec_Split N ir_rec_Split_10) (fin rs_rec_Split)))) s
def B_rec_Split_0 (N : Nat) (again0 : (List UInt8 × List Record) → Option (V × List AObj)) (x : (List UInt8 × List Record)) : Option (V × List AObj) :=
  let v0 : List UInt8 := x.1
  let v4 : List Record := x.2
  let x2 : Bool := (!decide (v0 = ([] : List UInt8)))
  cond x2 (
    cond (!(((oneR v0).2) == 0)) (
      some (.tup [.sl .record false ([] : List Record), .int .i64 ((oneR v0).2)], [some [.int .i64 (((oneR v0).1).num), .int .i64 (((oneR v0).1).wire), .int .u64 (((oneR v0).1).n), .str (((oneR v0).1).s), .str (((oneR v0).1).raw)]])) (
      chk (decide ((List.length v4 + List.length ([⟨((oneR v0).1).num, ((oneR v0).1).wire, ((oneR v0).1).n, ((oneR v0).1).s, ((oneR v0).1).raw⟩] : List Record)) * 56 ≤ 140737488355328)) (
        let x3 : List Record := (v4 ++ ([⟨((oneR v0).1).num, ((oneR v0).1).wire, ((oneR v0).1).n, ((oneR v0).1).s, ((oneR v0).1).raw⟩] : List Record))
        let x4 : Int := (↑(List.length (((oneR v0).1).raw)) : Int)
        chk ((decide (0 ≤ x4) && decide (x4 ≤ (↑(List.length v0) : Int)))) (
          let x5 : List UInt8 := (List.drop (Int.toNat x4) (List.take (List.length v0) v0))
          again0 (x5, x3))))) (
    some (.tup [.sl .record false v4, .int .i64 0], []))
theorem FB_rec_Split_0 (N : Nat) : ∀ (again0 : St → Option (V × List AObj)) (x : (List UInt8 × List Record)), F_rec_Split_0 N again0 (mk_rec_Split_0 x) = B_rec_Split_0 N (fun y => again0 (mk_rec_Split_0 y)) x := by
  intro again0 x
  kernel_rfl
/-- proclitic/rec.Split -/
def sa_rec_Split (N : Nat) (p0 : List UInt8) (q0 : (List UInt8 × List Record) → Option (V × List AObj)) : Option (V × List AObj) :=
  let x1 : Int := (↑(List.length p0) : Int)
  cond (decide (5000 < x1)) (
    some (.tup [.sl .record false ([] : List Record), .int .i64 3], [])) (
    q0 (p0, ([] : List Record)))
def sh_rec_Split (N : Nat) (p0 : List UInt8) : Option (V × List AObj) := sa_rec_Split N p0 (fun z => iterL N (B_rec_Split_0 N) z)
theorem run_rec_Split (N : Nat) (p0 : List UInt8) : callF Γ_rec_Split N 30 rs_rec_Split ir_rec_Split [.str p0] [] = sh_rec_Split N p0 := by
  have h : callF Γ_rec_Split N 30 rs_rec_Split ir_rec_Split [.str p0] [] = sa_rec_Split N p0 (fun z => loopN N (F_rec_Split_0 N) (mk_rec_Split_0 z)) := by kernel_rfl
  have e0 : (fun z => loopN N (F_rec_Split_0 N) (mk_rec_Split_0 z)) = (fun z => iterL N (B_rec_Split_0 N) z) := funext fun z => loop_eq (mk_rec_Split_0) (F_rec_Split_0 N) (B_rec_Split_0 N) (FB_rec_Split_0 N) N z
  rw [h, e0]
  rfl
theorem ok_rec_Split (hΓ : SpecOK Try.prog Γ_rec_Split) (N : Nat) (p0 : List UInt8) {v : V} {hp : List AObj} (h : sh_rec_Split N p0 = some (v, hp)) : PureOK Try.prog i_rec_Split [.str p0] v := by
  have hc := chk_rec_Split
  simp only [Bool.and_eq_true] at hc
  exact ⟨hp, fnOK_of hΓ pureS_rec_Split Try.func15 body_rec_Split hc.1 hc.2 (by decide) ((run_rec_Split N p0).trans h)⟩

def G_ref1_Split : Nat → List V → Option (Bool × V) := fun f vs => match f, vs with
  | 12, [.str a0] => some (true, .tup [.int .u64 ((vintR a0).1), .int .i64 ((vintR a0).2.1), .int .i64 ((vintR a0).2.2)])
  | 23, [.str a0] => some (true, .int .u64 (lowR a0))
  | _, _ => none
def Γ_ref1_Split : ASpec := liftG G_ref1_Split
theorem pureS_ref1_Split : PureS Γ_ref1_Split [] := liftG_pure _ _
theorem spec_ref1_Split (h_ref1_Varint : ∀ (a0 : List UInt8), PureOK Try.prog i_ref1_Varint [.str a0] (.tup [.int .u64 ((vintR a0).1), .int .i64 ((vintR a0).2.1), .int .i64 ((vintR a0).2.2)])) (h_ref1_low : ∀ (a0 : List UInt8), PureOK Try.prog i_ref1_low [.str a0] (.int .u64 (lowR a0))) : SpecOK Try.prog Γ_ref1_Split := by
  intro f vs hp v hp' h0
  obtain ⟨h, he⟩ := liftG_inv h0
  subst he
  unfold G_ref1_Split at h
  split at h
  · simp only [Option.some.injEq, Prod.mk.injEq] at h
    obtain ⟨hc, rfl⟩ := h
    exact (h_ref1_Varint _).frame rfl rfl _
  · simp only [Option.some.injEq, Prod.mk.injEq] at h
    obtain ⟨hc, rfl⟩ := h
    exact (h_ref1_low _).frame rfl rfl _
  · simp at h
def ir_ref1_Split_0 : IR := .ret
def ir_ref1_Split_1 : IR := (.cond (.t 19) (.seq (.reg [⟨none, .mov 2 (.c (.sl .record true ([] : List Record)))⟩,
    ⟨none, .mov 3 (.c (.int .i64 3))⟩] []) ir_ref1_Split_0) .skip)
def ir_ref1_Split_2 : IR := (.cond (.t 22) .skip (.exit 0))
def ir_ref1_Split_3 : IR := .ret
def ir_ref1_Split_4 : IR := (.cond (.t 40) (.seq (.reg [⟨none, .mov 2 (.c (.sl .record true ([] : List Record)))⟩,
    ⟨none, .mov 3 (.c (.int .i64 2))⟩] []) ir_ref1_Split_3) .skip)
def ir_ref1_Split_5 : IR := .ret
def ir_ref1_Split_6 : IR := (.cond (.t 62) (.seq (.reg [⟨none, .mov 63 (.t 12)⟩,
    ⟨none, .mov 2 (.c (.sl .record true ([] : List Record)))⟩,
    ⟨none, .mov 3 (.t 63)⟩] []) ir_ref1_Split_5) .skip)
def ir_ref1_Split_7 : IR := (.reg [⟨none, .mov 64 (.t 10)⟩,
    ⟨none, .mov 65 (.t 6)⟩,
    ⟨none, .mov 66 (.t 11)⟩,
    ⟨none, .bin 67 .add (.t 65) (.t 66)⟩,
    ⟨none, .fad 68 2 (.t 8)⟩,
    ⟨none, .st none 1 (.t 68) (.t 64)⟩,
    ⟨none, .mov 9 (.t 67)⟩] [])
def ir_ref1_Split_8 : IR := (.seq (.seq (.reg [⟨none, .mov 61 (.t 12)⟩,
    ⟨none, .bin 62 .neq (.t 61) (.c (.int .i64 0))⟩] []) ir_ref1_Split_6) ir_ref1_Split_7)
def ir_ref1_Split_9 : IR := (.cond (.t 69) .skip (.reg [⟨none, .bin 71 .eql (.t 50) (.c (.int .i64 5))⟩,
    ⟨none, .mov 69 (.t 71)⟩] []))
def ir_ref1_Split_10 : IR := (.cond (.t 74) (.reg [⟨none, .mov 13 (.c (.int .i64 8))⟩] []) .skip)
def ir_ref1_Split_11 : IR := .ret
def ir_ref1_Split_12 : IR := (.cond (.t 80) (.seq (.reg [⟨none, .mov 2 (.c (.sl .record true ([] : List Record)))⟩,
    ⟨none, .mov 3 (.c (.int .i64 2))⟩] []) ir_ref1_Split_11) .skip)
def ir_ref1_Split_13 : IR := (.reg [⟨none, .mov 81 (.t 0)⟩,
    ⟨none, .mov 82 (.t 6)⟩,
    ⟨none, .mov 83 (.t 6)⟩,
    ⟨none, .mov 84 (.t 13)⟩,
    ⟨none, .bin 85 .add (.t 83) (.t 84)⟩,
    ⟨none, .subs 86 (.t 81) (some (.t 82)) (some (.t 85))⟩,
    ⟨none, .call (some 87) 23 [(.t 86)]⟩,
    ⟨none, .mov 88 (.t 6)⟩,
    ⟨none, .mov 89 (.t 13)⟩,
    ⟨none, .bin 90 .add (.t 88) (.t 89)⟩,
    ⟨none, .fad 91 2 (.t 8)⟩,
    ⟨none, .st none 1 (.t 91) (.t 87)⟩,
    ⟨none, .mov 9 (.t 90)⟩] [])
def ir_ref1_Split_14 : IR := (.seq (.seq (.reg [⟨none, .mov 75 (.t 0)⟩,
    ⟨none, .lens 76 (.t 75)⟩,
    ⟨none, .mov 77 (.t 6)⟩,
    ⟨none, .bin 78 .sub (.t 76) (.t 77)⟩,
    ⟨none, .mov 79 (.t 13)⟩,
    ⟨none, .bin 80 .lss (.t 78) (.t 79)⟩] []) ir_ref1_Split_12) ir_ref1_Split_13)
def ir_ref1_Split_15 : IR := (.seq (.seq (.reg [⟨none, .fad 72 1 (.t 8)⟩,
    ⟨none, .ld 73 1 false false (.t 72)⟩,
    ⟨none, .bin 74 .eql (.t 73) (.c (.int .i64 1))⟩] []) ir_ref1_Split_10) ir_ref1_Split_14)
def ir_ref1_Split_16 : IR := .ret
def ir_ref1_Split_17 : IR := (.cond (.t 114) (.seq (.reg [⟨none, .mov 2 (.c (.sl .record true ([] : List Record)))⟩,
    ⟨none, .mov 3 (.c (.int .i64 2))⟩] []) ir_ref1_Split_16) .skip)
def ir_ref1_Split_18 : IR := (.reg [⟨none, .mov 121 (.t 0)⟩,
    ⟨none, .mov 122 (.t 6)⟩,
    ⟨none, .mov 123 (.t 15)⟩,
    ⟨none, .bin 124 .add (.t 122) (.t 123)⟩,
    ⟨none, .mov 125 (.t 9)⟩,
    ⟨none, .subs 126 (.t 121) (some (.t 124)) (some (.t 125))⟩,
    ⟨none, .fad 127 3 (.t 8)⟩,
    ⟨none, .st none 1 (.t 127) (.t 126)⟩] [])
def ir_ref1_Split_19 : IR := (.seq (.reg [⟨none, .mov 115 (.t 6)⟩,
    ⟨none, .mov 116 (.t 15)⟩,
    ⟨none, .bin 117 .add (.t 115) (.t 116)⟩,
    ⟨none, .mov 118 (.t 14)⟩,
    ⟨none, .cvi 119 .i64 (.t 118)⟩,
    ⟨none, .bin 120 .add (.t 117) (.t 119)⟩,
    ⟨none, .mov 9 (.t 120)⟩] []) ir_ref1_Split_18)
def ir_ref1_Split_20 : IR := (.seq (.seq (.reg [⟨none, .mov 102 (.t 16)⟩,
    ⟨none, .bin 103 .neq (.t 102) (.c (.int .i64 0))⟩,
    ⟨none, .mov 104 (.t 103)⟩,
    ⟨some (104, false), .mov 105 (.t 14)⟩,
    ⟨some (104, false), .mov 106 (.t 0)⟩,
    ⟨some (104, false), .lens 107 (.t 106)⟩,
    ⟨some (104, false), .mov 108 (.t 6)⟩,
    ⟨some (104, false), .bin 109 .sub (.t 107) (.t 108)⟩,
    ⟨some (104, false), .mov 110 (.t 15)⟩,
    ⟨some (104, false), .bin 111 .sub (.t 109) (.t 110)⟩,
    ⟨some (104, false), .cvi 112 .u64 (.t 111)⟩,
    ⟨some (104, false), .bin 113 .gtr (.t 105) (.t 112)⟩,
    ⟨none, .pick 114 (.t 104) (.c (.bool true)) (.t 113)⟩] []) ir_ref1_Split_17) ir_ref1_Split_19)
def ir_ref1_Split_21 : IR := .ret
def ir_ref1_Split_22 : IR := (.cond (.t 92) (.seq (.reg [⟨none, .mov 95 (.t 0)⟩,
    ⟨none, .mov 96 (.t 6)⟩,
    ⟨none, .subs 97 (.t 95) (some (.t 96)) none⟩,
    ⟨none, .call (some 98) 12 [(.t 97)]⟩,
    ⟨none, .mov 94 (.t 98)⟩,
    ⟨none, .ext 99 0 (.t 94)⟩,
    ⟨none, .ext 100 1 (.t 94)⟩,
    ⟨none, .ext 101 2 (.t 94)⟩,
    ⟨none, .mov 14 (.t 99)⟩,
    ⟨none, .mov 15 (.t 100)⟩,
    ⟨none, .mov 16 (.t 101)⟩] []) ir_ref1_Split_20) (.seq (.reg [⟨none, .mov 2 (.c (.sl .record true ([] : List Record)))⟩,
    ⟨none, .mov 3 (.c (.int .i64 2))⟩] []) ir_ref1_Split_21))
def ir_ref1_Split_23 : IR := (.cond (.t 69) (.seq (.reg [⟨none, .mov 13 (.c (.int .i64 4))⟩] []) ir_ref1_Split_15) (.seq (.reg [⟨none, .bin 93 .eql (.t 50) (.c (.int .i64 2))⟩,
    ⟨none, .mov 92 (.t 93)⟩] []) ir_ref1_Split_22))
def ir_ref1_Split_24 : IR := (.cond (.t 51) (.seq (.reg [⟨none, .mov 54 (.t 0)⟩,
    ⟨none, .mov 55 (.t 6)⟩,
    ⟨none, .subs 56 (.t 54) (some (.t 55)) none⟩,
    ⟨none, .call (some 57) 12 [(.t 56)]⟩,
    ⟨none, .mov 53 (.t 57)⟩,
    ⟨none, .ext 58 0 (.t 53)⟩,
    ⟨none, .ext 59 1 (.t 53)⟩,
    ⟨none, .ext 60 2 (.t 53)⟩,
    ⟨none, .mov 10 (.t 58)⟩,
    ⟨none, .mov 11 (.t 59)⟩,
    ⟨none, .mov 12 (.t 60)⟩] []) ir_ref1_Split_8) (.seq (.seq (.reg [⟨none, .bin 70 .eql (.t 50) (.c (.int .i64 1))⟩,
    ⟨none, .mov 69 (.t 70)⟩] []) ir_ref1_Split_9) ir_ref1_Split_23))
def ir_ref1_Split_25 : IR := (.block 2 (.seq (.reg [⟨none, .bin 52 .eql (.t 50) (.c (.int .i64 0))⟩,
    ⟨none, .mov 51 (.t 52)⟩] []) ir_ref1_Split_24))
def ir_ref1_Split_26 : IR := (.reg [⟨none, .mov 135 (.tk 4)⟩,
    ⟨none, .ld 136 5 true false (.t 8)⟩,
    ⟨none, .bsl 137 .record [(.t 136)]⟩,
    ⟨none, .app 138 .record (.tk 135) (.t 137)⟩,
    ⟨none, .mov 4 (.tk 138)⟩] [])
def ir_ref1_Split_27 : IR := (.seq (.reg [⟨none, .mov 132 (.t 0)⟩,
    ⟨none, .mov 133 (.t 9)⟩,
    ⟨none, .subs 134 (.t 132) (some (.t 133)) none⟩,
    ⟨none, .mov 0 (.t 134)⟩] []) ir_ref1_Split_26)
def ir_ref1_Split_28 : IR := (.seq (.reg [⟨none, .mov 128 (.t 0)⟩,
    ⟨none, .mov 129 (.t 9)⟩,
    ⟨none, .subs 130 (.t 128) none (some (.t 129))⟩,
    ⟨none, .fad 131 4 (.t 8)⟩,
    ⟨none, .st none 1 (.t 131) (.t 130)⟩] []) ir_ref1_Split_27)
def ir_ref1_Split_29 : IR := (.seq (.seq (.reg [⟨none, .fad 49 1 (.t 8)⟩,
    ⟨none, .ld 50 1 false false (.t 49)⟩] []) ir_ref1_Split_25) ir_ref1_Split_28)
def ir_ref1_Split_30 : IR := (.seq (.reg [⟨none, .mov 48 (.t 6)⟩,
    ⟨none, .mov 9 (.t 48)⟩] []) ir_ref1_Split_29)
def ir_ref1_Split_31 : IR := (.seq (.reg [⟨none, .mov 41 (.t 5)⟩,
    ⟨none, .bin 42 .quo (.t 41) (.c (.int .u64 8))⟩,
    ⟨none, .cvi 43 .i64 (.t 42)⟩,
    ⟨none, .mov 44 (.t 5)⟩,
    ⟨none, .bin 45 .rem (.t 44) (.c (.int .u64 8))⟩,
    ⟨none, .cvi 46 .i64 (.t 45)⟩,
    ⟨none, .bld 47 [.int .i64 0, .int .i64 0, .int .u64 0, .str ([] : List UInt8), .str ([] : List UInt8)] [(0, 1, (.t 43)), (1, 1, (.t 46))]⟩,
    ⟨none, .new 8 [.int .i64 0, .int .i64 0, .int .u64 0, .str ([] : List UInt8), .str ([] : List UInt8)]⟩,
    ⟨none, .st none 5 (.t 8) (.t 47)⟩] []) ir_ref1_Split_30)
def ir_ref1_Split_32 : IR := (.seq (.seq (.reg [⟨none, .mov 29 (.t 7)⟩,
    ⟨none, .bin 30 .neq (.t 29) (.c (.int .i64 0))⟩,
    ⟨none, .mov 31 (.t 30)⟩,
    ⟨some (31, false), .mov 32 (.t 5)⟩,
    ⟨some (31, false), .bin 33 .quo (.t 32) (.c (.int .u64 8))⟩,
    ⟨some (31, false), .bin 34 .lss (.t 33) (.c (.int .u64 1))⟩,
    ⟨none, .pick 35 (.t 31) (.c (.bool true)) (.t 34)⟩,
    ⟨none, .mov 36 (.t 35)⟩,
    ⟨some (36, false), .mov 37 (.t 5)⟩,
    ⟨some (36, false), .bin 38 .quo (.t 37) (.c (.int .u64 8))⟩,
    ⟨some (36, false), .bin 39 .gtr (.t 38) (.c (.int .u64 536870911))⟩,
    ⟨none, .pick 40 (.t 36) (.c (.bool true)) (.t 39)⟩] []) ir_ref1_Split_4) ir_ref1_Split_31)
def ir_ref1_Split_33 : IR := (.block 1 (.seq (.reg [⟨none, .mov 24 (.t 0)⟩,
    ⟨none, .call (some 25) 12 [(.t 24)]⟩,
    ⟨none, .mov 23 (.t 25)⟩,
    ⟨none, .ext 26 0 (.t 23)⟩,
    ⟨none, .ext 27 1 (.t 23)⟩,
    ⟨none, .ext 28 2 (.t 23)⟩,
    ⟨none, .mov 5 (.t 26)⟩,
    ⟨none, .mov 6 (.t 27)⟩,
    ⟨none, .mov 7 (.t 28)⟩] []) ir_ref1_Split_32))
def ir_ref1_Split_34 : IR := (.seq (.seq (.reg [⟨none, .mov 20 (.t 0)⟩,
    ⟨none, .lens 21 (.t 20)⟩,
    ⟨none, .bin 22 .gtr (.t 21) (.c (.int .i64 0))⟩] []) ir_ref1_Split_2) ir_ref1_Split_33)
def ir_ref1_Split_35 : IR := .ret
def ir_ref1_Split_36 : IR := (.seq (.reg [⟨none, .mov 139 (.t 4)⟩,
    ⟨none, .mov 2 (.t 139)⟩,
    ⟨none, .mov 3 (.c (.int .i64 0))⟩] []) ir_ref1_Split_35)
def ir_ref1_Split_37 : IR := (.seq (.block 0 (.loop [0, 4] 0 ir_ref1_Split_34)) ir_ref1_Split_36)
def ir_ref1_Split_38 : IR := (.seq (.reg [⟨none, .mov 4 (.c (.sl .record true ([] : List Record)))⟩] []) ir_ref1_Split_37)
def ir_ref1_Split_39 : IR := (.seq (.seq (.reg [⟨none, .mov 17 (.t 0)⟩,
    ⟨none, .lens 18 (.t 17)⟩,
    ⟨none, .bin 19 .gtr (.t 18) (.c (.int .i64 5000))⟩] []) ir_ref1_Split_1) ir_ref1_Split_38)
def ir_ref1_Split : IR := (.seq (.reg [⟨none, .mov 2 (.c (.sl .record true ([] : List Record)))⟩,
    ⟨none, .mov 3 (.c (.int .i64 0))⟩] []) ir_ref1_Split_39)
def rs_ref1_Split : List RV := [.t 2, .t 3]
theorem chk_ref1_Split : (chkCode Try.prog [] 0 ir_ref1_Split (Try.f16.body.getD .skip) && chkRes Try.prog rs_ref1_Split Try.f16.results.toList) = true := by kernel_rfl
theorem body_ref1_Split : Try.f16.body = some (Try.f16.body.getD .skip) := by kernel_rfl
def mk_ref1_Split_0 (x : (List UInt8 × List Record)) : St := { env := [.str x.1, .undef, .undef, .undef, .sl .record true x.2, .undef, .undef, .undef, .undef, .undef, .undef, .undef, .undef, .undef, .undef, .undef, .undef, .undef, .undef, .undef, .undef, .undef, .undef, .undef, .undef, .undef, .undef, .undef, .undef, .undef, .undef, .undef, .undef, .undef, .undef, .undef, .undef, .undef, .undef, .undef, .undef, .undef, .undef, .undef, .undef, .undef, .undef, .undef, .undef, .undef, .undef, .undef, .undef, .undef, .undef, .undef, .undef, .undef, .undef, .undef, .undef, .undef, .undef, .undef, .undef, .undef, .undef, .undef, .undef, .undef, .undef, .undef, .undef, .undef, .undef, .undef, .undef, .undef, .undef, .undef, .undef, .undef, .undef, .undef, .undef, .undef, .undef, .undef, .undef, .undef, .undef, .undef, .undef, .undef, .undef, .undef, .undef, .undef, .undef, .undef, .undef, .undef, .undef, .undef, .undef, .undef, .undef, .undef, .undef, .undef, .undef, .undef, .undef, .undef, .undef, .undef, .undef, .undef, .undef, .undef, .undef, .undef, .undef, .undef, .undef, .undef, .undef, .undef, .undef, .undef, .undef, .undef, .undef, .undef, .undef, .undef, .undef, .undef, .undef, .undef], hp := [] }
def F_ref1_Split_0 (N : Nat) : (St → Option (V × List AObj)) → St → Option (V × List AObj) := fun again0 s => run Γ_ref1_Split N ir_ref1_Split_34 (kloop again0 [0, 4] 0 (kblock 0 (kseq (run Γ_ref1_Split N ir_ref1_Split_36) (fin rs_ref1_Split)))) s
def B_ref1_Split_0 (N : Nat) (again0 : (List UInt8 × List Record) → Option (V × List AObj)) (x : (List UInt8 × List Record)) : Option (V × List AObj) :=
  let v0 : List UInt8 := x.1
  let v4 : List Record := x.2
  let x2 : Int := (↑(List.length v0) : Int)
  cond (decide (0 < x2)) (
    let x3 : Bool := (!(((vintR v0).2.2) == 0))
    cond x3 (
      some (.tup [.sl .record false ([] : List Record), .int .i64 2], [])) (
      let x4 : Int := (IntKind.wrap .u64 (Int.tdiv ((vintR v0).1) 8))
      cond (decide (x4 < 1)) (
        some (.tup [.sl .record false ([] : List Record), .int .i64 2], [])) (
        let x5 : Int := (IntKind.wrap .u64 (Int.tdiv ((vintR v0).1) 8))
        cond (decide (536870911 < x5)) (
          some (.tup [.sl .record false ([] : List Record), .int .i64 2], [])) (
          let x6 : Int := (IntKind.wrap .u64 (Int.tdiv ((vintR v0).1) 8))
          let x7 : Int := (Int.tmod ((vintR v0).1) 8)
          let x8 : Bool := ((IntKind.wrap .i64 x7) == 0)
          cond x8 (
            chk ((decide (0 ≤ ((vintR v0).2.1)) && decide (((vintR v0).2.1) ≤ (↑(List.length v0) : Int)))) (
              let x9 : List UInt8 := (List.drop (Int.toNat ((vintR v0).2.1)) (List.take (List.length v0) v0))
              let x10 : Bool := (!(((vintR x9).2.2) == 0))
              cond x10 (
                some (.tup [.sl .record false ([] : List Record), .int .i64 ((vintR x9).2.2)], [some [.int .i64 (IntKind.wrap .i64 x6), .int .i64 (IntKind.wrap .i64 x7), .int .u64 0, .str ([] : List UInt8), .str ([] : List UInt8)]])) (
                let x11 : Int := (IntKind.wrap .i64 (((vintR v0).2.1) + ((vintR x9).2.1)))
                chk ((decide (0 ≤ x11) && decide (x11 ≤ (↑(List.length v0) : Int)))) (
                  let x12 : List UInt8 := (List.drop 0 (List.take (Int.toNat x11) v0))
                  chk ((decide (0 ≤ x11) && decide (x11 ≤ (↑(List.length v0) : Int)))) (
                    let x13 : List UInt8 := (List.drop (Int.toNat x11) (List.take (List.length v0) v0))
                    chk (decide ((List.length v4 + List.length ([⟨(IntKind.wrap .i64 x6), (IntKind.wrap .i64 x7), (vintR x9).1, ([] : List UInt8), x12⟩] : List Record)) * 56 ≤ 140737488355328)) (
                      let x14 : List Record := (v4 ++ ([⟨(IntKind.wrap .i64 x6), (IntKind.wrap .i64 x7), (vintR x9).1, ([] : List UInt8), x12⟩] : List Record))
                      again0 (x13, x14))))))) (
            let x15 : Bool := ((IntKind.wrap .i64 x7) == 1)
            cond x15 (
              cond x15 (
                let x16 : Bool := ((IntKind.wrap .i64 x7) == 1)
                cond x16 (
                  let x17 : Int := (↑(List.length v0) : Int)
                  let x18 : Int := (IntKind.wrap .i64 (x17 - ((vintR v0).2.1)))
                  cond (decide (x18 < 8)) (
                    some (.tup [.sl .record false ([] : List Record), .int .i64 2], [some [.int .i64 (IntKind.wrap .i64 x6), .int .i64 (IntKind.wrap .i64 x7), .int .u64 0, .str ([] : List UInt8), .str ([] : List UInt8)]])) (
                    let x19 : Int := (IntKind.wrap .i64 (((vintR v0).2.1) + 8))
                    chk ((decide (0 ≤ x19) && decide (x19 ≤ (↑(List.length v0) : Int)) && (decide (0 ≤ ((vintR v0).2.1)) && decide (((vintR v0).2.1) ≤ x19)))) (
                      let x20 : List UInt8 := (List.drop (Int.toNat ((vintR v0).2.1)) (List.take (Int.toNat x19) v0))
                      let x21 : Int := (IntKind.wrap .i64 (((vintR v0).2.1) + 8))
                      chk ((decide (0 ≤ x21) && decide (x21 ≤ (↑(List.length v0) : Int)))) (
                        let x22 : List UInt8 := (List.drop 0 (List.take (Int.toNat x21) v0))
                        chk ((decide (0 ≤ x21) && decide (x21 ≤ (↑(List.length v0) : Int)))) (
                          let x23 : List UInt8 := (List.drop (Int.toNat x21) (List.take (List.length v0) v0))
                          chk (decide ((List.length v4 + List.length ([⟨(IntKind.wrap .i64 x6), (IntKind.wrap .i64 x7), (lowR x20), ([] : List UInt8), x22⟩] : List Record)) * 56 ≤ 140737488355328)) (
                            let x24 : List Record := (v4 ++ ([⟨(IntKind.wrap .i64 x6), (IntKind.wrap .i64 x7), (lowR x20), ([] : List UInt8), x22⟩] : List Record))
                            again0 (x23, x24))))))) (
                  let x25 : Int := (↑(List.length v0) : Int)
                  let x26 : Int := (IntKind.wrap .i64 (x25 - ((vintR v0).2.1)))
                  cond (decide (x26 < 4)) (
                    some (.tup [.sl .record false ([] : List Record), .int .i64 2], [some [.int .i64 (IntKind.wrap .i64 x6), .int .i64 (IntKind.wrap .i64 x7), .int .u64 0, .str ([] : List UInt8), .str ([] : List UInt8)]])) (
                    let x27 : Int := (IntKind.wrap .i64 (((vintR v0).2.1) + 4))
                    chk ((decide (0 ≤ x27) && decide (x27 ≤ (↑(List.length v0) : Int)) && (decide (0 ≤ ((vintR v0).2.1)) && decide (((vintR v0).2.1) ≤ x27)))) (
                      let x28 : List UInt8 := (List.drop (Int.toNat ((vintR v0).2.1)) (List.take (Int.toNat x27) v0))
                      let x29 : Int := (IntKind.wrap .i64 (((vintR v0).2.1) + 4))
                      chk ((decide (0 ≤ x29) && decide (x29 ≤ (↑(List.length v0) : Int)))) (
                        let x30 : List UInt8 := (List.drop 0 (List.take (Int.toNat x29) v0))
                        chk ((decide (0 ≤ x29) && decide (x29 ≤ (↑(List.length v0) : Int)))) (
                          let x31 : List UInt8 := (List.drop (Int.toNat x29) (List.take (List.length v0) v0))
                          chk (decide ((List.length v4 + List.length ([⟨(IntKind.wrap .i64 x6), (IntKind.wrap .i64 x7), (lowR x28), ([] : List UInt8), x30⟩] : List Record)) * 56 ≤ 140737488355328)) (
                            let x32 : List Record := (v4 ++ ([⟨(IntKind.wrap .i64 x6), (IntKind.wrap .i64 x7), (lowR x28), ([] : List UInt8), x30⟩] : List Record))
                            again0 (x31, x32)))))))) (
                let x33 : Bool := ((IntKind.wrap .i64 x7) == 2)
                cond x33 (
                  chk ((decide (0 ≤ ((vintR v0).2.1)) && decide (((vintR v0).2.1) ≤ (↑(List.length v0) : Int)))) (
                    let x34 : List UInt8 := (List.drop (Int.toNat ((vintR v0).2.1)) (List.take (List.length v0) v0))
                    let x35 : Bool := (!(((vintR x34).2.2) == 0))
                    cond x35 (
                      some (.tup [.sl .record false ([] : List Record), .int .i64 2], [some [.int .i64 (IntKind.wrap .i64 x6), .int .i64 (IntKind.wrap .i64 x7), .int .u64 0, .str ([] : List UInt8), .str ([] : List UInt8)]])) (
                      let x36 : Int := (↑(List.length v0) : Int)
                      let x37 : Int := (IntKind.wrap .i64 (x36 - ((vintR v0).2.1)))
                      let x38 : Int := (IntKind.wrap .i64 (x37 - ((vintR x34).2.1)))
                      let x39 : Bool := decide ((IntKind.wrap .u64 x38) < ((vintR x34).1))
                      cond x39 (
                        some (.tup [.sl .record false ([] : List Record), .int .i64 2], [some [.int .i64 (IntKind.wrap .i64 x6), .int .i64 (IntKind.wrap .i64 x7), .int .u64 0, .str ([] : List UInt8), .str ([] : List UInt8)]])) (
                        let x40 : Int := (IntKind.wrap .i64 (((vintR v0).2.1) + ((vintR x34).2.1)))
                        let x41 : Int := (IntKind.wrap .i64 ((vintR x34).1))
                        let x42 : Int := (IntKind.wrap .i64 (x40 + x41))
                        let x43 : Int := (IntKind.wrap .i64 (((vintR v0).2.1) + ((vintR x34).2.1)))
                        chk ((decide (0 ≤ x42) && decide (x42 ≤ (↑(List.length v0) : Int)) && (decide (0 ≤ x43) && decide (x43 ≤ x42)))) (
                          let x44 : List UInt8 := (List.drop (Int.toNat x43) (List.take (Int.toNat x42) v0))
                          chk ((decide (0 ≤ x42) && decide (x42 ≤ (↑(List.length v0) : Int)))) (
                            let x45 : List UInt8 := (List.drop 0 (List.take (Int.toNat x42) v0))
                            chk ((decide (0 ≤ x42) && decide (x42 ≤ (↑(List.length v0) : Int)))) (
                              let x46 : List UInt8 := (List.drop (Int.toNat x42) (List.take (List.length v0) v0))
                              chk (decide ((List.length v4 + List.length ([⟨(IntKind.wrap .i64 x6), (IntKind.wrap .i64 x7), 0, x44, x45⟩] : List Record)) * 56 ≤ 140737488355328)) (
                                let x47 : List Record := (v4 ++ ([⟨(IntKind.wrap .i64 x6), (IntKind.wrap .i64 x7), 0, x44, x45⟩] : List Record))
                                again0 (x46, x47))))))))) (
                  some (.tup [.sl .record false ([] : List Record), .int .i64 2], [some [.int .i64 (IntKind.wrap .i64 x6), .int .i64 (IntKind.wrap .i64 x7), .int .u64 0, .str ([] : List UInt8), .str ([] : List UInt8)]])))) (
              let x48 : Bool := ((IntKind.wrap .i64 x7) == 5)
              cond x48 (
                let x49 : Bool := ((IntKind.wrap .i64 x7) == 1)
                cond x49 (
                  let x50 : Int := (↑(List.length v0) : Int)
                  let x51 : Int := (IntKind.wrap .i64 (x50 - ((vintR v0).2.1)))
                  cond (decide (x51 < 8)) (
                    some (.tup [.sl .record false ([] : List Record), .int .i64 2], [some [.int .i64 (IntKind.wrap .i64 x6), .int .i64 (IntKind.wrap .i64 x7), .int .u64 0, .str ([] : List UInt8), .str ([] : List UInt8)]])) (
                    let x52 : Int := (IntKind.wrap .i64 (((vintR v0).2.1) + 8))
                    chk ((decide (0 ≤ x52) && decide (x52 ≤ (↑(List.length v0) : Int)) && (decide (0 ≤ ((vintR v0).2.1)) && decide (((vintR v0).2.1) ≤ x52)))) (
                      let x53 : List UInt8 := (List.drop (Int.toNat ((vintR v0).2.1)) (List.take (Int.toNat x52) v0))
                      let x54 : Int := (IntKind.wrap .i64 (((vintR v0).2.1) + 8))
                      chk ((decide (0 ≤ x54) && decide (x54 ≤ (↑(List.length v0) : Int)))) (
                        let x55 : List UInt8 := (List.drop 0 (List.take (Int.toNat x54) v0))
                        chk ((decide (0 ≤ x54) && decide (x54 ≤ (↑(List.length v0) : Int)))) (
                          let x56 : List UInt8 := (List.drop (Int.toNat x54) (List.take (List.length v0) v0))
                          chk (decide ((List.length v4 + List.length ([⟨(IntKind.wrap .i64 x6), (IntKind.wrap .i64 x7), (lowR x53), ([] : List UInt8), x55⟩] : List Record)) * 56 ≤ 140737488355328)) (
                            let x57 : List Record := (v4 ++ ([⟨(IntKind.wrap .i64 x6), (IntKind.wrap .i64 x7), (lowR x53), ([] : List UInt8), x55⟩] : List Record))
                            again0 (x56, x57))))))) (
                  let x58 : Int := (↑(List.length v0) : Int)
                  let x59 : Int := (IntKind.wrap .i64 (x58 - ((vintR v0).2.1)))
                  cond (decide (x59 < 4)) (
                    some (.tup [.sl .record false ([] : List Record), .int .i64 2], [some [.int .i64 (IntKind.wrap .i64 x6), .int .i64 (IntKind.wrap .i64 x7), .int .u64 0, .str ([] : List UInt8), .str ([] : List UInt8)]])) (
                    let x60 : Int := (IntKind.wrap .i64 (((vintR v0).2.1) + 4))
                    chk ((decide (0 ≤ x60) && decide (x60 ≤ (↑(List.length v0) : Int)) && (decide (0 ≤ ((vintR v0).2.1)) && decide (((vintR v0).2.1) ≤ x60)))) (
                      let x61 : List UInt8 := (List.drop (Int.toNat ((vintR v0).2.1)) (List.take (Int.toNat x60) v0))
                      let x62 : Int := (IntKind.wrap .i64 (((vintR v0).2.1) + 4))
                      chk ((decide (0 ≤ x62) && decide (x62 ≤ (↑(List.length v0) : Int)))) (
                        let x63 : List UInt8 := (List.drop 0 (List.take (Int.toNat x62) v0))
                        chk ((decide (0 ≤ x62) && decide (x62 ≤ (↑(List.length v0) : Int)))) (
                          let x64 : List UInt8 := (List.drop (Int.toNat x62) (List.take (List.length v0) v0))
                          chk (decide ((List.length v4 + List.length ([⟨(IntKind.wrap .i64 x6), (IntKind.wrap .i64 x7), (lowR x61), ([] : List UInt8), x63⟩] : List Record)) * 56 ≤ 140737488355328)) (
                            let x65 : List Record := (v4 ++ ([⟨(IntKind.wrap .i64 x6), (IntKind.wrap .i64 x7), (lowR x61), ([] : List UInt8), x63⟩] : List Record))
                            again0 (x64, x65)))))))) (
                let x66 : Bool := ((IntKind.wrap .i64 x7) == 2)
                cond x66 (
                  chk ((decide (0 ≤ ((vintR v0).2.1)) && decide (((vintR v0).2.1) ≤ (↑(List.length v0) : Int)))) (
                    let x67 : List UInt8 := (List.drop (Int.toNat ((vintR v0).2.1)) (List.take (List.length v0) v0))
                    let x68 : Bool := (!(((vintR x67).2.2) == 0))
                    cond x68 (
                      some (.tup [.sl .record false ([] : List Record), .int .i64 2], [some [.int .i64 (IntKind.wrap .i64 x6), .int .i64 (IntKind.wrap .i64 x7), .int .u64 0, .str ([] : List UInt8), .str ([] : List UInt8)]])) (
                      let x69 : Int := (↑(List.length v0) : Int)
                      let x70 : Int := (IntKind.wrap .i64 (x69 - ((vintR v0).2.1)))
                      let x71 : Int := (IntKind.wrap .i64 (x70 - ((vintR x67).2.1)))
                      let x72 : Bool := decide ((IntKind.wrap .u64 x71) < ((vintR x67).1))
                      cond x72 (
                        some (.tup [.sl .record false ([] : List Record), .int .i64 2], [some [.int .i64 (IntKind.wrap .i64 x6), .int .i64 (IntKind.wrap .i64 x7), .int .u64 0, .str ([] : List UInt8), .str ([] : List UInt8)]])) (
                        let x73 : Int := (IntKind.wrap .i64 (((vintR v0).2.1) + ((vintR x67).2.1)))
                        let x74 : Int := (IntKind.wrap .i64 ((vintR x67).1))
                        let x75 : Int := (IntKind.wrap .i64 (x73 + x74))
                        let x76 : Int := (IntKind.wrap .i64 (((vintR v0).2.1) + ((vintR x67).2.1)))
                        chk ((decide (0 ≤ x75) && decide (x75 ≤ (↑(List.length v0) : Int)) && (decide (0 ≤ x76) && decide (x76 ≤ x75)))) (
                          let x77 : List UInt8 := (List.drop (Int.toNat x76) (List.take (Int.toNat x75) v0))
                          chk ((decide (0 ≤ x75) && decide (x75 ≤ (↑(List.length v0) : Int)))) (
                            let x78 : List UInt8 := (List.drop 0 (List.take (Int.toNat x75) v0))
                            chk ((decide (0 ≤ x75) && decide (x75 ≤ (↑(List.length v0) : Int)))) (
                              let x79 : List UInt8 := (List.drop (Int.toNat x75) (List.take (List.length v0) v0))
                              chk (decide ((List.length v4 + List.length ([⟨(IntKind.wrap .i64 x6), (IntKind.wrap .i64 x7), 0, x77, x78⟩] : List Record)) * 56 ≤ 140737488355328)) (
                                let x80 : List Record := (v4 ++ ([⟨(IntKind.wrap .i64 x6), (IntKind.wrap .i64 x7), 0, x77, x78⟩] : List Record))
                                again0 (x79, x80))))))))) (
                  some (.tup [.sl .record false ([] : List Record), .int .i64 2], [some [.int .i64 (IntKind.wrap .i64 x6), .int .i64 (IntKind.wrap .i64 x7), .int .u64 0, .str ([] : List UInt8), .str ([] : List UInt8)]]))))))))) (
    some (.tup [.sl .record false v4, .int .i64 0], []))
theorem FB_ref1_Split_0 (N : Nat) : ∀ (again0 : St → Option (V × List AObj)) (x : (List UInt8 × List Record)), F_ref1_Split_0 N again0 (mk_ref1_Split_0 x) = B_ref1_Split_0 N (fun y => again0 (mk_ref1_Split_0 y)) x := by
  intro again0 x
  kernel_rfl
/-- proclitic/procliticref1.Split -/
def sa_ref1_Split (N : Nat) (p0 : List UInt8) (q0 : (List UInt8 × List Record) → Option (V × List AObj)) : Option (V × List AObj) :=
  let x1 : Int := (↑(List.length p0) : Int)
  cond (decide (5000 < x1)) (
    some (.tup [.sl .record false ([] : List Record), .int .i64 3], [])) (
    q0 (p0, ([] : List Record)))
def sh_ref1_Split (N : Nat) (p0 : List UInt8) : Option (V × List AObj) := sa_ref1_Split N p0 (fun z => iterL N (B_ref1_Split_0 N) z)
theorem run_ref1_Split (N : Nat) (p0 : List UInt8) : callF Γ_ref1_Split N 140 rs_ref1_Split ir_ref1_Split [.str p0] [] = sh_ref1_Split N p0 := by
  have h : callF Γ_ref1_Split N 140 rs_ref1_Split ir_ref1_Split [.str p0] [] = sa_ref1_Split N p0 (fun z => loopN N (F_ref1_Split_0 N) (mk_ref1_Split_0 z)) := by kernel_rfl
  have e0 : (fun z => loopN N (F_ref1_Split_0 N) (mk_ref1_Split_0 z)) = (fun z => iterL N (B_ref1_Split_0 N) z) := funext fun z => loop_eq (mk_ref1_Split_0) (F_ref1_Split_0 N) (B_ref1_Split_0 N) (FB_ref1_Split_0 N) N z
  rw [h, e0]
  rfl
theorem ok_ref1_Split (hΓ : SpecOK Try.prog Γ_ref1_Split) (N : Nat) (p0 : List UInt8) {v : V} {hp : List AObj} (h : sh_ref1_Split N p0 = some (v, hp)) : PureOK Try.prog i_ref1_Split [.str p0] v := by
  have hc := chk_ref1_Split
  simp only [Bool.and_eq_true] at hc
  exact ⟨hp, fnOK_of hΓ pureS_ref1_Split Try.func16 body_ref1_Split hc.1 hc.2 (by decide) ((run_ref1_Split N p0).trans h)⟩

def G_ref1_PutVarint (N : Nat) : Nat → List V → Option (Bool × V) := fun f vs => match f, vs with
  | 14, [.int .u64 a0] => some (decide (1000000 ≤ N - Int.toNat a0), .str (putV a0))
  | _, _ => none
def Γ_ref1_PutVarint (N : Nat) : ASpec := liftG (G_ref1_PutVarint N)
theorem pureS_ref1_PutVarint (N : Nat) : PureS (Γ_ref1_PutVarint N) [] := liftG_pure _ _
theorem spec_ref1_PutVarint (N : Nat) (h_ref1_PutVarint : ∀ (a0 : Int), (decide (1000000 ≤ N - Int.toNat a0)) = true → PureOK Try.prog i_ref1_PutVarint [.int .u64 a0] (.str (putV a0))) : SpecOK Try.prog (Γ_ref1_PutVarint N) := by
  intro f vs hp v hp' h0
  obtain ⟨h, he⟩ := liftG_inv h0
  subst he
  unfold G_ref1_PutVarint at h
  split at h
  · simp only [Option.some.injEq, Prod.mk.injEq] at h
    obtain ⟨hc, rfl⟩ := h
    exact (h_ref1_PutVarint _ hc).frame rfl rfl _
  · simp at h
def ir_ref1_PutVarint_0 : IR := .ret
def ir_ref1_PutVarint_1 : IR := (.cond (.t 4) (.seq (.reg [⟨none, .mov 5 (.t 0)⟩,
    ⟨none, .cvi 6 .u8 (.t 5)⟩,
    ⟨none, .bsl 7 .u8 [(.t 6)]⟩,
    ⟨none, .b2s 8 (.t 7)⟩,
    ⟨none, .mov 2 (.t 8)⟩] []) ir_ref1_PutVarint_0) .skip)
def ir_ref1_PutVarint_2 : IR := .ret
def ir_ref1_PutVarint_3 : IR := (.seq (.reg [⟨none, .mov 9 (.t 0)⟩,
    ⟨none, .bin 10 .rem (.t 9) (.c (.int .u64 128))⟩,
    ⟨none, .cvi 11 .u8 (.t 10)⟩,
    ⟨none, .bin 12 .add (.t 11) (.c (.int .u8 128))⟩,
    ⟨none, .bsl 13 .u8 [(.t 12)]⟩,
    ⟨none, .b2s 14 (.t 13)⟩,
    ⟨none, .mov 15 (.t 0)⟩,
    ⟨none, .bin 16 .quo (.t 15) (.c (.int .u64 128))⟩,
    ⟨none, .call (some 17) 14 [(.t 16)]⟩,
    ⟨none, .bin 18 .add (.t 14) (.t 17)⟩,
    ⟨none, .mov 2 (.t 18)⟩] [[], [0], [0, 1], [0, 1, 2], [0, 1, 2, 3], [0, 1, 2, 3, 4], [], [6], [6, 7], [0, 1, 2, 3, 4, 5, 6, 7, 8], [0, 1, 2, 3, 4, 5, 6, 7, 8, 9]]) ir_ref1_PutVarint_2)
def ir_ref1_PutVarint_4 : IR := (.seq (.seq (.reg [⟨none, .mov 3 (.t 0)⟩,
    ⟨none, .bin 4 .lss (.t 3) (.c (.int .u64 128))⟩] []) ir_ref1_PutVarint_1) ir_ref1_PutVarint_3)
def ir_ref1_PutVarint : IR := (.seq (.reg [⟨none, .mov 2 (.c (.str ([] : List UInt8)))⟩] []) ir_ref1_PutVarint_4)
def rs_ref1_PutVarint : List RV := [.t 2]
theorem chk_ref1_PutVarint : (chkCode Try.prog [] 0 ir_ref1_PutVarint (Try.f14.body.getD .skip) && chkRes Try.prog rs_ref1_PutVarint Try.f14.results.toList) = true := by kernel_rfl
theorem body_ref1_PutVarint : Try.f14.body = some (Try.f14.body.getD .skip) := by kernel_rfl
/-- proclitic/procliticref1.PutVarint -/
def sa_ref1_PutVarint (N : Nat) (p0 : Int)  : Option (V × List AObj) :=
  cond (decide (p0 < 128)) (
    some (.str ([(UInt8.ofNat (Int.toNat (IntKind.wrap .u8 p0)))] : List UInt8), [])) (
    let x1 : Int := (IntKind.wrap .u8 (Int.tmod p0 128))
    let x2 : Int := (IntKind.wrap .u8 (x1 + 128))
    let x3 : Int := (IntKind.wrap .u64 (Int.tdiv p0 128))
    chk (decide (1000000 ≤ N - Int.toNat x3)) (
      chk (decide (List.length ([(UInt8.ofNat (Int.toNat x2))] : List UInt8) + List.length (putV x3) ≤ 9223372036854775807)) (
        let x4 : List UInt8 := (([(UInt8.ofNat (Int.toNat x2))] : List UInt8) ++ (putV x3))
        some (.str x4, []))))
def sh_ref1_PutVarint (N : Nat) (p0 : Int) : Option (V × List AObj) := sa_ref1_PutVarint N p0
theorem run_ref1_PutVarint (N : Nat) (p0 : Int) : callF (Γ_ref1_PutVarint N) N 19 rs_ref1_PutVarint ir_ref1_PutVarint [.int .u64 p0] [] = sh_ref1_PutVarint N p0 := by kernel_rfl
theorem ok_ref1_PutVarint (N : Nat) (hΓ : SpecOK Try.prog (Γ_ref1_PutVarint N)) (p0 : Int) {v : V} {hp : List AObj} (h : sh_ref1_PutVarint N p0 = some (v, hp)) : PureOK Try.prog i_ref1_PutVarint [.int .u64 p0] v := by
  have hc := chk_ref1_PutVarint
  simp only [Bool.and_eq_true] at hc
  exact ⟨hp, fnOK_of hΓ (pureS_ref1_PutVarint N) Try.func14 body_ref1_PutVarint hc.1 hc.2 (by decide) ((run_ref1_PutVarint N p0).trans h)⟩

def G_rec_Put : Nat → List V → Option (Bool × V) := fun f vs => match f, vs with
  | 13, [.int .u64 a0] => some (true, .str (putV a0))
  | 24, [.int .i64 a0] => some (true, .int .i64 (sizeR a0))
  | _, _ => none
def Γ_rec_Put : ASpec := liftG G_rec_Put
theorem pureS_rec_Put : PureS Γ_rec_Put [] := liftG_pure _ _
theorem spec_rec_Put (h_rec_PutVarint : ∀ (a0 : Int), PureOK Try.prog i_rec_PutVarint [.int .u64 a0] (.str (putV a0))) (h_rec_size : ∀ (a0 : Int), PureOK Try.prog i_rec_size [.int .i64 a0] (.int .i64 (sizeR a0))) : SpecOK Try.prog Γ_rec_Put := by
  intro f vs hp v hp' h0
  obtain ⟨h, he⟩ := liftG_inv h0
  subst he
  unfold G_rec_Put at h
  split at h
  · simp only [Option.some.injEq, Prod.mk.injEq] at h
    obtain ⟨hc, rfl⟩ := h
    exact (h_rec_PutVarint _).frame rfl rfl _
  · simp only [Option.some.injEq, Prod.mk.injEq] at h
    obtain ⟨hc, rfl⟩ := h
    exact (h_rec_size _).frame rfl rfl _
  · simp at h
def ir_rec_Put_0 : IR := .ret
def ir_rec_Put_1 : IR := (.cond (.t 13) (.seq (.reg [⟨none, .mov 2 (.c (.str ([] : List UInt8)))⟩] []) ir_rec_Put_0) .skip)
def ir_rec_Put_2 : IR := .ret
def ir_rec_Put_3 : IR := .ret
def ir_rec_Put_4 : IR := (.cond (.t 45) .skip (.reg [⟨none, .bin 47 .eql (.t 25) (.c (.int .i64 5))⟩,
    ⟨none, .mov 45 (.t 47)⟩] []))
def ir_rec_Put_5 : IR := (.reg [⟨none, .mov 54 (.tk 4)⟩,
    ⟨none, .fad 55 2 (.t 1)⟩,
    ⟨none, .ld 56 1 false false (.t 55)⟩,
    ⟨none, .mov 57 (.t 5)⟩,
    ⟨none, .bin 58 .mul (.c (.int .i64 8)) (.t 57)⟩,
    ⟨none, .bin 59 .shr (.t 56) (.t 58)⟩,
    ⟨none, .cvi 60 .u8 (.t 59)⟩,
    ⟨none, .bsl 61 .u8 [(.t 60)]⟩,
    ⟨none, .app 62 .u8 (.tk 54) (.t 61)⟩,
    ⟨none, .mov 4 (.tk 62)⟩] [])
def ir_rec_Put_6 : IR := (.reg [⟨none, .bin 63 .add (.t 51) (.c (.int .i64 1))⟩,
    ⟨none, .mov 51 (.t 63)⟩] [])
def ir_rec_Put_7 : IR := (.seq (.block 2 (.seq (.reg [⟨none, .mov 53 (.t 51)⟩,
    ⟨none, .mov 5 (.t 53)⟩] []) ir_rec_Put_5)) ir_rec_Put_6)
def ir_rec_Put_8 : IR := (.seq (.cond (.t 52) .skip (.exit 1)) ir_rec_Put_7)
def ir_rec_Put_9 : IR := (.seq (.reg [⟨none, .bin 52 .lss (.t 51) (.t 50)⟩] []) ir_rec_Put_8)
def ir_rec_Put_10 : IR := (.block 1 (.loop [1, 3, 4, 50, 51] 1 ir_rec_Put_9))
def ir_rec_Put_11 : IR := .ret
def ir_rec_Put_12 : IR := (.seq (.reg [⟨none, .mov 64 (.t 3)⟩,
    ⟨none, .mov 65 (.t 4)⟩,
    ⟨none, .b2s 66 (.t 65)⟩,
    ⟨none, .bin 67 .add (.t 64) (.t 66)⟩,
    ⟨none, .mov 2 (.t 67)⟩] []) ir_rec_Put_11)
def ir_rec_Put_13 : IR := (.seq (.seq (.reg [⟨none, .fad 48 1 (.t 1)⟩,
    ⟨none, .ld 49 1 false false (.t 48)⟩,
    ⟨none, .call (some 50) 24 [(.t 49)]⟩,
    ⟨none, .mov 51 (.c (.int .i64 0))⟩] []) ir_rec_Put_10) ir_rec_Put_12)
def ir_rec_Put_14 : IR := (.cond (.t 45) (.seq (.reg [⟨none, .mov 4 (.c (.sl .u8 true ([] : List UInt8)))⟩] []) ir_rec_Put_13) .skip)
def ir_rec_Put_15 : IR := (.cond (.t 33) (.seq (.reg [⟨none, .mov 35 (.t 3)⟩,
    ⟨none, .fad 36 3 (.t 1)⟩,
    ⟨none, .ld 37 1 false false (.t 36)⟩,
    ⟨none, .lens 38 (.t 37)⟩,
    ⟨none, .cvi 39 .u64 (.t 38)⟩,
    ⟨none, .call (some 40) 13 [(.t 39)]⟩,
    ⟨none, .bin 41 .add (.t 35) (.t 40)⟩,
    ⟨none, .fad 42 3 (.t 1)⟩,
    ⟨none, .ld 43 1 false false (.t 42)⟩,
    ⟨none, .bin 44 .add (.t 41) (.t 43)⟩,
    ⟨none, .mov 2 (.t 44)⟩] [[], [], [1], [1, 2], [1, 2, 3], [1, 2, 3, 4], [0, 1, 2, 3, 4, 5], [], [7], [0, 1, 2, 3, 4, 5, 6, 7, 8], [0, 1, 2, 3, 4, 5, 6, 7, 8, 9]]) ir_rec_Put_3) (.seq (.seq (.reg [⟨none, .bin 46 .eql (.t 25) (.c (.int .i64 1))⟩,
    ⟨none, .mov 45 (.t 46)⟩] []) ir_rec_Put_4) ir_rec_Put_14))
def ir_rec_Put_16 : IR := (.cond (.t 26) (.seq (.reg [⟨none, .mov 28 (.t 3)⟩,
    ⟨none, .fad 29 2 (.t 1)⟩,
    ⟨none, .ld 30 1 false false (.t 29)⟩,
    ⟨none, .call (some 31) 13 [(.t 30)]⟩,
    ⟨none, .bin 32 .add (.t 28) (.t 31)⟩,
    ⟨none, .mov 2 (.t 32)⟩] []) ir_rec_Put_2) (.seq (.reg [⟨none, .bin 34 .eql (.t 25) (.c (.int .i64 2))⟩,
    ⟨none, .mov 33 (.t 34)⟩] []) ir_rec_Put_15))
def ir_rec_Put_17 : IR := (.block 0 (.seq (.reg [⟨none, .bin 27 .eql (.t 25) (.c (.int .i64 0))⟩,
    ⟨none, .mov 26 (.t 27)⟩] []) ir_rec_Put_16))
def ir_rec_Put_18 : IR := .ret
def ir_rec_Put_19 : IR := (.seq (.reg [⟨none, .mov 2 (.c (.str ([] : List UInt8)))⟩] []) ir_rec_Put_18)
def ir_rec_Put_20 : IR := (.seq (.seq (.reg [⟨none, .fad 24 1 (.t 1)⟩,
    ⟨none, .ld 25 1 false false (.t 24)⟩] []) ir_rec_Put_17) ir_rec_Put_19)
def ir_rec_Put_21 : IR := (.seq (.reg [⟨none, .fad 14 0 (.t 1)⟩,
    ⟨none, .ld 15 1 false false (.t 14)⟩,
    ⟨none, .cvi 16 .u64 (.t 15)⟩,
    ⟨none, .bin 17 .mul (.t 16) (.c (.int .u64 8))⟩,
    ⟨none, .fad 18 1 (.t 1)⟩,
    ⟨none, .ld 19 1 false false (.t 18)⟩,
    ⟨none, .bin 20 .and (.t 19) (.c (.int .i64 7))⟩,
    ⟨none, .cvi 21 .u64 (.t 20)⟩,
    ⟨none, .bin 22 .add (.t 17) (.t 21)⟩,
    ⟨none, .call (some 23) 13 [(.t 22)]⟩,
    ⟨none, .mov 3 (.t 23)⟩] []) ir_rec_Put_20)
def ir_rec_Put_22 : IR := (.seq (.seq (.reg [⟨none, .fad 6 0 (.t 1)⟩,
    ⟨none, .ld 7 1 false false (.t 6)⟩,
    ⟨none, .bin 8 .lss (.t 7) (.c (.int .i64 1))⟩,
    ⟨none, .mov 9 (.t 8)⟩,
    ⟨some (9, false), .fad 10 0 (.t 1)⟩,
    ⟨some (9, false), .ld 11 1 false false (.t 10)⟩,
    ⟨some (9, false), .bin 12 .gtr (.t 11) (.c (.int .i64 536870911))⟩,
    ⟨none, .pick 13 (.t 9) (.c (.bool true)) (.t 12)⟩] []) ir_rec_Put_1) ir_rec_Put_21)
def ir_rec_Put : IR := (.seq (.reg [⟨none, .box 1 (.t 0)⟩,
    ⟨none, .mov 2 (.c (.str ([] : List UInt8)))⟩] []) ir_rec_Put_22)
def rs_rec_Put : List RV := [.t 2]
theorem chk_rec_Put : (chkCode Try.prog [] 0 ir_rec_Put (Try.f18.body.getD .skip) && chkRes Try.prog rs_rec_Put Try.f18.results.toList) = true := by kernel_rfl
theorem body_rec_Put : Try.f18.body = some (Try.f18.body.getD .skip) := by kernel_rfl
def mk_rec_Put_0 (x : (List UInt8 × List UInt8 × Int × Int × Int × Int × Int × List UInt8 × List UInt8)) : St := { env := [.undef, .ptr 0 0, .undef, .str x.1, .sl .u8 true x.2.1, .undef, .undef, .undef, .undef, .undef, .undef, .undef, .undef, .undef, .undef, .undef, .undef, .undef, .undef, .undef, .undef, .undef, .undef, .undef, .undef, .undef, .undef, .undef, .undef, .undef, .undef, .undef, .undef, .undef, .undef, .undef, .undef, .undef, .undef, .undef, .undef, .undef, .undef, .undef, .undef, .undef, .undef, .undef, .undef, .undef, .int .i64 x.2.2.1, .int .i64 x.2.2.2.1, .undef, .undef, .undef, .undef, .undef, .undef, .undef, .undef, .undef, .undef, .undef, .undef, .undef, .undef, .undef, .undef], hp := [some [.int .i64 x.2.2.2.2.1, .int .i64 x.2.2.2.2.2.1, .int .u64 x.2.2.2.2.2.2.1, .str x.2.2.2.2.2.2.2.1, .str x.2.2.2.2.2.2.2.2]] }
def F_rec_Put_0 (N : Nat) : (St → Option (V × List AObj)) → St → Option (V × List AObj) := fun again0 s => run Γ_rec_Put N ir_rec_Put_9 (kloop again0 [1, 3, 4, 50, 51] 1 (kblock 1 (kseq (run Γ_rec_Put N ir_rec_Put_12) (kblock 0 (kseq (run Γ_rec_Put N ir_rec_Put_19) (fin rs_rec_Put)))))) s
def B_rec_Put_0 (N : Nat) (again0 : (List UInt8 × List UInt8 × Int × Int × Int × Int × Int × List UInt8 × List UInt8) → Option (V × List AObj)) (x : (List UInt8 × List UInt8 × Int × Int × Int × Int × Int × List UInt8 × List UInt8)) : Option (V × List AObj) :=
  let v3 : List UInt8 := x.1
  let v4 : List UInt8 := x.2.1
  let v50 : Int := x.2.2.1
  let v51 : Int := x.2.2.2.1
  let o0_0 : Int := x.2.2.2.2.1
  let o0_1 : Int := x.2.2.2.2.2.1
  let o0_2 : Int := x.2.2.2.2.2.2.1
  let o0_3 : List UInt8 := x.2.2.2.2.2.2.2.1
  let o0_4 : List UInt8 := x.2.2.2.2.2.2.2.2
  cond (decide (v51 < v50)) (
    let x9 : Int := (IntKind.wrap .i64 (8 * v51))
    chk (decide (0 ≤ x9)) (
      let x10 : Int := (IntKind.wrap .u8 (shrI .u64 o0_2 x9))
      chk (decide ((List.length v4 + List.length ([(UInt8.ofNat (Int.toNat x10))] : List UInt8)) * 1 ≤ 140737488355328)) (
        let x11 : List UInt8 := (v4 ++ ([(UInt8.ofNat (Int.toNat x10))] : List UInt8))
        let x12 : Int := (IntKind.wrap .i64 (v51 + 1))
        again0 (v3, x11, v50, x12, o0_0, o0_1, o0_2, o0_3, o0_4)))) (
    chk (decide (List.length v3 + List.length v4 ≤ 9223372036854775807)) (
      some (.str (v3 ++ v4), [some [.int .i64 o0_0, .int .i64 o0_1, .int .u64 o0_2, .str o0_3, .str o0_4]])))
theorem FB_rec_Put_0 (N : Nat) : ∀ (again0 : St → Option (V × List AObj)) (x : (List UInt8 × List UInt8 × Int × Int × Int × Int × Int × List UInt8 × List UInt8)), F_rec_Put_0 N again0 (mk_rec_Put_0 x) = B_rec_Put_0 N (fun y => again0 (mk_rec_Put_0 y)) x := by
  intro again0 x
  kernel_rfl
/-- proclitic/rec.Put -/
def sa_rec_Put (N : Nat) (p0_0 : Int) (p0_1 : Int) (p0_2 : Int) (p0_3 : List UInt8) (p0_4 : List UInt8) (q0 : (List UInt8 × List UInt8 × Int × Int × Int × Int × Int × List UInt8 × List UInt8) → Option (V × List AObj)) : Option (V × List AObj) :=
  cond (decide (p0_0 < 1)) (
    some (.str ([] : List UInt8), [some [.int .i64 p0_0, .int .i64 p0_1, .int .u64 p0_2, .str p0_3, .str p0_4]])) (
    let x1 : Bool := decide (536870911 < p0_0)
    cond x1 (
      some (.str ([] : List UInt8), [some [.int .i64 p0_0, .int .i64 p0_1, .int .u64 p0_2, .str p0_3, .str p0_4]])) (
      let x2 : Int := (IntKind.wrap .u64 ((IntKind.wrap .u64 p0_0) * 8))
      let x3 : Int := (IntKind.wrap .u64 (bitsI .and .i64 p0_1 7))
      let x4 : Int := (IntKind.wrap .u64 (x2 + x3))
      cond (p0_1 == 0) (
        chk (decide (List.length (putV x4) + List.length (putV p0_2) ≤ 9223372036854775807)) (
          let x5 : List UInt8 := ((putV x4) ++ (putV p0_2))
          some (.str x5, [some [.int .i64 p0_0, .int .i64 p0_1, .int .u64 p0_2, .str p0_3, .str p0_4]]))) (
        cond (p0_1 == 2) (
          let x6 : Int := (↑(List.length p0_3) : Int)
          let x7 : List UInt8 := (putV (IntKind.wrap .u64 x6))
          chk (decide (List.length (putV x4) + List.length x7 ≤ 9223372036854775807)) (
            chk (decide (List.length ((putV x4) ++ x7) + List.length p0_3 ≤ 9223372036854775807)) (
              let x8 : List UInt8 := (((putV x4) ++ x7) ++ p0_3)
              some (.str x8, [some [.int .i64 p0_0, .int .i64 p0_1, .int .u64 p0_2, .str p0_3, .str p0_4]])))) (
          cond (p0_1 == 1) (
            cond (p0_1 == 1) (
              q0 ((putV x4), ([] : List UInt8), (sizeR p0_1), 0, p0_0, p0_1, p0_2, p0_3, p0_4)) (
              some (.str ([] : List UInt8), [some [.int .i64 p0_0, .int .i64 p0_1, .int .u64 p0_2, .str p0_3, .str p0_4]]))) (
            cond (p0_1 == 5) (
              q0 ((putV x4), ([] : List UInt8), (sizeR p0_1), 0, p0_0, p0_1, p0_2, p0_3, p0_4)) (
              some (.str ([] : List UInt8), [some [.int .i64 p0_0, .int .i64 p0_1, .int .u64 p0_2, .str p0_3, .str p0_4]])))))))
def sh_rec_Put (N : Nat) (p0_0 : Int) (p0_1 : Int) (p0_2 : Int) (p0_3 : List UInt8) (p0_4 : List UInt8) : Option (V × List AObj) := sa_rec_Put N p0_0 p0_1 p0_2 p0_3 p0_4 (fun z => iterL N (B_rec_Put_0 N) z)
theorem run_rec_Put (N : Nat) (p0_0 : Int) (p0_1 : Int) (p0_2 : Int) (p0_3 : List UInt8) (p0_4 : List UInt8) : callF Γ_rec_Put N 68 rs_rec_Put ir_rec_Put [.agg [.int .i64 p0_0, .int .i64 p0_1, .int .u64 p0_2, .str p0_3, .str p0_4]] [] = sh_rec_Put N p0_0 p0_1 p0_2 p0_3 p0_4 := by
  have h : callF Γ_rec_Put N 68 rs_rec_Put ir_rec_Put [.agg [.int .i64 p0_0, .int .i64 p0_1, .int .u64 p0_2, .str p0_3, .str p0_4]] [] = sa_rec_Put N p0_0 p0_1 p0_2 p0_3 p0_4 (fun z => loopN N (F_rec_Put_0 N) (mk_rec_Put_0 z)) := by kernel_rfl
  have e0 : (fun z => loopN N (F_rec_Put_0 N) (mk_rec_Put_0 z)) = (fun z => iterL N (B_rec_Put_0 N) z) := funext fun z => loop_eq (mk_rec_Put_0) (F_rec_Put_0 N) (B_rec_Put_0 N) (FB_rec_Put_0 N) N z
  rw [h, e0]
  rfl
theorem ok_rec_Put (hΓ : SpecOK Try.prog Γ_rec_Put) (N : Nat) (p0_0 : Int) (p0_1 : Int) (p0_2 : Int) (p0_3 : List UInt8) (p0_4 : List UInt8) {v : V} {hp : List AObj} (h : sh_rec_Put N p0_0 p0_1 p0_2 p0_3 p0_4 = some (v, hp)) : PureOK Try.prog i_rec_Put [.agg [.int .i64 p0_0, .int .i64 p0_1, .int .u64 p0_2, .str p0_3, .str p0_4]] v := by
  have hc := chk_rec_Put
  simp only [Bool.and_eq_true] at hc
  exact ⟨hp, fnOK_of hΓ pureS_rec_Put Try.func18 body_rec_Put hc.1 hc.2 (by decide) ((run_rec_Put N p0_0 p0_1 p0_2 p0_3 p0_4).trans h)⟩

def G_ref1_Put : Nat → List V → Option (Bool × V) := fun f vs => match f, vs with
  | 14, [.int .u64 a0] => some (true, .str (putV a0))
  | 25, [.int .u64 a0, .int .i64 a1] => some (decide ((a1 : Int) ≤ 1000), .str (lowsR a0 a1))
  | _, _ => none
def Γ_ref1_Put : ASpec := liftG G_ref1_Put
theorem pureS_ref1_Put : PureS Γ_ref1_Put [] := liftG_pure _ _
theorem spec_ref1_Put (h_ref1_PutVarint : ∀ (a0 : Int), PureOK Try.prog i_ref1_PutVarint [.int .u64 a0] (.str (putV a0))) (h_ref1_Low : ∀ (a0 : Int) (a1 : Int), (decide ((a1 : Int) ≤ 1000)) = true → PureOK Try.prog i_ref1_Low [.int .u64 a0, .int .i64 a1] (.str (lowsR a0 a1))) : SpecOK Try.prog Γ_ref1_Put := by
  intro f vs hp v hp' h0
  obtain ⟨h, he⟩ := liftG_inv h0
  subst he
  unfold G_ref1_Put at h
  split at h
  · simp only [Option.some.injEq, Prod.mk.injEq] at h
    obtain ⟨hc, rfl⟩ := h
    exact (h_ref1_PutVarint _).frame rfl rfl _
  · simp only [Option.some.injEq, Prod.mk.injEq] at h
    obtain ⟨hc, rfl⟩ := h
    exact (h_ref1_Low _ _ hc).frame rfl rfl _
  · simp at h
def ir_ref1_Put_0 : IR := .ret
def ir_ref1_Put_1 : IR := (.cond (.t 11) (.seq (.reg [⟨none, .mov 2 (.c (.str ([] : List UInt8)))⟩] []) ir_ref1_Put_0) .skip)
def ir_ref1_Put_2 : IR := .ret
def ir_ref1_Put_3 : IR := .ret
def ir_ref1_Put_4 : IR := .ret
def ir_ref1_Put_5 : IR := .ret
def ir_ref1_Put_6 : IR := (.cond (.t 44) (.seq (.reg [⟨none, .mov 46 (.t 3)⟩,
    ⟨none, .fad 47 3 (.t 1)⟩,
    ⟨none, .ld 48 1 false false (.t 47)⟩,
    ⟨none, .lens 49 (.t 48)⟩,
    ⟨none, .cvi 50 .u64 (.t 49)⟩,
    ⟨none, .call (some 51) 14 [(.t 50)]⟩,
    ⟨none, .bin 52 .add (.t 46) (.t 51)⟩,
    ⟨none, .fad 53 3 (.t 1)⟩,
    ⟨none, .ld 54 1 false false (.t 53)⟩,
    ⟨none, .bin 55 .add (.t 52) (.t 54)⟩,
    ⟨none, .mov 2 (.t 55)⟩] [[], [], [1], [1, 2], [1, 2, 3], [1, 2, 3, 4], [0, 1, 2, 3, 4, 5], [], [7], [0, 1, 2, 3, 4, 5, 6, 7, 8], [0, 1, 2, 3, 4, 5, 6, 7, 8, 9]]) ir_ref1_Put_5) .skip)
def ir_ref1_Put_7 : IR := (.cond (.t 37) (.seq (.reg [⟨none, .mov 39 (.t 3)⟩,
    ⟨none, .fad 40 2 (.t 1)⟩,
    ⟨none, .ld 41 1 false false (.t 40)⟩,
    ⟨none, .call (some 42) 25 [(.t 41), (.c (.int .i64 4))]⟩,
    ⟨none, .bin 43 .add (.t 39) (.t 42)⟩,
    ⟨none, .mov 2 (.t 43)⟩] []) ir_ref1_Put_4) (.seq (.reg [⟨none, .bin 45 .eql (.t 22) (.c (.int .i64 2))⟩,
    ⟨none, .mov 44 (.t 45)⟩] []) ir_ref1_Put_6))
def ir_ref1_Put_8 : IR := (.cond (.t 30) (.seq (.reg [⟨none, .mov 32 (.t 3)⟩,
    ⟨none, .fad 33 2 (.t 1)⟩,
    ⟨none, .ld 34 1 false false (.t 33)⟩,
    ⟨none, .call (some 35) 25 [(.t 34), (.c (.int .i64 8))]⟩,
    ⟨none, .bin 36 .add (.t 32) (.t 35)⟩,
    ⟨none, .mov 2 (.t 36)⟩] []) ir_ref1_Put_3) (.seq (.reg [⟨none, .bin 38 .eql (.t 22) (.c (.int .i64 5))⟩,
    ⟨none, .mov 37 (.t 38)⟩] []) ir_ref1_Put_7))
def ir_ref1_Put_9 : IR := (.cond (.t 23) (.seq (.reg [⟨none, .mov 25 (.t 3)⟩,
    ⟨none, .fad 26 2 (.t 1)⟩,
    ⟨none, .ld 27 1 false false (.t 26)⟩,
    ⟨none, .call (some 28) 14 [(.t 27)]⟩,
    ⟨none, .bin 29 .add (.t 25) (.t 28)⟩,
    ⟨none, .mov 2 (.t 29)⟩] []) ir_ref1_Put_2) (.seq (.reg [⟨none, .bin 31 .eql (.t 22) (.c (.int .i64 1))⟩,
    ⟨none, .mov 30 (.t 31)⟩] []) ir_ref1_Put_8))
def ir_ref1_Put_10 : IR := (.block 0 (.seq (.reg [⟨none, .bin 24 .eql (.t 22) (.c (.int .i64 0))⟩,
    ⟨none, .mov 23 (.t 24)⟩] []) ir_ref1_Put_9))
def ir_ref1_Put_11 : IR := .ret
def ir_ref1_Put_12 : IR := (.seq (.reg [⟨none, .mov 2 (.c (.str ([] : List UInt8)))⟩] []) ir_ref1_Put_11)
def ir_ref1_Put_13 : IR := (.seq (.seq (.reg [⟨none, .fad 21 1 (.t 1)⟩,
    ⟨none, .ld 22 1 false false (.t 21)⟩] []) ir_ref1_Put_10) ir_ref1_Put_12)
def ir_ref1_Put_14 : IR := (.seq (.reg [⟨none, .fad 12 0 (.t 1)⟩,
    ⟨none, .ld 13 1 false false (.t 12)⟩,
    ⟨none, .cvi 14 .u64 (.t 13)⟩,
    ⟨none, .bin 15 .mul (.t 14) (.c (.int .u64 8))⟩,
    ⟨none, .fad 16 1 (.t 1)⟩,
    ⟨none, .ld 17 1 false false (.t 16)⟩,
    ⟨none, .cvi 18 .u64 (.t 17)⟩,
    ⟨none, .bin 19 .add (.t 15) (.t 18)⟩,
    ⟨none, .call (some 20) 14 [(.t 19)]⟩,
    ⟨none, .mov 3 (.t 20)⟩] []) ir_ref1_Put_13)
def ir_ref1_Put_15 : IR := (.seq (.seq (.reg [⟨none, .fad 4 0 (.t 1)⟩,
    ⟨none, .ld 5 1 false false (.t 4)⟩,
    ⟨none, .bin 6 .lss (.t 5) (.c (.int .i64 1))⟩,
    ⟨none, .mov 7 (.t 6)⟩,
    ⟨some (7, false), .fad 8 0 (.t 1)⟩,
    ⟨some (7, false), .ld 9 1 false false (.t 8)⟩,
    ⟨some (7, false), .bin 10 .gtr (.t 9) (.c (.int .i64 536870911))⟩,
    ⟨none, .pick 11 (.t 7) (.c (.bool true)) (.t 10)⟩] []) ir_ref1_Put_1) ir_ref1_Put_14)
def ir_ref1_Put : IR := (.seq (.reg [⟨none, .box 1 (.t 0)⟩,
    ⟨none, .mov 2 (.c (.str ([] : List UInt8)))⟩] []) ir_ref1_Put_15)
def rs_ref1_Put : List RV := [.t 2]
theorem chk_ref1_Put : (chkCode Try.prog [] 0 ir_ref1_Put (Try.f19.body.getD .skip) && chkRes Try.prog rs_ref1_Put Try.f19.results.toList) = true := by kernel_rfl
theorem body_ref1_Put : Try.f19.body = some (Try.f19.body.getD .skip) := by kernel_rfl
/-- proclitic/procliticref1.Put -/
def sa_ref1_Put (N : Nat) (p0_0 : Int) (p0_1 : Int) (p0_2 : Int) (p0_3 : List UInt8) (p0_4 : List UInt8)  : Option (V × List AObj) :=
  cond (decide (p0_0 < 1)) (
    some (.str ([] : List UInt8), [some [.int .i64 p0_0, .int .i64 p0_1, .int .u64 p0_2, .str p0_3, .str p0_4]])) (
    let x1 : Bool := decide (536870911 < p0_0)
    cond x1 (
      some (.str ([] : List UInt8), [some [.int .i64 p0_0, .int .i64 p0_1, .int .u64 p0_2, .str p0_3, .str p0_4]])) (
      let x2 : Int := (IntKind.wrap .u64 ((IntKind.wrap .u64 p0_0) * 8))
      let x3 : Int := (IntKind.wrap .u64 (x2 + (IntKind.wrap .u64 p0_1)))
      cond (p0_1 == 0) (
        chk (decide (List.length (putV x3) + List.length (putV p0_2) ≤ 9223372036854775807)) (
          let x4 : List UInt8 := ((putV x3) ++ (putV p0_2))
          some (.str x4, [some [.int .i64 p0_0, .int .i64 p0_1, .int .u64 p0_2, .str p0_3, .str p0_4]]))) (
        cond (p0_1 == 1) (
          chk (decide ((8 : Int) ≤ 1000)) (
            chk (decide (List.length (putV x3) + List.length (lowsR p0_2 8) ≤ 9223372036854775807)) (
              let x5 : List UInt8 := ((putV x3) ++ (lowsR p0_2 8))
              some (.str x5, [some [.int .i64 p0_0, .int .i64 p0_1, .int .u64 p0_2, .str p0_3, .str p0_4]])))) (
          cond (p0_1 == 5) (
            chk (decide ((4 : Int) ≤ 1000)) (
              chk (decide (List.length (putV x3) + List.length (lowsR p0_2 4) ≤ 9223372036854775807)) (
                let x6 : List UInt8 := ((putV x3) ++ (lowsR p0_2 4))
                some (.str x6, [some [.int .i64 p0_0, .int .i64 p0_1, .int .u64 p0_2, .str p0_3, .str p0_4]])))) (
            cond (p0_1 == 2) (
              let x7 : Int := (↑(List.length p0_3) : Int)
              let x8 : List UInt8 := (putV (IntKind.wrap .u64 x7))
              chk (decide (List.length (putV x3) + List.length x8 ≤ 9223372036854775807)) (
                chk (decide (List.length ((putV x3) ++ x8) + List.length p0_3 ≤ 9223372036854775807)) (
                  let x9 : List UInt8 := (((putV x3) ++ x8) ++ p0_3)
                  some (.str x9, [some [.int .i64 p0_0, .int .i64 p0_1, .int .u64 p0_2, .str p0_3, .str p0_4]])))) (
              some (.str ([] : List UInt8), [some [.int .i64 p0_0, .int .i64 p0_1, .int .u64 p0_2, .str p0_3, .str p0_4]])))))))
def sh_ref1_Put (N : Nat) (p0_0 : Int) (p0_1 : Int) (p0_2 : Int) (p0_3 : List UInt8) (p0_4 : List UInt8) : Option (V × List AObj) := sa_ref1_Put N p0_0 p0_1 p0_2 p0_3 p0_4
theorem run_ref1_Put (N : Nat) (p0_0 : Int) (p0_1 : Int) (p0_2 : Int) (p0_3 : List UInt8) (p0_4 : List UInt8) : callF Γ_ref1_Put N 56 rs_ref1_Put ir_ref1_Put [.agg [.int .i64 p0_0, .int .i64 p0_1, .int .u64 p0_2, .str p0_3, .str p0_4]] [] = sh_ref1_Put N p0_0 p0_1 p0_2 p0_3 p0_4 := by kernel_rfl
theorem ok_ref1_Put (hΓ : SpecOK Try.prog Γ_ref1_Put) (N : Nat) (p0_0 : Int) (p0_1 : Int) (p0_2 : Int) (p0_3 : List UInt8) (p0_4 : List UInt8) {v : V} {hp : List AObj} (h : sh_ref1_Put N p0_0 p0_1 p0_2 p0_3 p0_4 = some (v, hp)) : PureOK Try.prog i_ref1_Put [.agg [.int .i64 p0_0, .int .i64 p0_1, .int .u64 p0_2, .str p0_3, .str p0_4]] v := by
  have hc := chk_ref1_Put
  simp only [Bool.and_eq_true] at hc
  exact ⟨hp, fnOK_of hΓ pureS_ref1_Put Try.func19 body_ref1_Put hc.1 hc.2 (by decide) ((run_ref1_Put N p0_0 p0_1 p0_2 p0_3 p0_4).trans h)⟩

def G_ref1_Join : Nat → List V → Option (Bool × V) := fun _ _ => none
def Γ_ref1_Join : ASpec := liftG G_ref1_Join
theorem pureS_ref1_Join : PureS Γ_ref1_Join [] := liftG_pure _ _
theorem spec_ref1_Join : SpecOK Try.prog Γ_ref1_Join := by
  intro f vs hp v hp' h
  obtain ⟨h, -⟩ := liftG_inv h
  simp [G_ref1_Join] at h
def ir_ref1_Join_0 : IR := (.cond (.t 8) .skip (.exit 0))
def ir_ref1_Join_1 : IR := (.reg [⟨none, .mov 9 (.t 4)⟩,
    ⟨none, .bin 10 .add (.t 9) (.c (.int .i64 1))⟩,
    ⟨none, .mov 4 (.t 10)⟩] [])
def ir_ref1_Join_2 : IR := (.seq (.block 1 (.reg [⟨none, .mov 11 (.t 3)⟩,
    ⟨none, .mov 12 (.t 0)⟩,
    ⟨none, .mov 13 (.t 4)⟩,
    ⟨none, .ixa 14 .record (.t 12) (.t 13)⟩,
    ⟨none, .fad 15 4 (.t 14)⟩,
    ⟨none, .ld 16 1 false false (.t 15)⟩,
    ⟨none, .bin 17 .add (.t 11) (.t 16)⟩,
    ⟨none, .mov 3 (.t 17)⟩] [])) ir_ref1_Join_1)
def ir_ref1_Join_3 : IR := (.seq (.seq (.reg [⟨none, .mov 5 (.t 4)⟩,
    ⟨none, .mov 6 (.t 0)⟩,
    ⟨none, .lenl 7 (.t 6)⟩,
    ⟨none, .bin 8 .lss (.t 5) (.t 7)⟩] []) ir_ref1_Join_0) ir_ref1_Join_2)
def ir_ref1_Join_4 : IR := (.block 0 (.loop [0, 3, 4] 0 ir_ref1_Join_3))
def ir_ref1_Join_5 : IR := .ret
def ir_ref1_Join_6 : IR := (.seq (.reg [⟨none, .mov 18 (.t 3)⟩,
    ⟨none, .mov 2 (.t 18)⟩] []) ir_ref1_Join_5)
def ir_ref1_Join_7 : IR := (.seq (.seq (.reg [⟨none, .mov 4 (.c (.int .i64 0))⟩] []) ir_ref1_Join_4) ir_ref1_Join_6)
def ir_ref1_Join_8 : IR := (.seq (.reg [⟨none, .mov 3 (.c (.str ([] : List UInt8)))⟩] []) ir_ref1_Join_7)
def ir_ref1_Join : IR := (.seq (.reg [⟨none, .mov 2 (.c (.str ([] : List UInt8)))⟩] []) ir_ref1_Join_8)
def rs_ref1_Join : List RV := [.t 2]
theorem chk_ref1_Join : (chkCode Try.prog [] 0 ir_ref1_Join (Try.f21.body.getD .skip) && chkRes Try.prog rs_ref1_Join Try.f21.results.toList) = true := by kernel_rfl
theorem body_ref1_Join : Try.f21.body = some (Try.f21.body.getD .skip) := by kernel_rfl
def mk_ref1_Join_0 (x : (List Record × List UInt8 × Int)) : St := { env := [.sl .record false x.1, .undef, .undef, .str x.2.1, .int .i64 x.2.2, .undef, .undef, .undef, .undef, .undef, .undef, .undef, .undef, .undef, .undef, .undef, .undef, .undef, .undef], hp := [] }
def F_ref1_Join_0 (N : Nat) : (St → Option (V × List AObj)) → St → Option (V × List AObj) := fun again0 s => run Γ_ref1_Join N ir_ref1_Join_3 (kloop again0 [0, 3, 4] 0 (kblock 0 (kseq (run Γ_ref1_Join N ir_ref1_Join_6) (fin rs_ref1_Join)))) s
def B_ref1_Join_0 (N : Nat) (again0 : (List Record × List UInt8 × Int) → Option (V × List AObj)) (x : (List Record × List UInt8 × Int)) : Option (V × List AObj) :=
  let v0 : List Record := x.1
  let v3 : List UInt8 := x.2.1
  let v4 : Int := x.2.2
  let x1 : Int := (↑(List.length v0) : Int)
  cond (decide (v4 < x1)) (
    chk ((decide (0 ≤ v4) && decide (v4 < ↑(List.length v0)))) (
      let x2 : Int := (List.getD v0 (Int.toNat v4) (dflt .record)).num
      let x3 : Int := (List.getD v0 (Int.toNat v4) (dflt .record)).wire
      let x4 : Int := (List.getD v0 (Int.toNat v4) (dflt .record)).n
      let x5 : List UInt8 := (List.getD v0 (Int.toNat v4) (dflt .record)).s
      let x6 : List UInt8 := (List.getD v0 (Int.toNat v4) (dflt .record)).raw
      chk (decide (List.length v3 + List.length x6 ≤ 9223372036854775807)) (
        let x7 : Int := (IntKind.wrap .i64 (v4 + 1))
        again0 (v0, (v3 ++ x6), x7)))) (
    some (.str v3, []))
theorem FB_ref1_Join_0 (N : Nat) : ∀ (again0 : St → Option (V × List AObj)) (x : (List Record × List UInt8 × Int)), F_ref1_Join_0 N again0 (mk_ref1_Join_0 x) = B_ref1_Join_0 N (fun y => again0 (mk_ref1_Join_0 y)) x := by
  intro again0 x
  kernel_rfl
/-- proclitic/procliticref1.Join -/
def sa_ref1_Join (N : Nat) (p0 : List Record) (q0 : (List Record × List UInt8 × Int) → Option (V × List AObj)) : Option (V × List AObj) :=
  q0 (p0, ([] : List UInt8), 0)
def sh_ref1_Join (N : Nat) (p0 : List Record) : Option (V × List AObj) := sa_ref1_Join N p0 (fun z => iterL N (B_ref1_Join_0 N) z)
theorem run_ref1_Join (N : Nat) (p0 : List Record) : callF Γ_ref1_Join N 19 rs_ref1_Join ir_ref1_Join [.sl .record false p0] [] = sh_ref1_Join N p0 := by
  have h : callF Γ_ref1_Join N 19 rs_ref1_Join ir_ref1_Join [.sl .record false p0] [] = sa_ref1_Join N p0 (fun z => loopN N (F_ref1_Join_0 N) (mk_ref1_Join_0 z)) := by kernel_rfl
  have e0 : (fun z => loopN N (F_ref1_Join_0 N) (mk_ref1_Join_0 z)) = (fun z => iterL N (B_ref1_Join_0 N) z) := funext fun z => loop_eq (mk_ref1_Join_0) (F_ref1_Join_0 N) (B_ref1_Join_0 N) (FB_ref1_Join_0 N) N z
  rw [h, e0]
  rfl
theorem ok_ref1_Join (hΓ : SpecOK Try.prog Γ_ref1_Join) (N : Nat) (p0 : List Record) {v : V} {hp : List AObj} (h : sh_ref1_Join N p0 = some (v, hp)) : PureOK Try.prog i_ref1_Join [.sl .record false p0] v := by
  have hc := chk_ref1_Join
  simp only [Bool.and_eq_true] at hc
  exact ⟨hp, fnOK_of hΓ pureS_ref1_Join Try.func21 body_ref1_Join hc.1 hc.2 (by decide) ((run_ref1_Join N p0).trans h)⟩

def G_ref1_SameRecords : Nat → List V → Option (Bool × V) := fun _ _ => none
def Γ_ref1_SameRecords : ASpec := liftG G_ref1_SameRecords
theorem pureS_ref1_SameRecords : PureS Γ_ref1_SameRecords [] := liftG_pure _ _
theorem spec_ref1_SameRecords : SpecOK Try.prog Γ_ref1_SameRecords := by
  intro f vs hp v hp' h
  obtain ⟨h, -⟩ := liftG_inv h
  simp [G_ref1_SameRecords] at h
def ir_ref1_SameRecords_0 : IR := .ret
def ir_ref1_SameRecords_1 : IR := (.cond (.t 10) (.seq (.reg [⟨none, .mov 4 (.c (.bool false))⟩] []) ir_ref1_SameRecords_0) .skip)
def ir_ref1_SameRecords_2 : IR := (.cond (.t 14) .skip (.exit 0))
def ir_ref1_SameRecords_3 : IR := .ret
def ir_ref1_SameRecords_4 : IR := (.cond (.t 25) (.seq (.reg [⟨none, .mov 4 (.c (.bool false))⟩] []) ir_ref1_SameRecords_3) .skip)
def ir_ref1_SameRecords_5 : IR := (.reg [⟨none, .mov 15 (.t 5)⟩,
    ⟨none, .bin 16 .add (.t 15) (.c (.int .i64 1))⟩,
    ⟨none, .mov 5 (.t 16)⟩] [])
def ir_ref1_SameRecords_6 : IR := (.seq (.block 1 (.seq (.reg [⟨none, .mov 17 (.t 0)⟩,
    ⟨none, .mov 18 (.t 5)⟩,
    ⟨none, .ixa 19 .record (.t 17) (.t 18)⟩,
    ⟨none, .ld 20 5 true false (.t 19)⟩,
    ⟨none, .mov 21 (.t 1)⟩,
    ⟨none, .mov 22 (.t 5)⟩,
    ⟨none, .ixa 23 .record (.t 21) (.t 22)⟩,
    ⟨none, .ld 24 5 true false (.t 23)⟩,
    ⟨none, .eqs 25 true [0, 0, 0, 1, 1] (.t 20) (.t 24)⟩] [[], [], [0, 1], [0, 1, 2], [], [], [4, 5], [4, 5, 6], [0, 1, 2, 3, 4, 5, 6, 7]]) ir_ref1_SameRecords_4)) ir_ref1_SameRecords_5)
def ir_ref1_SameRecords_7 : IR := (.seq (.seq (.reg [⟨none, .mov 11 (.t 5)⟩,
    ⟨none, .mov 12 (.t 0)⟩,
    ⟨none, .lenl 13 (.t 12)⟩,
    ⟨none, .bin 14 .lss (.t 11) (.t 13)⟩] []) ir_ref1_SameRecords_2) ir_ref1_SameRecords_6)
def ir_ref1_SameRecords_8 : IR := (.block 0 (.loop [0, 1, 5] 0 ir_ref1_SameRecords_7))
def ir_ref1_SameRecords_9 : IR := .ret
def ir_ref1_SameRecords_10 : IR := (.seq (.reg [⟨none, .mov 4 (.c (.bool true))⟩] []) ir_ref1_SameRecords_9)
def ir_ref1_SameRecords_11 : IR := (.seq (.seq (.reg [⟨none, .mov 5 (.c (.int .i64 0))⟩] []) ir_ref1_SameRecords_8) ir_ref1_SameRecords_10)
def ir_ref1_SameRecords_12 : IR := (.seq (.seq (.reg [⟨none, .mov 6 (.t 0)⟩,
    ⟨none, .lenl 7 (.t 6)⟩,
    ⟨none, .mov 8 (.t 1)⟩,
    ⟨none, .lenl 9 (.t 8)⟩,
    ⟨none, .bin 10 .neq (.t 7) (.t 9)⟩] []) ir_ref1_SameRecords_1) ir_ref1_SameRecords_11)
def ir_ref1_SameRecords : IR := (.seq (.reg [⟨none, .mov 4 (.c (.bool false))⟩] []) ir_ref1_SameRecords_12)
def rs_ref1_SameRecords : List RV := [.t 4]
theorem chk_ref1_SameRecords : (chkCode Try.prog [] 0 ir_ref1_SameRecords (Try.f17.body.getD .skip) && chkRes Try.prog rs_ref1_SameRecords Try.f17.results.toList) = true := by kernel_rfl
theorem body_ref1_SameRecords : Try.f17.body = some (Try.f17.body.getD .skip) := by kernel_rfl
def mk_ref1_SameRecords_0 (x : (List Record × List Record × Int)) : St := { env := [.sl .record false x.1, .sl .record false x.2.1, .undef, .undef, .undef, .int .i64 x.2.2, .undef, .undef, .undef, .undef, .undef, .undef, .undef, .undef, .undef, .undef, .undef, .undef, .undef, .undef, .undef, .undef, .undef, .undef, .undef, .undef], hp := [] }
def F_ref1_SameRecords_0 (N : Nat) : (St → Option (V × List AObj)) → St → Option (V × List AObj) := fun again0 s => run Γ_ref1_SameRecords N ir_ref1_SameRecords_7 (kloop again0 [0, 1, 5] 0 (kblock 0 (kseq (run Γ_ref1_SameRecords N ir_ref1_SameRecords_10) (fin rs_ref1_SameRecords)))) s
def B_ref1_SameRecords_0 (N : Nat) (again0 : (List Record × List Record × Int) → Option (V × List AObj)) (x : (List Record × List Record × Int)) : Option (V × List AObj) :=
  let v0 : List Record := x.1
  let v1 : List Record := x.2.1
  let v5 : Int := x.2.2
  let x3 : Int := (↑(List.length v0) : Int)
  cond (decide (v5 < x3)) (
    chk ((decide (0 ≤ v5) && decide (v5 < ↑(List.length v0)))) (
      let x4 : Int := (List.getD v0 (Int.toNat v5) (dflt .record)).num
      let x5 : Int := (List.getD v0 (Int.toNat v5) (dflt .record)).wire
      let x6 : Int := (List.getD v0 (Int.toNat v5) (dflt .record)).n
      let x7 : List UInt8 := (List.getD v0 (Int.toNat v5) (dflt .record)).s
      let x8 : List UInt8 := (List.getD v0 (Int.toNat v5) (dflt .record)).raw
      chk ((decide (0 ≤ v5) && decide (v5 < ↑(List.length v1)))) (
        let x9 : Int := (List.getD v1 (Int.toNat v5) (dflt .record)).num
        let x10 : Int := (List.getD v1 (Int.toNat v5) (dflt .record)).wire
        let x11 : Int := (List.getD v1 (Int.toNat v5) (dflt .record)).n
        let x12 : List UInt8 := (List.getD v1 (Int.toNat v5) (dflt .record)).s
        let x13 : List UInt8 := (List.getD v1 (Int.toNat v5) (dflt .record)).raw
        let x14 : Bool := (!((x4 == x9) && ((x5 == x10) && ((x6 == x11) && (decide (x7 = x12) && (decide (x8 = x13) && true))))))
        cond x14 (
          some (.bool false, [])) (
          let x15 : Int := (IntKind.wrap .i64 (v5 + 1))
          again0 (v0, v1, x15))))) (
    some (.bool true, []))
theorem FB_ref1_SameRecords_0 (N : Nat) : ∀ (again0 : St → Option (V × List AObj)) (x : (List Record × List Record × Int)), F_ref1_SameRecords_0 N again0 (mk_ref1_SameRecords_0 x) = B_ref1_SameRecords_0 N (fun y => again0 (mk_ref1_SameRecords_0 y)) x := by
  intro again0 x
  kernel_rfl
/-- proclitic/procliticref1.SameRecords -/
def sa_ref1_SameRecords (N : Nat) (p0 : List Record) (p1 : List Record) (q0 : (List Record × List Record × Int) → Option (V × List AObj)) : Option (V × List AObj) :=
  let x1 : Int := (↑(List.length p0) : Int)
  let x2 : Int := (↑(List.length p1) : Int)
  cond (!(x1 == x2)) (
    some (.bool false, [])) (
    q0 (p0, p1, 0))
def sh_ref1_SameRecords (N : Nat) (p0 : List Record) (p1 : List Record) : Option (V × List AObj) := sa_ref1_SameRecords N p0 p1 (fun z => iterL N (B_ref1_SameRecords_0 N) z)
theorem run_ref1_SameRecords (N : Nat) (p0 : List Record) (p1 : List Record) : callF Γ_ref1_SameRecords N 26 rs_ref1_SameRecords ir_ref1_SameRecords [.sl .record false p0, .sl .record false p1] [] = sh_ref1_SameRecords N p0 p1 := by
  have h : callF Γ_ref1_SameRecords N 26 rs_ref1_SameRecords ir_ref1_SameRecords [.sl .record false p0, .sl .record false p1] [] = sa_ref1_SameRecords N p0 p1 (fun z => loopN N (F_ref1_SameRecords_0 N) (mk_ref1_SameRecords_0 z)) := by kernel_rfl
  have e0 : (fun z => loopN N (F_ref1_SameRecords_0 N) (mk_ref1_SameRecords_0 z)) = (fun z => iterL N (B_ref1_SameRecords_0 N) z) := funext fun z => loop_eq (mk_ref1_SameRecords_0) (F_ref1_SameRecords_0 N) (B_ref1_SameRecords_0 N) (FB_ref1_SameRecords_0 N) N z
  rw [h, e0]
  rfl
theorem ok_ref1_SameRecords (hΓ : SpecOK Try.prog Γ_ref1_SameRecords) (N : Nat) (p0 : List Record) (p1 : List Record) {v : V} {hp : List AObj} (h : sh_ref1_SameRecords N p0 p1 = some (v, hp)) : PureOK Try.prog i_ref1_SameRecords [.sl .record false p0, .sl .record false p1] v := by
  have hc := chk_ref1_SameRecords
  simp only [Bool.and_eq_true] at hc
  exact ⟨hp, fnOK_of hΓ pureS_ref1_SameRecords Try.func17 body_ref1_SameRecords hc.1 hc.2 (by decide) ((run_ref1_SameRecords N p0 p1).trans h)⟩

def G_law1_begun : Nat → List V → Option (Bool × V) := fun f vs => match f, vs with
  | 11, [.str a0] => some (true, .tup [.int .u64 ((vintR a0).1), .int .i64 ((vintR a0).2.1), .int .i64 ((vintR a0).2.2)])
  | 13, [.int .u64 a0] => some (true, .str (putV a0))
  | 15, [.str a0] => some (true, .tup [.sl .record false ((splitR a0).1), .int .i64 ((splitR a0).2)])
  | 18, [.agg [.int .i64 a0_0, .int .i64 a0_1, .int .u64 a0_2, .str a0_3, .str a0_4]] => some (decide (List.length a0_3 ≤ 9223372036854000000), .str (putR ⟨a0_0, a0_1, a0_2, a0_3, a0_4⟩))
  | 20, [.sl .record false a0] => some (decide (List.length (joinR a0) ≤ 140737488355328), .str (joinR a0))
  | _, _ => none
def Γ_law1_begun : ASpec := liftG G_law1_begun
theorem pureS_law1_begun : PureS Γ_law1_begun [] := liftG_pure _ _
theorem spec_law1_begun (h_rec_Varint : ∀ (a0 : List UInt8), PureOK Try.prog i_rec_Varint [.str a0] (.tup [.int .u64 ((vintR a0).1), .int .i64 ((vintR a0).2.1), .int .i64 ((vintR a0).2.2)])) (h_rec_PutVarint : ∀ (a0 : Int), PureOK Try.prog i_rec_PutVarint [.int .u64 a0] (.str (putV a0))) (h_rec_Split : ∀ (a0 : List UInt8), PureOK Try.prog i_rec_Split [.str a0] (.tup [.sl .record false ((splitR a0).1), .int .i64 ((splitR a0).2)])) (h_rec_Put : ∀ (a0_0 : Int) (a0_1 : Int) (a0_2 : Int) (a0_3 : List UInt8) (a0_4 : List UInt8), (decide (List.length a0_3 ≤ 9223372036854000000)) = true → PureOK Try.prog i_rec_Put [.agg [.int .i64 a0_0, .int .i64 a0_1, .int .u64 a0_2, .str a0_3, .str a0_4]] (.str (putR ⟨a0_0, a0_1, a0_2, a0_3, a0_4⟩))) (h_rec_Join : ∀ (a0 : List Record), (decide (List.length (joinR a0) ≤ 140737488355328)) = true → PureOK Try.prog i_rec_Join [.sl .record false a0] (.str (joinR a0))) : SpecOK Try.prog Γ_law1_begun := by
  intro f vs hp v hp' h0
  obtain ⟨h, he⟩ := liftG_inv h0
  subst he
  unfold G_law1_begun at h
  split at h
  · simp only [Option.some.injEq, Prod.mk.injEq] at h
    obtain ⟨hc, rfl⟩ := h
    exact (h_rec_Varint _).frame rfl rfl _
  · simp only [Option.some.injEq, Prod.mk.injEq] at h
    obtain ⟨hc, rfl⟩ := h
    exact (h_rec_PutVarint _).frame rfl rfl _
  · simp only [Option.some.injEq, Prod.mk.injEq] at h
    obtain ⟨hc, rfl⟩ := h
    exact (h_rec_Split _).frame rfl rfl _
  · simp only [Option.some.injEq, Prod.mk.injEq] at h
    obtain ⟨hc, rfl⟩ := h
    exact (h_rec_Put _ _ _ _ _ hc).frame rfl rfl _
  · simp only [Option.some.injEq, Prod.mk.injEq] at h
    obtain ⟨hc, rfl⟩ := h
    exact (h_rec_Join _ hc).frame rfl rfl _
  · simp at h
def ir_law1_begun_0 : IR := .ret
def ir_law1_begun_1 : IR := (.seq (.reg [⟨none, .mov 21 (.t 1)⟩,
    ⟨none, .bin 22 .eql (.t 21) (.c (.int .u64 150))⟩,
    ⟨none, .mov 23 (.t 22)⟩,
    ⟨some (23, true), .mov 24 (.t 2)⟩,
    ⟨some (23, true), .bin 25 .eql (.t 24) (.c (.int .i64 2))⟩,
    ⟨none, .pick 26 (.t 23) (.t 25) (.c (.bool false))⟩,
    ⟨none, .mov 27 (.t 26)⟩,
    ⟨some (27, true), .mov 28 (.t 3)⟩,
    ⟨some (27, true), .bin 29 .eql (.t 28) (.c (.int .i64 0))⟩,
    ⟨none, .pick 30 (.t 27) (.t 29) (.c (.bool false))⟩,
    ⟨none, .mov 31 (.t 30)⟩,
    ⟨some (31, true), .mov 32 (.t 5)⟩,
    ⟨some (31, true), .bin 33 .eql (.t 32) (.c (.int .i64 0))⟩,
    ⟨none, .pick 34 (.t 31) (.t 33) (.c (.bool false))⟩,
    ⟨none, .mov 35 (.t 34)⟩,
    ⟨some (35, true), .mov 36 (.t 4)⟩,
    ⟨some (35, true), .lenl 37 (.t 36)⟩,
    ⟨some (35, true), .bin 38 .eql (.t 37) (.c (.int .i64 1))⟩,
    ⟨none, .pick 39 (.t 35) (.t 38) (.c (.bool false))⟩,
    ⟨none, .mov 40 (.t 39)⟩,
    ⟨some (40, true), .mov 41 (.t 4)⟩,
    ⟨some (40, true), .ixa 42 .record (.t 41) (.c (.int .i64 0))⟩,
    ⟨some (40, true), .fad 43 0 (.t 42)⟩,
    ⟨some (40, true), .ld 44 1 false false (.t 43)⟩,
    ⟨some (40, true), .bin 45 .eql (.t 44) (.c (.int .i64 1))⟩,
    ⟨none, .pick 46 (.t 40) (.t 45) (.c (.bool false))⟩,
    ⟨none, .mov 47 (.t 46)⟩,
    ⟨some (47, true), .mov 48 (.t 4)⟩,
    ⟨some (47, true), .ixa 49 .record (.t 48) (.c (.int .i64 0))⟩,
    ⟨some (47, true), .fad 50 2 (.t 49)⟩,
    ⟨some (47, true), .ld 51 1 false false (.t 50)⟩,
    ⟨some (47, true), .bin 52 .eql (.t 51) (.c (.int .u64 150))⟩,
    ⟨none, .pick 53 (.t 47) (.t 52) (.c (.bool false))⟩,
    ⟨none, .mov 54 (.t 53)⟩,
    ⟨some (54, true), .mov 55 (.t 7)⟩,
    ⟨some (54, true), .bin 56 .eql (.t 55) (.c (.int .i64 2))⟩,
    ⟨none, .pick 57 (.t 54) (.t 56) (.c (.bool false))⟩,
    ⟨none, .mov 58 (.t 57)⟩,
    ⟨some (58, true), .call (some 59) 13 [(.c (.int .u64 150))]⟩,
    ⟨some (58, true), .bin 60 .eql (.t 59) (.c (.str ([150, 1] : List UInt8)))⟩,
    ⟨none, .pick 61 (.t 58) (.t 60) (.c (.bool false))⟩,
    ⟨none, .mov 62 (.t 61)⟩,
    ⟨some (62, true), .mov 63 (.t 4)⟩,
    ⟨some (62, true), .ixa 64 .record (.t 63) (.c (.int .i64 0))⟩,
    ⟨some (62, true), .ld 65 5 true false (.t 64)⟩,
    ⟨some (62, true), .call (some 66) 18 [(.t 65)]⟩,
    ⟨some (62, true), .bin 67 .eql (.t 66) (.c (.str ([8, 150, 1] : List UInt8)))⟩,
    ⟨none, .pick 68 (.t 62) (.t 67) (.c (.bool false))⟩,
    ⟨none, .mov 69 (.t 68)⟩,
    ⟨some (69, true), .mov 70 (.t 4)⟩,
    ⟨some (69, true), .call (some 71) 20 [(.t 70)]⟩,
    ⟨some (69, true), .bin 72 .eql (.t 71) (.c (.str ([8, 150, 1] : List UInt8)))⟩,
    ⟨none, .pick 73 (.t 69) (.t 72) (.c (.bool false))⟩,
    ⟨none, .mov 0 (.t 73)⟩] []) ir_law1_begun_0)
def ir_law1_begun_2 : IR := (.seq (.reg [⟨none, .call (some 18) 15 [(.c (.str ([3] : List UInt8)))]⟩,
    ⟨none, .mov 17 (.t 18)⟩,
    ⟨none, .ext 19 0 (.t 17)⟩,
    ⟨none, .ext 20 1 (.t 17)⟩,
    ⟨none, .mov 6 (.t 19)⟩,
    ⟨none, .mov 7 (.t 20)⟩] []) ir_law1_begun_1)
def ir_law1_begun_3 : IR := (.seq (.reg [⟨none, .call (some 14) 15 [(.c (.str ([8, 150, 1] : List UInt8)))]⟩,
    ⟨none, .mov 13 (.t 14)⟩,
    ⟨none, .ext 15 0 (.t 13)⟩,
    ⟨none, .ext 16 1 (.t 13)⟩,
    ⟨none, .mov 4 (.t 15)⟩,
    ⟨none, .mov 5 (.t 16)⟩] []) ir_law1_begun_2)
def ir_law1_begun_4 : IR := (.seq (.reg [⟨none, .call (some 9) 11 [(.c (.str ([150, 1] : List UInt8)))]⟩,
    ⟨none, .mov 8 (.t 9)⟩,
    ⟨none, .ext 10 0 (.t 8)⟩,
    ⟨none, .ext 11 1 (.t 8)⟩,
    ⟨none, .ext 12 2 (.t 8)⟩,
    ⟨none, .mov 1 (.t 10)⟩,
    ⟨none, .mov 2 (.t 11)⟩,
    ⟨none, .mov 3 (.t 12)⟩] []) ir_law1_begun_3)
def ir_law1_begun : IR := (.seq (.reg [⟨none, .mov 0 (.c (.bool false))⟩] []) ir_law1_begun_4)
def rs_law1_begun : List RV := [.t 0]
theorem chk_law1_begun : (chkCode Try.prog [] 0 ir_law1_begun (Try.f10.body.getD .skip) && chkRes Try.prog rs_law1_begun Try.f10.results.toList) = true := by kernel_rfl
theorem body_law1_begun : Try.f10.body = some (Try.f10.body.getD .skip) := by kernel_rfl
/-- proclitic/procliticlaw1.begun -/
def sa_law1_begun (N : Nat)   : Option (V × List AObj) :=
  let x1 : Int := (vintR ([150, 1] : List UInt8)).1
  let x2 : Int := (vintR ([150, 1] : List UInt8)).2.1
  let x3 : Int := (vintR ([150, 1] : List UInt8)).2.2
  let x4 : List Record := (splitR ([8, 150, 1] : List UInt8)).1
  let x5 : Int := (splitR ([8, 150, 1] : List UInt8)).2
  let x6 : List Record := (splitR ([3] : List UInt8)).1
  let x7 : Int := (splitR ([3] : List UInt8)).2
  cond (x1 == 150) (
    cond (x2 == 2) (
      cond (x3 == 0) (
        cond (x5 == 0) (
          let x8 : Int := (↑(List.length x4) : Int)
          cond (x8 == 1) (
            chk (decide ((0 : Int) < ↑(List.length x4))) (
              let x9 : Int := (List.getD x4 (Int.toNat 0) (dflt .record)).num
              let x10 : Int := (List.getD x4 (Int.toNat 0) (dflt .record)).wire
              let x11 : Int := (List.getD x4 (Int.toNat 0) (dflt .record)).n
              let x12 : List UInt8 := (List.getD x4 (Int.toNat 0) (dflt .record)).s
              let x13 : List UInt8 := (List.getD x4 (Int.toNat 0) (dflt .record)).raw
              cond (x9 == 1) (
                chk (decide ((0 : Int) < ↑(List.length x4))) (
                  let x14 : Int := (List.getD x4 (Int.toNat 0) (dflt .record)).num
                  let x15 : Int := (List.getD x4 (Int.toNat 0) (dflt .record)).wire
                  let x16 : Int := (List.getD x4 (Int.toNat 0) (dflt .record)).n
                  let x17 : List UInt8 := (List.getD x4 (Int.toNat 0) (dflt .record)).s
                  let x18 : List UInt8 := (List.getD x4 (Int.toNat 0) (dflt .record)).raw
                  cond (x16 == 150) (
                    cond (x7 == 2) (
                      let x19 : Bool := decide ((putV 150) = ([150, 1] : List UInt8))
                      cond x19 (
                        chk (decide ((0 : Int) < ↑(List.length x4))) (
                          let x20 : Int := (List.getD x4 (Int.toNat 0) (dflt .record)).num
                          let x21 : Int := (List.getD x4 (Int.toNat 0) (dflt .record)).wire
                          let x22 : Int := (List.getD x4 (Int.toNat 0) (dflt .record)).n
                          let x23 : List UInt8 := (List.getD x4 (Int.toNat 0) (dflt .record)).s
                          let x24 : List UInt8 := (List.getD x4 (Int.toNat 0) (dflt .record)).raw
                          chk (decide (List.length x23 ≤ 9223372036854000000)) (
                            let x25 : List UInt8 := (putR ⟨x20, x21, x22, x23, x24⟩)
                            let x26 : Bool := decide (x25 = ([8, 150, 1] : List UInt8))
                            cond x26 (
                              chk (decide (List.length (joinR x4) ≤ 140737488355328)) (
                                let x27 : Bool := decide ((joinR x4) = ([8, 150, 1] : List UInt8))
                                some (.bool x27, []))) (
                              some (.bool false, []))))) (
                        some (.bool false, []))) (
                      some (.bool false, []))) (
                    some (.bool false, [])))) (
                some (.bool false, [])))) (
            some (.bool false, []))) (
          some (.bool false, []))) (
        some (.bool false, []))) (
      some (.bool false, []))) (
    some (.bool false, []))
def sh_law1_begun (N : Nat)  : Option (V × List AObj) := sa_law1_begun N 
theorem run_law1_begun (N : Nat)  : callF Γ_law1_begun N 74 rs_law1_begun ir_law1_begun [] [] = sh_law1_begun N  := by kernel_rfl
theorem ok_law1_begun (hΓ : SpecOK Try.prog Γ_law1_begun) (N : Nat)  {v : V} {hp : List AObj} (h : sh_law1_begun N  = some (v, hp)) : PureOK Try.prog i_law1_begun [] v := by
  have hc := chk_law1_begun
  simp only [Bool.and_eq_true] at hc
  exact ⟨hp, fnOK_of hΓ pureS_law1_begun Try.func10 body_law1_begun hc.1 hc.2 (by decide) ((run_law1_begun N ).trans h)⟩

def G_law1_RecNumbers : Nat → List V → Option (Bool × V) := fun f vs => match f, vs with
  | 10, [] => some (true, .bool true)
  | 11, [.str a0] => some (true, .tup [.int .u64 ((vintR a0).1), .int .i64 ((vintR a0).2.1), .int .i64 ((vintR a0).2.2)])
  | 12, [.str a0] => some (true, .tup [.int .u64 ((vintR a0).1), .int .i64 ((vintR a0).2.1), .int .i64 ((vintR a0).2.2)])
  | 13, [.int .u64 a0] => some (true, .str (putV a0))
  | 14, [.int .u64 a0] => some (true, .str (putV a0))
  | _, _ => none
def Γ_law1_RecNumbers : ASpec := liftG G_law1_RecNumbers
theorem pureS_law1_RecNumbers : PureS Γ_law1_RecNumbers [] := liftG_pure _ _
theorem spec_law1_RecNumbers (h_law1_begun : PureOK Try.prog i_law1_begun [] (.bool true)) (h_rec_Varint : ∀ (a0 : List UInt8), PureOK Try.prog i_rec_Varint [.str a0] (.tup [.int .u64 ((vintR a0).1), .int .i64 ((vintR a0).2.1), .int .i64 ((vintR a0).2.2)])) (h_ref1_Varint : ∀ (a0 : List UInt8), PureOK Try.prog i_ref1_Varint [.str a0] (.tup [.int .u64 ((vintR a0).1), .int .i64 ((vintR a0).2.1), .int .i64 ((vintR a0).2.2)])) (h_rec_PutVarint : ∀ (a0 : Int), PureOK Try.prog i_rec_PutVarint [.int .u64 a0] (.str (putV a0))) (h_ref1_PutVarint : ∀ (a0 : Int), PureOK Try.prog i_ref1_PutVarint [.int .u64 a0] (.str (putV a0))) : SpecOK Try.prog Γ_law1_RecNumbers := by
  intro f vs hp v hp' h0
  obtain ⟨h, he⟩ := liftG_inv h0
  subst he
  unfold G_law1_RecNumbers at h
  split at h
  · simp only [Option.some.injEq, Prod.mk.injEq] at h
    obtain ⟨hc, rfl⟩ := h
    exact (h_law1_begun ).frame rfl rfl _
  · simp only [Option.some.injEq, Prod.mk.injEq] at h
    obtain ⟨hc, rfl⟩ := h
    exact (h_rec_Varint _).frame rfl rfl _
  · simp only [Option.some.injEq, Prod.mk.injEq] at h
    obtain ⟨hc, rfl⟩ := h
    exact (h_ref1_Varint _).frame rfl rfl _
  · simp only [Option.some.injEq, Prod.mk.injEq] at h
    obtain ⟨hc, rfl⟩ := h
    exact (h_rec_PutVarint _).frame rfl rfl _
  · simp only [Option.some.injEq, Prod.mk.injEq] at h
    obtain ⟨hc, rfl⟩ := h
    exact (h_ref1_PutVarint _).frame rfl rfl _
  · simp at h
def ir_law1_RecNumbers_0 : IR := .ret
def ir_law1_RecNumbers_1 : IR := (.cond (.t 12) (.seq (.reg [⟨none, .mov 4 (.c (.bool false))⟩] []) ir_law1_RecNumbers_0) .skip)
def ir_law1_RecNumbers_2 : IR := .ret
def ir_law1_RecNumbers_3 : IR := (.cond (.t 15) (.seq (.reg [⟨none, .mov 4 (.c (.bool true))⟩] []) ir_law1_RecNumbers_2) .skip)
def ir_law1_RecNumbers_4 : IR := .ret
def ir_law1_RecNumbers_5 : IR := (.seq (.reg [⟨none, .mov 28 (.t 5)⟩,
    ⟨none, .mov 29 (.t 8)⟩,
    ⟨none, .bin 30 .eql (.t 28) (.t 29)⟩,
    ⟨none, .mov 31 (.t 30)⟩,
    ⟨some (31, true), .mov 32 (.t 6)⟩,
    ⟨some (31, true), .mov 33 (.t 9)⟩,
    ⟨some (31, true), .bin 34 .eql (.t 32) (.t 33)⟩,
    ⟨none, .pick 35 (.t 31) (.t 34) (.c (.bool false))⟩,
    ⟨none, .mov 36 (.t 35)⟩,
    ⟨some (36, true), .mov 37 (.t 7)⟩,
    ⟨some (36, true), .mov 38 (.t 10)⟩,
    ⟨some (36, true), .bin 39 .eql (.t 37) (.t 38)⟩,
    ⟨none, .pick 40 (.t 36) (.t 39) (.c (.bool false))⟩,
    ⟨none, .mov 41 (.t 40)⟩,
    ⟨some (41, true), .mov 42 (.t 1)⟩,
    ⟨some (41, true), .call (some 43) 13 [(.t 42)]⟩,
    ⟨some (41, true), .mov 44 (.t 1)⟩,
    ⟨some (41, true), .call (some 45) 14 [(.t 44)]⟩,
    ⟨some (41, true), .bin 46 .eql (.t 43) (.t 45)⟩,
    ⟨none, .pick 47 (.t 41) (.t 46) (.c (.bool false))⟩,
    ⟨none, .mov 4 (.t 47)⟩] []) ir_law1_RecNumbers_4)
def ir_law1_RecNumbers_6 : IR := (.seq (.reg [⟨none, .mov 23 (.t 0)⟩,
    ⟨none, .call (some 24) 12 [(.t 23)]⟩,
    ⟨none, .mov 22 (.t 24)⟩,
    ⟨none, .ext 25 0 (.t 22)⟩,
    ⟨none, .ext 26 1 (.t 22)⟩,
    ⟨none, .ext 27 2 (.t 22)⟩,
    ⟨none, .mov 8 (.t 25)⟩,
    ⟨none, .mov 9 (.t 26)⟩,
    ⟨none, .mov 10 (.t 27)⟩] []) ir_law1_RecNumbers_5)
def ir_law1_RecNumbers_7 : IR := (.seq (.reg [⟨none, .mov 17 (.t 0)⟩,
    ⟨none, .call (some 18) 11 [(.t 17)]⟩,
    ⟨none, .mov 16 (.t 18)⟩,
    ⟨none, .ext 19 0 (.t 16)⟩,
    ⟨none, .ext 20 1 (.t 16)⟩,
    ⟨none, .ext 21 2 (.t 16)⟩,
    ⟨none, .mov 5 (.t 19)⟩,
    ⟨none, .mov 6 (.t 20)⟩,
    ⟨none, .mov 7 (.t 21)⟩] []) ir_law1_RecNumbers_6)
def ir_law1_RecNumbers_8 : IR := (.seq (.seq (.reg [⟨none, .mov 13 (.t 0)⟩,
    ⟨none, .lens 14 (.t 13)⟩,
    ⟨none, .bin 15 .gtr (.t 14) (.c (.int .i64 30))⟩] []) ir_law1_RecNumbers_3) ir_law1_RecNumbers_7)
def ir_law1_RecNumbers_9 : IR := (.seq (.seq (.reg [⟨none, .call (some 11) 10 []⟩,
    ⟨none, .un 12 .not (.t 11)⟩] []) ir_law1_RecNumbers_1) ir_law1_RecNumbers_8)
def ir_law1_RecNumbers : IR := (.seq (.reg [⟨none, .mov 4 (.c (.bool false))⟩] []) ir_law1_RecNumbers_9)
def rs_law1_RecNumbers : List RV := [.t 4]
theorem chk_law1_RecNumbers : (chkCode Try.prog [] 0 ir_law1_RecNumbers (Try.f3.body.getD .skip) && chkRes Try.prog rs_law1_RecNumbers Try.f3.results.toList) = true := by kernel_rfl
theorem body_law1_RecNumbers : Try.f3.body = some (Try.f3.body.getD .skip) := by kernel_rfl
/-- proclitic/procliticlaw1.RecNumbers -/
def sa_law1_RecNumbers (N : Nat) (p0 : List UInt8) (p1 : Int)  : Option (V × List AObj) :=
  let x1 : Int := (↑(List.length p0) : Int)
  cond (decide (30 < x1)) (
    some (.bool true, [])) (
    let x2 : Bool := (((vintR p0).1) == ((vintR p0).1))
    cond x2 (
      let x3 : Bool := (((vintR p0).2.1) == ((vintR p0).2.1))
      cond x3 (
        let x4 : Bool := (((vintR p0).2.2) == ((vintR p0).2.2))
        cond x4 (
          let x5 : Bool := decide ((putV p1) = (putV p1))
          some (.bool x5, [])) (
          some (.bool false, []))) (
        some (.bool false, []))) (
      some (.bool false, [])))
def sh_law1_RecNumbers (N : Nat) (p0 : List UInt8) (p1 : Int) : Option (V × List AObj) := sa_law1_RecNumbers N p0 p1
theorem run_law1_RecNumbers (N : Nat) (p0 : List UInt8) (p1 : Int) : callF Γ_law1_RecNumbers N 48 rs_law1_RecNumbers ir_law1_RecNumbers [.str p0, .int .u64 p1] [] = sh_law1_RecNumbers N p0 p1 := by kernel_rfl
theorem ok_law1_RecNumbers (hΓ : SpecOK Try.prog Γ_law1_RecNumbers) (N : Nat) (p0 : List UInt8) (p1 : Int) {v : V} {hp : List AObj} (h : sh_law1_RecNumbers N p0 p1 = some (v, hp)) : PureOK Try.prog i_law1_RecNumbers [.str p0, .int .u64 p1] v := by
  have hc := chk_law1_RecNumbers
  simp only [Bool.and_eq_true] at hc
  exact ⟨hp, fnOK_of hΓ pureS_law1_RecNumbers Try.func3 body_law1_RecNumbers hc.1 hc.2 (by decide) ((run_law1_RecNumbers N p0 p1).trans h)⟩

def G_law1_RecSplits : Nat → List V → Option (Bool × V) := fun f vs => match f, vs with
  | 10, [] => some (true, .bool true)
  | 15, [.str a0] => some (true, .tup [.sl .record false ((splitR a0).1), .int .i64 ((splitR a0).2)])
  | 16, [.str a0] => some (true, .tup [.sl .record false ((splitR a0).1), .int .i64 ((splitR a0).2)])
  | 17, [.sl .record false a0, .sl .record false a1] => some (decide (a0 = a1), .bool true)
  | 18, [.agg [.int .i64 a0_0, .int .i64 a0_1, .int .u64 a0_2, .str a0_3, .str a0_4]] => some (decide (List.length a0_3 ≤ 9223372036854000000), .str (putR ⟨a0_0, a0_1, a0_2, a0_3, a0_4⟩))
  | 19, [.agg [.int .i64 a0_0, .int .i64 a0_1, .int .u64 a0_2, .str a0_3, .str a0_4]] => some (decide (List.length a0_3 ≤ 9223372036854000000), .str (putR ⟨a0_0, a0_1, a0_2, a0_3, a0_4⟩))
  | 20, [.sl .record false a0] => some (decide (List.length (joinR a0) ≤ 140737488355328), .str (joinR a0))
  | 21, [.sl .record false a0] => some (decide (List.length (joinR a0) ≤ 140737488355328), .str (joinR a0))
  | _, _ => none
def Γ_law1_RecSplits : ASpec := liftG G_law1_RecSplits
theorem pureS_law1_RecSplits : PureS Γ_law1_RecSplits [] := liftG_pure _ _
theorem spec_law1_RecSplits (h_law1_begun : PureOK Try.prog i_law1_begun [] (.bool true)) (h_rec_Split : ∀ (a0 : List UInt8), PureOK Try.prog i_rec_Split [.str a0] (.tup [.sl .record false ((splitR a0).1), .int .i64 ((splitR a0).2)])) (h_ref1_Split : ∀ (a0 : List UInt8), PureOK Try.prog i_ref1_Split [.str a0] (.tup [.sl .record false ((splitR a0).1), .int .i64 ((splitR a0).2)])) (h_ref1_SameRecords : ∀ (a0 : List Record) (a1 : List Record), (decide (a0 = a1)) = true → PureOK Try.prog i_ref1_SameRecords [.sl .record false a0, .sl .record false a1] (.bool true)) (h_rec_Put : ∀ (a0_0 : Int) (a0_1 : Int) (a0_2 : Int) (a0_3 : List UInt8) (a0_4 : List UInt8), (decide (List.length a0_3 ≤ 9223372036854000000)) = true → PureOK Try.prog i_rec_Put [.agg [.int .i64 a0_0, .int .i64 a0_1, .int .u64 a0_2, .str a0_3, .str a0_4]] (.str (putR ⟨a0_0, a0_1, a0_2, a0_3, a0_4⟩))) (h_ref1_Put : ∀ (a0_0 : Int) (a0_1 : Int) (a0_2 : Int) (a0_3 : List UInt8) (a0_4 : List UInt8), (decide (List.length a0_3 ≤ 9223372036854000000)) = true → PureOK Try.prog i_ref1_Put [.agg [.int .i64 a0_0, .int .i64 a0_1, .int .u64 a0_2, .str a0_3, .str a0_4]] (.str (putR ⟨a0_0, a0_1, a0_2, a0_3, a0_4⟩))) (h_rec_Join : ∀ (a0 : List Record), (decide (List.length (joinR a0) ≤ 140737488355328)) = true → PureOK Try.prog i_rec_Join [.sl .record false a0] (.str (joinR a0))) (h_ref1_Join : ∀ (a0 : List Record), (decide (List.length (joinR a0) ≤ 140737488355328)) = true → PureOK Try.prog i_ref1_Join [.sl .record false a0] (.str (joinR a0))) : SpecOK Try.prog Γ_law1_RecSplits := by
  intro f vs hp v hp' h0
  obtain ⟨h, he⟩ := liftG_inv h0
  subst he
  unfold G_law1_RecSplits at h
  split at h
  · simp only [Option.some.injEq, Prod.mk.injEq] at h
    obtain ⟨hc, rfl⟩ := h
    exact (h_law1_begun ).frame rfl rfl _
  · simp only [Option.some.injEq, Prod.mk.injEq] at h
    obtain ⟨hc, rfl⟩ := h
    exact (h_rec_Split _).frame rfl rfl _
  · simp only [Option.some.injEq, Prod.mk.injEq] at h
    obtain ⟨hc, rfl⟩ := h
    exact (h_ref1_Split _).frame rfl rfl _
  · simp only [Option.some.injEq, Prod.mk.injEq] at h
    obtain ⟨hc, rfl⟩ := h
    exact (h_ref1_SameRecords _ _ hc).frame rfl rfl _
  · simp only [Option.some.injEq, Prod.mk.injEq] at h
    obtain ⟨hc, rfl⟩ := h
    exact (h_rec_Put _ _ _ _ _ hc).frame rfl rfl _
  · simp only [Option.some.injEq, Prod.mk.injEq] at h
    obtain ⟨hc, rfl⟩ := h
    exact (h_ref1_Put _ _ _ _ _ hc).frame rfl rfl _
  · simp only [Option.some.injEq, Prod.mk.injEq] at h
    obtain ⟨hc, rfl⟩ := h
    exact (h_rec_Join _ hc).frame rfl rfl _
  · simp only [Option.some.injEq, Prod.mk.injEq] at h
    obtain ⟨hc, rfl⟩ := h
    exact (h_ref1_Join _ hc).frame rfl rfl _
  · simp at h
def ir_law1_RecSplits_0 : IR := .ret
def ir_law1_RecSplits_1 : IR := (.cond (.t 10) (.seq (.reg [⟨none, .mov 4 (.c (.bool false))⟩] []) ir_law1_RecSplits_0) .skip)
def ir_law1_RecSplits_2 : IR := .ret
def ir_law1_RecSplits_3 : IR := (.cond (.t 19) (.seq (.reg [⟨none, .mov 4 (.c (.bool true))⟩] []) ir_law1_RecSplits_2) .skip)
def ir_law1_RecSplits_4 : IR := .ret
def ir_law1_RecSplits_5 : IR := (.seq (.reg [⟨none, .mov 30 (.t 6)⟩,
    ⟨none, .mov 31 (.t 8)⟩,
    ⟨none, .bin 32 .eql (.t 30) (.t 31)⟩,
    ⟨none, .mov 33 (.t 32)⟩,
    ⟨some (33, true), .mov 34 (.t 5)⟩,
    ⟨some (33, true), .mov 35 (.t 7)⟩,
    ⟨some (33, true), .call (some 36) 17 [(.t 34), (.t 35)]⟩,
    ⟨none, .pick 37 (.t 33) (.t 36) (.c (.bool false))⟩,
    ⟨none, .mov 38 (.t 37)⟩,
    ⟨some (38, true), .ld 39 5 true false (.t 3)⟩,
    ⟨some (38, true), .call (some 40) 18 [(.t 39)]⟩,
    ⟨some (38, true), .ld 41 5 true false (.t 3)⟩,
    ⟨some (38, true), .call (some 42) 19 [(.t 41)]⟩,
    ⟨some (38, true), .bin 43 .eql (.t 40) (.t 42)⟩,
    ⟨none, .pick 44 (.t 38) (.t 43) (.c (.bool false))⟩,
    ⟨none, .mov 45 (.t 44)⟩,
    ⟨some (45, true), .mov 46 (.t 7)⟩,
    ⟨some (45, true), .call (some 47) 20 [(.t 46)]⟩,
    ⟨some (45, true), .mov 48 (.t 7)⟩,
    ⟨some (45, true), .call (some 49) 21 [(.t 48)]⟩,
    ⟨some (45, true), .bin 50 .eql (.t 47) (.t 49)⟩,
    ⟨none, .pick 51 (.t 45) (.t 50) (.c (.bool false))⟩,
    ⟨none, .mov 4 (.t 51)⟩] [[], [], [0, 1], [0, 1, 2], [0, 1, 2, 3], [0, 1, 2, 3], [0, 1, 2, 3, 4, 5], [0, 1, 2, 3, 4, 5, 6], [0, 1, 2, 3, 4, 5, 6, 7], [0, 1, 2, 3, 4, 5, 6, 7, 8], [0, 1, 2, 3, 4, 5, 6, 7, 8, 9], [0, 1, 2, 3, 4, 5, 6, 7, 8], [0, 1, 2, 3, 4, 5, 6, 7, 8, 9, 10, 11], [0, 1, 2, 3, 4, 5, 6, 7, 8, 9, 10, 11, 12], [0, 1, 2, 3, 4, 5, 6, 7, 8, 9, 10, 11, 12, 13], [0, 1, 2, 3, 4, 5, 6, 7, 8, 9, 10, 11, 12, 13, 14], [0, 1, 2, 3, 4, 5, 6, 7, 8, 9, 10, 11, 12, 13, 14, 15], [0, 1, 2, 3, 4, 5, 6, 7, 8, 9, 10, 11, 12, 13, 14, 15, 16], [0, 1, 2, 3, 4, 5, 6, 7, 8, 9, 10, 11, 12, 13, 14, 15], [0, 1, 2, 3, 4, 5, 6, 7, 8, 9, 10, 11, 12, 13, 14, 15, 16, 17, 18], [0, 1, 2, 3, 4, 5, 6, 7, 8, 9, 10, 11, 12, 13, 14, 15, 16, 17, 18, 19], [0, 1, 2, 3, 4, 5, 6, 7, 8, 9, 10, 11, 12, 13, 14, 15, 16, 17, 18, 19, 20], [0, 1, 2, 3, 4, 5, 6, 7, 8, 9, 10, 11, 12, 13, 14, 15, 16, 17, 18, 19, 20, 21]]) ir_law1_RecSplits_4)
def ir_law1_RecSplits_6 : IR := (.seq (.reg [⟨none, .mov 26 (.t 0)⟩,
    ⟨none, .call (some 27) 16 [(.t 26)]⟩,
    ⟨none, .mov 25 (.t 27)⟩,
    ⟨none, .ext 28 0 (.t 25)⟩,
    ⟨none, .ext 29 1 (.t 25)⟩,
    ⟨none, .mov 7 (.t 28)⟩,
    ⟨none, .mov 8 (.t 29)⟩] []) ir_law1_RecSplits_5)
def ir_law1_RecSplits_7 : IR := (.seq (.reg [⟨none, .mov 21 (.t 0)⟩,
    ⟨none, .call (some 22) 15 [(.t 21)]⟩,
    ⟨none, .mov 20 (.t 22)⟩,
    ⟨none, .ext 23 0 (.t 20)⟩,
    ⟨none, .ext 24 1 (.t 20)⟩,
    ⟨none, .mov 5 (.t 23)⟩,
    ⟨none, .mov 6 (.t 24)⟩] []) ir_law1_RecSplits_6)
def ir_law1_RecSplits_8 : IR := (.seq (.seq (.reg [⟨none, .mov 11 (.t 0)⟩,
    ⟨none, .lens 12 (.t 11)⟩,
    ⟨none, .bin 13 .gtr (.t 12) (.c (.int .i64 200))⟩,
    ⟨none, .mov 14 (.t 13)⟩,
    ⟨some (14, false), .fad 15 3 (.t 3)⟩,
    ⟨some (14, false), .ld 16 1 false false (.t 15)⟩,
    ⟨some (14, false), .lens 17 (.t 16)⟩,
    ⟨some (14, false), .bin 18 .gtr (.t 17) (.c (.int .i64 50))⟩,
    ⟨none, .pick 19 (.t 14) (.c (.bool true)) (.t 18)⟩] []) ir_law1_RecSplits_3) ir_law1_RecSplits_7)
def ir_law1_RecSplits_9 : IR := (.seq (.seq (.reg [⟨none, .call (some 9) 10 []⟩,
    ⟨none, .un 10 .not (.t 9)⟩] []) ir_law1_RecSplits_1) ir_law1_RecSplits_8)
def ir_law1_RecSplits : IR := (.seq (.reg [⟨none, .box 3 (.t 1)⟩,
    ⟨none, .mov 4 (.c (.bool false))⟩] []) ir_law1_RecSplits_9)
def rs_law1_RecSplits : List RV := [.t 4]
theorem chk_law1_RecSplits : (chkCode Try.prog [] 0 ir_law1_RecSplits (Try.f4.body.getD .skip) && chkRes Try.prog rs_law1_RecSplits Try.f4.results.toList) = true := by kernel_rfl
theorem body_law1_RecSplits : Try.f4.body = some (Try.f4.body.getD .skip) := by kernel_rfl
/-- proclitic/procliticlaw1.RecSplits -/
def sa_law1_RecSplits (N : Nat) (p0 : List UInt8) (p1_0 : Int) (p1_1 : Int) (p1_2 : Int) (p1_3 : List UInt8) (p1_4 : List UInt8)  : Option (V × List AObj) :=
  let x1 : Int := (↑(List.length p0) : Int)
  cond (decide (200 < x1)) (
    some (.bool true, [some [.int .i64 p1_0, .int .i64 p1_1, .int .u64 p1_2, .str p1_3, .str p1_4]])) (
    let x2 : Int := (↑(List.length p1_3) : Int)
    cond (decide (50 < x2)) (
      some (.bool true, [some [.int .i64 p1_0, .int .i64 p1_1, .int .u64 p1_2, .str p1_3, .str p1_4]])) (
      let x3 : Bool := (((splitR p0).2) == ((splitR p0).2))
      cond x3 (
        chk (decide (((splitR p0).1) = ((splitR p0).1))) (
          chk (decide (List.length p1_3 ≤ 9223372036854000000)) (
            let x4 : List UInt8 := (putR ⟨p1_0, p1_1, p1_2, p1_3, p1_4⟩)
            chk (decide (List.length p1_3 ≤ 9223372036854000000)) (
              let x5 : List UInt8 := (putR ⟨p1_0, p1_1, p1_2, p1_3, p1_4⟩)
              cond (decide (x4 = x5)) (
                chk (decide (List.length (joinR ((splitR p0).1)) ≤ 140737488355328)) (
                  chk (decide (List.length (joinR ((splitR p0).1)) ≤ 140737488355328)) (
                    let x6 : Bool := decide ((joinR ((splitR p0).1)) = (joinR ((splitR p0).1)))
                    some (.bool x6, [some [.int .i64 p1_0, .int .i64 p1_1, .int .u64 p1_2, .str p1_3, .str p1_4]])))) (
                some (.bool false, [some [.int .i64 p1_0, .int .i64 p1_1, .int .u64 p1_2, .str p1_3, .str p1_4]])))))) (
        some (.bool false, [some [.int .i64 p1_0, .int .i64 p1_1, .int .u64 p1_2, .str p1_3, .str p1_4]]))))
def sh_law1_RecSplits (N : Nat) (p0 : List UInt8) (p1_0 : Int) (p1_1 : Int) (p1_2 : Int) (p1_3 : List UInt8) (p1_4 : List UInt8) : Option (V × List AObj) := sa_law1_RecSplits N p0 p1_0 p1_1 p1_2 p1_3 p1_4
theorem run_law1_RecSplits (N : Nat) (p0 : List UInt8) (p1_0 : Int) (p1_1 : Int) (p1_2 : Int) (p1_3 : List UInt8) (p1_4 : List UInt8) : callF Γ_law1_RecSplits N 52 rs_law1_RecSplits ir_law1_RecSplits [.str p0, .agg [.int .i64 p1_0, .int .i64 p1_1, .int .u64 p1_2, .str p1_3, .str p1_4]] [] = sh_law1_RecSplits N p0 p1_0 p1_1 p1_2 p1_3 p1_4 := by kernel_rfl
theorem ok_law1_RecSplits (hΓ : SpecOK Try.prog Γ_law1_RecSplits) (N : Nat) (p0 : List UInt8) (p1_0 : Int) (p1_1 : Int) (p1_2 : Int) (p1_3 : List UInt8) (p1_4 : List UInt8) {v : V} {hp : List AObj} (h : sh_law1_RecSplits N p0 p1_0 p1_1 p1_2 p1_3 p1_4 = some (v, hp)) : PureOK Try.prog i_law1_RecSplits [.str p0, .agg [.int .i64 p1_0, .int .i64 p1_1, .int .u64 p1_2, .str p1_3, .str p1_4]] v := by
  have hc := chk_law1_RecSplits
  simp only [Bool.and_eq_true] at hc
  exact ⟨hp, fnOK_of hΓ pureS_law1_RecSplits Try.func4 body_law1_RecSplits hc.1 hc.2 (by decide) ((run_law1_RecSplits N p0 p1_0 p1_1 p1_2 p1_3 p1_4).trans h)⟩

def G_law1_RecLengths : Nat → List V → Option (Bool × V) := fun f vs => match f, vs with
  | 10, [] => some (true, .bool true)
  | 11, [.str a0] => some (true, .tup [.int .u64 ((vintR a0).1), .int .i64 ((vintR a0).2.1), .int .i64 ((vintR a0).2.2)])
  | 13, [.int .u64 a0] => some (true, .str (putV a0))
  | _, _ => none
def Γ_law1_RecLengths : ASpec := liftG G_law1_RecLengths
theorem pureS_law1_RecLengths : PureS Γ_law1_RecLengths [] := liftG_pure _ _
theorem spec_law1_RecLengths (h_law1_begun : PureOK Try.prog i_law1_begun [] (.bool true)) (h_rec_Varint : ∀ (a0 : List UInt8), PureOK Try.prog i_rec_Varint [.str a0] (.tup [.int .u64 ((vintR a0).1), .int .i64 ((vintR a0).2.1), .int .i64 ((vintR a0).2.2)])) (h_rec_PutVarint : ∀ (a0 : Int), PureOK Try.prog i_rec_PutVarint [.int .u64 a0] (.str (putV a0))) : SpecOK Try.prog Γ_law1_RecLengths := by
  intro f vs hp v hp' h0
  obtain ⟨h, he⟩ := liftG_inv h0
  subst he
  unfold G_law1_RecLengths at h
  split at h
  · simp only [Option.some.injEq, Prod.mk.injEq] at h
    obtain ⟨hc, rfl⟩ := h
    exact (h_law1_begun ).frame rfl rfl _
  · simp only [Option.some.injEq, Prod.mk.injEq] at h
    obtain ⟨hc, rfl⟩ := h
    exact (h_rec_Varint _).frame rfl rfl _
  · simp only [Option.some.injEq, Prod.mk.injEq] at h
    obtain ⟨hc, rfl⟩ := h
    exact (h_rec_PutVarint _).frame rfl rfl _
  · simp at h
def ir_law1_RecLengths_0 : IR := .ret
def ir_law1_RecLengths_1 : IR := (.cond (.t 15) (.seq (.reg [⟨none, .mov 4 (.c (.bool false))⟩] []) ir_law1_RecLengths_0) .skip)
def ir_law1_RecLengths_2 : IR := .ret
def ir_law1_RecLengths_3 : IR := (.cond (.t 18) (.seq (.reg [⟨none, .mov 4 (.c (.bool true))⟩] []) ir_law1_RecLengths_2) .skip)
def ir_law1_RecLengths_4 : IR := (.cond (.t 23) .skip (.exit 0))
def ir_law1_RecLengths_5 : IR := (.reg [⟨none, .mov 24 (.t 7)⟩,
    ⟨none, .bin 25 .quo (.t 24) (.c (.int .u64 128))⟩,
    ⟨none, .mov 7 (.t 25)⟩] [])
def ir_law1_RecLengths_6 : IR := (.seq (.block 1 (.reg [⟨none, .mov 26 (.t 6)⟩,
    ⟨none, .bin 27 .add (.t 26) (.c (.int .i64 1))⟩,
    ⟨none, .mov 6 (.t 27)⟩] [])) ir_law1_RecLengths_5)
def ir_law1_RecLengths_7 : IR := (.seq (.seq (.reg [⟨none, .mov 22 (.t 7)⟩,
    ⟨none, .bin 23 .geq (.t 22) (.c (.int .u64 128))⟩] []) ir_law1_RecLengths_4) ir_law1_RecLengths_6)
def ir_law1_RecLengths_8 : IR := (.block 0 (.loop [0, 1, 5, 6, 7] 0 ir_law1_RecLengths_7))
def ir_law1_RecLengths_9 : IR := .ret
def ir_law1_RecLengths_10 : IR := (.cond (.t 31) (.seq (.reg [⟨none, .mov 4 (.c (.bool false))⟩] []) ir_law1_RecLengths_9) .skip)
def ir_law1_RecLengths_11 : IR := .ret
def ir_law1_RecLengths_12 : IR := (.seq (.reg [⟨none, .mov 50 (.t 10)⟩,
    ⟨none, .bin 51 .eql (.t 50) (.c (.int .i64 0))⟩,
    ⟨none, .mov 52 (.t 51)⟩,
    ⟨some (52, true), .mov 53 (.t 8)⟩,
    ⟨some (52, true), .mov 54 (.t 0)⟩,
    ⟨some (52, true), .bin 55 .eql (.t 53) (.t 54)⟩,
    ⟨none, .pick 56 (.t 52) (.t 55) (.c (.bool false))⟩,
    ⟨none, .mov 57 (.t 56)⟩,
    ⟨some (57, true), .mov 58 (.t 9)⟩,
    ⟨some (57, true), .mov 59 (.t 6)⟩,
    ⟨some (57, true), .bin 60 .eql (.t 58) (.t 59)⟩,
    ⟨none, .pick 61 (.t 57) (.t 60) (.c (.bool false))⟩,
    ⟨none, .mov 62 (.t 61)⟩,
    ⟨some (62, true), .mov 63 (.t 13)⟩,
    ⟨some (62, true), .bin 64 .eql (.t 63) (.c (.int .i64 2))⟩,
    ⟨none, .pick 65 (.t 62) (.t 64) (.c (.bool false))⟩,
    ⟨none, .mov 4 (.t 65)⟩] []) ir_law1_RecLengths_11)
def ir_law1_RecLengths_13 : IR := (.seq (.reg [⟨none, .mov 41 (.t 5)⟩,
    ⟨none, .mov 42 (.t 5)⟩,
    ⟨none, .lens 43 (.t 42)⟩,
    ⟨none, .bin 44 .sub (.t 43) (.c (.int .i64 1))⟩,
    ⟨none, .subs 45 (.t 41) none (some (.t 44))⟩,
    ⟨none, .call (some 46) 11 [(.t 45)]⟩,
    ⟨none, .mov 40 (.t 46)⟩,
    ⟨none, .ext 47 0 (.t 40)⟩,
    ⟨none, .ext 48 1 (.t 40)⟩,
    ⟨none, .ext 49 2 (.t 40)⟩,
    ⟨none, .mov 11 (.t 47)⟩,
    ⟨none, .mov 12 (.t 48)⟩,
    ⟨none, .mov 13 (.t 49)⟩] []) ir_law1_RecLengths_12)
def ir_law1_RecLengths_14 : IR := (.seq (.reg [⟨none, .mov 33 (.t 5)⟩,
    ⟨none, .mov 34 (.t 1)⟩,
    ⟨none, .bin 35 .add (.t 33) (.t 34)⟩,
    ⟨none, .call (some 36) 11 [(.t 35)]⟩,
    ⟨none, .mov 32 (.t 36)⟩,
    ⟨none, .ext 37 0 (.t 32)⟩,
    ⟨none, .ext 38 1 (.t 32)⟩,
    ⟨none, .ext 39 2 (.t 32)⟩,
    ⟨none, .mov 8 (.t 37)⟩,
    ⟨none, .mov 9 (.t 38)⟩,
    ⟨none, .mov 10 (.t 39)⟩] []) ir_law1_RecLengths_13)
def ir_law1_RecLengths_15 : IR := (.seq (.seq (.reg [⟨none, .mov 28 (.t 5)⟩,
    ⟨none, .lens 29 (.t 28)⟩,
    ⟨none, .mov 30 (.t 6)⟩,
    ⟨none, .bin 31 .neq (.t 29) (.t 30)⟩] []) ir_law1_RecLengths_10) ir_law1_RecLengths_14)
def ir_law1_RecLengths_16 : IR := (.seq (.seq (.reg [⟨none, .mov 21 (.t 0)⟩,
    ⟨none, .mov 7 (.t 21)⟩] []) ir_law1_RecLengths_8) ir_law1_RecLengths_15)
def ir_law1_RecLengths_17 : IR := (.seq (.reg [⟨none, .mov 6 (.c (.int .i64 1))⟩] []) ir_law1_RecLengths_16)
def ir_law1_RecLengths_18 : IR := (.seq (.reg [⟨none, .mov 19 (.t 0)⟩,
    ⟨none, .call (some 20) 13 [(.t 19)]⟩,
    ⟨none, .mov 5 (.t 20)⟩] []) ir_law1_RecLengths_17)
def ir_law1_RecLengths_19 : IR := (.seq (.seq (.reg [⟨none, .mov 16 (.t 1)⟩,
    ⟨none, .lens 17 (.t 16)⟩,
    ⟨none, .bin 18 .gtr (.t 17) (.c (.int .i64 20))⟩] []) ir_law1_RecLengths_3) ir_law1_RecLengths_18)
def ir_law1_RecLengths_20 : IR := (.seq (.seq (.reg [⟨none, .call (some 14) 10 []⟩,
    ⟨none, .un 15 .not (.t 14)⟩] []) ir_law1_RecLengths_1) ir_law1_RecLengths_19)
def ir_law1_RecLengths : IR := (.seq (.reg [⟨none, .mov 4 (.c (.bool false))⟩] []) ir_law1_RecLengths_20)
def rs_law1_RecLengths : List RV := [.t 4]
theorem chk_law1_RecLengths : (chkCode Try.prog [] 0 ir_law1_RecLengths (Try.f7.body.getD .skip) && chkRes Try.prog rs_law1_RecLengths Try.f7.results.toList) = true := by kernel_rfl
theorem body_law1_RecLengths : Try.f7.body = some (Try.f7.body.getD .skip) := by kernel_rfl
def mk_law1_RecLengths_0 (x : (Int × List UInt8 × List UInt8 × Int × Int)) : St := { env := [.int .u64 x.1, .str x.2.1, .undef, .undef, .undef, .str x.2.2.1, .int .i64 x.2.2.2.1, .int .u64 x.2.2.2.2, .undef, .undef, .undef, .undef, .undef, .undef, .undef, .undef, .undef, .undef, .undef, .undef, .undef, .undef, .undef, .undef, .undef, .undef, .undef, .undef, .undef, .undef, .undef, .undef, .undef, .undef, .undef, .undef, .undef, .undef, .undef, .undef, .undef, .undef, .undef, .undef, .undef, .undef, .undef, .undef, .undef, .undef, .undef, .undef, .undef, .undef, .undef, .undef, .undef, .undef, .undef, .undef, .undef, .undef, .undef, .undef, .undef, .undef], hp := [] }
def F_law1_RecLengths_0 (N : Nat) : (St → Option (V × List AObj)) → St → Option (V × List AObj) := fun again0 s => run Γ_law1_RecLengths N ir_law1_RecLengths_7 (kloop again0 [0, 1, 5, 6, 7] 0 (kblock 0 (kseq (run Γ_law1_RecLengths N ir_law1_RecLengths_15) (fin rs_law1_RecLengths)))) s
def B_law1_RecLengths_0 (N : Nat) (again0 : (Int × List UInt8 × List UInt8 × Int × Int) → Option (V × List AObj)) (x : (Int × List UInt8 × List UInt8 × Int × Int)) : Option (V × List AObj) :=
  let v0 : Int := x.1
  let v1 : List UInt8 := x.2.1
  let v5 : List UInt8 := x.2.2.1
  let v6 : Int := x.2.2.2.1
  let v7 : Int := x.2.2.2.2
  cond (decide (128 ≤ v7)) (
    let x2 : Int := (IntKind.wrap .i64 (v6 + 1))
    let x3 : Int := (IntKind.wrap .u64 (Int.tdiv v7 128))
    again0 (v0, v1, v5, x2, x3)) (
    let x4 : Int := (↑(List.length v5) : Int)
    cond (!(x4 == v6)) (
      some (.bool false, [])) (
      chk (decide (List.length v5 + List.length v1 ≤ 9223372036854775807)) (
        let x5 : Int := (↑(List.length v5) : Int)
        let x6 : Int := (IntKind.wrap .i64 (x5 - 1))
        chk ((decide (0 ≤ x6) && decide (x6 ≤ (↑(List.length v5) : Int)))) (
          let x7 : List UInt8 := (List.drop 0 (List.take (Int.toNat x6) v5))
          let x8 : Bool := (((vintR (v5 ++ v1)).2.2) == 0)
          cond x8 (
            let x9 : Bool := (((vintR (v5 ++ v1)).1) == v0)
            cond x9 (
              let x10 : Bool := (((vintR (v5 ++ v1)).2.1) == v6)
              cond x10 (
                some (.bool (((vintR x7).2.2) == 2), [])) (
                some (.bool false, []))) (
              some (.bool false, []))) (
            some (.bool false, []))))))
theorem FB_law1_RecLengths_0 (N : Nat) : ∀ (again0 : St → Option (V × List AObj)) (x : (Int × List UInt8 × List UInt8 × Int × Int)), F_law1_RecLengths_0 N again0 (mk_law1_RecLengths_0 x) = B_law1_RecLengths_0 N (fun y => again0 (mk_law1_RecLengths_0 y)) x := by
  intro again0 x
  kernel_rfl
/-- proclitic/procliticlaw1.RecLengths -/
def sa_law1_RecLengths (N : Nat) (p0 : Int) (p1 : List UInt8) (q0 : (Int × List UInt8 × List UInt8 × Int × Int) → Option (V × List AObj)) : Option (V × List AObj) :=
  let x1 : Int := (↑(List.length p1) : Int)
  cond (decide (20 < x1)) (
    some (.bool true, [])) (
    q0 (p0, p1, (putV p0), 1, p0))
def sh_law1_RecLengths (N : Nat) (p0 : Int) (p1 : List UInt8) : Option (V × List AObj) := sa_law1_RecLengths N p0 p1 (fun z => iterL N (B_law1_RecLengths_0 N) z)
theorem run_law1_RecLengths (N : Nat) (p0 : Int) (p1 : List UInt8) : callF Γ_law1_RecLengths N 66 rs_law1_RecLengths ir_law1_RecLengths [.int .u64 p0, .str p1] [] = sh_law1_RecLengths N p0 p1 := by
  have h : callF Γ_law1_RecLengths N 66 rs_law1_RecLengths ir_law1_RecLengths [.int .u64 p0, .str p1] [] = sa_law1_RecLengths N p0 p1 (fun z => loopN N (F_law1_RecLengths_0 N) (mk_law1_RecLengths_0 z)) := by kernel_rfl
  have e0 : (fun z => loopN N (F_law1_RecLengths_0 N) (mk_law1_RecLengths_0 z)) = (fun z => iterL N (B_law1_RecLengths_0 N) z) := funext fun z => loop_eq (mk_law1_RecLengths_0) (F_law1_RecLengths_0 N) (B_law1_RecLengths_0 N) (FB_law1_RecLengths_0 N) N z
  rw [h, e0]
  rfl
theorem ok_law1_RecLengths (hΓ : SpecOK Try.prog Γ_law1_RecLengths) (N : Nat) (p0 : Int) (p1 : List UInt8) {v : V} {hp : List AObj} (h : sh_law1_RecLengths N p0 p1 = some (v, hp)) : PureOK Try.prog i_law1_RecLengths [.int .u64 p0, .str p1] v := by
  have hc := chk_law1_RecLengths
  simp only [Bool.and_eq_true] at hc
  exact ⟨hp, fnOK_of hΓ pureS_law1_RecLengths Try.func7 body_law1_RecLengths hc.1 hc.2 (by decide) ((run_law1_RecLengths N p0 p1).trans h)⟩

end Go.Proofs.Ytifmekddikapeaa
