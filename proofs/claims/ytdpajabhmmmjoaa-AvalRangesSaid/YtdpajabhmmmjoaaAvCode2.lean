/-
  The plain functions that runs of the code are: written by wip/gen/gen.py.
-/
import Derived.Test.YtdpajabhmmmjoaaAvCode
import Derived.KernelRfl
namespace Go.Proofs.Ytdpajabhmmmjoaa
open Go.AM
set_option autoImplicit false
set_option linter.unusedVariables false
set_option maxRecDepth 100000
def G_law20_begun (N : Nat) : Nat → List V → Option (Bool × V) := fun f vs => match f, vs with
  | 21, [.agg [.sl .atype false a0_0], .int .i64 a1, .agg [.int .u64 a2_0, .str a2_1, .sl .aval false a2_2, .sl .str false a2_3, .int .i64 a2_4]] => some (decide (1000000 ≤ N - (szL a2_2 + 1)), .bool (fitsS a0_0 a1 (.mk a2_0 a2_1 a2_2 a2_3 a2_4)))
  | 22, [.agg [.int .u64 a0_0, .str a0_1, .sl .aval false a0_2, .sl .str false a0_3, .int .i64 a0_4]] => some (decide (1000000 ≤ N - (szL a0_2 + 1)), .tup [.int .i64 ((sizeV (.mk a0_0 a0_1 a0_2 a0_3 a0_4)).1), .int .i64 ((sizeV (.mk a0_0 a0_1 a0_2 a0_3 a0_4)).2)])
  | 24, [.agg [.int .u64 a0_0, .str a0_1, .sl .aval false a0_2, .sl .str false a0_3, .int .i64 a0_4], .agg [.int .u64 a1_0, .str a1_1, .sl .aval false a1_2, .sl .str false a1_3, .int .i64 a1_4]] => some (decide (1000000 ≤ N - (szL a0_2 + 1)), .bool (sameV (.mk a0_0 a0_1 a0_2 a0_3 a0_4) (.mk a1_0 a1_1 a1_2 a1_3 a1_4)))
  | _, _ => none
def Γ_law20_begun (N : Nat) : ASpec := liftG (G_law20_begun N)
theorem pureS_law20_begun (N : Nat) : PureS (Γ_law20_begun N) [] := liftG_pure _ _
theorem spec_law20_begun (N : Nat) (h_aval_Fits : ∀ (a0_0 : List AType) (a1 : Int) (a2_0 : Int) (a2_1 : List UInt8) (a2_2 : List AVal) (a2_3 : List (List UInt8)) (a2_4 : Int), (decide (1000000 ≤ N - (szL a2_2 + 1))) = true → PureOK Try.prog i_aval_Fits [.agg [.sl .atype false a0_0], .int .i64 a1, .agg [.int .u64 a2_0, .str a2_1, .sl .aval false a2_2, .sl .str false a2_3, .int .i64 a2_4]] (.bool (fitsS a0_0 a1 (.mk a2_0 a2_1 a2_2 a2_3 a2_4)))) (h_aval_Size : ∀ (a0_0 : Int) (a0_1 : List UInt8) (a0_2 : List AVal) (a0_3 : List (List UInt8)) (a0_4 : Int), (decide (1000000 ≤ N - (szL a0_2 + 1))) = true → PureOK Try.prog i_aval_Size [.agg [.int .u64 a0_0, .str a0_1, .sl .aval false a0_2, .sl .str false a0_3, .int .i64 a0_4]] (.tup [.int .i64 ((sizeV (.mk a0_0 a0_1 a0_2 a0_3 a0_4)).1), .int .i64 ((sizeV (.mk a0_0 a0_1 a0_2 a0_3 a0_4)).2)])) (h_aval_Same : ∀ (a0_0 : Int) (a0_1 : List UInt8) (a0_2 : List AVal) (a0_3 : List (List UInt8)) (a0_4 : Int) (a1_0 : Int) (a1_1 : List UInt8) (a1_2 : List AVal) (a1_3 : List (List UInt8)) (a1_4 : Int), (decide (1000000 ≤ N - (szL a0_2 + 1))) = true → PureOK Try.prog i_aval_Same [.agg [.int .u64 a0_0, .str a0_1, .sl .aval false a0_2, .sl .str false a0_3, .int .i64 a0_4], .agg [.int .u64 a1_0, .str a1_1, .sl .aval false a1_2, .sl .str false a1_3, .int .i64 a1_4]] (.bool (sameV (.mk a0_0 a0_1 a0_2 a0_3 a0_4) (.mk a1_0 a1_1 a1_2 a1_3 a1_4)))) : SpecOK Try.prog (Γ_law20_begun N) := by
  intro f vs hp v hp' h0
  obtain ⟨h, he⟩ := liftG_inv h0
  subst he
  unfold G_law20_begun at h
  split at h
  · simp only [Option.some.injEq, Prod.mk.injEq] at h
    obtain ⟨hc, rfl⟩ := h
    exact (h_aval_Fits _ _ _ _ _ _ _ hc).frame rfl rfl _
  · simp only [Option.some.injEq, Prod.mk.injEq] at h
    obtain ⟨hc, rfl⟩ := h
    exact (h_aval_Size _ _ _ _ _ hc).frame rfl rfl _
  · simp only [Option.some.injEq, Prod.mk.injEq] at h
    obtain ⟨hc, rfl⟩ := h
    exact (h_aval_Same _ _ _ _ _ _ _ _ _ _ hc).frame rfl rfl _
  · simp at h
def ir_law20_begun_0 : IR := .ret
def ir_law20_begun_1 : IR := (.seq (.reg [⟨none, .lde 17 1 true (.t 1)⟩,
    ⟨none, .lde 18 5 true (.t 2)⟩,
    ⟨none, .call (some 19) 21 [(.t 17), (.c (.int .i64 1)), (.t 18)]⟩,
    ⟨none, .mov 20 (.t 19)⟩,
    ⟨some (20, true), .lde 21 1 true (.t 1)⟩,
    ⟨some (20, true), .lde 22 5 true (.t 2)⟩,
    ⟨some (20, true), .call (some 23) 21 [(.t 21), (.c (.int .i64 0)), (.t 22)]⟩,
    ⟨some (20, true), .un 24 .not (.t 23)⟩,
    ⟨none, .pick 25 (.t 20) (.t 24) (.c (.bool false))⟩,
    ⟨none, .mov 26 (.t 25)⟩,
    ⟨some (26, true), .lde 27 5 true (.t 2)⟩,
    ⟨some (26, true), .lde 28 5 true (.t 2)⟩,
    ⟨some (26, true), .call (some 29) 24 [(.t 27), (.t 28)]⟩,
    ⟨none, .pick 30 (.t 26) (.t 29) (.c (.bool false))⟩,
    ⟨none, .mov 31 (.t 30)⟩,
    ⟨some (31, true), .lde 32 5 true (.t 2)⟩,
    ⟨some (31, true), .bld 33 [.int .u64 0, .str ([] : List UInt8), .sl .aval false ([] : List AVal), .sl .str false ([] : List (List UInt8)), .int .i64 0] []⟩,
    ⟨some (31, true), .call (some 34) 24 [(.t 32), (.t 33)]⟩,
    ⟨some (31, true), .un 35 .not (.t 34)⟩,
    ⟨none, .pick 36 (.t 31) (.t 35) (.c (.bool false))⟩,
    ⟨none, .mov 37 (.t 36)⟩,
    ⟨some (37, true), .mov 38 (.t 3)⟩,
    ⟨some (37, true), .bin 39 .eql (.t 38) (.c (.int .i64 1))⟩,
    ⟨none, .pick 40 (.t 37) (.t 39) (.c (.bool false))⟩,
    ⟨none, .mov 41 (.t 40)⟩,
    ⟨some (41, true), .mov 42 (.t 4)⟩,
    ⟨some (41, true), .bin 43 .eql (.t 42) (.c (.int .i64 2))⟩,
    ⟨none, .pick 44 (.t 41) (.t 43) (.c (.bool false))⟩,
    ⟨none, .mov 0 (.t 44)⟩] []) ir_law20_begun_0)
def ir_law20_begun_2 : IR := (.seq (.reg [⟨none, .lde 13 5 true (.t 2)⟩,
    ⟨none, .call (some 14) 22 [(.t 13)]⟩,
    ⟨none, .mov 12 (.t 14)⟩,
    ⟨none, .ext 15 0 (.t 12)⟩,
    ⟨none, .ext 16 1 (.t 12)⟩,
    ⟨none, .mov 3 (.t 15)⟩,
    ⟨none, .mov 4 (.t 16)⟩] []) ir_law20_begun_1)
def ir_law20_begun_3 : IR := (.seq (.reg [⟨none, .bld 9 [.int .u64 0, .str ([] : List UInt8), .sl .aval false ([] : List AVal), .sl .str false ([] : List (List UInt8)), .int .i64 0] [(0, 1, (.c (.int .u64 5)))]⟩,
    ⟨none, .bsl 10 .aval [(.t 9)]⟩,
    ⟨none, .bld 11 [.int .u64 0, .str ([] : List UInt8), .sl .aval false ([] : List AVal), .sl .str false ([] : List (List UInt8)), .int .i64 0] [(2, 1, (.t 10))]⟩,
    ⟨none, .alr 2 5⟩,
    ⟨none, .frz none 2 5 (.t 11)⟩] []) ir_law20_begun_2)
def ir_law20_begun_4 : IR := (.seq (.reg [⟨none, .bld 5 [.int .i64 0, .str ([] : List UInt8), .sl .str false ([] : List (List UInt8)), .int .i64 0, .sl .str false ([] : List (List UInt8)), .bool false, .str ([] : List UInt8), .int .i64 0, .sl .afield false ([] : List AField), .sl (.num .i64) false ([] : List Int)] [(0, 1, (.c (.int .i64 3)))]⟩,
    ⟨none, .bld 6 [.int .i64 0, .str ([] : List UInt8), .sl .str false ([] : List (List UInt8)), .int .i64 0, .sl .str false ([] : List (List UInt8)), .bool false, .str ([] : List UInt8), .int .i64 0, .sl .afield false ([] : List AField), .sl (.num .i64) false ([] : List Int)] [(0, 1, (.c (.int .i64 12)))]⟩,
    ⟨none, .bsl 7 .atype [(.t 5), (.t 6)]⟩,
    ⟨none, .bld 8 [.sl .atype false ([] : List AType)] [(0, 1, (.t 7))]⟩,
    ⟨none, .alr 1 1⟩,
    ⟨none, .frz none 1 1 (.t 8)⟩] []) ir_law20_begun_3)
def ir_law20_begun : IR := (.seq (.reg [⟨none, .mov 0 (.c (.bool false))⟩] []) ir_law20_begun_4)
def rs_law20_begun : List RV := [.t 0]
theorem chk_law20_begun : (chkCode Try.prog [] 0 ir_law20_begun (Try.f19.body.getD .skip) && chkRes Try.prog rs_law20_begun Try.f19.results.toList) = true := by kernel_rfl
theorem body_law20_begun : Try.f19.body = some (Try.f19.body.getD .skip) := by kernel_rfl
/-- proclitic/procliticlaw20.begun -/
def sa_law20_begun (N : Nat)   : Option (V × List AObj) :=
  chk (decide (1000000 ≤ N - (szL ([⟨5, ([] : List UInt8), ([] : List AVal), ([] : List (List UInt8)), 0⟩] : List AVal) + 1))) (
    let x1 : Int := (sizeV (.mk 0 ([] : List UInt8) ([⟨5, ([] : List UInt8), ([] : List AVal), ([] : List (List UInt8)), 0⟩] : List AVal) ([] : List (List UInt8)) 0)).1
    let x2 : Int := (sizeV (.mk 0 ([] : List UInt8) ([⟨5, ([] : List UInt8), ([] : List AVal), ([] : List (List UInt8)), 0⟩] : List AVal) ([] : List (List UInt8)) 0)).2
    chk (decide (1000000 ≤ N - (szL ([⟨5, ([] : List UInt8), ([] : List AVal), ([] : List (List UInt8)), 0⟩] : List AVal) + 1))) (
      let x3 : Bool := (fitsS ([⟨3, ([] : List UInt8), ([] : List (List UInt8)), 0, ([] : List (List UInt8)), false, ([] : List UInt8), 0, ([] : List AField), ([] : List Int)⟩, ⟨12, ([] : List UInt8), ([] : List (List UInt8)), 0, ([] : List (List UInt8)), false, ([] : List UInt8), 0, ([] : List AField), ([] : List Int)⟩] : List AType) 1 (.mk 0 ([] : List UInt8) ([⟨5, ([] : List UInt8), ([] : List AVal), ([] : List (List UInt8)), 0⟩] : List AVal) ([] : List (List UInt8)) 0))
      cond x3 (
        chk (decide (1000000 ≤ N - (szL ([⟨5, ([] : List UInt8), ([] : List AVal), ([] : List (List UInt8)), 0⟩] : List AVal) + 1))) (
          let x4 : Bool := (fitsS ([⟨3, ([] : List UInt8), ([] : List (List UInt8)), 0, ([] : List (List UInt8)), false, ([] : List UInt8), 0, ([] : List AField), ([] : List Int)⟩, ⟨12, ([] : List UInt8), ([] : List (List UInt8)), 0, ([] : List (List UInt8)), false, ([] : List UInt8), 0, ([] : List AField), ([] : List Int)⟩] : List AType) 0 (.mk 0 ([] : List UInt8) ([⟨5, ([] : List UInt8), ([] : List AVal), ([] : List (List UInt8)), 0⟩] : List AVal) ([] : List (List UInt8)) 0))
          cond (!x4) (
            chk (decide (1000000 ≤ N - (szL ([⟨5, ([] : List UInt8), ([] : List AVal), ([] : List (List UInt8)), 0⟩] : List AVal) + 1))) (
              let x5 : Bool := (sameV (.mk 0 ([] : List UInt8) ([⟨5, ([] : List UInt8), ([] : List AVal), ([] : List (List UInt8)), 0⟩] : List AVal) ([] : List (List UInt8)) 0) (.mk 0 ([] : List UInt8) ([⟨5, ([] : List UInt8), ([] : List AVal), ([] : List (List UInt8)), 0⟩] : List AVal) ([] : List (List UInt8)) 0))
              cond x5 (
                chk (decide (1000000 ≤ N - (szL ([⟨5, ([] : List UInt8), ([] : List AVal), ([] : List (List UInt8)), 0⟩] : List AVal) + 1))) (
                  let x6 : Bool := (sameV (.mk 0 ([] : List UInt8) ([⟨5, ([] : List UInt8), ([] : List AVal), ([] : List (List UInt8)), 0⟩] : List AVal) ([] : List (List UInt8)) 0) (.mk 0 ([] : List UInt8) ([] : List AVal) ([] : List (List UInt8)) 0))
                  cond (!x6) (
                    cond (x1 == 1) (
                      some (.bool (x2 == 2), [])) (
                      some (.bool false, []))) (
                    some (.bool false, [])))) (
                some (.bool false, [])))) (
            some (.bool false, [])))) (
        some (.bool false, []))))
def sh_law20_begun (N : Nat)  : Option (V × List AObj) := sa_law20_begun N 
theorem run_law20_begun (N : Nat)  : callF (Γ_law20_begun N) N 45 rs_law20_begun ir_law20_begun [] [] = sh_law20_begun N  := by kernel_rfl
theorem ok_law20_begun (N : Nat) (hΓ : SpecOK Try.prog (Γ_law20_begun N))  {v : V} {hp : List AObj} (h : sh_law20_begun N  = some (v, hp)) : PureOK Try.prog i_law20_begun [] v := by
  have hc := chk_law20_begun
  simp only [Bool.and_eq_true] at hc
  exact ⟨hp, fnOK_of hΓ (pureS_law20_begun N) Try.func19 body_law20_begun hc.1 hc.2 (by decide) ((run_law20_begun N ).trans h)⟩

def G_law20_AvalRanges (N : Nat) : Nat → List V → Option (Bool × V) := fun f vs => match f, vs with
  | 19, [] => some (true, .bool true)
  | 21, [.agg [.sl .atype false a0_0], .int .i64 a1, .agg [.int .u64 a2_0, .str a2_1, .sl .aval false a2_2, .sl .str false a2_3, .int .i64 a2_4]] => some (decide (1000000 ≤ N - (szL a2_2 + 1)), .bool (fitsS a0_0 a1 (.mk a2_0 a2_1 a2_2 a2_3 a2_4)))
  | _, _ => none
def Γ_law20_AvalRanges (N : Nat) : ASpec := liftG (G_law20_AvalRanges N)
theorem pureS_law20_AvalRanges (N : Nat) : PureS (Γ_law20_AvalRanges N) [] := liftG_pure _ _
theorem spec_law20_AvalRanges (N : Nat) (h_law20_begun : PureOK Try.prog i_law20_begun [] (.bool true)) (h_aval_Fits : ∀ (a0_0 : List AType) (a1 : Int) (a2_0 : Int) (a2_1 : List UInt8) (a2_2 : List AVal) (a2_3 : List (List UInt8)) (a2_4 : Int), (decide (1000000 ≤ N - (szL a2_2 + 1))) = true → PureOK Try.prog i_aval_Fits [.agg [.sl .atype false a0_0], .int .i64 a1, .agg [.int .u64 a2_0, .str a2_1, .sl .aval false a2_2, .sl .str false a2_3, .int .i64 a2_4]] (.bool (fitsS a0_0 a1 (.mk a2_0 a2_1 a2_2 a2_3 a2_4)))) : SpecOK Try.prog (Γ_law20_AvalRanges N) := by
  intro f vs hp v hp' h0
  obtain ⟨h, he⟩ := liftG_inv h0
  subst he
  unfold G_law20_AvalRanges at h
  split at h
  · simp only [Option.some.injEq, Prod.mk.injEq] at h
    obtain ⟨hc, rfl⟩ := h
    exact (h_law20_begun ).frame rfl rfl _
  · simp only [Option.some.injEq, Prod.mk.injEq] at h
    obtain ⟨hc, rfl⟩ := h
    exact (h_aval_Fits _ _ _ _ _ _ _ hc).frame rfl rfl _
  · simp at h
def ir_law20_AvalRanges_0 : IR := .ret
def ir_law20_AvalRanges_1 : IR := (.cond (.t 7) (.seq (.reg [⟨none, .mov 2 (.c (.bool false))⟩] []) ir_law20_AvalRanges_0) .skip)
def ir_law20_AvalRanges_2 : IR := (.cond (.t 39) .skip (.exit 0))
def ir_law20_AvalRanges_3 : IR := .ret
def ir_law20_AvalRanges_4 : IR := (.cond (.t 65) (.seq (.reg [⟨none, .mov 2 (.c (.bool false))⟩] []) ir_law20_AvalRanges_3) .skip)
def ir_law20_AvalRanges_5 : IR := (.reg [⟨none, .mov 40 (.t 5)⟩,
    ⟨none, .bin 41 .add (.t 40) (.c (.int .i64 1))⟩,
    ⟨none, .mov 5 (.t 41)⟩] [])
def ir_law20_AvalRanges_6 : IR := (.seq (.block 1 (.seq (.reg [⟨none, .lde 42 1 true (.t 3)⟩,
    ⟨none, .mov 43 (.t 5)⟩,
    ⟨none, .mov 44 (.t 0)⟩,
    ⟨none, .bld 45 [.int .u64 0, .str ([] : List UInt8), .sl .aval false ([] : List AVal), .sl .str false ([] : List (List UInt8)), .int .i64 0] [(0, 1, (.t 44))]⟩,
    ⟨none, .call (some 46) 21 [(.t 42), (.t 43), (.t 45)]⟩,
    ⟨none, .mov 47 (.t 4)⟩,
    ⟨none, .mov 48 (.t 5)⟩,
    ⟨none, .ixa 49 .bool (.t 47) (.t 48)⟩,
    ⟨none, .lde 50 1 false (.t 49)⟩,
    ⟨none, .beq 51 true (.t 46) (.t 50)⟩,
    ⟨none, .mov 52 (.t 51)⟩,
    ⟨some (52, false), .lde 53 1 true (.t 3)⟩,
    ⟨some (52, false), .mov 54 (.t 5)⟩,
    ⟨some (52, false), .bld 55 [.int .u64 0, .str ([] : List UInt8), .sl .aval false ([] : List AVal), .sl .str false ([] : List (List UInt8)), .int .i64 0] [(4, 1, (.c (.int .i64 1)))]⟩,
    ⟨some (52, false), .call (some 56) 21 [(.t 53), (.t 54), (.t 55)]⟩,
    ⟨none, .pick 57 (.t 52) (.c (.bool true)) (.t 56)⟩,
    ⟨none, .mov 58 (.t 57)⟩,
    ⟨some (58, false), .lde 59 1 true (.t 3)⟩,
    ⟨some (58, false), .mov 60 (.t 5)⟩,
    ⟨some (58, false), .bld 61 [.int .u64 0, .str ([] : List UInt8), .sl .aval false ([] : List AVal), .sl .str false ([] : List (List UInt8)), .int .i64 0] []⟩,
    ⟨some (58, false), .bsl 62 .aval [(.t 61)]⟩,
    ⟨some (58, false), .bld 63 [.int .u64 0, .str ([] : List UInt8), .sl .aval false ([] : List AVal), .sl .str false ([] : List (List UInt8)), .int .i64 0] [(2, 1, (.t 62))]⟩,
    ⟨some (58, false), .call (some 64) 21 [(.t 59), (.t 60), (.t 63)]⟩,
    ⟨none, .pick 65 (.t 58) (.c (.bool true)) (.t 64)⟩] [[], [], [], [2], [0, 1, 2, 3], [], [], [5, 6], [5, 6, 7], [0, 1, 2, 3, 4, 5, 6, 7, 8], [0, 1, 2, 3, 4, 5, 6, 7, 8, 9], [0, 1, 2, 3, 4, 5, 6, 7, 8, 9, 10], [0, 1, 2, 3, 4, 5, 6, 7, 8, 9, 10], [0, 1, 2, 3, 4, 5, 6, 7, 8, 9, 10], [0, 1, 2, 3, 4, 5, 6, 7, 8, 9, 10, 11, 12, 13], [0, 1, 2, 3, 4, 5, 6, 7, 8, 9, 10, 11, 12, 13, 14], [0, 1, 2, 3, 4, 5, 6, 7, 8, 9, 10, 11, 12, 13, 14, 15], [0, 1, 2, 3, 4, 5, 6, 7, 8, 9, 10, 11, 12, 13, 14, 15, 16], [0, 1, 2, 3, 4, 5, 6, 7, 8, 9, 10, 11, 12, 13, 14, 15, 16], [0, 1, 2, 3, 4, 5, 6, 7, 8, 9, 10, 11, 12, 13, 14, 15, 16], [0, 1, 2, 3, 4, 5, 6, 7, 8, 9, 10, 11, 12, 13, 14, 15, 16, 19], [0, 1, 2, 3, 4, 5, 6, 7, 8, 9, 10, 11, 12, 13, 14, 15, 16, 19, 20], [0, 1, 2, 3, 4, 5, 6, 7, 8, 9, 10, 11, 12, 13, 14, 15, 16, 17, 18, 19, 20, 21], [0, 1, 2, 3, 4, 5, 6, 7, 8, 9, 10, 11, 12, 13, 14, 15, 16, 17, 18, 19, 20, 21, 22]]) ir_law20_AvalRanges_4)) ir_law20_AvalRanges_5)
def ir_law20_AvalRanges_7 : IR := (.seq (.seq (.reg [⟨none, .mov 36 (.t 5)⟩,
    ⟨none, .mov 37 (.t 4)⟩,
    ⟨none, .lenl 38 (.t 37)⟩,
    ⟨none, .bin 39 .lss (.t 36) (.t 38)⟩] []) ir_law20_AvalRanges_2) ir_law20_AvalRanges_6)
def ir_law20_AvalRanges_8 : IR := (.block 0 (.loop [0, 3, 4, 5] 0 ir_law20_AvalRanges_7))
def ir_law20_AvalRanges_9 : IR := .ret
def ir_law20_AvalRanges_10 : IR := (.seq (.reg [⟨none, .mov 2 (.c (.bool true))⟩] []) ir_law20_AvalRanges_9)
def ir_law20_AvalRanges_11 : IR := (.seq (.seq (.reg [⟨none, .mov 5 (.c (.int .i64 0))⟩] []) ir_law20_AvalRanges_8) ir_law20_AvalRanges_10)
def ir_law20_AvalRanges_12 : IR := (.seq (.reg [⟨none, .mov 19 (.t 0)⟩,
    ⟨none, .bin 20 .eql (.t 19) (.c (.int .u64 0))⟩,
    ⟨none, .mov 21 (.t 0)⟩,
    ⟨none, .bin 22 .leq (.t 21) (.c (.int .u64 1))⟩,
    ⟨none, .mov 23 (.t 0)⟩,
    ⟨none, .cvi 24 .i32 (.t 23)⟩,
    ⟨none, .cvi 25 .i64 (.t 24)⟩,
    ⟨none, .cvi 26 .u64 (.t 25)⟩,
    ⟨none, .mov 27 (.t 0)⟩,
    ⟨none, .bin 28 .eql (.t 26) (.t 27)⟩,
    ⟨none, .mov 29 (.t 0)⟩,
    ⟨none, .bin 30 .lss (.t 29) (.c (.int .u64 4294967296))⟩,
    ⟨none, .mov 31 (.t 0)⟩,
    ⟨none, .bin 32 .lss (.t 31) (.c (.int .u64 3))⟩,
    ⟨none, .mov 33 (.t 0)⟩,
    ⟨none, .bin 34 .eql (.t 33) (.c (.int .u64 0))⟩,
    ⟨none, .bsl 35 .bool [(.t 20), (.t 22), (.t 28), (.c (.bool true)), (.t 30), (.c (.bool true)), (.t 32), (.t 34)]⟩,
    ⟨none, .mov 4 (.t 35)⟩] []) ir_law20_AvalRanges_11)
def ir_law20_AvalRanges_13 : IR := (.seq (.reg [⟨none, .bld 8 [.int .i64 0, .str ([] : List UInt8), .sl .str false ([] : List (List UInt8)), .int .i64 0, .sl .str false ([] : List (List UInt8)), .bool false, .str ([] : List UInt8), .int .i64 0, .sl .afield false ([] : List AField), .sl (.num .i64) false ([] : List Int)] [(0, 1, (.c (.int .i64 1)))]⟩,
    ⟨none, .bld 9 [.int .i64 0, .str ([] : List UInt8), .sl .str false ([] : List (List UInt8)), .int .i64 0, .sl .str false ([] : List (List UInt8)), .bool false, .str ([] : List UInt8), .int .i64 0, .sl .afield false ([] : List AField), .sl (.num .i64) false ([] : List Int)] [(0, 1, (.c (.int .i64 2)))]⟩,
    ⟨none, .bld 10 [.int .i64 0, .str ([] : List UInt8), .sl .str false ([] : List (List UInt8)), .int .i64 0, .sl .str false ([] : List (List UInt8)), .bool false, .str ([] : List UInt8), .int .i64 0, .sl .afield false ([] : List AField), .sl (.num .i64) false ([] : List Int)] [(0, 1, (.c (.int .i64 3)))]⟩,
    ⟨none, .bld 11 [.int .i64 0, .str ([] : List UInt8), .sl .str false ([] : List (List UInt8)), .int .i64 0, .sl .str false ([] : List (List UInt8)), .bool false, .str ([] : List UInt8), .int .i64 0, .sl .afield false ([] : List AField), .sl (.num .i64) false ([] : List Int)] [(0, 1, (.c (.int .i64 4)))]⟩,
    ⟨none, .bld 12 [.int .i64 0, .str ([] : List UInt8), .sl .str false ([] : List (List UInt8)), .int .i64 0, .sl .str false ([] : List (List UInt8)), .bool false, .str ([] : List UInt8), .int .i64 0, .sl .afield false ([] : List AField), .sl (.num .i64) false ([] : List Int)] [(0, 1, (.c (.int .i64 5)))]⟩,
    ⟨none, .bld 13 [.int .i64 0, .str ([] : List UInt8), .sl .str false ([] : List (List UInt8)), .int .i64 0, .sl .str false ([] : List (List UInt8)), .bool false, .str ([] : List UInt8), .int .i64 0, .sl .afield false ([] : List AField), .sl (.num .i64) false ([] : List Int)] [(0, 1, (.c (.int .i64 6)))]⟩,
    ⟨none, .bsl 14 .str [(.c (.str ([65] : List UInt8))), (.c (.str ([66] : List UInt8))), (.c (.str ([67] : List UInt8)))]⟩,
    ⟨none, .bld 15 [.int .i64 0, .str ([] : List UInt8), .sl .str false ([] : List (List UInt8)), .int .i64 0, .sl .str false ([] : List (List UInt8)), .bool false, .str ([] : List UInt8), .int .i64 0, .sl .afield false ([] : List AField), .sl (.num .i64) false ([] : List Int)] [(0, 1, (.c (.int .i64 10))), (1, 1, (.c (.str ([69] : List UInt8)))), (4, 1, (.t 14))]⟩,
    ⟨none, .bld 16 [.int .i64 0, .str ([] : List UInt8), .sl .str false ([] : List (List UInt8)), .int .i64 0, .sl .str false ([] : List (List UInt8)), .bool false, .str ([] : List UInt8), .int .i64 0, .sl .afield false ([] : List AField), .sl (.num .i64) false ([] : List Int)] [(0, 1, (.c (.int .i64 8)))]⟩,
    ⟨none, .bsl 17 .atype [(.t 8), (.t 9), (.t 10), (.t 11), (.t 12), (.t 13), (.t 15), (.t 16)]⟩,
    ⟨none, .bld 18 [.sl .atype false ([] : List AType)] [(0, 1, (.t 17))]⟩,
    ⟨none, .alr 3 1⟩,
    ⟨none, .frz none 3 1 (.t 18)⟩] []) ir_law20_AvalRanges_12)
def ir_law20_AvalRanges_14 : IR := (.seq (.seq (.reg [⟨none, .call (some 6) 19 []⟩,
    ⟨none, .un 7 .not (.t 6)⟩] []) ir_law20_AvalRanges_1) ir_law20_AvalRanges_13)
def ir_law20_AvalRanges : IR := (.seq (.reg [⟨none, .mov 2 (.c (.bool false))⟩] []) ir_law20_AvalRanges_14)
def rs_law20_AvalRanges : List RV := [.t 2]
theorem chk_law20_AvalRanges : (chkCode Try.prog [] 0 ir_law20_AvalRanges (Try.f6.body.getD .skip) && chkRes Try.prog rs_law20_AvalRanges Try.f6.results.toList) = true := by kernel_rfl
theorem body_law20_AvalRanges : Try.f6.body = some (Try.f6.body.getD .skip) := by kernel_rfl
def mk_law20_AvalRanges_0 (x : (Int × List AType × List Bool × Int)) : St := { env := [.int .u64 x.1, .undef, .undef, .ea [.sl .atype false x.2.1], .sl .bool false x.2.2.1, .int .i64 x.2.2.2, .undef, .undef, .undef, .undef, .undef, .undef, .undef, .undef, .undef, .undef, .undef, .undef, .undef, .undef, .undef, .undef, .undef, .undef, .undef, .undef, .undef, .undef, .undef, .undef, .undef, .undef, .undef, .undef, .undef, .undef, .undef, .undef, .undef, .undef, .undef, .undef, .undef, .undef, .undef, .undef, .undef, .undef, .undef, .undef, .undef, .undef, .undef, .undef, .undef, .undef, .undef, .undef, .undef, .undef, .undef, .undef, .undef, .undef, .undef, .undef], hp := [] }
def F_law20_AvalRanges_0 (N : Nat) : (St → Option (V × List AObj)) → St → Option (V × List AObj) := fun again0 s => run (Γ_law20_AvalRanges N) N ir_law20_AvalRanges_7 (kloop again0 [0, 3, 4, 5] 0 (kblock 0 (kseq (run (Γ_law20_AvalRanges N) N ir_law20_AvalRanges_10) (fin rs_law20_AvalRanges)))) s
def B_law20_AvalRanges_0 (N : Nat) (again0 : (Int × List AType × List Bool × Int) → Option (V × List AObj)) (x : (Int × List AType × List Bool × Int)) : Option (V × List AObj) :=
  let v0 : Int := x.1
  let v3_0 : List AType := x.2.1
  let v4 : List Bool := x.2.2.1
  let v5 : Int := x.2.2.2
  let x3 : Int := (↑(List.length v4) : Int)
  cond (decide (v5 < x3)) (
    chk (decide (1000000 ≤ N - (szL ([] : List AVal) + 1))) (
      let x4 : Bool := (fitsS v3_0 v5 (.mk v0 ([] : List UInt8) ([] : List AVal) ([] : List (List UInt8)) 0))
      chk ((decide (0 ≤ v5) && decide (v5 < ↑(List.length v4)))) (
        let x5 : Bool := List.getD v4 (Int.toNat v5) (dflt .bool)
        cond (!(x4 == x5)) (
          some (.bool false, [])) (
          chk (decide (1000000 ≤ N - (szL ([] : List AVal) + 1))) (
            let x6 : Bool := (fitsS v3_0 v5 (.mk 0 ([] : List UInt8) ([] : List AVal) ([] : List (List UInt8)) 1))
            cond x6 (
              some (.bool false, [])) (
              chk (decide (1000000 ≤ N - (szL ([⟨0, ([] : List UInt8), ([] : List AVal), ([] : List (List UInt8)), 0⟩] : List AVal) + 1))) (
                let x7 : Bool := (fitsS v3_0 v5 (.mk 0 ([] : List UInt8) ([⟨0, ([] : List UInt8), ([] : List AVal), ([] : List (List UInt8)), 0⟩] : List AVal) ([] : List (List UInt8)) 0))
                cond x7 (
                  some (.bool false, [])) (
                  let x8 : Int := (IntKind.wrap .i64 (v5 + 1))
                  again0 (v0, v3_0, v4, x8))))))))) (
    some (.bool true, []))
theorem FB_law20_AvalRanges_0 (N : Nat) : ∀ (again0 : St → Option (V × List AObj)) (x : (Int × List AType × List Bool × Int)), F_law20_AvalRanges_0 N again0 (mk_law20_AvalRanges_0 x) = B_law20_AvalRanges_0 N (fun y => again0 (mk_law20_AvalRanges_0 y)) x := by
  intro again0 x
  kernel_rfl
/-- proclitic/procliticlaw20.AvalRanges -/
def sa_law20_AvalRanges (N : Nat) (p0 : Int) (q0 : (Int × List AType × List Bool × Int) → Option (V × List AObj)) : Option (V × List AObj) :=
  let x1 : Int := (IntKind.wrap .i64 (IntKind.wrap .i32 p0))
  let x2 : Bool := ((IntKind.wrap .u64 x1) == p0)
  q0 (p0, ([⟨1, ([] : List UInt8), ([] : List (List UInt8)), 0, ([] : List (List UInt8)), false, ([] : List UInt8), 0, ([] : List AField), ([] : List Int)⟩, ⟨2, ([] : List UInt8), ([] : List (List UInt8)), 0, ([] : List (List UInt8)), false, ([] : List UInt8), 0, ([] : List AField), ([] : List Int)⟩, ⟨3, ([] : List UInt8), ([] : List (List UInt8)), 0, ([] : List (List UInt8)), false, ([] : List UInt8), 0, ([] : List AField), ([] : List Int)⟩, ⟨4, ([] : List UInt8), ([] : List (List UInt8)), 0, ([] : List (List UInt8)), false, ([] : List UInt8), 0, ([] : List AField), ([] : List Int)⟩, ⟨5, ([] : List UInt8), ([] : List (List UInt8)), 0, ([] : List (List UInt8)), false, ([] : List UInt8), 0, ([] : List AField), ([] : List Int)⟩, ⟨6, ([] : List UInt8), ([] : List (List UInt8)), 0, ([] : List (List UInt8)), false, ([] : List UInt8), 0, ([] : List AField), ([] : List Int)⟩, ⟨10, ([69] : List UInt8), ([] : List (List UInt8)), 0, ([([65] : List UInt8), ([66] : List UInt8), ([67] : List UInt8)] : List (List UInt8)), false, ([] : List UInt8), 0, ([] : List AField), ([] : List Int)⟩, ⟨8, ([] : List UInt8), ([] : List (List UInt8)), 0, ([] : List (List UInt8)), false, ([] : List UInt8), 0, ([] : List AField), ([] : List Int)⟩] : List AType), ([(p0 == 0), decide (p0 ≤ 1), x2, true, decide (p0 < 4294967296), true, decide (p0 < 3), (p0 == 0)] : List Bool), 0)
def sh_law20_AvalRanges (N : Nat) (p0 : Int) : Option (V × List AObj) := sa_law20_AvalRanges N p0 (fun z => iterL N (B_law20_AvalRanges_0 N) z)
theorem run_law20_AvalRanges (N : Nat) (p0 : Int) : callF (Γ_law20_AvalRanges N) N 66 rs_law20_AvalRanges ir_law20_AvalRanges [.int .u64 p0] [] = sh_law20_AvalRanges N p0 := by
  have h : callF (Γ_law20_AvalRanges N) N 66 rs_law20_AvalRanges ir_law20_AvalRanges [.int .u64 p0] [] = sa_law20_AvalRanges N p0 (fun z => loopN N (F_law20_AvalRanges_0 N) (mk_law20_AvalRanges_0 z)) := by kernel_rfl
  have e0 : (fun z => loopN N (F_law20_AvalRanges_0 N) (mk_law20_AvalRanges_0 z)) = (fun z => iterL N (B_law20_AvalRanges_0 N) z) := funext fun z => loop_eq (mk_law20_AvalRanges_0) (F_law20_AvalRanges_0 N) (B_law20_AvalRanges_0 N) (FB_law20_AvalRanges_0 N) N z
  rw [h, e0]
  rfl
theorem ok_law20_AvalRanges (N : Nat) (hΓ : SpecOK Try.prog (Γ_law20_AvalRanges N)) (p0 : Int) {v : V} {hp : List AObj} (h : sh_law20_AvalRanges N p0 = some (v, hp)) : PureOK Try.prog i_law20_AvalRanges [.int .u64 p0] v := by
  have hc := chk_law20_AvalRanges
  simp only [Bool.and_eq_true] at hc
  exact ⟨hp, fnOK_of hΓ (pureS_law20_AvalRanges N) Try.func6 body_law20_AvalRanges hc.1 hc.2 (by decide) ((run_law20_AvalRanges N p0).trans h)⟩

end Go.Proofs.Ytdpajabhmmmjoaa
