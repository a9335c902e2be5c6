/-
  The plain functions that runs of the code are: written by wip/gen/gen.py.
-/
import Derived.Test.YtdpajabhmmmjoaaAvCode
import Derived.KernelRfl
namespace Go.Proofs.Ytdpajabhmmmjoaa
open Go.AM
set_option autoImplicit false
set_option linter.unusedVariables false
set_option maxRecDepth 100000
def G_aval_Fits (N : Nat) : Nat → List V → Option (Bool × V) := fun f vs => match f, vs with
  | 21, [.agg [.sl .atype false a0_0], .int .i64 a1, .agg [.int .u64 a2_0, .str a2_1, .sl .aval false a2_2, .sl .str false a2_3, .int .i64 a2_4]] => some (decide (1000000 ≤ N - (szL a2_2 + 1)), .bool (fitsS a0_0 a1 (.mk a2_0 a2_1 a2_2 a2_3 a2_4)))
  | 49, [.agg [.sl .atype false a0_0], .int .i64 a1] => some (true, .bool (isT a0_0 a1))
  | 50, [.agg [.int .i64 a0_0, .str a0_1, .sl .str false a0_2, .int .i64 a0_3, .sl .str false a0_4, .bool a0_5, .str a0_6, .int .i64 a0_7, .sl .afield false a0_8, .sl (.num .i64) false a0_9], .int .u64 a1] => some (true, .bool (numS a0_0 a0_4 a1))
  | 51, [.agg [.int .i64 a0_0, .str a0_1, .sl .str false a0_2, .int .i64 a0_3, .sl .str false a0_4, .bool a0_5, .str a0_6, .int .i64 a0_7, .sl .afield false a0_8, .sl (.num .i64) false a0_9], .str a1] => some (true, .bool (textS a0_0 a0_7 a1))
  | 52, [.agg [.sl .atype false a0_0], .int .i64 a1, .sl .aval false a2] => some (decide (1000000 ≤ N - szL a2), .bool (eachS a0_0 a1 a2))
  | 53, [.sl .str false a0] => some (true, .bool (keysS a0))
  | 54, [.agg [.sl .atype false a0_0], .agg [.int .i64 a1_0, .str a1_1, .sl .str false a1_2, .int .i64 a1_3, .sl .str false a1_4, .bool a1_5, .str a1_6, .int .i64 a1_7, .sl .afield false a1_8, .sl (.num .i64) false a1_9], .sl .aval false a2] => some (decide (1000000 ≤ N - szL a2), .bool (decide (List.length a2 = List.length a1_8) && recS a0_0 a1_8 a2))
  | 55, [.agg [.int .u64 a0_0, .str a0_1, .sl .aval false a0_2, .sl .str false a0_3, .int .i64 a0_4]] => some (true, .bool (bareS a0_0 a0_1 a0_2 a0_3 a0_4))
  | _, _ => none
def Γ_aval_Fits (N : Nat) : ASpec := liftG (G_aval_Fits N)
theorem pureS_aval_Fits (N : Nat) : PureS (Γ_aval_Fits N) [] := liftG_pure _ _
theorem spec_aval_Fits (N : Nat) (h_aval_Fits : ∀ (a0_0 : List AType) (a1 : Int) (a2_0 : Int) (a2_1 : List UInt8) (a2_2 : List AVal) (a2_3 : List (List UInt8)) (a2_4 : Int), (decide (1000000 ≤ N - (szL a2_2 + 1))) = true → PureOK Try.prog i_aval_Fits [.agg [.sl .atype false a0_0], .int .i64 a1, .agg [.int .u64 a2_0, .str a2_1, .sl .aval false a2_2, .sl .str false a2_3, .int .i64 a2_4]] (.bool (fitsS a0_0 a1 (.mk a2_0 a2_1 a2_2 a2_3 a2_4)))) (h_aval_is : ∀ (a0_0 : List AType) (a1 : Int), PureOK Try.prog i_aval_is [.agg [.sl .atype false a0_0], .int .i64 a1] (.bool (isT a0_0 a1))) (h_aval_number : ∀ (a0_0 : Int) (a0_1 : List UInt8) (a0_2 : List (List UInt8)) (a0_3 : Int) (a0_4 : List (List UInt8)) (a0_5 : Bool) (a0_6 : List UInt8) (a0_7 : Int) (a0_8 : List AField) (a0_9 : List Int) (a1 : Int), PureOK Try.prog i_aval_number [.agg [.int .i64 a0_0, .str a0_1, .sl .str false a0_2, .int .i64 a0_3, .sl .str false a0_4, .bool a0_5, .str a0_6, .int .i64 a0_7, .sl .afield false a0_8, .sl (.num .i64) false a0_9], .int .u64 a1] (.bool (numS a0_0 a0_4 a1))) (h_aval_text : ∀ (a0_0 : Int) (a0_1 : List UInt8) (a0_2 : List (List UInt8)) (a0_3 : Int) (a0_4 : List (List UInt8)) (a0_5 : Bool) (a0_6 : List UInt8) (a0_7 : Int) (a0_8 : List AField) (a0_9 : List Int) (a1 : List UInt8), PureOK Try.prog i_aval_text [.agg [.int .i64 a0_0, .str a0_1, .sl .str false a0_2, .int .i64 a0_3, .sl .str false a0_4, .bool a0_5, .str a0_6, .int .i64 a0_7, .sl .afield false a0_8, .sl (.num .i64) false a0_9], .str a1] (.bool (textS a0_0 a0_7 a1))) (h_aval_each : ∀ (a0_0 : List AType) (a1 : Int) (a2 : List AVal), (decide (1000000 ≤ N - szL a2)) = true → PureOK Try.prog i_aval_each [.agg [.sl .atype false a0_0], .int .i64 a1, .sl .aval false a2] (.bool (eachS a0_0 a1 a2))) (h_aval_keys : ∀ (a0 : List (List UInt8)), PureOK Try.prog i_aval_keys [.sl .str false a0] (.bool (keysS a0))) (h_aval_record : ∀ (a0_0 : List AType) (a1_0 : Int) (a1_1 : List UInt8) (a1_2 : List (List UInt8)) (a1_3 : Int) (a1_4 : List (List UInt8)) (a1_5 : Bool) (a1_6 : List UInt8) (a1_7 : Int) (a1_8 : List AField) (a1_9 : List Int) (a2 : List AVal), (decide (1000000 ≤ N - szL a2)) = true → PureOK Try.prog i_aval_record [.agg [.sl .atype false a0_0], .agg [.int .i64 a1_0, .str a1_1, .sl .str false a1_2, .int .i64 a1_3, .sl .str false a1_4, .bool a1_5, .str a1_6, .int .i64 a1_7, .sl .afield false a1_8, .sl (.num .i64) false a1_9], .sl .aval false a2] (.bool (decide (List.length a2 = List.length a1_8) && recS a0_0 a1_8 a2))) (h_aval_bare : ∀ (a0_0 : Int) (a0_1 : List UInt8) (a0_2 : List AVal) (a0_3 : List (List UInt8)) (a0_4 : Int), PureOK Try.prog i_aval_bare [.agg [.int .u64 a0_0, .str a0_1, .sl .aval false a0_2, .sl .str false a0_3, .int .i64 a0_4]] (.bool (bareS a0_0 a0_1 a0_2 a0_3 a0_4))) : SpecOK Try.prog (Γ_aval_Fits N) := by
  intro f vs hp v hp' h0
  obtain ⟨h, he⟩ := liftG_inv h0
  subst he
  unfold G_aval_Fits at h
  split at h
  · simp only [Option.some.injEq, Prod.mk.injEq] at h
    obtain ⟨hc, rfl⟩ := h
    exact (h_aval_Fits _ _ _ _ _ _ _ hc).frame rfl rfl _
  · simp only [Option.some.injEq, Prod.mk.injEq] at h
    obtain ⟨hc, rfl⟩ := h
    exact (h_aval_is _ _).frame rfl rfl _
  · simp only [Option.some.injEq, Prod.mk.injEq] at h
    obtain ⟨hc, rfl⟩ := h
    exact (h_aval_number _ _ _ _ _ _ _ _ _ _ _).frame rfl rfl _
  · simp only [Option.some.injEq, Prod.mk.injEq] at h
    obtain ⟨hc, rfl⟩ := h
    exact (h_aval_text _ _ _ _ _ _ _ _ _ _ _).frame rfl rfl _
  · simp only [Option.some.injEq, Prod.mk.injEq] at h
    obtain ⟨hc, rfl⟩ := h
    exact (h_aval_each _ _ _ hc).frame rfl rfl _
  · simp only [Option.some.injEq, Prod.mk.injEq] at h
    obtain ⟨hc, rfl⟩ := h
    exact (h_aval_keys _).frame rfl rfl _
  · simp only [Option.some.injEq, Prod.mk.injEq] at h
    obtain ⟨hc, rfl⟩ := h
    exact (h_aval_record _ _ _ _ _ _ _ _ _ _ _ _ hc).frame rfl rfl _
  · simp only [Option.some.injEq, Prod.mk.injEq] at h
    obtain ⟨hc, rfl⟩ := h
    exact (h_aval_bare _ _ _ _ _).frame rfl rfl _
  · simp at h
def ir_aval_Fits_0 : IR := .ret
def ir_aval_Fits_1 : IR := (.cond (.t 13) (.seq (.reg [⟨none, .mov 6 (.c (.bool false))⟩] []) ir_aval_Fits_0) .skip)
def ir_aval_Fits_2 : IR := (.cond (.t 24) .skip (.reg [⟨none, .bin 30 .eql (.t 21) (.c (.int .i64 10))⟩,
    ⟨none, .mov 24 (.t 30)⟩] []))
def ir_aval_Fits_3 : IR := (.cond (.t 24) .skip (.seq (.reg [⟨none, .bin 29 .eql (.t 21) (.c (.int .i64 6))⟩,
    ⟨none, .mov 24 (.t 29)⟩] []) ir_aval_Fits_2))
def ir_aval_Fits_4 : IR := (.cond (.t 24) .skip (.seq (.reg [⟨none, .bin 28 .eql (.t 21) (.c (.int .i64 5))⟩,
    ⟨none, .mov 24 (.t 28)⟩] []) ir_aval_Fits_3))
def ir_aval_Fits_5 : IR := (.cond (.t 24) .skip (.seq (.reg [⟨none, .bin 27 .eql (.t 21) (.c (.int .i64 4))⟩,
    ⟨none, .mov 24 (.t 27)⟩] []) ir_aval_Fits_4))
def ir_aval_Fits_6 : IR := (.cond (.t 24) .skip (.seq (.reg [⟨none, .bin 26 .eql (.t 21) (.c (.int .i64 3))⟩,
    ⟨none, .mov 24 (.t 26)⟩] []) ir_aval_Fits_5))
def ir_aval_Fits_7 : IR := (.cond (.t 36) .skip (.reg [⟨none, .bin 39 .eql (.t 21) (.c (.int .i64 11))⟩,
    ⟨none, .mov 36 (.t 39)⟩] []))
def ir_aval_Fits_8 : IR := (.cond (.t 36) .skip (.seq (.reg [⟨none, .bin 38 .eql (.t 21) (.c (.int .i64 8))⟩,
    ⟨none, .mov 36 (.t 38)⟩] []) ir_aval_Fits_7))
def ir_aval_Fits_9 : IR := (.reg [⟨none, .fad 76 2 (.t 8)⟩,
    ⟨none, .st none 1 (.t 76) (.c (.sl .aval true ([] : List AVal)))⟩,
    ⟨none, .fad 77 3 (.t 8)⟩,
    ⟨none, .st none 1 (.t 77) (.c (.sl .str true ([] : List (List UInt8))))⟩] [])
def ir_aval_Fits_10 : IR := (.cut [8, 9] 1 ir_aval_Fits_9)
def ir_aval_Fits_11 : IR := (.reg [⟨none, .fad 119 2 (.t 8)⟩,
    ⟨none, .st none 1 (.t 119) (.c (.sl .aval true ([] : List AVal)))⟩,
    ⟨none, .fad 120 4 (.t 8)⟩,
    ⟨none, .st none 1 (.t 120) (.c (.int .i64 0))⟩] [])
def ir_aval_Fits_12 : IR := (.cut [8, 9] 1 ir_aval_Fits_11)
def ir_aval_Fits_13 : IR := (.cond (.t 86) (.seq (.reg [⟨none, .fad 88 4 (.t 5)⟩,
    ⟨none, .lde 89 1 false (.t 88)⟩,
    ⟨none, .bin 90 .geq (.t 89) (.c (.int .i64 0))⟩,
    ⟨none, .mov 91 (.t 90)⟩,
    ⟨some (91, true), .fad 92 4 (.t 5)⟩,
    ⟨some (91, true), .lde 93 1 false (.t 92)⟩,
    ⟨some (91, true), .fad 94 9 (.t 7)⟩,
    ⟨some (91, true), .lde 95 1 false (.t 94)⟩,
    ⟨some (91, true), .lenl 96 (.t 95)⟩,
    ⟨some (91, true), .bin 97 .lss (.t 93) (.t 96)⟩,
    ⟨none, .pick 98 (.t 91) (.t 97) (.c (.bool false))⟩,
    ⟨none, .mov 99 (.t 98)⟩,
    ⟨some (99, true), .fad 100 2 (.t 5)⟩,
    ⟨some (99, true), .lde 101 1 false (.t 100)⟩,
    ⟨some (99, true), .lenl 102 (.t 101)⟩,
    ⟨some (99, true), .bin 103 .eql (.t 102) (.c (.int .i64 1))⟩,
    ⟨none, .pick 104 (.t 99) (.t 103) (.c (.bool false))⟩,
    ⟨none, .mov 105 (.t 104)⟩,
    ⟨some (105, true), .lde 106 1 true (.t 3)⟩,
    ⟨some (105, true), .fad 107 9 (.t 7)⟩,
    ⟨some (105, true), .lde 108 1 false (.t 107)⟩,
    ⟨some (105, true), .fad 109 4 (.t 5)⟩,
    ⟨some (105, true), .lde 110 1 false (.t 109)⟩,
    ⟨some (105, true), .ixa 111 (.num .i64) (.t 108) (.t 110)⟩,
    ⟨some (105, true), .lde 112 1 false (.t 111)⟩,
    ⟨some (105, true), .fad 113 2 (.t 5)⟩,
    ⟨some (105, true), .lde 114 1 false (.t 113)⟩,
    ⟨some (105, true), .ixa 115 .aval (.t 114) (.c (.int .i64 0))⟩,
    ⟨some (105, true), .lde 116 5 true (.t 115)⟩,
    ⟨some (105, true), .call (some 117) 21 [(.t 106), (.t 112), (.t 116)]⟩,
    ⟨none, .pick 118 (.t 105) (.t 117) (.c (.bool false))⟩,
    ⟨none, .mov 9 (.t 118)⟩] [[], [0], [0, 1], [0, 1, 2], [0, 1, 2, 3], [0, 1, 2, 3, 4], [0, 1, 2, 3], [0, 1, 2, 3, 6], [0, 1, 2, 3, 6, 7], [0, 1, 2, 3, 4, 5, 6, 7, 8], [0, 1, 2, 3, 4, 5, 6, 7, 8, 9], [0, 1, 2, 3, 4, 5, 6, 7, 8, 9, 10], [0, 1, 2, 3, 4, 5, 6, 7, 8, 9, 10, 11], [0, 1, 2, 3, 4, 5, 6, 7, 8, 9, 10, 11, 12], [0, 1, 2, 3, 4, 5, 6, 7, 8, 9, 10, 11, 12, 13], [0, 1, 2, 3, 4, 5, 6, 7, 8, 9, 10, 11, 12, 13, 14], [0, 1, 2, 3, 4, 5, 6, 7, 8, 9, 10, 11, 12, 13, 14, 15], [0, 1, 2, 3, 4, 5, 6, 7, 8, 9, 10, 11, 12, 13, 14, 15, 16], [0, 1, 2, 3, 4, 5, 6, 7, 8, 9, 10, 11, 12, 13, 14, 15, 16, 17], [0, 1, 2, 3, 4, 5, 6, 7, 8, 9, 10, 11, 12, 13, 14, 15, 16, 17], [0, 1, 2, 3, 4, 5, 6, 7, 8, 9, 10, 11, 12, 13, 14, 15, 16, 17, 19], [0, 1, 2, 3, 4, 5, 6, 7, 8, 9, 10, 11, 12, 13, 14, 15, 16, 17], [0, 1, 2, 3, 4, 5, 6, 7, 8, 9, 10, 11, 12, 13, 14, 15, 16, 17, 21], [0, 1, 2, 3, 4, 5, 6, 7, 8, 9, 10, 11, 12, 13, 14, 15, 16, 17, 19, 20, 21, 22], [0, 1, 2, 3, 4, 5, 6, 7, 8, 9, 10, 11, 12, 13, 14, 15, 16, 17, 19, 20, 21, 22, 23], [0, 1, 2, 3, 4, 5, 6, 7, 8, 9, 10, 11, 12, 13, 14, 15, 16, 17], [0, 1, 2, 3, 4, 5, 6, 7, 8, 9, 10, 11, 12, 13, 14, 15, 16, 17, 25], [0, 1, 2, 3, 4, 5, 6, 7, 8, 9, 10, 11, 12, 13, 14, 15, 16, 17, 25, 26], [0, 1, 2, 3, 4, 5, 6, 7, 8, 9, 10, 11, 12, 13, 14, 15, 16, 17, 25, 26, 27], [0, 1, 2, 3, 4, 5, 6, 7, 8, 9, 10, 11, 12, 13, 14, 15, 16, 17, 18, 19, 20, 21, 22, 23, 24, 25, 26, 27, 28], [0, 1, 2, 3, 4, 5, 6, 7, 8, 9, 10, 11, 12, 13, 14, 15, 16, 17, 18, 19, 20, 21, 22, 23, 24, 25, 26, 27, 28, 29], [0, 1, 2, 3, 4, 5, 6, 7, 8, 9, 10, 11, 12, 13, 14, 15, 16, 17, 18, 19, 20, 21, 22, 23, 24, 25, 26, 27, 28, 29, 30]]) ir_aval_Fits_12) .skip)
def ir_aval_Fits_14 : IR := (.cond (.t 78) (.reg [⟨none, .lde 80 1 true (.t 3)⟩,
    ⟨none, .lde 81 10 true (.t 7)⟩,
    ⟨none, .fad 82 2 (.t 5)⟩,
    ⟨none, .lde 83 1 false (.t 82)⟩,
    ⟨none, .call (some 84) 54 [(.t 80), (.t 81), (.t 83)]⟩,
    ⟨none, .mov 9 (.t 84)⟩,
    ⟨none, .fad 85 2 (.t 8)⟩,
    ⟨none, .st none 1 (.t 85) (.c (.sl .aval true ([] : List AVal)))⟩] []) (.seq (.reg [⟨none, .bin 87 .eql (.t 21) (.c (.int .i64 14))⟩,
    ⟨none, .mov 86 (.t 87)⟩] []) ir_aval_Fits_13))
def ir_aval_Fits_15 : IR := (.cond (.t 54) (.seq (.reg [⟨none, .fad 56 3 (.t 5)⟩,
    ⟨none, .lde 57 1 false (.t 56)⟩,
    ⟨none, .lenl 58 (.t 57)⟩,
    ⟨none, .fad 59 2 (.t 5)⟩,
    ⟨none, .lde 60 1 false (.t 59)⟩,
    ⟨none, .lenl 61 (.t 60)⟩,
    ⟨none, .bin 62 .eql (.t 58) (.t 61)⟩,
    ⟨none, .mov 63 (.t 62)⟩,
    ⟨some (63, true), .fad 64 3 (.t 5)⟩,
    ⟨some (63, true), .lde 65 1 false (.t 64)⟩,
    ⟨some (63, true), .call (some 66) 53 [(.t 65)]⟩,
    ⟨none, .pick 67 (.t 63) (.t 66) (.c (.bool false))⟩,
    ⟨none, .mov 68 (.t 67)⟩,
    ⟨some (68, true), .lde 69 1 true (.t 3)⟩,
    ⟨some (68, true), .fad 70 3 (.t 7)⟩,
    ⟨some (68, true), .lde 71 1 false (.t 70)⟩,
    ⟨some (68, true), .fad 72 2 (.t 5)⟩,
    ⟨some (68, true), .lde 73 1 false (.t 72)⟩,
    ⟨some (68, true), .call (some 74) 52 [(.t 69), (.t 71), (.t 73)]⟩,
    ⟨none, .pick 75 (.t 68) (.t 74) (.c (.bool false))⟩,
    ⟨none, .mov 9 (.t 75)⟩] []) ir_aval_Fits_10) (.seq (.reg [⟨none, .bin 79 .eql (.t 21) (.c (.int .i64 9))⟩,
    ⟨none, .mov 78 (.t 79)⟩] []) ir_aval_Fits_14))
def ir_aval_Fits_16 : IR := (.cond (.t 45) (.reg [⟨none, .lde 47 1 true (.t 3)⟩,
    ⟨none, .fad 48 3 (.t 7)⟩,
    ⟨none, .lde 49 1 false (.t 48)⟩,
    ⟨none, .fad 50 2 (.t 5)⟩,
    ⟨none, .lde 51 1 false (.t 50)⟩,
    ⟨none, .call (some 52) 52 [(.t 47), (.t 49), (.t 51)]⟩,
    ⟨none, .mov 9 (.t 52)⟩,
    ⟨none, .fad 53 2 (.t 8)⟩,
    ⟨none, .st none 1 (.t 53) (.c (.sl .aval true ([] : List AVal)))⟩] []) (.seq (.reg [⟨none, .bin 55 .eql (.t 21) (.c (.int .i64 13))⟩,
    ⟨none, .mov 54 (.t 55)⟩] []) ir_aval_Fits_15))
def ir_aval_Fits_17 : IR := (.cond (.t 36) (.reg [⟨none, .lde 40 10 true (.t 7)⟩,
    ⟨none, .fad 41 1 (.t 5)⟩,
    ⟨none, .lde 42 1 false (.t 41)⟩,
    ⟨none, .call (some 43) 51 [(.t 40), (.t 42)]⟩,
    ⟨none, .mov 9 (.t 43)⟩,
    ⟨none, .fad 44 1 (.t 8)⟩,
    ⟨none, .st none 1 (.t 44) (.c (.str ([] : List UInt8)))⟩] []) (.seq (.reg [⟨none, .bin 46 .eql (.t 21) (.c (.int .i64 12))⟩,
    ⟨none, .mov 45 (.t 46)⟩] []) ir_aval_Fits_16))
def ir_aval_Fits_18 : IR := (.cut [3, 5, 7, 8, 9, 21, 36] 1 ir_aval_Fits_17)
def ir_aval_Fits_19 : IR := (.cond (.t 24) (.reg [⟨none, .lde 31 10 true (.t 7)⟩,
    ⟨none, .fad 32 0 (.t 5)⟩,
    ⟨none, .lde 33 1 false (.t 32)⟩,
    ⟨none, .call (some 34) 50 [(.t 31), (.t 33)]⟩,
    ⟨none, .mov 9 (.t 34)⟩,
    ⟨none, .fad 35 0 (.t 8)⟩,
    ⟨none, .st none 1 (.t 35) (.c (.int .u64 0))⟩] []) (.seq (.seq (.reg [⟨none, .bin 37 .eql (.t 21) (.c (.int .i64 7))⟩,
    ⟨none, .mov 36 (.t 37)⟩] []) ir_aval_Fits_8) ir_aval_Fits_18))
def ir_aval_Fits_20 : IR := (.cut [3, 5, 7, 8, 9, 21, 24] 1 ir_aval_Fits_19)
def ir_aval_Fits_21 : IR := (.cond (.t 22) (.reg [⟨none, .mov 9 (.c (.bool true))⟩] []) (.seq (.seq (.reg [⟨none, .bin 25 .eql (.t 21) (.c (.int .i64 2))⟩,
    ⟨none, .mov 24 (.t 25)⟩] []) ir_aval_Fits_6) ir_aval_Fits_20))
def ir_aval_Fits_22 : IR := (.block 0 (.seq (.reg [⟨none, .bin 23 .eql (.t 21) (.c (.int .i64 1))⟩,
    ⟨none, .mov 22 (.t 23)⟩] []) ir_aval_Fits_21))
def ir_aval_Fits_23 : IR := .ret
def ir_aval_Fits_24 : IR := (.seq (.reg [⟨none, .mov 121 (.t 9)⟩,
    ⟨none, .mov 122 (.t 121)⟩,
    ⟨some (122, true), .ld 123 5 true false (.t 8)⟩,
    ⟨some (122, true), .call (some 124) 55 [(.t 123)]⟩,
    ⟨none, .pick 125 (.t 122) (.t 124) (.c (.bool false))⟩,
    ⟨none, .mov 6 (.t 125)⟩] []) ir_aval_Fits_23)
def ir_aval_Fits_25 : IR := (.cut [8, 9] 1 ir_aval_Fits_24)
def ir_aval_Fits_26 : IR := (.seq (.seq (.reg [⟨none, .fad 20 0 (.t 7)⟩,
    ⟨none, .lde 21 1 false (.t 20)⟩] []) ir_aval_Fits_22) ir_aval_Fits_25)
def ir_aval_Fits_27 : IR := (.seq (.reg [⟨none, .mov 9 (.c (.bool false))⟩] []) ir_aval_Fits_26)
def ir_aval_Fits_28 : IR := (.seq (.reg [⟨none, .fad 14 0 (.t 3)⟩,
    ⟨none, .lde 15 1 false (.t 14)⟩,
    ⟨none, .mov 16 (.t 1)⟩,
    ⟨none, .ixa 17 .atype (.t 15) (.t 16)⟩,
    ⟨none, .lde 18 10 true (.t 17)⟩,
    ⟨none, .lde 19 5 true (.t 5)⟩,
    ⟨none, .alr 7 10⟩,
    ⟨none, .new 8 [.int .u64 0, .str ([] : List UInt8), .sl .aval true ([] : List AVal), .sl .str true ([] : List (List UInt8)), .int .i64 0]⟩,
    ⟨none, .frz none 7 10 (.t 18)⟩,
    ⟨none, .st none 5 (.t 8) (.t 19)⟩] [[], [0], [], [0, 1, 2], [0, 1, 2, 3], [], [], [], [0, 1, 2, 3, 4, 6, 7], [0, 1, 2, 3, 4, 5, 6, 7, 8]]) ir_aval_Fits_27)
def ir_aval_Fits_29 : IR := (.seq (.seq (.reg [⟨none, .lde 10 1 true (.t 3)⟩,
    ⟨none, .mov 11 (.t 1)⟩,
    ⟨none, .call (some 12) 49 [(.t 10), (.t 11)]⟩,
    ⟨none, .un 13 .not (.t 12)⟩] []) ir_aval_Fits_1) ir_aval_Fits_28)
def ir_aval_Fits : IR := (.seq (.reg [⟨none, .boxe 3 (.t 0)⟩,
    ⟨none, .boxe 5 (.t 2)⟩,
    ⟨none, .mov 6 (.c (.bool false))⟩] []) ir_aval_Fits_29)
def rs_aval_Fits : List RV := [.t 6]
theorem chk_aval_Fits : (chkCode Try.prog [] 0 ir_aval_Fits (Try.f21.body.getD .skip) && chkRes Try.prog rs_aval_Fits Try.f21.results.toList) = true := by kernel_rfl
theorem body_aval_Fits : Try.f21.body = some (Try.f21.body.getD .skip) := by kernel_rfl
def mk_aval_Fits_0 (x : (Bool × Int × List UInt8 × List AVal × List (List UInt8) × Int)) : St := { env := [.undef, .undef, .undef, .undef, .undef, .undef, .undef, .undef, .ptr 0 0, .bool x.1, .undef, .undef, .undef, .undef, .undef, .undef, .undef, .undef, .undef, .undef, .undef, .undef, .undef, .undef, .undef, .undef, .undef, .undef, .undef, .undef, .undef, .undef, .undef, .undef, .undef, .undef, .undef, .undef, .undef, .undef, .undef, .undef, .undef, .undef, .undef, .undef, .undef, .undef, .undef, .undef, .undef, .undef, .undef, .undef, .undef, .undef, .undef, .undef, .undef, .undef, .undef, .undef, .undef, .undef, .undef, .undef, .undef, .undef, .undef, .undef, .undef, .undef, .undef, .undef, .undef, .undef, .undef, .undef, .undef, .undef, .undef, .undef, .undef, .undef, .undef, .undef, .undef, .undef, .undef, .undef, .undef, .undef, .undef, .undef, .undef, .undef, .undef, .undef, .undef, .undef, .undef, .undef, .undef, .undef, .undef, .undef, .undef, .undef, .undef, .undef, .undef, .undef, .undef, .undef, .undef, .undef, .undef, .undef, .undef, .undef, .undef, .undef, .undef, .undef, .undef, .undef], hp := [some [.int .u64 x.2.1, .str x.2.2.1, .sl .aval false x.2.2.2.1, .sl .str false x.2.2.2.2.1, .int .i64 x.2.2.2.2.2]] }
def F_aval_Fits_0 (N : Nat) : St → Option (V × List AObj) := fun s => run (Γ_aval_Fits N) N ir_aval_Fits_24 (fin rs_aval_Fits) s
def J_aval_Fits_0 (N : Nat) (x : (Bool × Int × List UInt8 × List AVal × List (List UInt8) × Int)) : Option (V × List AObj) :=
  let v9 : Bool := x.1
  let o0_0 : Int := x.2.1
  let o0_1 : List UInt8 := x.2.2.1
  let o0_2 : List AVal := x.2.2.2.1
  let o0_3 : List (List UInt8) := x.2.2.2.2.1
  let o0_4 : Int := x.2.2.2.2.2
  cond v9 (
    let x11 : Bool := (bareS o0_0 o0_1 o0_2 o0_3 o0_4)
    some (.bool x11, [some [.int .u64 o0_0, .str o0_1, .sl .aval false o0_2, .sl .str false o0_3, .int .i64 o0_4]])) (
    some (.bool false, [some [.int .u64 o0_0, .str o0_1, .sl .aval false o0_2, .sl .str false o0_3, .int .i64 o0_4]]))
theorem FJ_aval_Fits_0 (N : Nat) : ∀ (x : (Bool × Int × List UInt8 × List AVal × List (List UInt8) × Int)), F_aval_Fits_0 N (mk_aval_Fits_0 x) = J_aval_Fits_0 N x := by
  intro x
  kernel_rfl
def mk_aval_Fits_1 (x : (List AType × Int × List UInt8 × List AVal × List (List UInt8) × Int × Int × List UInt8 × List (List UInt8) × Int × List (List UInt8) × Bool × List UInt8 × Int × List AField × List Int × Bool × Int × Bool × Int × List UInt8 × List AVal × List (List UInt8) × Int)) : St := { env := [.undef, .undef, .undef, .ea [.sl .atype false x.1], .undef, .ea [.int .u64 x.2.1, .str x.2.2.1, .sl .aval false x.2.2.2.1, .sl .str false x.2.2.2.2.1, .int .i64 x.2.2.2.2.2.1], .undef, .ea [.int .i64 x.2.2.2.2.2.2.1, .str x.2.2.2.2.2.2.2.1, .sl .str false x.2.2.2.2.2.2.2.2.1, .int .i64 x.2.2.2.2.2.2.2.2.2.1, .sl .str false x.2.2.2.2.2.2.2.2.2.2.1, .bool x.2.2.2.2.2.2.2.2.2.2.2.1, .str x.2.2.2.2.2.2.2.2.2.2.2.2.1, .int .i64 x.2.2.2.2.2.2.2.2.2.2.2.2.2.1, .sl .afield false x.2.2.2.2.2.2.2.2.2.2.2.2.2.2.1, .sl (.num .i64) false x.2.2.2.2.2.2.2.2.2.2.2.2.2.2.2.1], .ptr 0 0, .bool x.2.2.2.2.2.2.2.2.2.2.2.2.2.2.2.2.1, .undef, .undef, .undef, .undef, .undef, .undef, .undef, .undef, .undef, .undef, .undef, .int .i64 x.2.2.2.2.2.2.2.2.2.2.2.2.2.2.2.2.2.1, .undef, .undef, .bool x.2.2.2.2.2.2.2.2.2.2.2.2.2.2.2.2.2.2.1, .undef, .undef, .undef, .undef, .undef, .undef, .undef, .undef, .undef, .undef, .undef, .undef, .undef, .undef, .undef, .undef, .undef, .undef, .undef, .undef, .undef, .undef, .undef, .undef, .undef, .undef, .undef, .undef, .undef, .undef, .undef, .undef, .undef, .undef, .undef, .undef, .undef, .undef, .undef, .undef, .undef, .undef, .undef, .undef, .undef, .undef, .undef, .undef, .undef, .undef, .undef, .undef, .undef, .undef, .undef, .undef, .undef, .undef, .undef, .undef, .undef, .undef, .undef, .undef, .undef, .undef, .undef, .undef, .undef, .undef, .undef, .undef, .undef, .undef, .undef, .undef, .undef, .undef, .undef, .undef, .undef, .undef, .undef, .undef, .undef, .undef, .undef, .undef, .undef, .undef, .undef, .undef, .undef, .undef, .undef, .undef, .undef, .undef, .undef, .undef, .undef], hp := [some [.int .u64 x.2.2.2.2.2.2.2.2.2.2.2.2.2.2.2.2.2.2.2.1, .str x.2.2.2.2.2.2.2.2.2.2.2.2.2.2.2.2.2.2.2.2.1, .sl .aval false x.2.2.2.2.2.2.2.2.2.2.2.2.2.2.2.2.2.2.2.2.2.1, .sl .str false x.2.2.2.2.2.2.2.2.2.2.2.2.2.2.2.2.2.2.2.2.2.2.1, .int .i64 x.2.2.2.2.2.2.2.2.2.2.2.2.2.2.2.2.2.2.2.2.2.2.2]] }
def mk_aval_Fits_2 (x : (Bool × Int × List UInt8 × List AVal × List (List UInt8) × Int)) : St := { env := [.undef, .undef, .undef, .undef, .undef, .undef, .undef, .undef, .ptr 0 0, .bool x.1, .undef, .undef, .undef, .undef, .undef, .undef, .undef, .undef, .undef, .undef, .undef, .undef, .undef, .undef, .undef, .undef, .undef, .undef, .undef, .undef, .undef, .undef, .undef, .undef, .undef, .undef, .undef, .undef, .undef, .undef, .undef, .undef, .undef, .undef, .undef, .undef, .undef, .undef, .undef, .undef, .undef, .undef, .undef, .undef, .undef, .undef, .undef, .undef, .undef, .undef, .undef, .undef, .undef, .undef, .undef, .undef, .undef, .undef, .undef, .undef, .undef, .undef, .undef, .undef, .undef, .undef, .undef, .undef, .undef, .undef, .undef, .undef, .undef, .undef, .undef, .undef, .undef, .undef, .undef, .undef, .undef, .undef, .undef, .undef, .undef, .undef, .undef, .undef, .undef, .undef, .undef, .undef, .undef, .undef, .undef, .undef, .undef, .undef, .undef, .undef, .undef, .undef, .undef, .undef, .undef, .undef, .undef, .undef, .undef, .undef, .undef, .undef, .undef, .undef, .undef, .undef], hp := [some [.int .u64 x.2.1, .str x.2.2.1, .sl .aval false x.2.2.2.1, .sl .str false x.2.2.2.2.1, .int .i64 x.2.2.2.2.2]] }
def F_aval_Fits_2 (N : Nat) : St → Option (V × List AObj) := fun s => run (Γ_aval_Fits N) N ir_aval_Fits_24 (fin rs_aval_Fits) s
def J_aval_Fits_2 (N : Nat) (x : (Bool × Int × List UInt8 × List AVal × List (List UInt8) × Int)) : Option (V × List AObj) :=
  let v9 : Bool := x.1
  let o0_0 : Int := x.2.1
  let o0_1 : List UInt8 := x.2.2.1
  let o0_2 : List AVal := x.2.2.2.1
  let o0_3 : List (List UInt8) := x.2.2.2.2.1
  let o0_4 : Int := x.2.2.2.2.2
  cond v9 (
    let x12 : Bool := (bareS o0_0 o0_1 o0_2 o0_3 o0_4)
    some (.bool x12, [some [.int .u64 o0_0, .str o0_1, .sl .aval false o0_2, .sl .str false o0_3, .int .i64 o0_4]])) (
    some (.bool false, [some [.int .u64 o0_0, .str o0_1, .sl .aval false o0_2, .sl .str false o0_3, .int .i64 o0_4]]))
theorem FJ_aval_Fits_2 (N : Nat) : ∀ (x : (Bool × Int × List UInt8 × List AVal × List (List UInt8) × Int)), F_aval_Fits_2 N (mk_aval_Fits_2 x) = J_aval_Fits_2 N x := by
  intro x
  kernel_rfl
def mk_aval_Fits_3 (x : (List AType × Int × List UInt8 × List AVal × List (List UInt8) × Int × Int × List UInt8 × List (List UInt8) × Int × List (List UInt8) × Bool × List UInt8 × Int × List AField × List Int × Bool × Int × Bool × Int × List UInt8 × List AVal × List (List UInt8) × Int)) : St := { env := [.undef, .undef, .undef, .ea [.sl .atype false x.1], .undef, .ea [.int .u64 x.2.1, .str x.2.2.1, .sl .aval false x.2.2.2.1, .sl .str false x.2.2.2.2.1, .int .i64 x.2.2.2.2.2.1], .undef, .ea [.int .i64 x.2.2.2.2.2.2.1, .str x.2.2.2.2.2.2.2.1, .sl .str false x.2.2.2.2.2.2.2.2.1, .int .i64 x.2.2.2.2.2.2.2.2.2.1, .sl .str false x.2.2.2.2.2.2.2.2.2.2.1, .bool x.2.2.2.2.2.2.2.2.2.2.2.1, .str x.2.2.2.2.2.2.2.2.2.2.2.2.1, .int .i64 x.2.2.2.2.2.2.2.2.2.2.2.2.2.1, .sl .afield false x.2.2.2.2.2.2.2.2.2.2.2.2.2.2.1, .sl (.num .i64) false x.2.2.2.2.2.2.2.2.2.2.2.2.2.2.2.1], .ptr 0 0, .bool x.2.2.2.2.2.2.2.2.2.2.2.2.2.2.2.2.1, .undef, .undef, .undef, .undef, .undef, .undef, .undef, .undef, .undef, .undef, .undef, .int .i64 x.2.2.2.2.2.2.2.2.2.2.2.2.2.2.2.2.2.1, .undef, .undef, .undef, .undef, .undef, .undef, .undef, .undef, .undef, .undef, .undef, .undef, .undef, .undef, .bool x.2.2.2.2.2.2.2.2.2.2.2.2.2.2.2.2.2.2.1, .undef, .undef, .undef, .undef, .undef, .undef, .undef, .undef, .undef, .undef, .undef, .undef, .undef, .undef, .undef, .undef, .undef, .undef, .undef, .undef, .undef, .undef, .undef, .undef, .undef, .undef, .undef, .undef, .undef, .undef, .undef, .undef, .undef, .undef, .undef, .undef, .undef, .undef, .undef, .undef, .undef, .undef, .undef, .undef, .undef, .undef, .undef, .undef, .undef, .undef, .undef, .undef, .undef, .undef, .undef, .undef, .undef, .undef, .undef, .undef, .undef, .undef, .undef, .undef, .undef, .undef, .undef, .undef, .undef, .undef, .undef, .undef, .undef, .undef, .undef, .undef, .undef, .undef, .undef, .undef, .undef, .undef, .undef, .undef, .undef, .undef, .undef, .undef, .undef], hp := [some [.int .u64 x.2.2.2.2.2.2.2.2.2.2.2.2.2.2.2.2.2.2.2.1, .str x.2.2.2.2.2.2.2.2.2.2.2.2.2.2.2.2.2.2.2.2.1, .sl .aval false x.2.2.2.2.2.2.2.2.2.2.2.2.2.2.2.2.2.2.2.2.2.1, .sl .str false x.2.2.2.2.2.2.2.2.2.2.2.2.2.2.2.2.2.2.2.2.2.2.1, .int .i64 x.2.2.2.2.2.2.2.2.2.2.2.2.2.2.2.2.2.2.2.2.2.2.2]] }
def mk_aval_Fits_4 (x : (Bool × Int × List UInt8 × List AVal × List (List UInt8) × Int)) : St := { env := [.undef, .undef, .undef, .undef, .undef, .undef, .undef, .undef, .ptr 0 0, .bool x.1, .undef, .undef, .undef, .undef, .undef, .undef, .undef, .undef, .undef, .undef, .undef, .undef, .undef, .undef, .undef, .undef, .undef, .undef, .undef, .undef, .undef, .undef, .undef, .undef, .undef, .undef, .undef, .undef, .undef, .undef, .undef, .undef, .undef, .undef, .undef, .undef, .undef, .undef, .undef, .undef, .undef, .undef, .undef, .undef, .undef, .undef, .undef, .undef, .undef, .undef, .undef, .undef, .undef, .undef, .undef, .undef, .undef, .undef, .undef, .undef, .undef, .undef, .undef, .undef, .undef, .undef, .undef, .undef, .undef, .undef, .undef, .undef, .undef, .undef, .undef, .undef, .undef, .undef, .undef, .undef, .undef, .undef, .undef, .undef, .undef, .undef, .undef, .undef, .undef, .undef, .undef, .undef, .undef, .undef, .undef, .undef, .undef, .undef, .undef, .undef, .undef, .undef, .undef, .undef, .undef, .undef, .undef, .undef, .undef, .undef, .undef, .undef, .undef, .undef, .undef, .undef], hp := [some [.int .u64 x.2.1, .str x.2.2.1, .sl .aval false x.2.2.2.1, .sl .str false x.2.2.2.2.1, .int .i64 x.2.2.2.2.2]] }
def F_aval_Fits_4 (N : Nat) : St → Option (V × List AObj) := fun s => run (Γ_aval_Fits N) N ir_aval_Fits_24 (fin rs_aval_Fits) s
def J_aval_Fits_4 (N : Nat) (x : (Bool × Int × List UInt8 × List AVal × List (List UInt8) × Int)) : Option (V × List AObj) :=
  let v9 : Bool := x.1
  let o0_0 : Int := x.2.1
  let o0_1 : List UInt8 := x.2.2.1
  let o0_2 : List AVal := x.2.2.2.1
  let o0_3 : List (List UInt8) := x.2.2.2.2.1
  let o0_4 : Int := x.2.2.2.2.2
  cond v9 (
    let x13 : Bool := (bareS o0_0 o0_1 o0_2 o0_3 o0_4)
    some (.bool x13, [some [.int .u64 o0_0, .str o0_1, .sl .aval false o0_2, .sl .str false o0_3, .int .i64 o0_4]])) (
    some (.bool false, [some [.int .u64 o0_0, .str o0_1, .sl .aval false o0_2, .sl .str false o0_3, .int .i64 o0_4]]))
theorem FJ_aval_Fits_4 (N : Nat) : ∀ (x : (Bool × Int × List UInt8 × List AVal × List (List UInt8) × Int)), F_aval_Fits_4 N (mk_aval_Fits_4 x) = J_aval_Fits_4 N x := by
  intro x
  kernel_rfl
def mk_aval_Fits_5 (x : (Bool × Int × List UInt8 × List AVal × List (List UInt8) × Int)) : St := { env := [.undef, .undef, .undef, .undef, .undef, .undef, .undef, .undef, .ptr 0 0, .bool x.1, .undef, .undef, .undef, .undef, .undef, .undef, .undef, .undef, .undef, .undef, .undef, .undef, .undef, .undef, .undef, .undef, .undef, .undef, .undef, .undef, .undef, .undef, .undef, .undef, .undef, .undef, .undef, .undef, .undef, .undef, .undef, .undef, .undef, .undef, .undef, .undef, .undef, .undef, .undef, .undef, .undef, .undef, .undef, .undef, .undef, .undef, .undef, .undef, .undef, .undef, .undef, .undef, .undef, .undef, .undef, .undef, .undef, .undef, .undef, .undef, .undef, .undef, .undef, .undef, .undef, .undef, .undef, .undef, .undef, .undef, .undef, .undef, .undef, .undef, .undef, .undef, .undef, .undef, .undef, .undef, .undef, .undef, .undef, .undef, .undef, .undef, .undef, .undef, .undef, .undef, .undef, .undef, .undef, .undef, .undef, .undef, .undef, .undef, .undef, .undef, .undef, .undef, .undef, .undef, .undef, .undef, .undef, .undef, .undef, .undef, .undef, .undef, .undef, .undef, .undef, .undef], hp := [some [.int .u64 x.2.1, .str x.2.2.1, .sl .aval true x.2.2.2.1, .sl .str false x.2.2.2.2.1, .int .i64 x.2.2.2.2.2]] }
def F_aval_Fits_5 (N : Nat) : St → Option (V × List AObj) := fun s => run (Γ_aval_Fits N) N ir_aval_Fits_24 (fin rs_aval_Fits) s
def J_aval_Fits_5 (N : Nat) (x : (Bool × Int × List UInt8 × List AVal × List (List UInt8) × Int)) : Option (V × List AObj) :=
  let v9 : Bool := x.1
  let o0_0 : Int := x.2.1
  let o0_1 : List UInt8 := x.2.2.1
  let o0_2 : List AVal := x.2.2.2.1
  let o0_3 : List (List UInt8) := x.2.2.2.2.1
  let o0_4 : Int := x.2.2.2.2.2
  cond v9 (
    let x14 : Bool := (bareS o0_0 o0_1 o0_2 o0_3 o0_4)
    some (.bool x14, [some [.int .u64 o0_0, .str o0_1, .sl .aval true o0_2, .sl .str false o0_3, .int .i64 o0_4]])) (
    some (.bool false, [some [.int .u64 o0_0, .str o0_1, .sl .aval true o0_2, .sl .str false o0_3, .int .i64 o0_4]]))
theorem FJ_aval_Fits_5 (N : Nat) : ∀ (x : (Bool × Int × List UInt8 × List AVal × List (List UInt8) × Int)), F_aval_Fits_5 N (mk_aval_Fits_5 x) = J_aval_Fits_5 N x := by
  intro x
  kernel_rfl
def mk_aval_Fits_6 (x : (Bool × Int × List UInt8 × List AVal × List (List UInt8) × Int)) : St := { env := [.undef, .undef, .undef, .undef, .undef, .undef, .undef, .undef, .ptr 0 0, .bool x.1, .undef, .undef, .undef, .undef, .undef, .undef, .undef, .undef, .undef, .undef, .undef, .undef, .undef, .undef, .undef, .undef, .undef, .undef, .undef, .undef, .undef, .undef, .undef, .undef, .undef, .undef, .undef, .undef, .undef, .undef, .undef, .undef, .undef, .undef, .undef, .undef, .undef, .undef, .undef, .undef, .undef, .undef, .undef, .undef, .undef, .undef, .undef, .undef, .undef, .undef, .undef, .undef, .undef, .undef, .undef, .undef, .undef, .undef, .undef, .undef, .undef, .undef, .undef, .undef, .undef, .undef, .undef, .undef, .undef, .undef, .undef, .undef, .undef, .undef, .undef, .undef, .undef, .undef, .undef, .undef, .undef, .undef, .undef, .undef, .undef, .undef, .undef, .undef, .undef, .undef, .undef, .undef, .undef, .undef, .undef, .undef, .undef, .undef, .undef, .undef, .undef, .undef, .undef, .undef, .undef, .undef, .undef, .undef, .undef, .undef, .undef, .undef, .undef, .undef, .undef, .undef], hp := [some [.int .u64 x.2.1, .str x.2.2.1, .sl .aval false x.2.2.2.1, .sl .str false x.2.2.2.2.1, .int .i64 x.2.2.2.2.2]] }
def mk_aval_Fits_7 (x : (Bool × Int × List UInt8 × List AVal × List (List UInt8) × Int)) : St := { env := [.undef, .undef, .undef, .undef, .undef, .undef, .undef, .undef, .ptr 0 0, .bool x.1, .undef, .undef, .undef, .undef, .undef, .undef, .undef, .undef, .undef, .undef, .undef, .undef, .undef, .undef, .undef, .undef, .undef, .undef, .undef, .undef, .undef, .undef, .undef, .undef, .undef, .undef, .undef, .undef, .undef, .undef, .undef, .undef, .undef, .undef, .undef, .undef, .undef, .undef, .undef, .undef, .undef, .undef, .undef, .undef, .undef, .undef, .undef, .undef, .undef, .undef, .undef, .undef, .undef, .undef, .undef, .undef, .undef, .undef, .undef, .undef, .undef, .undef, .undef, .undef, .undef, .undef, .undef, .undef, .undef, .undef, .undef, .undef, .undef, .undef, .undef, .undef, .undef, .undef, .undef, .undef, .undef, .undef, .undef, .undef, .undef, .undef, .undef, .undef, .undef, .undef, .undef, .undef, .undef, .undef, .undef, .undef, .undef, .undef, .undef, .undef, .undef, .undef, .undef, .undef, .undef, .undef, .undef, .undef, .undef, .undef, .undef, .undef, .undef, .undef, .undef, .undef], hp := [some [.int .u64 x.2.1, .str x.2.2.1, .sl .aval true x.2.2.2.1, .sl .str true x.2.2.2.2.1, .int .i64 x.2.2.2.2.2]] }
def F_aval_Fits_7 (N : Nat) : St → Option (V × List AObj) := fun s => run (Γ_aval_Fits N) N ir_aval_Fits_24 (fin rs_aval_Fits) s
def J_aval_Fits_7 (N : Nat) (x : (Bool × Int × List UInt8 × List AVal × List (List UInt8) × Int)) : Option (V × List AObj) :=
  let v9 : Bool := x.1
  let o0_0 : Int := x.2.1
  let o0_1 : List UInt8 := x.2.2.1
  let o0_2 : List AVal := x.2.2.2.1
  let o0_3 : List (List UInt8) := x.2.2.2.2.1
  let o0_4 : Int := x.2.2.2.2.2
  cond v9 (
    let x17 : Bool := (bareS o0_0 o0_1 o0_2 o0_3 o0_4)
    some (.bool x17, [some [.int .u64 o0_0, .str o0_1, .sl .aval true o0_2, .sl .str true o0_3, .int .i64 o0_4]])) (
    some (.bool false, [some [.int .u64 o0_0, .str o0_1, .sl .aval true o0_2, .sl .str true o0_3, .int .i64 o0_4]]))
theorem FJ_aval_Fits_7 (N : Nat) : ∀ (x : (Bool × Int × List UInt8 × List AVal × List (List UInt8) × Int)), F_aval_Fits_7 N (mk_aval_Fits_7 x) = J_aval_Fits_7 N x := by
  intro x
  kernel_rfl
def F_aval_Fits_6 (N : Nat) : St → Option (V × List AObj) := fun s => run (Γ_aval_Fits N) N ir_aval_Fits_9 (kblock 0 (kseq (run (Γ_aval_Fits N) N ir_aval_Fits_25) (fin rs_aval_Fits))) s
def JA_aval_Fits_6 (N : Nat) (q7 : (Bool × Int × List UInt8 × List AVal × List (List UInt8) × Int) → Option (V × List AObj)) (x : (Bool × Int × List UInt8 × List AVal × List (List UInt8) × Int)) : Option (V × List AObj) :=
  let v9 : Bool := x.1
  let o0_0 : Int := x.2.1
  let o0_1 : List UInt8 := x.2.2.1
  let o0_2 : List AVal := x.2.2.2.1
  let o0_3 : List (List UInt8) := x.2.2.2.2.1
  let o0_4 : Int := x.2.2.2.2.2
  q7 (v9, o0_0, o0_1, ([] : List AVal), ([] : List (List UInt8)), o0_4)
def J_aval_Fits_6 (N : Nat) (x : (Bool × Int × List UInt8 × List AVal × List (List UInt8) × Int)) : Option (V × List AObj) := JA_aval_Fits_6 N (fun z => J_aval_Fits_7 N z) x
theorem FJ_aval_Fits_6 (N : Nat) : ∀ (x : (Bool × Int × List UInt8 × List AVal × List (List UInt8) × Int)), F_aval_Fits_6 N (mk_aval_Fits_6 x) = J_aval_Fits_6 N x := by
  intro x
  have h : F_aval_Fits_6 N (mk_aval_Fits_6 x) = JA_aval_Fits_6 N (fun z => F_aval_Fits_7 N (mk_aval_Fits_7 z)) x := by kernel_rfl
  have e7 : (fun z => F_aval_Fits_7 N (mk_aval_Fits_7 z)) = (fun z => J_aval_Fits_7 N z) := funext fun z => FJ_aval_Fits_7 N z
  rw [h, e7]
  rfl
def mk_aval_Fits_8 (x : (Bool × Int × List UInt8 × List AVal × List (List UInt8) × Int)) : St := { env := [.undef, .undef, .undef, .undef, .undef, .undef, .undef, .undef, .ptr 0 0, .bool x.1, .undef, .undef, .undef, .undef, .undef, .undef, .undef, .undef, .undef, .undef, .undef, .undef, .undef, .undef, .undef, .undef, .undef, .undef, .undef, .undef, .undef, .undef, .undef, .undef, .undef, .undef, .undef, .undef, .undef, .undef, .undef, .undef, .undef, .undef, .undef, .undef, .undef, .undef, .undef, .undef, .undef, .undef, .undef, .undef, .undef, .undef, .undef, .undef, .undef, .undef, .undef, .undef, .undef, .undef, .undef, .undef, .undef, .undef, .undef, .undef, .undef, .undef, .undef, .undef, .undef, .undef, .undef, .undef, .undef, .undef, .undef, .undef, .undef, .undef, .undef, .undef, .undef, .undef, .undef, .undef, .undef, .undef, .undef, .undef, .undef, .undef, .undef, .undef, .undef, .undef, .undef, .undef, .undef, .undef, .undef, .undef, .undef, .undef, .undef, .undef, .undef, .undef, .undef, .undef, .undef, .undef, .undef, .undef, .undef, .undef, .undef, .undef, .undef, .undef, .undef, .undef], hp := [some [.int .u64 x.2.1, .str x.2.2.1, .sl .aval false x.2.2.2.1, .sl .str false x.2.2.2.2.1, .int .i64 x.2.2.2.2.2]] }
def mk_aval_Fits_9 (x : (Bool × Int × List UInt8 × List AVal × List (List UInt8) × Int)) : St := { env := [.undef, .undef, .undef, .undef, .undef, .undef, .undef, .undef, .ptr 0 0, .bool x.1, .undef, .undef, .undef, .undef, .undef, .undef, .undef, .undef, .undef, .undef, .undef, .undef, .undef, .undef, .undef, .undef, .undef, .undef, .undef, .undef, .undef, .undef, .undef, .undef, .undef, .undef, .undef, .undef, .undef, .undef, .undef, .undef, .undef, .undef, .undef, .undef, .undef, .undef, .undef, .undef, .undef, .undef, .undef, .undef, .undef, .undef, .undef, .undef, .undef, .undef, .undef, .undef, .undef, .undef, .undef, .undef, .undef, .undef, .undef, .undef, .undef, .undef, .undef, .undef, .undef, .undef, .undef, .undef, .undef, .undef, .undef, .undef, .undef, .undef, .undef, .undef, .undef, .undef, .undef, .undef, .undef, .undef, .undef, .undef, .undef, .undef, .undef, .undef, .undef, .undef, .undef, .undef, .undef, .undef, .undef, .undef, .undef, .undef, .undef, .undef, .undef, .undef, .undef, .undef, .undef, .undef, .undef, .undef, .undef, .undef, .undef, .undef, .undef, .undef, .undef, .undef], hp := [some [.int .u64 x.2.1, .str x.2.2.1, .sl .aval true x.2.2.2.1, .sl .str false x.2.2.2.2.1, .int .i64 x.2.2.2.2.2]] }
def F_aval_Fits_9 (N : Nat) : St → Option (V × List AObj) := fun s => run (Γ_aval_Fits N) N ir_aval_Fits_24 (fin rs_aval_Fits) s
def J_aval_Fits_9 (N : Nat) (x : (Bool × Int × List UInt8 × List AVal × List (List UInt8) × Int)) : Option (V × List AObj) :=
  let v9 : Bool := x.1
  let o0_0 : Int := x.2.1
  let o0_1 : List UInt8 := x.2.2.1
  let o0_2 : List AVal := x.2.2.2.1
  let o0_3 : List (List UInt8) := x.2.2.2.2.1
  let o0_4 : Int := x.2.2.2.2.2
  cond v9 (
    let x28 : Bool := (bareS o0_0 o0_1 o0_2 o0_3 o0_4)
    some (.bool x28, [some [.int .u64 o0_0, .str o0_1, .sl .aval true o0_2, .sl .str false o0_3, .int .i64 o0_4]])) (
    some (.bool false, [some [.int .u64 o0_0, .str o0_1, .sl .aval true o0_2, .sl .str false o0_3, .int .i64 o0_4]]))
theorem FJ_aval_Fits_9 (N : Nat) : ∀ (x : (Bool × Int × List UInt8 × List AVal × List (List UInt8) × Int)), F_aval_Fits_9 N (mk_aval_Fits_9 x) = J_aval_Fits_9 N x := by
  intro x
  kernel_rfl
def F_aval_Fits_8 (N : Nat) : St → Option (V × List AObj) := fun s => run (Γ_aval_Fits N) N ir_aval_Fits_11 (kblock 0 (kseq (run (Γ_aval_Fits N) N ir_aval_Fits_25) (fin rs_aval_Fits))) s
def JA_aval_Fits_8 (N : Nat) (q9 : (Bool × Int × List UInt8 × List AVal × List (List UInt8) × Int) → Option (V × List AObj)) (x : (Bool × Int × List UInt8 × List AVal × List (List UInt8) × Int)) : Option (V × List AObj) :=
  let v9 : Bool := x.1
  let o0_0 : Int := x.2.1
  let o0_1 : List UInt8 := x.2.2.1
  let o0_2 : List AVal := x.2.2.2.1
  let o0_3 : List (List UInt8) := x.2.2.2.2.1
  let o0_4 : Int := x.2.2.2.2.2
  q9 (v9, o0_0, o0_1, ([] : List AVal), o0_3, 0)
def J_aval_Fits_8 (N : Nat) (x : (Bool × Int × List UInt8 × List AVal × List (List UInt8) × Int)) : Option (V × List AObj) := JA_aval_Fits_8 N (fun z => J_aval_Fits_9 N z) x
theorem FJ_aval_Fits_8 (N : Nat) : ∀ (x : (Bool × Int × List UInt8 × List AVal × List (List UInt8) × Int)), F_aval_Fits_8 N (mk_aval_Fits_8 x) = J_aval_Fits_8 N x := by
  intro x
  have h : F_aval_Fits_8 N (mk_aval_Fits_8 x) = JA_aval_Fits_8 N (fun z => F_aval_Fits_9 N (mk_aval_Fits_9 z)) x := by kernel_rfl
  have e9 : (fun z => F_aval_Fits_9 N (mk_aval_Fits_9 z)) = (fun z => J_aval_Fits_9 N z) := funext fun z => FJ_aval_Fits_9 N z
  rw [h, e9]
  rfl
def F_aval_Fits_3 (N : Nat) : St → Option (V × List AObj) := fun s => run (Γ_aval_Fits N) N ir_aval_Fits_17 (kblock 0 (kseq (run (Γ_aval_Fits N) N ir_aval_Fits_25) (fin rs_aval_Fits))) s
def JA_aval_Fits_3 (N : Nat) (q4 : (Bool × Int × List UInt8 × List AVal × List (List UInt8) × Int) → Option (V × List AObj)) (q5 : (Bool × Int × List UInt8 × List AVal × List (List UInt8) × Int) → Option (V × List AObj)) (q6 : (Bool × Int × List UInt8 × List AVal × List (List UInt8) × Int) → Option (V × List AObj)) (q8 : (Bool × Int × List UInt8 × List AVal × List (List UInt8) × Int) → Option (V × List AObj)) (x : (List AType × Int × List UInt8 × List AVal × List (List UInt8) × Int × Int × List UInt8 × List (List UInt8) × Int × List (List UInt8) × Bool × List UInt8 × Int × List AField × List Int × Bool × Int × Bool × Int × List UInt8 × List AVal × List (List UInt8) × Int)) : Option (V × List AObj) :=
  let v3_0 : List AType := x.1
  let v5_0 : Int := x.2.1
  let v5_1 : List UInt8 := x.2.2.1
  let v5_2 : List AVal := x.2.2.2.1
  let v5_3 : List (List UInt8) := x.2.2.2.2.1
  let v5_4 : Int := x.2.2.2.2.2.1
  let v7_0 : Int := x.2.2.2.2.2.2.1
  let v7_1 : List UInt8 := x.2.2.2.2.2.2.2.1
  let v7_2 : List (List UInt8) := x.2.2.2.2.2.2.2.2.1
  let v7_3 : Int := x.2.2.2.2.2.2.2.2.2.1
  let v7_4 : List (List UInt8) := x.2.2.2.2.2.2.2.2.2.2.1
  let v7_5 : Bool := x.2.2.2.2.2.2.2.2.2.2.2.1
  let v7_6 : List UInt8 := x.2.2.2.2.2.2.2.2.2.2.2.2.1
  let v7_7 : Int := x.2.2.2.2.2.2.2.2.2.2.2.2.2.1
  let v7_8 : List AField := x.2.2.2.2.2.2.2.2.2.2.2.2.2.2.1
  let v7_9 : List Int := x.2.2.2.2.2.2.2.2.2.2.2.2.2.2.2.1
  let v9 : Bool := x.2.2.2.2.2.2.2.2.2.2.2.2.2.2.2.2.1
  let v21 : Int := x.2.2.2.2.2.2.2.2.2.2.2.2.2.2.2.2.2.1
  let v36 : Bool := x.2.2.2.2.2.2.2.2.2.2.2.2.2.2.2.2.2.2.1
  let o0_0 : Int := x.2.2.2.2.2.2.2.2.2.2.2.2.2.2.2.2.2.2.2.1
  let o0_1 : List UInt8 := x.2.2.2.2.2.2.2.2.2.2.2.2.2.2.2.2.2.2.2.2.1
  let o0_2 : List AVal := x.2.2.2.2.2.2.2.2.2.2.2.2.2.2.2.2.2.2.2.2.2.1
  let o0_3 : List (List UInt8) := x.2.2.2.2.2.2.2.2.2.2.2.2.2.2.2.2.2.2.2.2.2.2.1
  let o0_4 : Int := x.2.2.2.2.2.2.2.2.2.2.2.2.2.2.2.2.2.2.2.2.2.2.2
  cond v36 (
    q4 ((textS v7_0 v7_7 v5_1), o0_0, ([] : List UInt8), o0_2, o0_3, o0_4)) (
    cond (v21 == 12) (
      chk (decide (1000000 ≤ N - szL v5_2)) (
        q5 ((eachS v3_0 v7_3 v5_2), o0_0, o0_1, ([] : List AVal), o0_3, o0_4))) (
      cond (v21 == 13) (
        let x15 : Int := (↑(List.length v5_3) : Int)
        let x16 : Int := (↑(List.length v5_2) : Int)
        cond (x15 == x16) (
          cond (keysS v5_3) (
            chk (decide (1000000 ≤ N - szL v5_2)) (
              q6 ((eachS v3_0 v7_3 v5_2), o0_0, o0_1, o0_2, o0_3, o0_4))) (
            q6 (false, o0_0, o0_1, o0_2, o0_3, o0_4))) (
          q6 (false, o0_0, o0_1, o0_2, o0_3, o0_4))) (
        cond (v21 == 9) (
          chk (decide (1000000 ≤ N - szL v5_2)) (
            let x18 : Bool := (decide (List.length v5_2 = List.length v7_8) && recS v3_0 v7_8 v5_2)
            q5 (x18, o0_0, o0_1, ([] : List AVal), o0_3, o0_4))) (
          cond (v21 == 14) (
            cond (decide (0 ≤ v5_4)) (
              let x19 : Int := (↑(List.length v7_9) : Int)
              cond (decide (v5_4 < x19)) (
                let x20 : Int := (↑(List.length v5_2) : Int)
                cond (x20 == 1) (
                  chk ((decide (0 ≤ v5_4) && decide (v5_4 < ↑(List.length v7_9)))) (
                    let x21 : Int := List.getD v7_9 (Int.toNat v5_4) (dflt (.num .i64))
                    chk (decide ((0 : Int) < ↑(List.length v5_2))) (
                      let x22 : Int := (List.getD v5_2 (Int.toNat 0) (dflt .aval)).n
                      let x23 : List UInt8 := (List.getD v5_2 (Int.toNat 0) (dflt .aval)).s
                      let x24 : List AVal := (List.getD v5_2 (Int.toNat 0) (dflt .aval)).l
                      let x25 : List (List UInt8) := (List.getD v5_2 (Int.toNat 0) (dflt .aval)).keys
                      let x26 : Int := (List.getD v5_2 (Int.toNat 0) (dflt .aval)).branch
                      chk (decide (1000000 ≤ N - (szL x24 + 1))) (
                        let x27 : Bool := (fitsS v3_0 x21 (.mk x22 x23 x24 x25 x26))
                        q8 (x27, o0_0, o0_1, o0_2, o0_3, o0_4))))) (
                  q8 (false, o0_0, o0_1, o0_2, o0_3, o0_4))) (
                q8 (false, o0_0, o0_1, o0_2, o0_3, o0_4))) (
              q8 (false, o0_0, o0_1, o0_2, o0_3, o0_4))) (
            q4 (v9, o0_0, o0_1, o0_2, o0_3, o0_4))))))
def J_aval_Fits_3 (N : Nat) (x : (List AType × Int × List UInt8 × List AVal × List (List UInt8) × Int × Int × List UInt8 × List (List UInt8) × Int × List (List UInt8) × Bool × List UInt8 × Int × List AField × List Int × Bool × Int × Bool × Int × List UInt8 × List AVal × List (List UInt8) × Int)) : Option (V × List AObj) := JA_aval_Fits_3 N (fun z => J_aval_Fits_4 N z) (fun z => J_aval_Fits_5 N z) (fun z => J_aval_Fits_6 N z) (fun z => J_aval_Fits_8 N z) x
theorem FJ_aval_Fits_3 (N : Nat) : ∀ (x : (List AType × Int × List UInt8 × List AVal × List (List UInt8) × Int × Int × List UInt8 × List (List UInt8) × Int × List (List UInt8) × Bool × List UInt8 × Int × List AField × List Int × Bool × Int × Bool × Int × List UInt8 × List AVal × List (List UInt8) × Int)), F_aval_Fits_3 N (mk_aval_Fits_3 x) = J_aval_Fits_3 N x := by
  intro x
  have h : F_aval_Fits_3 N (mk_aval_Fits_3 x) = JA_aval_Fits_3 N (fun z => F_aval_Fits_4 N (mk_aval_Fits_4 z)) (fun z => F_aval_Fits_5 N (mk_aval_Fits_5 z)) (fun z => F_aval_Fits_6 N (mk_aval_Fits_6 z)) (fun z => F_aval_Fits_8 N (mk_aval_Fits_8 z)) x := by kernel_rfl
  have e4 : (fun z => F_aval_Fits_4 N (mk_aval_Fits_4 z)) = (fun z => J_aval_Fits_4 N z) := funext fun z => FJ_aval_Fits_4 N z
  have e5 : (fun z => F_aval_Fits_5 N (mk_aval_Fits_5 z)) = (fun z => J_aval_Fits_5 N z) := funext fun z => FJ_aval_Fits_5 N z
  have e6 : (fun z => F_aval_Fits_6 N (mk_aval_Fits_6 z)) = (fun z => J_aval_Fits_6 N z) := funext fun z => FJ_aval_Fits_6 N z
  have e8 : (fun z => F_aval_Fits_8 N (mk_aval_Fits_8 z)) = (fun z => J_aval_Fits_8 N z) := funext fun z => FJ_aval_Fits_8 N z
  rw [h, e4, e5, e6, e8]
  rfl
def F_aval_Fits_1 (N : Nat) : St → Option (V × List AObj) := fun s => run (Γ_aval_Fits N) N ir_aval_Fits_19 (kblock 0 (kseq (run (Γ_aval_Fits N) N ir_aval_Fits_25) (fin rs_aval_Fits))) s
def JA_aval_Fits_1 (N : Nat) (q2 : (Bool × Int × List UInt8 × List AVal × List (List UInt8) × Int) → Option (V × List AObj)) (q3 : (List AType × Int × List UInt8 × List AVal × List (List UInt8) × Int × Int × List UInt8 × List (List UInt8) × Int × List (List UInt8) × Bool × List UInt8 × Int × List AField × List Int × Bool × Int × Bool × Int × List UInt8 × List AVal × List (List UInt8) × Int) → Option (V × List AObj)) (x : (List AType × Int × List UInt8 × List AVal × List (List UInt8) × Int × Int × List UInt8 × List (List UInt8) × Int × List (List UInt8) × Bool × List UInt8 × Int × List AField × List Int × Bool × Int × Bool × Int × List UInt8 × List AVal × List (List UInt8) × Int)) : Option (V × List AObj) :=
  let v3_0 : List AType := x.1
  let v5_0 : Int := x.2.1
  let v5_1 : List UInt8 := x.2.2.1
  let v5_2 : List AVal := x.2.2.2.1
  let v5_3 : List (List UInt8) := x.2.2.2.2.1
  let v5_4 : Int := x.2.2.2.2.2.1
  let v7_0 : Int := x.2.2.2.2.2.2.1
  let v7_1 : List UInt8 := x.2.2.2.2.2.2.2.1
  let v7_2 : List (List UInt8) := x.2.2.2.2.2.2.2.2.1
  let v7_3 : Int := x.2.2.2.2.2.2.2.2.2.1
  let v7_4 : List (List UInt8) := x.2.2.2.2.2.2.2.2.2.2.1
  let v7_5 : Bool := x.2.2.2.2.2.2.2.2.2.2.2.1
  let v7_6 : List UInt8 := x.2.2.2.2.2.2.2.2.2.2.2.2.1
  let v7_7 : Int := x.2.2.2.2.2.2.2.2.2.2.2.2.2.1
  let v7_8 : List AField := x.2.2.2.2.2.2.2.2.2.2.2.2.2.2.1
  let v7_9 : List Int := x.2.2.2.2.2.2.2.2.2.2.2.2.2.2.2.1
  let v9 : Bool := x.2.2.2.2.2.2.2.2.2.2.2.2.2.2.2.2.1
  let v21 : Int := x.2.2.2.2.2.2.2.2.2.2.2.2.2.2.2.2.2.1
  let v24 : Bool := x.2.2.2.2.2.2.2.2.2.2.2.2.2.2.2.2.2.2.1
  let o0_0 : Int := x.2.2.2.2.2.2.2.2.2.2.2.2.2.2.2.2.2.2.2.1
  let o0_1 : List UInt8 := x.2.2.2.2.2.2.2.2.2.2.2.2.2.2.2.2.2.2.2.2.1
  let o0_2 : List AVal := x.2.2.2.2.2.2.2.2.2.2.2.2.2.2.2.2.2.2.2.2.2.1
  let o0_3 : List (List UInt8) := x.2.2.2.2.2.2.2.2.2.2.2.2.2.2.2.2.2.2.2.2.2.2.1
  let o0_4 : Int := x.2.2.2.2.2.2.2.2.2.2.2.2.2.2.2.2.2.2.2.2.2.2.2
  cond v24 (
    q2 ((numS v7_0 v7_4 v5_0), 0, o0_1, o0_2, o0_3, o0_4)) (
    cond (v21 == 7) (
      q3 (v3_0, v5_0, v5_1, v5_2, v5_3, v5_4, v7_0, v7_1, v7_2, v7_3, v7_4, v7_5, v7_6, v7_7, v7_8, v7_9, v9, v21, (v21 == 7), o0_0, o0_1, o0_2, o0_3, o0_4)) (
      cond (v21 == 8) (
        q3 (v3_0, v5_0, v5_1, v5_2, v5_3, v5_4, v7_0, v7_1, v7_2, v7_3, v7_4, v7_5, v7_6, v7_7, v7_8, v7_9, v9, v21, (v21 == 8), o0_0, o0_1, o0_2, o0_3, o0_4)) (
        q3 (v3_0, v5_0, v5_1, v5_2, v5_3, v5_4, v7_0, v7_1, v7_2, v7_3, v7_4, v7_5, v7_6, v7_7, v7_8, v7_9, v9, v21, (v21 == 11), o0_0, o0_1, o0_2, o0_3, o0_4))))
def J_aval_Fits_1 (N : Nat) (x : (List AType × Int × List UInt8 × List AVal × List (List UInt8) × Int × Int × List UInt8 × List (List UInt8) × Int × List (List UInt8) × Bool × List UInt8 × Int × List AField × List Int × Bool × Int × Bool × Int × List UInt8 × List AVal × List (List UInt8) × Int)) : Option (V × List AObj) := JA_aval_Fits_1 N (fun z => J_aval_Fits_2 N z) (fun z => J_aval_Fits_3 N z) x
theorem FJ_aval_Fits_1 (N : Nat) : ∀ (x : (List AType × Int × List UInt8 × List AVal × List (List UInt8) × Int × Int × List UInt8 × List (List UInt8) × Int × List (List UInt8) × Bool × List UInt8 × Int × List AField × List Int × Bool × Int × Bool × Int × List UInt8 × List AVal × List (List UInt8) × Int)), F_aval_Fits_1 N (mk_aval_Fits_1 x) = J_aval_Fits_1 N x := by
  intro x
  have h : F_aval_Fits_1 N (mk_aval_Fits_1 x) = JA_aval_Fits_1 N (fun z => F_aval_Fits_2 N (mk_aval_Fits_2 z)) (fun z => F_aval_Fits_3 N (mk_aval_Fits_3 z)) x := by kernel_rfl
  have e2 : (fun z => F_aval_Fits_2 N (mk_aval_Fits_2 z)) = (fun z => J_aval_Fits_2 N z) := funext fun z => FJ_aval_Fits_2 N z
  have e3 : (fun z => F_aval_Fits_3 N (mk_aval_Fits_3 z)) = (fun z => J_aval_Fits_3 N z) := funext fun z => FJ_aval_Fits_3 N z
  rw [h, e2, e3]
  rfl
/-- proclitic/aval.Fits -/
def sa_aval_Fits (N : Nat) (p0_0 : List AType) (p1 : Int) (p2_0 : Int) (p2_1 : List UInt8) (p2_2 : List AVal) (p2_3 : List (List UInt8)) (p2_4 : Int) (q0 : (Bool × Int × List UInt8 × List AVal × List (List UInt8) × Int) → Option (V × List AObj)) (q1 : (List AType × Int × List UInt8 × List AVal × List (List UInt8) × Int × Int × List UInt8 × List (List UInt8) × Int × List (List UInt8) × Bool × List UInt8 × Int × List AField × List Int × Bool × Int × Bool × Int × List UInt8 × List AVal × List (List UInt8) × Int) → Option (V × List AObj)) : Option (V × List AObj) :=
  cond (!(isT p0_0 p1)) (
    some (.bool false, [])) (
    chk ((decide (0 ≤ p1) && decide (p1 < ↑(List.length p0_0)))) (
      let x1 : Int := (List.getD p0_0 (Int.toNat p1) (dflt .atype)).kind
      let x2 : List UInt8 := (List.getD p0_0 (Int.toNat p1) (dflt .atype)).name
      let x3 : List (List UInt8) := (List.getD p0_0 (Int.toNat p1) (dflt .atype)).aliases
      let x4 : Int := (List.getD p0_0 (Int.toNat p1) (dflt .atype)).items
      let x5 : List (List UInt8) := (List.getD p0_0 (Int.toNat p1) (dflt .atype)).syms
      let x6 : Bool := (List.getD p0_0 (Int.toNat p1) (dflt .atype)).hasdef
      let x7 : List UInt8 := (List.getD p0_0 (Int.toNat p1) (dflt .atype)).df
      let x8 : Int := (List.getD p0_0 (Int.toNat p1) (dflt .atype)).size
      let x9 : List AField := (List.getD p0_0 (Int.toNat p1) (dflt .atype)).fields
      let x10 : List Int := (List.getD p0_0 (Int.toNat p1) (dflt .atype)).branches
      cond (x1 == 1) (
        q0 (true, p2_0, p2_1, p2_2, p2_3, p2_4)) (
        cond (x1 == 2) (
          q1 (p0_0, p2_0, p2_1, p2_2, p2_3, p2_4, x1, x2, x3, x4, x5, x6, x7, x8, x9, x10, false, x1, (x1 == 2), p2_0, p2_1, p2_2, p2_3, p2_4)) (
          cond (x1 == 3) (
            q1 (p0_0, p2_0, p2_1, p2_2, p2_3, p2_4, x1, x2, x3, x4, x5, x6, x7, x8, x9, x10, false, x1, (x1 == 3), p2_0, p2_1, p2_2, p2_3, p2_4)) (
            cond (x1 == 4) (
              q1 (p0_0, p2_0, p2_1, p2_2, p2_3, p2_4, x1, x2, x3, x4, x5, x6, x7, x8, x9, x10, false, x1, (x1 == 4), p2_0, p2_1, p2_2, p2_3, p2_4)) (
              cond (x1 == 5) (
                q1 (p0_0, p2_0, p2_1, p2_2, p2_3, p2_4, x1, x2, x3, x4, x5, x6, x7, x8, x9, x10, false, x1, (x1 == 5), p2_0, p2_1, p2_2, p2_3, p2_4)) (
                cond (x1 == 6) (
                  q1 (p0_0, p2_0, p2_1, p2_2, p2_3, p2_4, x1, x2, x3, x4, x5, x6, x7, x8, x9, x10, false, x1, (x1 == 6), p2_0, p2_1, p2_2, p2_3, p2_4)) (
                  q1 (p0_0, p2_0, p2_1, p2_2, p2_3, p2_4, x1, x2, x3, x4, x5, x6, x7, x8, x9, x10, false, x1, (x1 == 10), p2_0, p2_1, p2_2, p2_3, p2_4)))))))))
def sh_aval_Fits (N : Nat) (p0_0 : List AType) (p1 : Int) (p2_0 : Int) (p2_1 : List UInt8) (p2_2 : List AVal) (p2_3 : List (List UInt8)) (p2_4 : Int) : Option (V × List AObj) := sa_aval_Fits N p0_0 p1 p2_0 p2_1 p2_2 p2_3 p2_4 (fun z => J_aval_Fits_0 N z) (fun z => J_aval_Fits_1 N z)
theorem run_aval_Fits (N : Nat) (p0_0 : List AType) (p1 : Int) (p2_0 : Int) (p2_1 : List UInt8) (p2_2 : List AVal) (p2_3 : List (List UInt8)) (p2_4 : Int) : callF (Γ_aval_Fits N) N 126 rs_aval_Fits ir_aval_Fits [.agg [.sl .atype false p0_0], .int .i64 p1, .agg [.int .u64 p2_0, .str p2_1, .sl .aval false p2_2, .sl .str false p2_3, .int .i64 p2_4]] [] = sh_aval_Fits N p0_0 p1 p2_0 p2_1 p2_2 p2_3 p2_4 := by
  have h : callF (Γ_aval_Fits N) N 126 rs_aval_Fits ir_aval_Fits [.agg [.sl .atype false p0_0], .int .i64 p1, .agg [.int .u64 p2_0, .str p2_1, .sl .aval false p2_2, .sl .str false p2_3, .int .i64 p2_4]] [] = sa_aval_Fits N p0_0 p1 p2_0 p2_1 p2_2 p2_3 p2_4 (fun z => F_aval_Fits_0 N (mk_aval_Fits_0 z)) (fun z => F_aval_Fits_1 N (mk_aval_Fits_1 z)) := by kernel_rfl
  have e0 : (fun z => F_aval_Fits_0 N (mk_aval_Fits_0 z)) = (fun z => J_aval_Fits_0 N z) := funext fun z => FJ_aval_Fits_0 N z
  have e1 : (fun z => F_aval_Fits_1 N (mk_aval_Fits_1 z)) = (fun z => J_aval_Fits_1 N z) := funext fun z => FJ_aval_Fits_1 N z
  rw [h, e0, e1]
  rfl
theorem ok_aval_Fits (N : Nat) (hΓ : SpecOK Try.prog (Γ_aval_Fits N)) (p0_0 : List AType) (p1 : Int) (p2_0 : Int) (p2_1 : List UInt8) (p2_2 : List AVal) (p2_3 : List (List UInt8)) (p2_4 : Int) {v : V} {hp : List AObj} (h : sh_aval_Fits N p0_0 p1 p2_0 p2_1 p2_2 p2_3 p2_4 = some (v, hp)) : PureOK Try.prog i_aval_Fits [.agg [.sl .atype false p0_0], .int .i64 p1, .agg [.int .u64 p2_0, .str p2_1, .sl .aval false p2_2, .sl .str false p2_3, .int .i64 p2_4]] v := by
  have hc := chk_aval_Fits
  simp only [Bool.and_eq_true] at hc
  exact ⟨hp, fnOK_of hΓ (pureS_aval_Fits N) Try.func21 body_aval_Fits hc.1 hc.2 (by decide) ((run_aval_Fits N p0_0 p1 p2_0 p2_1 p2_2 p2_3 p2_4).trans h)⟩

end Go.Proofs.Ytdpajabhmmmjoaa
