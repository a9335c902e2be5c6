/-
  The plain functions that runs of the code are: written by wip/gen/gen.py.
-/
import Derived.Test.YtmiclamhiohemaaDoorSxCode
import Derived.KernelRfl
namespace Go.Proofs.YtmiclamhiohemaaDoor
open Go.AM
set_option autoImplicit false
set_option linter.unusedVariables false
set_option maxRecDepth 100000
abbrev i_law4_SixtyBack : FuncId := 4
def G_law4_SixtyBack : Nat → List V → Option (Bool × V) := fun f vs => match f, vs with
  | 6, [] => some (true, .bool true)
  | 7, [.str a0] => some (decide (List.length a0 ≤ 1000), .tup [.str (takeT a0), .int .i64 (takeE a0)])
  | 9, [.str a0] => some (decide (List.length a0 ≤ 1000), .str (putS a0))
  | _, _ => none
def Γ_law4_SixtyBack : ASpec := liftG G_law4_SixtyBack
theorem pureS_law4_SixtyBack : PureS Γ_law4_SixtyBack [] := liftG_pure _ _
theorem spec_law4_SixtyBack (h_law4_begun : PureOK Tryd.prog i_law4_begun [] (.bool true)) (h_sixty_Take : ∀ (a0 : List UInt8), (decide (List.length a0 ≤ 1000)) = true → PureOK Tryd.prog i_sixty_Take [.str a0] (.tup [.str (takeT a0), .int .i64 (takeE a0)])) (h_sixty_Put : ∀ (a0 : List UInt8), (decide (List.length a0 ≤ 1000)) = true → PureOK Tryd.prog i_sixty_Put [.str a0] (.str (putS a0))) : SpecOK Tryd.prog Γ_law4_SixtyBack := by
  intro f vs hp v hp' h0
  obtain ⟨h, he⟩ := liftG_inv h0
  subst he
  unfold G_law4_SixtyBack at h
  split at h
  · simp only [Option.some.injEq, Prod.mk.injEq] at h
    obtain ⟨hc, rfl⟩ := h
    exact (h_law4_begun ).frame rfl rfl _
  · simp only [Option.some.injEq, Prod.mk.injEq] at h
    obtain ⟨hc, rfl⟩ := h
    exact (h_sixty_Take _ hc).frame rfl rfl _
  · simp only [Option.some.injEq, Prod.mk.injEq] at h
    obtain ⟨hc, rfl⟩ := h
    exact (h_sixty_Put _ hc).frame rfl rfl _
  · simp at h
def ir_law4_SixtyBack_0 : IR := .ret
def ir_law4_SixtyBack_1 : IR := (.cond (.t 14) (.seq (.reg [⟨none, .mov 6 (.c (.bool false))⟩] []) ir_law4_SixtyBack_0) .skip)
def ir_law4_SixtyBack_2 : IR := .ret
def ir_law4_SixtyBack_3 : IR := (.cond (.t 17) (.seq (.reg [⟨none, .mov 6 (.c (.bool true))⟩] []) ir_law4_SixtyBack_2) .skip)
def ir_law4_SixtyBack_4 : IR := .ret
def ir_law4_SixtyBack_5 : IR := (.cond (.t 41) (.seq (.reg [⟨none, .mov 6 (.c (.bool false))⟩] []) ir_law4_SixtyBack_4) .skip)
def ir_law4_SixtyBack_6 : IR := .ret
def ir_law4_SixtyBack_7 : IR := (.cond (.t 44) (.seq (.reg [⟨none, .mov 6 (.c (.bool true))⟩] []) ir_law4_SixtyBack_6) .skip)
def ir_law4_SixtyBack_8 : IR := .ret
def ir_law4_SixtyBack_9 : IR := (.cond (.t 62) (.seq (.reg [⟨none, .mov 63 (.t 12)⟩,
    ⟨none, .bin 64 .eql (.t 63) (.c (.int .i64 2))⟩,
    ⟨none, .mov 65 (.t 64)⟩,
    ⟨some (65, true), .mov 66 (.t 11)⟩,
    ⟨some (65, true), .bin 67 .eql (.t 66) (.c (.str ([] : List UInt8)))⟩,
    ⟨none, .pick 68 (.t 65) (.t 67) (.c (.bool false))⟩,
    ⟨none, .mov 6 (.t 68)⟩] []) ir_law4_SixtyBack_8) .skip)
def ir_law4_SixtyBack_10 : IR := .ret
def ir_law4_SixtyBack_11 : IR := (.seq (.reg [⟨none, .mov 69 (.t 11)⟩,
    ⟨none, .call (some 70) 9 [(.t 69)]⟩,
    ⟨none, .mov 71 (.t 10)⟩,
    ⟨none, .o2s 72 (.t 71)⟩,
    ⟨none, .bin 73 .eql (.t 70) (.t 72)⟩,
    ⟨none, .mov 74 (.t 73)⟩,
    ⟨some (74, true), .mov 75 (.t 11)⟩,
    ⟨some (74, true), .mov 76 (.t 0)⟩,
    ⟨some (74, true), .bin 77 .eql (.t 75) (.t 76)⟩,
    ⟨some (74, true), .mov 78 (.t 10)⟩,
    ⟨some (74, true), .o2s 79 (.t 78)⟩,
    ⟨some (74, true), .mov 80 (.t 7)⟩,
    ⟨some (74, true), .bin 81 .eql (.t 79) (.t 80)⟩,
    ⟨some (74, true), .beq 82 false (.t 77) (.t 81)⟩,
    ⟨none, .pick 83 (.t 74) (.t 82) (.c (.bool false))⟩,
    ⟨none, .mov 6 (.t 83)⟩] [[], [0], [], [2], [0, 1, 2, 3], [0, 1, 2, 3, 4], [0, 1, 2, 3, 4, 5], [0, 1, 2, 3, 4, 5], [0, 1, 2, 3, 4, 5, 6, 7], [0, 1, 2, 3, 4, 5], [0, 1, 2, 3, 4, 5, 9], [0, 1, 2, 3, 4, 5], [0, 1, 2, 3, 4, 5, 9, 10, 11], [0, 1, 2, 3, 4, 5, 6, 7, 8, 9, 10, 11, 12], [0, 1, 2, 3, 4, 5, 6, 7, 8, 9, 10, 11, 12, 13], [0, 1, 2, 3, 4, 5, 6, 7, 8, 9, 10, 11, 12, 13, 14]]) ir_law4_SixtyBack_10)
def ir_law4_SixtyBack_12 : IR := (.seq (.seq (.reg [⟨none, .mov 61 (.t 12)⟩,
    ⟨none, .bin 62 .neq (.t 61) (.c (.int .i64 0))⟩] []) ir_law4_SixtyBack_9) ir_law4_SixtyBack_11)
def ir_law4_SixtyBack_13 : IR := (.seq (.reg [⟨none, .mov 56 (.t 10)⟩,
    ⟨none, .o2s 57 (.t 56)⟩,
    ⟨none, .call (some 58) 7 [(.t 57)]⟩,
    ⟨none, .mov 55 (.t 58)⟩,
    ⟨none, .ext 59 0 (.t 55)⟩,
    ⟨none, .ext 60 1 (.t 55)⟩,
    ⟨none, .mov 11 (.t 59)⟩,
    ⟨none, .mov 12 (.t 60)⟩] []) ir_law4_SixtyBack_12)
def ir_law4_SixtyBack_14 : IR := (.seq (.reg [⟨none, .mov 47 (.t 10)⟩,
    ⟨none, .mov 48 (.t 1)⟩,
    ⟨none, .cvi 49 .i64 (.t 48)⟩,
    ⟨none, .mov 50 (.t 10)⟩,
    ⟨none, .leno 51 (.t 50)⟩,
    ⟨none, .bin 52 .rem (.t 49) (.t 51)⟩,
    ⟨none, .mov 53 (.t 2)⟩,
    ⟨none, .ixo 54 (.t 47) (.t 52)⟩,
    ⟨none, .sto none (.t 54) (.t 53)⟩] []) ir_law4_SixtyBack_13)
def ir_law4_SixtyBack_15 : IR := (.seq (.reg [⟨none, .mov 45 (.t 7)⟩,
    ⟨none, .s2o 46 (.t 45)⟩,
    ⟨none, .mov 10 (.t 46)⟩] []) ir_law4_SixtyBack_14)
def ir_law4_SixtyBack_16 : IR := (.seq (.seq (.reg [⟨none, .mov 42 (.t 7)⟩,
    ⟨none, .lens 43 (.t 42)⟩,
    ⟨none, .bin 44 .eql (.t 43) (.c (.int .i64 0))⟩] []) ir_law4_SixtyBack_7) ir_law4_SixtyBack_15)
def ir_law4_SixtyBack_17 : IR := (.seq (.seq (.reg [⟨none, .mov 25 (.t 9)⟩,
    ⟨none, .bin 26 .neq (.t 25) (.c (.int .i64 0))⟩,
    ⟨none, .mov 27 (.t 26)⟩,
    ⟨some (27, false), .mov 28 (.t 8)⟩,
    ⟨some (27, false), .mov 29 (.t 0)⟩,
    ⟨some (27, false), .bin 30 .neq (.t 28) (.t 29)⟩,
    ⟨none, .pick 31 (.t 27) (.c (.bool true)) (.t 30)⟩,
    ⟨none, .mov 32 (.t 31)⟩,
    ⟨some (32, false), .mov 33 (.t 7)⟩,
    ⟨some (32, false), .lens 34 (.t 33)⟩,
    ⟨some (32, false), .mov 35 (.t 0)⟩,
    ⟨some (32, false), .lens 36 (.t 35)⟩,
    ⟨some (32, false), .bin 37 .add (.t 36) (.c (.int .i64 2))⟩,
    ⟨some (32, false), .bin 38 .quo (.t 37) (.c (.int .i64 3))⟩,
    ⟨some (32, false), .bin 39 .mul (.t 38) (.c (.int .i64 4))⟩,
    ⟨some (32, false), .bin 40 .neq (.t 34) (.t 39)⟩,
    ⟨none, .pick 41 (.t 32) (.c (.bool true)) (.t 40)⟩] []) ir_law4_SixtyBack_5) ir_law4_SixtyBack_16)
def ir_law4_SixtyBack_18 : IR := (.seq (.reg [⟨none, .mov 21 (.t 7)⟩,
    ⟨none, .call (some 22) 7 [(.t 21)]⟩,
    ⟨none, .mov 20 (.t 22)⟩,
    ⟨none, .ext 23 0 (.t 20)⟩,
    ⟨none, .ext 24 1 (.t 20)⟩,
    ⟨none, .mov 8 (.t 23)⟩,
    ⟨none, .mov 9 (.t 24)⟩] []) ir_law4_SixtyBack_17)
def ir_law4_SixtyBack_19 : IR := (.seq (.reg [⟨none, .mov 18 (.t 0)⟩,
    ⟨none, .call (some 19) 9 [(.t 18)]⟩,
    ⟨none, .mov 7 (.t 19)⟩] []) ir_law4_SixtyBack_18)
def ir_law4_SixtyBack_20 : IR := (.seq (.seq (.reg [⟨none, .mov 15 (.t 0)⟩,
    ⟨none, .lens 16 (.t 15)⟩,
    ⟨none, .bin 17 .gtr (.t 16) (.c (.int .i64 60))⟩] []) ir_law4_SixtyBack_3) ir_law4_SixtyBack_19)
def ir_law4_SixtyBack_21 : IR := (.seq (.seq (.reg [⟨none, .call (some 13) 6 []⟩,
    ⟨none, .un 14 .not (.t 13)⟩] []) ir_law4_SixtyBack_1) ir_law4_SixtyBack_20)
def ir_law4_SixtyBack : IR := (.seq (.reg [⟨none, .mov 6 (.c (.bool false))⟩] []) ir_law4_SixtyBack_21)
def rs_law4_SixtyBack : List RV := [.t 6]
theorem chk_law4_SixtyBack : (chkCode Tryd.prog [] 0 ir_law4_SixtyBack (Tryd.f4.body.getD .skip) && chkRes Tryd.prog rs_law4_SixtyBack Tryd.f4.results.toList) = true := by kernel_rfl
theorem body_law4_SixtyBack : Tryd.f4.body = some (Tryd.f4.body.getD .skip) := by kernel_rfl
/-- proclitic/procliticlaw4.SixtyBack -/
def sa_law4_SixtyBack (N : Nat) (p0 : List UInt8) (p1 : Int) (p2 : Int)  : Option (V × List AObj) :=
  let x1 : Int := (↑(List.length p0) : Int)
  cond (decide (60 < x1)) (
    some (.bool true, [])) (
    chk (decide (List.length p0 ≤ 1000)) (
      chk (decide (List.length (putS p0) ≤ 1000)) (
        let x2 : Bool := (!((takeE (putS p0)) == 0))
        cond x2 (
          some (.bool false, [])) (
          let x3 : Bool := (!decide ((takeT (putS p0)) = p0))
          cond x3 (
            some (.bool false, [])) (
            let x4 : Int := (↑(List.length (putS p0)) : Int)
            let x5 : Int := (↑(List.length p0) : Int)
            let x6 : Int := (IntKind.wrap .i64 (x5 + 2))
            let x7 : Int := (IntKind.wrap .i64 (Int.tdiv x6 3))
            let x8 : Int := (IntKind.wrap .i64 (x7 * 4))
            cond (!(x4 == x8)) (
              some (.bool false, [])) (
              let x9 : Int := (↑(List.length (putS p0)) : Int)
              cond (x9 == 0) (
                some (.bool true, [])) (
                let x10 : Int := (↑(List.length (putS p0)) : Int)
                chk ((!(x10 == 0))) (
                  let x11 : Int := (Int.tmod (IntKind.wrap .i64 p1) x10)
                  chk ((decide (0 ≤ (x11 : Int)) && decide ((x11 : Int) < ↑(List.length (putS p0))))) (
                    chk (decide ((Int.toNat x11) < List.length (putS p0))) (
                      chk (decide ((List.length (putS p0)) ≤ List.length (List.set (putS p0) (Int.toNat x11) (UInt8.ofNat (Int.toNat p2))))) (
                        let x12 : List UInt8 := (List.take (List.length (putS p0)) (List.set (putS p0) (Int.toNat x11) (UInt8.ofNat (Int.toNat p2))))
                        chk (decide (List.length x12 ≤ 1000)) (
                          cond (!((takeE x12) == 0)) (
                            cond ((takeE x12) == 2) (
                              let x13 : Bool := decide ((takeT x12) = ([] : List UInt8))
                              some (.bool x13, [some [.rb (List.set (putS p0) (Int.toNat x11) (UInt8.ofNat (Int.toNat p2)))]])) (
                              some (.bool false, [some [.rb (List.set (putS p0) (Int.toNat x11) (UInt8.ofNat (Int.toNat p2)))]]))) (
                            chk (decide (List.length (takeT x12) ≤ 1000)) (
                              chk (decide ((List.length (putS p0)) ≤ List.length (List.set (putS p0) (Int.toNat x11) (UInt8.ofNat (Int.toNat p2))))) (
                                let x14 : List UInt8 := (List.take (List.length (putS p0)) (List.set (putS p0) (Int.toNat x11) (UInt8.ofNat (Int.toNat p2))))
                                let x15 : Bool := decide ((putS (takeT x12)) = x14)
                                cond x15 (
                                  let x16 : Bool := decide ((takeT x12) = p0)
                                  chk (decide ((List.length (putS p0)) ≤ List.length (List.set (putS p0) (Int.toNat x11) (UInt8.ofNat (Int.toNat p2))))) (
                                    let x17 : List UInt8 := (List.take (List.length (putS p0)) (List.set (putS p0) (Int.toNat x11) (UInt8.ofNat (Int.toNat p2))))
                                    let x18 : Bool := (x16 == decide (x17 = (putS p0)))
                                    some (.bool x18, [some [.rb (List.set (putS p0) (Int.toNat x11) (UInt8.ofNat (Int.toNat p2)))]]))) (
                                  some (.bool false, [some [.rb (List.set (putS p0) (Int.toNat x11) (UInt8.ofNat (Int.toNat p2)))]])))))))))))))))))
def sh_law4_SixtyBack (N : Nat) (p0 : List UInt8) (p1 : Int) (p2 : Int) : Option (V × List AObj) := sa_law4_SixtyBack N p0 p1 p2
theorem run_law4_SixtyBack (N : Nat) (p0 : List UInt8) (p1 : Int) (p2 : Int) : callF Γ_law4_SixtyBack N 84 rs_law4_SixtyBack ir_law4_SixtyBack [.str p0, .int .u8 p1, .int .u8 p2] [] = sh_law4_SixtyBack N p0 p1 p2 := by kernel_rfl
theorem ok_law4_SixtyBack (hΓ : SpecOK Tryd.prog Γ_law4_SixtyBack) (N : Nat) (p0 : List UInt8) (p1 : Int) (p2 : Int) {v : V} {hp : List AObj} (h : sh_law4_SixtyBack N p0 p1 p2 = some (v, hp)) : PureOK Tryd.prog i_law4_SixtyBack [.str p0, .int .u8 p1, .int .u8 p2] v := by
  have hc := chk_law4_SixtyBack
  simp only [Bool.and_eq_true] at hc
  exact ⟨hp, fnOK_of hΓ pureS_law4_SixtyBack Tryd.func4 body_law4_SixtyBack hc.1 hc.2 (by decide) ((run_law4_SixtyBack N p0 p1 p2).trans h)⟩

end Go.Proofs.YtmiclamhiohemaaDoor
