/-
  The plain functions that runs of the code are: written by wip/gen/gen.py.
-/
import Derived.Test.YtmiclamhiohemaaDoorSxCode
import Derived.KernelRfl
namespace Go.Proofs.YtmiclamhiohemaaDoor
open Go.AM
set_option autoImplicit false
set_option linter.unusedVariables false
set_option maxRecDepth 100000
abbrev i_law4_SixtyAll : FuncId := 3
def G_ref1_Sixty : Nat → List V → Option (Bool × V) := fun _ _ => none
def Γ_ref1_Sixty : ASpec := liftG G_ref1_Sixty
theorem pureS_ref1_Sixty : PureS Γ_ref1_Sixty [] := liftG_pure _ _
theorem spec_ref1_Sixty  : SpecOK Tryd.prog Γ_ref1_Sixty := by
  intro f vs hp v hp' h
  obtain ⟨h, -⟩ := liftG_inv h
  simp [G_ref1_Sixty] at h
def ir_ref1_Sixty_0 : IR := (.cond (.t 11) .skip (.exit 0))
def ir_ref1_Sixty_1 : IR := (.cond (.t 19) .skip (.exit 2))
def ir_ref1_Sixty_2 : IR := (.reg [⟨none, .mov 25 (.t 5)⟩,
    ⟨none, .bin 26 .add (.t 25) (.c (.int .i64 1))⟩,
    ⟨none, .mov 5 (.t 26)⟩] [])
def ir_ref1_Sixty_3 : IR := (.block 3 (.seq (.reg [⟨none, .mov 20 (.t 5)⟩,
    ⟨none, .mov 21 (.t 0)⟩,
    ⟨none, .mov 22 (.t 5)⟩,
    ⟨none, .idx 23 (.t 21) (.t 22)⟩,
    ⟨none, .ixp 24 3 (.t 4) (.t 20)⟩,
    ⟨none, .sto none (.t 24) (.t 23)⟩] []) ir_ref1_Sixty_2))
def ir_ref1_Sixty_4 : IR := (.seq (.seq (.reg [⟨none, .mov 12 (.t 5)⟩,
    ⟨none, .bin 13 .lss (.t 12) (.c (.int .i64 3))⟩,
    ⟨none, .mov 14 (.t 13)⟩,
    ⟨some (14, true), .mov 15 (.t 5)⟩,
    ⟨some (14, true), .mov 16 (.t 0)⟩,
    ⟨some (14, true), .lens 17 (.t 16)⟩,
    ⟨some (14, true), .bin 18 .lss (.t 15) (.t 17)⟩,
    ⟨none, .pick 19 (.t 14) (.t 18) (.c (.bool false))⟩] []) ir_ref1_Sixty_1) ir_ref1_Sixty_3)
def ir_ref1_Sixty_5 : IR := (.cond (.t 41) .skip (.exit 4))
def ir_ref1_Sixty_6 : IR := (.exit 5)
def ir_ref1_Sixty_7 : IR := (.cond (.t 46) (.seq (.reg [⟨none, .mov 47 (.t 3)⟩,
    ⟨none, .bin 48 .add (.t 47) (.c (.str ([61] : List UInt8)))⟩,
    ⟨none, .mov 3 (.t 48)⟩] []) ir_ref1_Sixty_6) .skip)
def ir_ref1_Sixty_8 : IR := (.reg [⟨none, .mov 54 (.t 3)⟩,
    ⟨none, .mov 55 (.t 8)⟩,
    ⟨none, .mov 56 (.t 8)⟩,
    ⟨none, .bin 57 .add (.t 56) (.c (.int .i64 1))⟩,
    ⟨none, .subs 58 (.c (.str ([65, 66, 67, 68, 69, 70, 71, 72, 73, 74, 75, 76, 77, 78, 79, 80, 81, 82, 83, 84, 85, 86, 87, 88, 89, 90, 97, 98, 99, 100, 101, 102, 103, 104, 105, 106, 107, 108, 109, 110, 111, 112, 113, 114, 115, 116, 117, 118, 119, 120, 121, 122, 48, 49, 50, 51, 52, 53, 54, 55, 56, 57, 43, 47] : List UInt8))) (some (.t 55)) (some (.t 57))⟩,
    ⟨none, .bin 59 .add (.t 54) (.t 58)⟩,
    ⟨none, .mov 3 (.t 59)⟩] [])
def ir_ref1_Sixty_9 : IR := (.seq (.reg [⟨none, .mov 52 (.t 6)⟩,
    ⟨none, .bin 53 .mul (.t 52) (.c (.int .i64 64))⟩,
    ⟨none, .mov 6 (.t 53)⟩] []) ir_ref1_Sixty_8)
def ir_ref1_Sixty_10 : IR := (.seq (.reg [⟨none, .mov 49 (.t 6)⟩,
    ⟨none, .bin 50 .quo (.t 49) (.c (.int .i64 262144))⟩,
    ⟨none, .bin 51 .rem (.t 50) (.c (.int .i64 64))⟩,
    ⟨none, .mov 8 (.t 51)⟩] []) ir_ref1_Sixty_9)
def ir_ref1_Sixty_11 : IR := (.reg [⟨none, .mov 42 (.t 7)⟩,
    ⟨none, .bin 43 .add (.t 42) (.c (.int .i64 1))⟩,
    ⟨none, .mov 7 (.t 43)⟩] [])
def ir_ref1_Sixty_12 : IR := (.seq (.block 5 (.seq (.seq (.reg [⟨none, .mov 44 (.t 7)⟩,
    ⟨none, .mov 45 (.t 5)⟩,
    ⟨none, .bin 46 .gtr (.t 44) (.t 45)⟩] []) ir_ref1_Sixty_7) ir_ref1_Sixty_10)) ir_ref1_Sixty_11)
def ir_ref1_Sixty_13 : IR := (.seq (.seq (.reg [⟨none, .mov 40 (.t 7)⟩,
    ⟨none, .bin 41 .lss (.t 40) (.c (.int .i64 4))⟩] []) ir_ref1_Sixty_5) ir_ref1_Sixty_12)
def ir_ref1_Sixty_14 : IR := (.block 4 (.loop [0, 3, 5, 6, 7] 1 ir_ref1_Sixty_13))
def ir_ref1_Sixty_15 : IR := (.reg [⟨none, .mov 60 (.t 0)⟩,
    ⟨none, .mov 61 (.t 5)⟩,
    ⟨none, .subs 62 (.t 60) (some (.t 61)) none⟩,
    ⟨none, .mov 0 (.t 62)⟩] [])
def ir_ref1_Sixty_16 : IR := (.seq (.seq (.reg [⟨none, .mov 7 (.c (.int .i64 0))⟩] []) ir_ref1_Sixty_14) ir_ref1_Sixty_15)
def ir_ref1_Sixty_17 : IR := (.seq (.reg [⟨none, .ixp 27 3 (.t 4) (.c (.int .i64 0))⟩,
    ⟨none, .ldo 28 (.t 27)⟩,
    ⟨none, .cvi 29 .i64 (.t 28)⟩,
    ⟨none, .bin 30 .mul (.t 29) (.c (.int .i64 65536))⟩,
    ⟨none, .ixp 31 3 (.t 4) (.c (.int .i64 1))⟩,
    ⟨none, .ldo 32 (.t 31)⟩,
    ⟨none, .cvi 33 .i64 (.t 32)⟩,
    ⟨none, .bin 34 .mul (.t 33) (.c (.int .i64 256))⟩,
    ⟨none, .bin 35 .add (.t 30) (.t 34)⟩,
    ⟨none, .ixp 36 3 (.t 4) (.c (.int .i64 2))⟩,
    ⟨none, .ldo 37 (.t 36)⟩,
    ⟨none, .cvi 38 .i64 (.t 37)⟩,
    ⟨none, .bin 39 .add (.t 35) (.t 38)⟩,
    ⟨none, .mov 6 (.t 39)⟩] []) ir_ref1_Sixty_16)
def ir_ref1_Sixty_18 : IR := (.seq (.block 2 (.loop [0, 3, 4, 5] 1 ir_ref1_Sixty_4)) ir_ref1_Sixty_17)
def ir_ref1_Sixty_19 : IR := (.seq (.reg [⟨none, .mov 5 (.c (.int .i64 0))⟩] []) ir_ref1_Sixty_18)
def ir_ref1_Sixty_20 : IR := (.block 1 (.seq (.reg [⟨none, .aro 4 3⟩] []) ir_ref1_Sixty_19))
def ir_ref1_Sixty_21 : IR := (.seq (.seq (.reg [⟨none, .mov 9 (.t 0)⟩,
    ⟨none, .lens 10 (.t 9)⟩,
    ⟨none, .bin 11 .gtr (.t 10) (.c (.int .i64 0))⟩] []) ir_ref1_Sixty_0) ir_ref1_Sixty_20)
def ir_ref1_Sixty_22 : IR := .ret
def ir_ref1_Sixty_23 : IR := (.seq (.reg [⟨none, .mov 63 (.t 3)⟩,
    ⟨none, .mov 2 (.t 63)⟩] []) ir_ref1_Sixty_22)
def ir_ref1_Sixty_24 : IR := (.seq (.block 0 (.loop [0, 3] 0 ir_ref1_Sixty_21)) ir_ref1_Sixty_23)
def ir_ref1_Sixty_25 : IR := (.seq (.reg [⟨none, .mov 3 (.c (.str ([] : List UInt8)))⟩] []) ir_ref1_Sixty_24)
def ir_ref1_Sixty : IR := (.seq (.reg [⟨none, .mov 2 (.c (.str ([] : List UInt8)))⟩] []) ir_ref1_Sixty_25)
def rs_ref1_Sixty : List RV := [.t 2]
theorem chk_ref1_Sixty : (chkCode Tryd.prog [] 0 ir_ref1_Sixty (Tryd.f10.body.getD .skip) && chkRes Tryd.prog rs_ref1_Sixty Tryd.f10.results.toList) = true := by kernel_rfl
theorem body_ref1_Sixty : Tryd.f10.body = some (Tryd.f10.body.getD .skip) := by kernel_rfl
def mk_ref1_Sixty_0 (x : (List UInt8 × List UInt8)) : St := { env := [.str x.1, .undef, .undef, .str x.2, .undef, .undef, .undef, .undef, .undef, .undef, .undef, .undef, .undef, .undef, .undef, .undef, .undef, .undef, .undef, .undef, .undef, .undef, .undef, .undef, .undef, .undef, .undef, .undef, .undef, .undef, .undef, .undef, .undef, .undef, .undef, .undef, .undef, .undef, .undef, .undef, .undef, .undef, .undef, .undef, .undef, .undef, .undef, .undef, .undef, .undef, .undef, .undef, .undef, .undef, .undef, .undef, .undef, .undef, .undef, .undef, .undef, .undef, .undef, .undef], hp := [] }
def mk_ref1_Sixty_1 (x : (List UInt8 × List UInt8 × Int × List UInt8)) : St := { env := [.str x.1, .undef, .undef, .str x.2.1, .ptr 0 0, .int .i64 x.2.2.1, .undef, .undef, .undef, .undef, .undef, .undef, .undef, .undef, .undef, .undef, .undef, .undef, .undef, .undef, .undef, .undef, .undef, .undef, .undef, .undef, .undef, .undef, .undef, .undef, .undef, .undef, .undef, .undef, .undef, .undef, .undef, .undef, .undef, .undef, .undef, .undef, .undef, .undef, .undef, .undef, .undef, .undef, .undef, .undef, .undef, .undef, .undef, .undef, .undef, .undef, .undef, .undef, .undef, .undef, .undef, .undef, .undef, .undef], hp := [some [.rb x.2.2.2]] }
def mk_ref1_Sixty_2 (x : (List UInt8 × List UInt8 × Int × Int × Int × List UInt8)) : St := { env := [.str x.1, .undef, .undef, .str x.2.1, .undef, .int .i64 x.2.2.1, .int .i64 x.2.2.2.1, .int .i64 x.2.2.2.2.1, .undef, .undef, .undef, .undef, .undef, .undef, .undef, .undef, .undef, .undef, .undef, .undef, .undef, .undef, .undef, .undef, .undef, .undef, .undef, .undef, .undef, .undef, .undef, .undef, .undef, .undef, .undef, .undef, .undef, .undef, .undef, .undef, .undef, .undef, .undef, .undef, .undef, .undef, .undef, .undef, .undef, .undef, .undef, .undef, .undef, .undef, .undef, .undef, .undef, .undef, .undef, .undef, .undef, .undef, .undef, .undef], hp := [some [.rb x.2.2.2.2.2]] }
def F_ref1_Sixty_2 (N : Nat) (again0 : St → Option (V × List AObj)) : (St → Option (V × List AObj)) → St → Option (V × List AObj) := fun again2 s => run Γ_ref1_Sixty N ir_ref1_Sixty_13 (kloop again2 [0, 3, 5, 6, 7] 1 (kblock 4 (kseq (run Γ_ref1_Sixty N ir_ref1_Sixty_15) (kblock 1 (kloop again0 [0, 3] 0 (kblock 0 (kseq (run Γ_ref1_Sixty N ir_ref1_Sixty_23) (fin rs_ref1_Sixty)))))))) s
def B_ref1_Sixty_2 (N : Nat) (again0 : (List UInt8 × List UInt8) → Option (V × List AObj)) (again2 : (List UInt8 × List UInt8 × Int × Int × Int × List UInt8) → Option (V × List AObj)) (x : (List UInt8 × List UInt8 × Int × Int × Int × List UInt8)) : Option (V × List AObj) :=
  let v0 : List UInt8 := x.1
  let v3 : List UInt8 := x.2.1
  let v5 : Int := x.2.2.1
  let v6 : Int := x.2.2.2.1
  let v7 : Int := x.2.2.2.2.1
  let o0_0 : List UInt8 := x.2.2.2.2.2
  cond (decide (v7 < 4)) (
    cond (decide (v5 < v7)) (
      chk (decide (List.length v3 + List.length ([61] : List UInt8) ≤ 9223372036854775807)) (
        let x12 : List UInt8 := (v3 ++ ([61] : List UInt8))
        let x13 : Int := (IntKind.wrap .i64 (v7 + 1))
        again2 (v0, x12, v5, v6, x13, o0_0))) (
      let x14 : Int := (IntKind.wrap .i64 (Int.tdiv v6 262144))
      let x15 : Int := (IntKind.wrap .i64 (v6 * 64))
      let x16 : Int := (IntKind.wrap .i64 ((Int.tmod x14 64) + 1))
      chk ((decide (0 ≤ x16) && decide (x16 ≤ (↑(List.length ([65, 66, 67, 68, 69, 70, 71, 72, 73, 74, 75, 76, 77, 78, 79, 80, 81, 82, 83, 84, 85, 86, 87, 88, 89, 90, 97, 98, 99, 100, 101, 102, 103, 104, 105, 106, 107, 108, 109, 110, 111, 112, 113, 114, 115, 116, 117, 118, 119, 120, 121, 122, 48, 49, 50, 51, 52, 53, 54, 55, 56, 57, 43, 47] : List UInt8)) : Int)) && (decide (0 ≤ (Int.tmod x14 64)) && decide ((Int.tmod x14 64) ≤ x16)))) (
        let x17 : List UInt8 := (List.drop (Int.toNat (Int.tmod x14 64)) (List.take (Int.toNat x16) ([65, 66, 67, 68, 69, 70, 71, 72, 73, 74, 75, 76, 77, 78, 79, 80, 81, 82, 83, 84, 85, 86, 87, 88, 89, 90, 97, 98, 99, 100, 101, 102, 103, 104, 105, 106, 107, 108, 109, 110, 111, 112, 113, 114, 115, 116, 117, 118, 119, 120, 121, 122, 48, 49, 50, 51, 52, 53, 54, 55, 56, 57, 43, 47] : List UInt8)))
        chk (decide (List.length v3 + List.length x17 ≤ 9223372036854775807)) (
          let x18 : Int := (IntKind.wrap .i64 (v7 + 1))
          again2 (v0, (v3 ++ x17), v5, x15, x18, o0_0))))) (
    chk ((decide (0 ≤ v5) && decide (v5 ≤ (↑(List.length v0) : Int)))) (
      let x19 : List UInt8 := (List.drop (Int.toNat v5) (List.take (List.length v0) v0))
      again0 (x19, v3)))
theorem FB_ref1_Sixty_2 (N : Nat) (again0 : St → Option (V × List AObj)) : ∀ (again2 : St → Option (V × List AObj)) (x : (List UInt8 × List UInt8 × Int × Int × Int × List UInt8)), F_ref1_Sixty_2 N again0 again2 (mk_ref1_Sixty_2 x) = B_ref1_Sixty_2 N (fun y => again0 (mk_ref1_Sixty_0 y)) (fun y => again2 (mk_ref1_Sixty_2 y)) x := by
  intro again2 x
  kernel_rfl
def F_ref1_Sixty_1 (N : Nat) (again0 : St → Option (V × List AObj)) : (St → Option (V × List AObj)) → St → Option (V × List AObj) := fun again1 s => run Γ_ref1_Sixty N ir_ref1_Sixty_4 (kloop again1 [0, 3, 4, 5] 1 (kblock 2 (kseq (run Γ_ref1_Sixty N ir_ref1_Sixty_17) (kblock 1 (kloop again0 [0, 3] 0 (kblock 0 (kseq (run Γ_ref1_Sixty N ir_ref1_Sixty_23) (fin rs_ref1_Sixty)))))))) s
def BA_ref1_Sixty_1 (N : Nat) (again0 : (List UInt8 × List UInt8) → Option (V × List AObj)) (again1 : (List UInt8 × List UInt8 × Int × List UInt8) → Option (V × List AObj)) (q2 : (List UInt8 × List UInt8 × Int × Int × Int × List UInt8) → Option (V × List AObj)) (x : (List UInt8 × List UInt8 × Int × List UInt8)) : Option (V × List AObj) :=
  let v0 : List UInt8 := x.1
  let v3 : List UInt8 := x.2.1
  let v5 : Int := x.2.2.1
  let o0_0 : List UInt8 := x.2.2.2
  cond (decide (v5 < 3)) (
    let x2 : Int := (↑(List.length v0) : Int)
    cond (decide (v5 < x2)) (
      chk ((decide (0 ≤ v5) && decide (v5 < ↑(List.length v0)))) (
        let x3 : Int := (↑(UInt8.toNat (List.getD v0 (Int.toNat v5) 0)) : Int)
        chk ((decide (0 ≤ (v5 : Int)) && decide ((v5 : Int) < 3))) (
          chk (decide ((0 + Int.toNat v5) < List.length o0_0)) (
            let x4 : Int := (IntKind.wrap .i64 (v5 + 1))
            again1 (v0, v3, x4, (List.set o0_0 (0 + Int.toNat v5) (UInt8.ofNat (Int.toNat x3)))))))) (
      chk ((decide (0 ≤ (0 : Int)) && decide ((0 : Int) < 3))) (
        chk (decide ((0 + Int.toNat 0) < List.length o0_0)) (
          let x5 : Int := (↑(UInt8.toNat (List.getD o0_0 (0 + Int.toNat 0) 0)) : Int)
          let x6 : Int := (IntKind.wrap .i64 ((IntKind.wrap .i64 x5) * 65536))
          chk ((decide (0 ≤ (1 : Int)) && decide ((1 : Int) < 3))) (
            chk (decide ((0 + Int.toNat 1) < List.length o0_0)) (
              let x7 : Int := (↑(UInt8.toNat (List.getD o0_0 (0 + Int.toNat 1) 0)) : Int)
              let x8 : Int := (IntKind.wrap .i64 ((IntKind.wrap .i64 x7) * 256))
              let x9 : Int := (IntKind.wrap .i64 (x6 + x8))
              chk ((decide (0 ≤ (2 : Int)) && decide ((2 : Int) < 3))) (
                chk (decide ((0 + Int.toNat 2) < List.length o0_0)) (
                  let x10 : Int := (↑(UInt8.toNat (List.getD o0_0 (0 + Int.toNat 2) 0)) : Int)
                  let x11 : Int := (IntKind.wrap .i64 (x9 + (IntKind.wrap .i64 x10)))
                  q2 (v0, v3, v5, x11, 0, o0_0))))))))) (
    chk ((decide (0 ≤ (0 : Int)) && decide ((0 : Int) < 3))) (
      chk (decide ((0 + Int.toNat 0) < List.length o0_0)) (
        let x20 : Int := (↑(UInt8.toNat (List.getD o0_0 (0 + Int.toNat 0) 0)) : Int)
        let x21 : Int := (IntKind.wrap .i64 ((IntKind.wrap .i64 x20) * 65536))
        chk ((decide (0 ≤ (1 : Int)) && decide ((1 : Int) < 3))) (
          chk (decide ((0 + Int.toNat 1) < List.length o0_0)) (
            let x22 : Int := (↑(UInt8.toNat (List.getD o0_0 (0 + Int.toNat 1) 0)) : Int)
            let x23 : Int := (IntKind.wrap .i64 ((IntKind.wrap .i64 x22) * 256))
            let x24 : Int := (IntKind.wrap .i64 (x21 + x23))
            chk ((decide (0 ≤ (2 : Int)) && decide ((2 : Int) < 3))) (
              chk (decide ((0 + Int.toNat 2) < List.length o0_0)) (
                let x25 : Int := (↑(UInt8.toNat (List.getD o0_0 (0 + Int.toNat 2) 0)) : Int)
                let x26 : Int := (IntKind.wrap .i64 (x24 + (IntKind.wrap .i64 x25)))
                q2 (v0, v3, v5, x26, 0, o0_0))))))))
def B_ref1_Sixty_1 (N : Nat) (again0 : (List UInt8 × List UInt8) → Option (V × List AObj)) (again1 : (List UInt8 × List UInt8 × Int × List UInt8) → Option (V × List AObj)) (x : (List UInt8 × List UInt8 × Int × List UInt8)) : Option (V × List AObj) := BA_ref1_Sixty_1 N again0 again1 (fun z => iterL N (B_ref1_Sixty_2 N again0) z) x
theorem FB_ref1_Sixty_1 (N : Nat) (again0 : St → Option (V × List AObj)) : ∀ (again1 : St → Option (V × List AObj)) (x : (List UInt8 × List UInt8 × Int × List UInt8)), F_ref1_Sixty_1 N again0 again1 (mk_ref1_Sixty_1 x) = B_ref1_Sixty_1 N (fun y => again0 (mk_ref1_Sixty_0 y)) (fun y => again1 (mk_ref1_Sixty_1 y)) x := by
  intro again1 x
  have h : F_ref1_Sixty_1 N again0 again1 (mk_ref1_Sixty_1 x) = BA_ref1_Sixty_1 N (fun y => again0 (mk_ref1_Sixty_0 y)) (fun y => again1 (mk_ref1_Sixty_1 y)) (fun z => loopN N (F_ref1_Sixty_2 N again0) (mk_ref1_Sixty_2 z)) x := by kernel_rfl
  have e2 : (fun z => loopN N (F_ref1_Sixty_2 N again0) (mk_ref1_Sixty_2 z)) = (fun z => iterL N (B_ref1_Sixty_2 N (fun y => again0 (mk_ref1_Sixty_0 y))) z) := funext fun z => loop_eq (mk_ref1_Sixty_2) (F_ref1_Sixty_2 N again0) (B_ref1_Sixty_2 N (fun y => again0 (mk_ref1_Sixty_0 y))) (FB_ref1_Sixty_2 N again0) N z
  rw [h, e2]
  rfl
def F_ref1_Sixty_0 (N : Nat) : (St → Option (V × List AObj)) → St → Option (V × List AObj) := fun again0 s => run Γ_ref1_Sixty N ir_ref1_Sixty_21 (kloop again0 [0, 3] 0 (kblock 0 (kseq (run Γ_ref1_Sixty N ir_ref1_Sixty_23) (fin rs_ref1_Sixty)))) s
def BA_ref1_Sixty_0 (N : Nat) (again0 : (List UInt8 × List UInt8) → Option (V × List AObj)) (q1 : (List UInt8 × List UInt8 × Int × List UInt8) → Option (V × List AObj)) (x : (List UInt8 × List UInt8)) : Option (V × List AObj) :=
  let v0 : List UInt8 := x.1
  let v3 : List UInt8 := x.2
  let x1 : Int := (↑(List.length v0) : Int)
  cond (decide (0 < x1)) (
    q1 (v0, v3, 0, (List.replicate 3 0))) (
    some (.str v3, []))
def B_ref1_Sixty_0 (N : Nat) (again0 : (List UInt8 × List UInt8) → Option (V × List AObj)) (x : (List UInt8 × List UInt8)) : Option (V × List AObj) := BA_ref1_Sixty_0 N again0 (fun z => iterL N (B_ref1_Sixty_1 N again0) z) x
theorem FB_ref1_Sixty_0 (N : Nat) : ∀ (again0 : St → Option (V × List AObj)) (x : (List UInt8 × List UInt8)), F_ref1_Sixty_0 N again0 (mk_ref1_Sixty_0 x) = B_ref1_Sixty_0 N (fun y => again0 (mk_ref1_Sixty_0 y)) x := by
  intro again0 x
  have h : F_ref1_Sixty_0 N again0 (mk_ref1_Sixty_0 x) = BA_ref1_Sixty_0 N (fun y => again0 (mk_ref1_Sixty_0 y)) (fun z => loopN N (F_ref1_Sixty_1 N again0) (mk_ref1_Sixty_1 z)) x := by kernel_rfl
  have e1 : (fun z => loopN N (F_ref1_Sixty_1 N again0) (mk_ref1_Sixty_1 z)) = (fun z => iterL N (B_ref1_Sixty_1 N (fun y => again0 (mk_ref1_Sixty_0 y))) z) := funext fun z => loop_eq (mk_ref1_Sixty_1) (F_ref1_Sixty_1 N again0) (B_ref1_Sixty_1 N (fun y => again0 (mk_ref1_Sixty_0 y))) (FB_ref1_Sixty_1 N again0) N z
  rw [h, e1]
  rfl
/-- proclitic/procliticref1.Sixty -/
def sa_ref1_Sixty (N : Nat) (p0 : List UInt8) (q0 : (List UInt8 × List UInt8) → Option (V × List AObj)) : Option (V × List AObj) :=
  q0 (p0, ([] : List UInt8))
def sh_ref1_Sixty (N : Nat) (p0 : List UInt8) : Option (V × List AObj) := sa_ref1_Sixty N p0 (fun z => iterL N (B_ref1_Sixty_0 N) z)
theorem run_ref1_Sixty (N : Nat) (p0 : List UInt8) : callF Γ_ref1_Sixty N 64 rs_ref1_Sixty ir_ref1_Sixty [.str p0] [] = sh_ref1_Sixty N p0 := by
  have h : callF Γ_ref1_Sixty N 64 rs_ref1_Sixty ir_ref1_Sixty [.str p0] [] = sa_ref1_Sixty N p0 (fun z => loopN N (F_ref1_Sixty_0 N) (mk_ref1_Sixty_0 z)) := by kernel_rfl
  have e0 : (fun z => loopN N (F_ref1_Sixty_0 N) (mk_ref1_Sixty_0 z)) = (fun z => iterL N (B_ref1_Sixty_0 N) z) := funext fun z => loop_eq (mk_ref1_Sixty_0) (F_ref1_Sixty_0 N) (B_ref1_Sixty_0 N) (FB_ref1_Sixty_0 N) N z
  rw [h, e0]
  rfl
theorem ok_ref1_Sixty (hΓ : SpecOK Tryd.prog Γ_ref1_Sixty) (N : Nat) (p0 : List UInt8) {v : V} {hp : List AObj} (h : sh_ref1_Sixty N p0 = some (v, hp)) : PureOK Tryd.prog i_ref1_Sixty [.str p0] v := by
  have hc := chk_ref1_Sixty
  simp only [Bool.and_eq_true] at hc
  exact ⟨hp, fnOK_of hΓ pureS_ref1_Sixty Tryd.func10 body_ref1_Sixty hc.1 hc.2 (by decide) ((run_ref1_Sixty N p0).trans h)⟩

def G_ref1_TakeSixty : Nat → List V → Option (Bool × V) := fun f vs => match f, vs with
  | 10, [.str a0] => some (decide (List.length a0 ≤ 1000), .str (putS a0))
  | _, _ => none
def Γ_ref1_TakeSixty : ASpec := liftG G_ref1_TakeSixty
theorem pureS_ref1_TakeSixty : PureS Γ_ref1_TakeSixty [] := liftG_pure _ _
theorem spec_ref1_TakeSixty (h_ref1_Sixty : ∀ (a0 : List UInt8), (decide (List.length a0 ≤ 1000)) = true → PureOK Tryd.prog i_ref1_Sixty [.str a0] (.str (putS a0))) : SpecOK Tryd.prog Γ_ref1_TakeSixty := by
  intro f vs hp v hp' h0
  obtain ⟨h, he⟩ := liftG_inv h0
  subst he
  unfold G_ref1_TakeSixty at h
  split at h
  · simp only [Option.some.injEq, Prod.mk.injEq] at h
    obtain ⟨hc, rfl⟩ := h
    exact (h_ref1_Sixty _ hc).frame rfl rfl _
  · simp at h
def ir_ref1_TakeSixty_0 : IR := (.cond (.t 21) .skip (.exit 0))
def ir_ref1_TakeSixty_1 : IR := (.block 1 (.reg [⟨none, .mov 22 (.t 7)⟩,
    ⟨none, .bin 23 .sub (.t 22) (.c (.int .i64 1))⟩,
    ⟨none, .mov 7 (.t 23)⟩] []))
def ir_ref1_TakeSixty_2 : IR := (.seq (.seq (.reg [⟨none, .mov 13 (.t 7)⟩,
    ⟨none, .bin 14 .gtr (.t 13) (.c (.int .i64 0))⟩,
    ⟨none, .mov 15 (.t 14)⟩,
    ⟨some (15, true), .mov 16 (.t 0)⟩,
    ⟨some (15, true), .mov 17 (.t 7)⟩,
    ⟨some (15, true), .bin 18 .sub (.t 17) (.c (.int .i64 1))⟩,
    ⟨some (15, true), .idx 19 (.t 16) (.t 18)⟩,
    ⟨some (15, true), .bin 20 .eql (.t 19) (.c (.int .u8 61))⟩,
    ⟨none, .pick 21 (.t 15) (.t 20) (.c (.bool false))⟩] []) ir_ref1_TakeSixty_0) ir_ref1_TakeSixty_1)
def ir_ref1_TakeSixty_3 : IR := (.cond (.t 26) .skip (.exit 2))
def ir_ref1_TakeSixty_4 : IR := (.cond (.t 30) .skip (.exit 4))
def ir_ref1_TakeSixty_5 : IR := (.cond (.t 38) (.reg [⟨none, .mov 39 (.t 10)⟩,
    ⟨none, .mov 9 (.t 39)⟩] []) .skip)
def ir_ref1_TakeSixty_6 : IR := (.reg [⟨none, .mov 31 (.t 10)⟩,
    ⟨none, .bin 32 .add (.t 31) (.c (.int .i64 1))⟩,
    ⟨none, .mov 10 (.t 32)⟩] [])
def ir_ref1_TakeSixty_7 : IR := (.seq (.block 5 (.seq (.reg [⟨none, .mov 33 (.t 10)⟩,
    ⟨none, .idx 34 (.c (.str ([65, 66, 67, 68, 69, 70, 71, 72, 73, 74, 75, 76, 77, 78, 79, 80, 81, 82, 83, 84, 85, 86, 87, 88, 89, 90, 97, 98, 99, 100, 101, 102, 103, 104, 105, 106, 107, 108, 109, 110, 111, 112, 113, 114, 115, 116, 117, 118, 119, 120, 121, 122, 48, 49, 50, 51, 52, 53, 54, 55, 56, 57, 43, 47] : List UInt8))) (.t 33)⟩,
    ⟨none, .mov 35 (.t 0)⟩,
    ⟨none, .mov 36 (.t 8)⟩,
    ⟨none, .idx 37 (.t 35) (.t 36)⟩,
    ⟨none, .bin 38 .eql (.t 34) (.t 37)⟩] [[], [0], [], [], [2, 3], [0, 1, 2, 3, 4]]) ir_ref1_TakeSixty_5)) ir_ref1_TakeSixty_6)
def ir_ref1_TakeSixty_8 : IR := (.seq (.seq (.reg [⟨none, .mov 29 (.t 10)⟩,
    ⟨none, .bin 30 .lss (.t 29) (.c (.int .i64 64))⟩] []) ir_ref1_TakeSixty_4) ir_ref1_TakeSixty_7)
def ir_ref1_TakeSixty_9 : IR := (.block 4 (.loop [0, 4, 5, 6, 7, 8, 9, 10] 0 ir_ref1_TakeSixty_8))
def ir_ref1_TakeSixty_10 : IR := .ret
def ir_ref1_TakeSixty_11 : IR := (.cond (.t 41) (.seq (.reg [⟨none, .mov 2 (.c (.str ([] : List UInt8)))⟩,
    ⟨none, .mov 3 (.c (.int .i64 2))⟩] []) ir_ref1_TakeSixty_10) .skip)
def ir_ref1_TakeSixty_12 : IR := (.reg [⟨none, .mov 60 (.t 5)⟩,
    ⟨none, .mov 61 (.t 4)⟩,
    ⟨none, .bin 62 .shl (.c (.int .i64 1)) (.t 61)⟩,
    ⟨none, .bin 63 .rem (.t 60) (.t 62)⟩,
    ⟨none, .mov 5 (.t 63)⟩] [])
def ir_ref1_TakeSixty_13 : IR := (.seq (.reg [⟨none, .mov 52 (.t 6)⟩,
    ⟨none, .mov 53 (.t 5)⟩,
    ⟨none, .mov 54 (.t 4)⟩,
    ⟨none, .bin 55 .shr (.t 53) (.t 54)⟩,
    ⟨none, .cvi 56 .u8 (.t 55)⟩,
    ⟨none, .bsl 57 .u8 [(.t 56)]⟩,
    ⟨none, .b2s 58 (.t 57)⟩,
    ⟨none, .bin 59 .add (.t 52) (.t 58)⟩,
    ⟨none, .mov 6 (.t 59)⟩] []) ir_ref1_TakeSixty_12)
def ir_ref1_TakeSixty_14 : IR := (.cond (.t 49) (.seq (.reg [⟨none, .mov 50 (.t 4)⟩,
    ⟨none, .bin 51 .sub (.t 50) (.c (.int .i64 8))⟩,
    ⟨none, .mov 4 (.t 51)⟩] []) ir_ref1_TakeSixty_13) .skip)
def ir_ref1_TakeSixty_15 : IR := (.seq (.reg [⟨none, .mov 48 (.t 4)⟩,
    ⟨none, .bin 49 .geq (.t 48) (.c (.int .i64 8))⟩] []) ir_ref1_TakeSixty_14)
def ir_ref1_TakeSixty_16 : IR := (.seq (.reg [⟨none, .mov 42 (.t 5)⟩,
    ⟨none, .bin 43 .mul (.t 42) (.c (.int .i64 64))⟩,
    ⟨none, .mov 44 (.t 9)⟩,
    ⟨none, .bin 45 .add (.t 43) (.t 44)⟩,
    ⟨none, .mov 46 (.t 4)⟩,
    ⟨none, .bin 47 .add (.t 46) (.c (.int .i64 6))⟩,
    ⟨none, .mov 5 (.t 45)⟩,
    ⟨none, .mov 4 (.t 47)⟩] []) ir_ref1_TakeSixty_15)
def ir_ref1_TakeSixty_17 : IR := (.seq (.seq (.reg [⟨none, .mov 40 (.t 9)⟩,
    ⟨none, .bin 41 .lss (.t 40) (.c (.int .i64 0))⟩] []) ir_ref1_TakeSixty_11) ir_ref1_TakeSixty_16)
def ir_ref1_TakeSixty_18 : IR := (.seq (.seq (.reg [⟨none, .mov 10 (.c (.int .i64 0))⟩] []) ir_ref1_TakeSixty_9) ir_ref1_TakeSixty_17)
def ir_ref1_TakeSixty_19 : IR := (.reg [⟨none, .mov 27 (.t 8)⟩,
    ⟨none, .bin 28 .add (.t 27) (.c (.int .i64 1))⟩,
    ⟨none, .mov 8 (.t 28)⟩] [])
def ir_ref1_TakeSixty_20 : IR := (.seq (.block 3 (.seq (.reg [⟨none, .mov 9 (.c (.int .i64 (-1)))⟩] []) ir_ref1_TakeSixty_18)) ir_ref1_TakeSixty_19)
def ir_ref1_TakeSixty_21 : IR := (.seq (.seq (.reg [⟨none, .mov 24 (.t 8)⟩,
    ⟨none, .mov 25 (.t 7)⟩,
    ⟨none, .bin 26 .lss (.t 24) (.t 25)⟩] []) ir_ref1_TakeSixty_3) ir_ref1_TakeSixty_20)
def ir_ref1_TakeSixty_22 : IR := (.block 2 (.loop [0, 4, 5, 6, 7, 8] 0 ir_ref1_TakeSixty_21))
def ir_ref1_TakeSixty_23 : IR := .ret
def ir_ref1_TakeSixty_24 : IR := (.cond (.t 67) (.seq (.reg [⟨none, .mov 2 (.c (.str ([] : List UInt8)))⟩,
    ⟨none, .mov 3 (.c (.int .i64 2))⟩] []) ir_ref1_TakeSixty_23) .skip)
def ir_ref1_TakeSixty_25 : IR := .ret
def ir_ref1_TakeSixty_26 : IR := (.seq (.reg [⟨none, .mov 68 (.t 6)⟩,
    ⟨none, .mov 2 (.t 68)⟩,
    ⟨none, .mov 3 (.c (.int .i64 0))⟩] []) ir_ref1_TakeSixty_25)
def ir_ref1_TakeSixty_27 : IR := (.seq (.seq (.reg [⟨none, .mov 64 (.t 6)⟩,
    ⟨none, .call (some 65) 10 [(.t 64)]⟩,
    ⟨none, .mov 66 (.t 0)⟩,
    ⟨none, .bin 67 .neq (.t 65) (.t 66)⟩] []) ir_ref1_TakeSixty_24) ir_ref1_TakeSixty_26)
def ir_ref1_TakeSixty_28 : IR := (.seq (.seq (.reg [⟨none, .mov 8 (.c (.int .i64 0))⟩] []) ir_ref1_TakeSixty_22) ir_ref1_TakeSixty_27)
def ir_ref1_TakeSixty_29 : IR := (.seq (.block 0 (.loop [0, 4, 5, 6, 7] 0 ir_ref1_TakeSixty_2)) ir_ref1_TakeSixty_28)
def ir_ref1_TakeSixty_30 : IR := (.seq (.reg [⟨none, .mov 11 (.t 0)⟩,
    ⟨none, .lens 12 (.t 11)⟩,
    ⟨none, .mov 7 (.t 12)⟩] []) ir_ref1_TakeSixty_29)
def ir_ref1_TakeSixty_31 : IR := (.seq (.reg [⟨none, .mov 6 (.c (.str ([] : List UInt8)))⟩] []) ir_ref1_TakeSixty_30)
def ir_ref1_TakeSixty_32 : IR := (.seq (.reg [⟨none, .mov 4 (.c (.int .i64 0))⟩,
    ⟨none, .mov 5 (.c (.int .i64 0))⟩] []) ir_ref1_TakeSixty_31)
def ir_ref1_TakeSixty : IR := (.seq (.reg [⟨none, .mov 2 (.c (.str ([] : List UInt8)))⟩,
    ⟨none, .mov 3 (.c (.int .i64 0))⟩] []) ir_ref1_TakeSixty_32)
def rs_ref1_TakeSixty : List RV := [.t 2, .t 3]
theorem chk_ref1_TakeSixty : (chkCode Tryd.prog [] 0 ir_ref1_TakeSixty (Tryd.f8.body.getD .skip) && chkRes Tryd.prog rs_ref1_TakeSixty Tryd.f8.results.toList) = true := by kernel_rfl
theorem body_ref1_TakeSixty : Tryd.f8.body = some (Tryd.f8.body.getD .skip) := by kernel_rfl
def mk_ref1_TakeSixty_0 (x : (List UInt8 × Int × Int × List UInt8 × Int)) : St := { env := [.str x.1, .undef, .undef, .undef, .int .i64 x.2.1, .int .i64 x.2.2.1, .str x.2.2.2.1, .int .i64 x.2.2.2.2, .undef, .undef, .undef, .undef, .undef, .undef, .undef, .undef, .undef, .undef, .undef, .undef, .undef, .undef, .undef, .undef, .undef, .undef, .undef, .undef, .undef, .undef, .undef, .undef, .undef, .undef, .undef, .undef, .undef, .undef, .undef, .undef, .undef, .undef, .undef, .undef, .undef, .undef, .undef, .undef, .undef, .undef, .undef, .undef, .undef, .undef, .undef, .undef, .undef, .undef, .undef, .undef, .undef, .undef, .undef, .undef, .undef, .undef, .undef, .undef, .undef], hp := [] }
def mk_ref1_TakeSixty_1 (x : (List UInt8 × Int × Int × List UInt8 × Int × Int)) : St := { env := [.str x.1, .undef, .undef, .undef, .int .i64 x.2.1, .int .i64 x.2.2.1, .str x.2.2.2.1, .int .i64 x.2.2.2.2.1, .int .i64 x.2.2.2.2.2, .undef, .undef, .undef, .undef, .undef, .undef, .undef, .undef, .undef, .undef, .undef, .undef, .undef, .undef, .undef, .undef, .undef, .undef, .undef, .undef, .undef, .undef, .undef, .undef, .undef, .undef, .undef, .undef, .undef, .undef, .undef, .undef, .undef, .undef, .undef, .undef, .undef, .undef, .undef, .undef, .undef, .undef, .undef, .undef, .undef, .undef, .undef, .undef, .undef, .undef, .undef, .undef, .undef, .undef, .undef, .undef, .undef, .undef, .undef, .undef], hp := [] }
def mk_ref1_TakeSixty_2 (x : (List UInt8 × Int × Int × List UInt8 × Int × Int × Int × Int)) : St := { env := [.str x.1, .undef, .undef, .undef, .int .i64 x.2.1, .int .i64 x.2.2.1, .str x.2.2.2.1, .int .i64 x.2.2.2.2.1, .int .i64 x.2.2.2.2.2.1, .int .i64 x.2.2.2.2.2.2.1, .int .i64 x.2.2.2.2.2.2.2, .undef, .undef, .undef, .undef, .undef, .undef, .undef, .undef, .undef, .undef, .undef, .undef, .undef, .undef, .undef, .undef, .undef, .undef, .undef, .undef, .undef, .undef, .undef, .undef, .undef, .undef, .undef, .undef, .undef, .undef, .undef, .undef, .undef, .undef, .undef, .undef, .undef, .undef, .undef, .undef, .undef, .undef, .undef, .undef, .undef, .undef, .undef, .undef, .undef, .undef, .undef, .undef, .undef, .undef, .undef, .undef, .undef, .undef], hp := [] }
def F_ref1_TakeSixty_2 (N : Nat) (again1 : St → Option (V × List AObj)) : (St → Option (V × List AObj)) → St → Option (V × List AObj) := fun again2 s => run Γ_ref1_TakeSixty N ir_ref1_TakeSixty_8 (kloop again2 [0, 4, 5, 6, 7, 8, 9, 10] 0 (kblock 4 (kseq (run Γ_ref1_TakeSixty N ir_ref1_TakeSixty_17) (kblock 3 (kseq (run Γ_ref1_TakeSixty N ir_ref1_TakeSixty_19) (kloop again1 [0, 4, 5, 6, 7, 8] 0 (kblock 2 (kseq (run Γ_ref1_TakeSixty N ir_ref1_TakeSixty_27) (fin rs_ref1_TakeSixty))))))))) s
def B_ref1_TakeSixty_2 (N : Nat) (again1 : (List UInt8 × Int × Int × List UInt8 × Int × Int) → Option (V × List AObj)) (again2 : (List UInt8 × Int × Int × List UInt8 × Int × Int × Int × Int) → Option (V × List AObj)) (x : (List UInt8 × Int × Int × List UInt8 × Int × Int × Int × Int)) : Option (V × List AObj) :=
  let v0 : List UInt8 := x.1
  let v4 : Int := x.2.1
  let v5 : Int := x.2.2.1
  let v6 : List UInt8 := x.2.2.2.1
  let v7 : Int := x.2.2.2.2.1
  let v8 : Int := x.2.2.2.2.2.1
  let v9 : Int := x.2.2.2.2.2.2.1
  let v10 : Int := x.2.2.2.2.2.2.2
  cond (decide (v10 < 64)) (
    chk ((decide (0 ≤ v10) && decide (v10 < ↑(List.length ([65, 66, 67, 68, 69, 70, 71, 72, 73, 74, 75, 76, 77, 78, 79, 80, 81, 82, 83, 84, 85, 86, 87, 88, 89, 90, 97, 98, 99, 100, 101, 102, 103, 104, 105, 106, 107, 108, 109, 110, 111, 112, 113, 114, 115, 116, 117, 118, 119, 120, 121, 122, 48, 49, 50, 51, 52, 53, 54, 55, 56, 57, 43, 47] : List UInt8))))) (
      let x5 : Int := (↑(UInt8.toNat (List.getD ([65, 66, 67, 68, 69, 70, 71, 72, 73, 74, 75, 76, 77, 78, 79, 80, 81, 82, 83, 84, 85, 86, 87, 88, 89, 90, 97, 98, 99, 100, 101, 102, 103, 104, 105, 106, 107, 108, 109, 110, 111, 112, 113, 114, 115, 116, 117, 118, 119, 120, 121, 122, 48, 49, 50, 51, 52, 53, 54, 55, 56, 57, 43, 47] : List UInt8) (Int.toNat v10) 0)) : Int)
      chk ((decide (0 ≤ v8) && decide (v8 < ↑(List.length v0)))) (
        let x6 : Int := (↑(UInt8.toNat (List.getD v0 (Int.toNat v8) 0)) : Int)
        cond (x5 == x6) (
          let x7 : Int := (IntKind.wrap .i64 (v10 + 1))
          again2 (v0, v4, v5, v6, v7, v8, v10, x7)) (
          let x8 : Int := (IntKind.wrap .i64 (v10 + 1))
          again2 (v0, v4, v5, v6, v7, v8, v9, x8))))) (
    cond (decide (v9 < 0)) (
      some (.tup [.str ([] : List UInt8), .int .i64 2], [])) (
      let x9 : Int := (IntKind.wrap .i64 (v5 * 64))
      let x10 : Int := (IntKind.wrap .i64 (x9 + v9))
      let x11 : Int := (IntKind.wrap .i64 (v4 + 6))
      cond (decide (8 ≤ x11)) (
        let x12 : Int := (IntKind.wrap .i64 (x11 - 8))
        chk (decide (0 ≤ x12)) (
          let x13 : Int := (IntKind.wrap .u8 (shrI .i64 x10 x12))
          chk (decide (List.length v6 + List.length ([(UInt8.ofNat (Int.toNat x13))] : List UInt8) ≤ 9223372036854775807)) (
            let x14 : List UInt8 := (v6 ++ ([(UInt8.ofNat (Int.toNat x13))] : List UInt8))
            chk (decide (0 ≤ x12)) (
              chk ((!((shlI .i64 1 x12) == 0))) (
                let x15 : Int := (Int.tmod x10 (shlI .i64 1 x12))
                let x16 : Int := (IntKind.wrap .i64 (v8 + 1))
                again1 (v0, x12, x15, x14, v7, x16)))))) (
        let x17 : Int := (IntKind.wrap .i64 (v8 + 1))
        again1 (v0, x11, x10, v6, v7, x17))))
theorem FB_ref1_TakeSixty_2 (N : Nat) (again1 : St → Option (V × List AObj)) : ∀ (again2 : St → Option (V × List AObj)) (x : (List UInt8 × Int × Int × List UInt8 × Int × Int × Int × Int)), F_ref1_TakeSixty_2 N again1 again2 (mk_ref1_TakeSixty_2 x) = B_ref1_TakeSixty_2 N (fun y => again1 (mk_ref1_TakeSixty_1 y)) (fun y => again2 (mk_ref1_TakeSixty_2 y)) x := by
  intro again2 x
  kernel_rfl
def F_ref1_TakeSixty_1 (N : Nat) : (St → Option (V × List AObj)) → St → Option (V × List AObj) := fun again1 s => run Γ_ref1_TakeSixty N ir_ref1_TakeSixty_21 (kloop again1 [0, 4, 5, 6, 7, 8] 0 (kblock 2 (kseq (run Γ_ref1_TakeSixty N ir_ref1_TakeSixty_27) (fin rs_ref1_TakeSixty)))) s
def BA_ref1_TakeSixty_1 (N : Nat) (again1 : (List UInt8 × Int × Int × List UInt8 × Int × Int) → Option (V × List AObj)) (q2 : (List UInt8 × Int × Int × List UInt8 × Int × Int × Int × Int) → Option (V × List AObj)) (x : (List UInt8 × Int × Int × List UInt8 × Int × Int)) : Option (V × List AObj) :=
  let v0 : List UInt8 := x.1
  let v4 : Int := x.2.1
  let v5 : Int := x.2.2.1
  let v6 : List UInt8 := x.2.2.2.1
  let v7 : Int := x.2.2.2.2.1
  let v8 : Int := x.2.2.2.2.2
  cond (decide (v8 < v7)) (
    q2 (v0, v4, v5, v6, v7, v8, (-1), 0)) (
    chk (decide (List.length v6 ≤ 1000)) (
      let x18 : Bool := (!decide ((putS v6) = v0))
      cond x18 (
        some (.tup [.str ([] : List UInt8), .int .i64 2], [])) (
        some (.tup [.str v6, .int .i64 0], []))))
def B_ref1_TakeSixty_1 (N : Nat) (again1 : (List UInt8 × Int × Int × List UInt8 × Int × Int) → Option (V × List AObj)) (x : (List UInt8 × Int × Int × List UInt8 × Int × Int)) : Option (V × List AObj) := BA_ref1_TakeSixty_1 N again1 (fun z => iterL N (B_ref1_TakeSixty_2 N again1) z) x
theorem FB_ref1_TakeSixty_1 (N : Nat) : ∀ (again1 : St → Option (V × List AObj)) (x : (List UInt8 × Int × Int × List UInt8 × Int × Int)), F_ref1_TakeSixty_1 N again1 (mk_ref1_TakeSixty_1 x) = B_ref1_TakeSixty_1 N (fun y => again1 (mk_ref1_TakeSixty_1 y)) x := by
  intro again1 x
  have h : F_ref1_TakeSixty_1 N again1 (mk_ref1_TakeSixty_1 x) = BA_ref1_TakeSixty_1 N (fun y => again1 (mk_ref1_TakeSixty_1 y)) (fun z => loopN N (F_ref1_TakeSixty_2 N again1) (mk_ref1_TakeSixty_2 z)) x := by kernel_rfl
  have e2 : (fun z => loopN N (F_ref1_TakeSixty_2 N again1) (mk_ref1_TakeSixty_2 z)) = (fun z => iterL N (B_ref1_TakeSixty_2 N (fun y => again1 (mk_ref1_TakeSixty_1 y))) z) := funext fun z => loop_eq (mk_ref1_TakeSixty_2) (F_ref1_TakeSixty_2 N again1) (B_ref1_TakeSixty_2 N (fun y => again1 (mk_ref1_TakeSixty_1 y))) (FB_ref1_TakeSixty_2 N again1) N z
  rw [h, e2]
  rfl
def F_ref1_TakeSixty_0 (N : Nat) : (St → Option (V × List AObj)) → St → Option (V × List AObj) := fun again0 s => run Γ_ref1_TakeSixty N ir_ref1_TakeSixty_2 (kloop again0 [0, 4, 5, 6, 7] 0 (kblock 0 (kseq (run Γ_ref1_TakeSixty N ir_ref1_TakeSixty_28) (fin rs_ref1_TakeSixty)))) s
def BA_ref1_TakeSixty_0 (N : Nat) (again0 : (List UInt8 × Int × Int × List UInt8 × Int) → Option (V × List AObj)) (q1 : (List UInt8 × Int × Int × List UInt8 × Int × Int) → Option (V × List AObj)) (x : (List UInt8 × Int × Int × List UInt8 × Int)) : Option (V × List AObj) :=
  let v0 : List UInt8 := x.1
  let v4 : Int := x.2.1
  let v5 : Int := x.2.2.1
  let v6 : List UInt8 := x.2.2.2.1
  let v7 : Int := x.2.2.2.2
  cond (decide (0 < v7)) (
    let x2 : Int := (IntKind.wrap .i64 (v7 - 1))
    chk ((decide (0 ≤ x2) && decide (x2 < ↑(List.length v0)))) (
      let x3 : Int := (↑(UInt8.toNat (List.getD v0 (Int.toNat x2) 0)) : Int)
      cond (x3 == 61) (
        let x4 : Int := (IntKind.wrap .i64 (v7 - 1))
        again0 (v0, v4, v5, v6, x4)) (
        q1 (v0, v4, v5, v6, v7, 0)))) (
    q1 (v0, v4, v5, v6, v7, 0))
def B_ref1_TakeSixty_0 (N : Nat) (again0 : (List UInt8 × Int × Int × List UInt8 × Int) → Option (V × List AObj)) (x : (List UInt8 × Int × Int × List UInt8 × Int)) : Option (V × List AObj) := BA_ref1_TakeSixty_0 N again0 (fun z => iterL N (B_ref1_TakeSixty_1 N) z) x
theorem FB_ref1_TakeSixty_0 (N : Nat) : ∀ (again0 : St → Option (V × List AObj)) (x : (List UInt8 × Int × Int × List UInt8 × Int)), F_ref1_TakeSixty_0 N again0 (mk_ref1_TakeSixty_0 x) = B_ref1_TakeSixty_0 N (fun y => again0 (mk_ref1_TakeSixty_0 y)) x := by
  intro again0 x
  have h : F_ref1_TakeSixty_0 N again0 (mk_ref1_TakeSixty_0 x) = BA_ref1_TakeSixty_0 N (fun y => again0 (mk_ref1_TakeSixty_0 y)) (fun z => loopN N (F_ref1_TakeSixty_1 N) (mk_ref1_TakeSixty_1 z)) x := by kernel_rfl
  have e1 : (fun z => loopN N (F_ref1_TakeSixty_1 N) (mk_ref1_TakeSixty_1 z)) = (fun z => iterL N (B_ref1_TakeSixty_1 N) z) := funext fun z => loop_eq (mk_ref1_TakeSixty_1) (F_ref1_TakeSixty_1 N) (B_ref1_TakeSixty_1 N) (FB_ref1_TakeSixty_1 N) N z
  rw [h, e1]
  rfl
/-- proclitic/procliticref1.TakeSixty -/
def sa_ref1_TakeSixty (N : Nat) (p0 : List UInt8) (q0 : (List UInt8 × Int × Int × List UInt8 × Int) → Option (V × List AObj)) : Option (V × List AObj) :=
  let x1 : Int := (↑(List.length p0) : Int)
  q0 (p0, 0, 0, ([] : List UInt8), x1)
def sh_ref1_TakeSixty (N : Nat) (p0 : List UInt8) : Option (V × List AObj) := sa_ref1_TakeSixty N p0 (fun z => iterL N (B_ref1_TakeSixty_0 N) z)
theorem run_ref1_TakeSixty (N : Nat) (p0 : List UInt8) : callF Γ_ref1_TakeSixty N 69 rs_ref1_TakeSixty ir_ref1_TakeSixty [.str p0] [] = sh_ref1_TakeSixty N p0 := by
  have h : callF Γ_ref1_TakeSixty N 69 rs_ref1_TakeSixty ir_ref1_TakeSixty [.str p0] [] = sa_ref1_TakeSixty N p0 (fun z => loopN N (F_ref1_TakeSixty_0 N) (mk_ref1_TakeSixty_0 z)) := by kernel_rfl
  have e0 : (fun z => loopN N (F_ref1_TakeSixty_0 N) (mk_ref1_TakeSixty_0 z)) = (fun z => iterL N (B_ref1_TakeSixty_0 N) z) := funext fun z => loop_eq (mk_ref1_TakeSixty_0) (F_ref1_TakeSixty_0 N) (B_ref1_TakeSixty_0 N) (FB_ref1_TakeSixty_0 N) N z
  rw [h, e0]
  rfl
theorem ok_ref1_TakeSixty (hΓ : SpecOK Tryd.prog Γ_ref1_TakeSixty) (N : Nat) (p0 : List UInt8) {v : V} {hp : List AObj} (h : sh_ref1_TakeSixty N p0 = some (v, hp)) : PureOK Tryd.prog i_ref1_TakeSixty [.str p0] v := by
  have hc := chk_ref1_TakeSixty
  simp only [Bool.and_eq_true] at hc
  exact ⟨hp, fnOK_of hΓ pureS_ref1_TakeSixty Tryd.func8 body_ref1_TakeSixty hc.1 hc.2 (by decide) ((run_ref1_TakeSixty N p0).trans h)⟩

def G_law4_SixtyAll : Nat → List V → Option (Bool × V) := fun f vs => match f, vs with
  | 6, [] => some (true, .bool true)
  | 7, [.str a0] => some (decide (List.length a0 ≤ 1000), .tup [.str (takeT a0), .int .i64 (takeE a0)])
  | 8, [.str a0] => some (decide (List.length a0 ≤ 1000), .tup [.str (takeT a0), .int .i64 (takeE a0)])
  | 9, [.str a0] => some (decide (List.length a0 ≤ 1000), .str (putS a0))
  | 10, [.str a0] => some (decide (List.length a0 ≤ 1000), .str (putS a0))
  | _, _ => none
def Γ_law4_SixtyAll : ASpec := liftG G_law4_SixtyAll
theorem pureS_law4_SixtyAll : PureS Γ_law4_SixtyAll [] := liftG_pure _ _
theorem spec_law4_SixtyAll (h_law4_begun : PureOK Tryd.prog i_law4_begun [] (.bool true)) (h_sixty_Take : ∀ (a0 : List UInt8), (decide (List.length a0 ≤ 1000)) = true → PureOK Tryd.prog i_sixty_Take [.str a0] (.tup [.str (takeT a0), .int .i64 (takeE a0)])) (h_ref1_TakeSixty : ∀ (a0 : List UInt8), (decide (List.length a0 ≤ 1000)) = true → PureOK Tryd.prog i_ref1_TakeSixty [.str a0] (.tup [.str (takeT a0), .int .i64 (takeE a0)])) (h_sixty_Put : ∀ (a0 : List UInt8), (decide (List.length a0 ≤ 1000)) = true → PureOK Tryd.prog i_sixty_Put [.str a0] (.str (putS a0))) (h_ref1_Sixty : ∀ (a0 : List UInt8), (decide (List.length a0 ≤ 1000)) = true → PureOK Tryd.prog i_ref1_Sixty [.str a0] (.str (putS a0))) : SpecOK Tryd.prog Γ_law4_SixtyAll := by
  intro f vs hp v hp' h0
  obtain ⟨h, he⟩ := liftG_inv h0
  subst he
  unfold G_law4_SixtyAll at h
  split at h
  · simp only [Option.some.injEq, Prod.mk.injEq] at h
    obtain ⟨hc, rfl⟩ := h
    exact (h_law4_begun ).frame rfl rfl _
  · simp only [Option.some.injEq, Prod.mk.injEq] at h
    obtain ⟨hc, rfl⟩ := h
    exact (h_sixty_Take _ hc).frame rfl rfl _
  · simp only [Option.some.injEq, Prod.mk.injEq] at h
    obtain ⟨hc, rfl⟩ := h
    exact (h_ref1_TakeSixty _ hc).frame rfl rfl _
  · simp only [Option.some.injEq, Prod.mk.injEq] at h
    obtain ⟨hc, rfl⟩ := h
    exact (h_sixty_Put _ hc).frame rfl rfl _
  · simp only [Option.some.injEq, Prod.mk.injEq] at h
    obtain ⟨hc, rfl⟩ := h
    exact (h_ref1_Sixty _ hc).frame rfl rfl _
  · simp at h
def ir_law4_SixtyAll_0 : IR := .ret
def ir_law4_SixtyAll_1 : IR := (.cond (.t 10) (.seq (.reg [⟨none, .mov 4 (.c (.bool false))⟩] []) ir_law4_SixtyAll_0) .skip)
def ir_law4_SixtyAll_2 : IR := .ret
def ir_law4_SixtyAll_3 : IR := (.cond (.t 18) (.seq (.reg [⟨none, .mov 4 (.c (.bool true))⟩] []) ir_law4_SixtyAll_2) .skip)
def ir_law4_SixtyAll_4 : IR := .ret
def ir_law4_SixtyAll_5 : IR := (.seq (.reg [⟨none, .mov 29 (.t 0)⟩,
    ⟨none, .call (some 30) 9 [(.t 29)]⟩,
    ⟨none, .mov 31 (.t 0)⟩,
    ⟨none, .call (some 32) 10 [(.t 31)]⟩,
    ⟨none, .bin 33 .eql (.t 30) (.t 32)⟩,
    ⟨none, .mov 34 (.t 33)⟩,
    ⟨some (34, true), .mov 35 (.t 5)⟩,
    ⟨some (34, true), .mov 36 (.t 7)⟩,
    ⟨some (34, true), .bin 37 .eql (.t 35) (.t 36)⟩,
    ⟨none, .pick 38 (.t 34) (.t 37) (.c (.bool false))⟩,
    ⟨none, .mov 39 (.t 38)⟩,
    ⟨some (39, true), .mov 40 (.t 6)⟩,
    ⟨some (39, true), .mov 41 (.t 8)⟩,
    ⟨some (39, true), .bin 42 .eql (.t 40) (.t 41)⟩,
    ⟨none, .pick 43 (.t 39) (.t 42) (.c (.bool false))⟩,
    ⟨none, .mov 4 (.t 43)⟩] []) ir_law4_SixtyAll_4)
def ir_law4_SixtyAll_6 : IR := (.seq (.reg [⟨none, .mov 25 (.t 1)⟩,
    ⟨none, .call (some 26) 8 [(.t 25)]⟩,
    ⟨none, .mov 24 (.t 26)⟩,
    ⟨none, .ext 27 0 (.t 24)⟩,
    ⟨none, .ext 28 1 (.t 24)⟩,
    ⟨none, .mov 7 (.t 27)⟩,
    ⟨none, .mov 8 (.t 28)⟩] []) ir_law4_SixtyAll_5)
def ir_law4_SixtyAll_7 : IR := (.seq (.reg [⟨none, .mov 20 (.t 1)⟩,
    ⟨none, .call (some 21) 7 [(.t 20)]⟩,
    ⟨none, .mov 19 (.t 21)⟩,
    ⟨none, .ext 22 0 (.t 19)⟩,
    ⟨none, .ext 23 1 (.t 19)⟩,
    ⟨none, .mov 5 (.t 22)⟩,
    ⟨none, .mov 6 (.t 23)⟩] []) ir_law4_SixtyAll_6)
def ir_law4_SixtyAll_8 : IR := (.seq (.seq (.reg [⟨none, .mov 11 (.t 0)⟩,
    ⟨none, .lens 12 (.t 11)⟩,
    ⟨none, .bin 13 .gtr (.t 12) (.c (.int .i64 60))⟩,
    ⟨none, .mov 14 (.t 13)⟩,
    ⟨some (14, false), .mov 15 (.t 1)⟩,
    ⟨some (14, false), .lens 16 (.t 15)⟩,
    ⟨some (14, false), .bin 17 .gtr (.t 16) (.c (.int .i64 60))⟩,
    ⟨none, .pick 18 (.t 14) (.c (.bool true)) (.t 17)⟩] []) ir_law4_SixtyAll_3) ir_law4_SixtyAll_7)
def ir_law4_SixtyAll_9 : IR := (.seq (.seq (.reg [⟨none, .call (some 9) 6 []⟩,
    ⟨none, .un 10 .not (.t 9)⟩] []) ir_law4_SixtyAll_1) ir_law4_SixtyAll_8)
def ir_law4_SixtyAll : IR := (.seq (.reg [⟨none, .mov 4 (.c (.bool false))⟩] []) ir_law4_SixtyAll_9)
def rs_law4_SixtyAll : List RV := [.t 4]
theorem chk_law4_SixtyAll : (chkCode Tryd.prog [] 0 ir_law4_SixtyAll (Tryd.f3.body.getD .skip) && chkRes Tryd.prog rs_law4_SixtyAll Tryd.f3.results.toList) = true := by kernel_rfl
theorem body_law4_SixtyAll : Tryd.f3.body = some (Tryd.f3.body.getD .skip) := by kernel_rfl
/-- proclitic/procliticlaw4.SixtyAll -/
def sa_law4_SixtyAll (N : Nat) (p0 : List UInt8) (p1 : List UInt8)  : Option (V × List AObj) :=
  let x1 : Int := (↑(List.length p0) : Int)
  cond (decide (60 < x1)) (
    some (.bool true, [])) (
    let x2 : Int := (↑(List.length p1) : Int)
    cond (decide (60 < x2)) (
      some (.bool true, [])) (
      chk (decide (List.length p1 ≤ 1000)) (
        chk (decide (List.length p1 ≤ 1000)) (
          chk (decide (List.length p0 ≤ 1000)) (
            chk (decide (List.length p0 ≤ 1000)) (
              let x3 : Bool := decide ((putS p0) = (putS p0))
              cond x3 (
                let x4 : Bool := decide ((takeT p1) = (takeT p1))
                cond x4 (
                  let x5 : Bool := ((takeE p1) == (takeE p1))
                  some (.bool x5, [])) (
                  some (.bool false, []))) (
                some (.bool false, []))))))))
def sh_law4_SixtyAll (N : Nat) (p0 : List UInt8) (p1 : List UInt8) : Option (V × List AObj) := sa_law4_SixtyAll N p0 p1
theorem run_law4_SixtyAll (N : Nat) (p0 : List UInt8) (p1 : List UInt8) : callF Γ_law4_SixtyAll N 44 rs_law4_SixtyAll ir_law4_SixtyAll [.str p0, .str p1] [] = sh_law4_SixtyAll N p0 p1 := by kernel_rfl
theorem ok_law4_SixtyAll (hΓ : SpecOK Tryd.prog Γ_law4_SixtyAll) (N : Nat) (p0 : List UInt8) (p1 : List UInt8) {v : V} {hp : List AObj} (h : sh_law4_SixtyAll N p0 p1 = some (v, hp)) : PureOK Tryd.prog i_law4_SixtyAll [.str p0, .str p1] v := by
  have hc := chk_law4_SixtyAll
  simp only [Bool.and_eq_true] at hc
  exact ⟨hp, fnOK_of hΓ pureS_law4_SixtyAll Tryd.func3 body_law4_SixtyAll hc.1 hc.2 (by decide) ((run_law4_SixtyAll N p0 p1).trans h)⟩

end Go.Proofs.YtmiclamhiohemaaDoor
