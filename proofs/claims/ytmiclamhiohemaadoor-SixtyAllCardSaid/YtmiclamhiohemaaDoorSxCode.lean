/-
  The plain functions that runs of the code are: written by wip/gen/gen.py.
-/
import Derived.Test.YtmiclamhiohemaaDoorAmLaw
import Derived.Test.YtmiclamhiohemaaDoorAmOne
import Derived.Test.YtmiclamhiohemaaDoorSxSpec
import Derived.Test.YtmiclamhiohemaaDoorLbB
import Derived.Test.YtmiclamhiohemaaDoorChecked
import Derived.KernelRfl
namespace Go.Proofs.YtmiclamhiohemaaDoor
open Go.AM
set_option autoImplicit false
set_option linter.unusedVariables false
set_option maxRecDepth 100000
abbrev i_internal_stringslite_IndexByte : FuncId := 20
abbrev i_law4_SixtyJoins : FuncId := 5
abbrev i_law4_begun : FuncId := 6
abbrev i_ref1_Sixty : FuncId := 10
abbrev i_ref1_TakeSixty : FuncId := 8
abbrev i_sixty_Put : FuncId := 9
abbrev i_sixty_Take : FuncId := 7
abbrev i_sixty_four : FuncId := 14
abbrev i_strings_IndexByte : FuncId := 12
abbrev i_strings_TrimRight : FuncId := 11
abbrev i_strings_trimRightByte : FuncId := 16
def G_sixty_four : Nat → List V → Option (Bool × V) := fun _ _ => none
def Γ_sixty_four : ASpec := liftG G_sixty_four
theorem pureS_sixty_four : PureS Γ_sixty_four [] := liftG_pure _ _
theorem spec_sixty_four  : SpecOK Tryd.prog Γ_sixty_four := by
  intro f vs hp v hp' h
  obtain ⟨h, -⟩ := liftG_inv h
  simp [G_sixty_four] at h
def ir_sixty_four_0 : IR := (.cond (.t 15) (.reg [⟨none, .mov 16 (.t 3)⟩,
    ⟨none, .mov 17 (.t 0)⟩,
    ⟨none, .mov 18 (.t 4)⟩,
    ⟨none, .idx 19 (.t 17) (.t 18)⟩,
    ⟨none, .cvi 20 .i64 (.t 19)⟩,
    ⟨none, .bin 21 .or (.t 16) (.t 20)⟩,
    ⟨none, .mov 3 (.t 21)⟩] []) .skip)
def ir_sixty_four_1 : IR := (.seq (.reg [⟨none, .mov 12 (.t 4)⟩,
    ⟨none, .mov 13 (.t 0)⟩,
    ⟨none, .lens 14 (.t 13)⟩,
    ⟨none, .bin 15 .lss (.t 12) (.t 14)⟩] []) ir_sixty_four_0)
def ir_sixty_four_2 : IR := (.seq (.reg [⟨none, .mov 10 (.t 3)⟩,
    ⟨none, .bin 11 .shl (.t 10) (.c (.int .u64 8))⟩,
    ⟨none, .mov 3 (.t 11)⟩] []) ir_sixty_four_1)
def ir_sixty_four_3 : IR := (.reg [⟨none, .bin 22 .add (.t 7) (.c (.int .i64 1))⟩,
    ⟨none, .mov 7 (.t 22)⟩] [])
def ir_sixty_four_4 : IR := (.seq (.block 1 (.seq (.reg [⟨none, .mov 9 (.t 7)⟩,
    ⟨none, .mov 4 (.t 9)⟩] []) ir_sixty_four_2)) ir_sixty_four_3)
def ir_sixty_four_5 : IR := (.seq (.cond (.t 8) .skip (.exit 0)) ir_sixty_four_4)
def ir_sixty_four_6 : IR := (.seq (.reg [⟨none, .bin 8 .lss (.t 7) (.c (.int .i64 3))⟩] []) ir_sixty_four_5)
def ir_sixty_four_7 : IR := (.block 0 (.loop [0, 3, 7] 0 ir_sixty_four_6))
def ir_sixty_four_8 : IR := (.reg [⟨none, .mov 30 (.t 5)⟩,
    ⟨none, .mov 31 (.t 6)⟩,
    ⟨none, .mov 32 (.t 3)⟩,
    ⟨none, .mov 33 (.t 6)⟩,
    ⟨none, .bin 34 .mul (.c (.int .i64 6)) (.t 33)⟩,
    ⟨none, .bin 35 .sub (.c (.int .i64 18)) (.t 34)⟩,
    ⟨none, .bin 36 .shr (.t 32) (.t 35)⟩,
    ⟨none, .bin 37 .and (.t 36) (.c (.int .i64 63))⟩,
    ⟨none, .idx 38 (.c (.str ([65, 66, 67, 68, 69, 70, 71, 72, 73, 74, 75, 76, 77, 78, 79, 80, 81, 82, 83, 84, 85, 86, 87, 88, 89, 90, 97, 98, 99, 100, 101, 102, 103, 104, 105, 106, 107, 108, 109, 110, 111, 112, 113, 114, 115, 116, 117, 118, 119, 120, 121, 122, 48, 49, 50, 51, 52, 53, 54, 55, 56, 57, 43, 47] : List UInt8))) (.t 37)⟩,
    ⟨none, .ixo 39 (.t 30) (.t 31)⟩,
    ⟨none, .sto none (.t 39) (.t 38)⟩] [])
def ir_sixty_four_9 : IR := (.reg [⟨none, .bin 40 .add (.t 27) (.c (.int .i64 1))⟩,
    ⟨none, .mov 27 (.t 40)⟩] [])
def ir_sixty_four_10 : IR := (.seq (.block 3 (.seq (.reg [⟨none, .mov 29 (.t 27)⟩,
    ⟨none, .mov 6 (.t 29)⟩] []) ir_sixty_four_8)) ir_sixty_four_9)
def ir_sixty_four_11 : IR := (.seq (.cond (.t 28) .skip (.exit 2)) ir_sixty_four_10)
def ir_sixty_four_12 : IR := (.seq (.reg [⟨none, .bin 28 .lss (.t 27) (.t 26)⟩] []) ir_sixty_four_11)
def ir_sixty_four_13 : IR := (.block 2 (.loop [3, 5, 26, 27] 1 ir_sixty_four_12))
def ir_sixty_four_14 : IR := .ret
def ir_sixty_four_15 : IR := (.seq (.reg [⟨none, .mov 41 (.t 5)⟩,
    ⟨none, .o2s 42 (.t 41)⟩,
    ⟨none, .mov 2 (.t 42)⟩] []) ir_sixty_four_14)
def ir_sixty_four_16 : IR := (.seq (.seq (.reg [⟨none, .mov 24 (.t 0)⟩,
    ⟨none, .lens 25 (.t 24)⟩,
    ⟨none, .bin 26 .add (.t 25) (.c (.int .i64 1))⟩,
    ⟨none, .mov 27 (.c (.int .i64 0))⟩] []) ir_sixty_four_13) ir_sixty_four_15)
def ir_sixty_four_17 : IR := (.seq (.reg [⟨none, .blo 23 [(.c (.int .u8 61)), (.c (.int .u8 61)), (.c (.int .u8 61)), (.c (.int .u8 61))]⟩,
    ⟨none, .mov 5 (.t 23)⟩] []) ir_sixty_four_16)
def ir_sixty_four_18 : IR := (.seq (.seq (.reg [⟨none, .mov 7 (.c (.int .i64 0))⟩] []) ir_sixty_four_7) ir_sixty_four_17)
def ir_sixty_four_19 : IR := (.seq (.reg [⟨none, .mov 3 (.c (.int .i64 0))⟩] []) ir_sixty_four_18)
def ir_sixty_four : IR := (.seq (.reg [⟨none, .mov 2 (.c (.str ([] : List UInt8)))⟩] []) ir_sixty_four_19)
def rs_sixty_four : List RV := [.t 2]
theorem chk_sixty_four : (chkCode Tryd.prog [] 0 ir_sixty_four (Tryd.f14.body.getD .skip) && chkRes Tryd.prog rs_sixty_four Tryd.f14.results.toList) = true := by kernel_rfl
theorem body_sixty_four : Tryd.f14.body = some (Tryd.f14.body.getD .skip) := by kernel_rfl
def mk_sixty_four_0 (x : (List UInt8 × Int × Int)) : St := { env := [.str x.1, .undef, .undef, .int .i64 x.2.1, .undef, .undef, .undef, .int .i64 x.2.2, .undef, .undef, .undef, .undef, .undef, .undef, .undef, .undef, .undef, .undef, .undef, .undef, .undef, .undef, .undef, .undef, .undef, .undef, .undef, .undef, .undef, .undef, .undef, .undef, .undef, .undef, .undef, .undef, .undef, .undef, .undef, .undef, .undef, .undef, .undef], hp := [] }
def mk_sixty_four_1 (x : (Int × Nat × Int × Int × List UInt8)) : St := { env := [.undef, .undef, .undef, .int .i64 x.1, .undef, .so 0 x.2.1, .undef, .undef, .undef, .undef, .undef, .undef, .undef, .undef, .undef, .undef, .undef, .undef, .undef, .undef, .undef, .undef, .undef, .undef, .undef, .undef, .int .i64 x.2.2.1, .int .i64 x.2.2.2.1, .undef, .undef, .undef, .undef, .undef, .undef, .undef, .undef, .undef, .undef, .undef, .undef, .undef, .undef, .undef], hp := [some [.rb x.2.2.2.2]] }
def F_sixty_four_1 (N : Nat) : (St → Option (V × List AObj)) → St → Option (V × List AObj) := fun again1 s => run Γ_sixty_four N ir_sixty_four_12 (kloop again1 [3, 5, 26, 27] 1 (kblock 2 (kseq (run Γ_sixty_four N ir_sixty_four_15) (fin rs_sixty_four)))) s
def B_sixty_four_1 (N : Nat) (again1 : (Int × Nat × Int × Int × List UInt8) → Option (V × List AObj)) (x : (Int × Nat × Int × Int × List UInt8)) : Option (V × List AObj) :=
  let v3 : Int := x.1
  let v5 : Nat := x.2.1
  let v26 : Int := x.2.2.1
  let v27 : Int := x.2.2.2.1
  let o0_0 : List UInt8 := x.2.2.2.2
  cond (decide (v27 < v26)) (
    let x8 : Int := (IntKind.wrap .i64 (6 * v27))
    let x9 : Int := (IntKind.wrap .i64 (18 - x8))
    chk (decide (0 ≤ x9)) (
      let x10 : Int := (bitsI .and .i64 (shrI .i64 v3 x9) 63)
      chk ((decide (0 ≤ x10) && decide (x10 < ↑(List.length ([65, 66, 67, 68, 69, 70, 71, 72, 73, 74, 75, 76, 77, 78, 79, 80, 81, 82, 83, 84, 85, 86, 87, 88, 89, 90, 97, 98, 99, 100, 101, 102, 103, 104, 105, 106, 107, 108, 109, 110, 111, 112, 113, 114, 115, 116, 117, 118, 119, 120, 121, 122, 48, 49, 50, 51, 52, 53, 54, 55, 56, 57, 43, 47] : List UInt8))))) (
        let x11 : Int := (↑(UInt8.toNat (List.getD ([65, 66, 67, 68, 69, 70, 71, 72, 73, 74, 75, 76, 77, 78, 79, 80, 81, 82, 83, 84, 85, 86, 87, 88, 89, 90, 97, 98, 99, 100, 101, 102, 103, 104, 105, 106, 107, 108, 109, 110, 111, 112, 113, 114, 115, 116, 117, 118, 119, 120, 121, 122, 48, 49, 50, 51, 52, 53, 54, 55, 56, 57, 43, 47] : List UInt8) (Int.toNat x10) 0)) : Int)
        chk ((decide (0 ≤ (v27 : Int)) && decide ((v27 : Int) < ↑v5))) (
          chk (decide ((Int.toNat v27) < List.length o0_0)) (
            let x12 : Int := (IntKind.wrap .i64 (v27 + 1))
            again1 (v3, v5, v26, x12, (List.set o0_0 (Int.toNat v27) (UInt8.ofNat (Int.toNat x11))))))))) (
    chk (decide (v5 ≤ List.length o0_0)) (
      some (.str (List.take v5 o0_0), [some [.rb o0_0]])))
theorem FB_sixty_four_1 (N : Nat) : ∀ (again1 : St → Option (V × List AObj)) (x : (Int × Nat × Int × Int × List UInt8)), F_sixty_four_1 N again1 (mk_sixty_four_1 x) = B_sixty_four_1 N (fun y => again1 (mk_sixty_four_1 y)) x := by
  intro again1 x
  kernel_rfl
def F_sixty_four_0 (N : Nat) : (St → Option (V × List AObj)) → St → Option (V × List AObj) := fun again0 s => run Γ_sixty_four N ir_sixty_four_6 (kloop again0 [0, 3, 7] 0 (kblock 0 (kseq (run Γ_sixty_four N ir_sixty_four_17) (fin rs_sixty_four)))) s
def BA_sixty_four_0 (N : Nat) (again0 : (List UInt8 × Int × Int) → Option (V × List AObj)) (q1 : (Int × Nat × Int × Int × List UInt8) → Option (V × List AObj)) (x : (List UInt8 × Int × Int)) : Option (V × List AObj) :=
  let v0 : List UInt8 := x.1
  let v3 : Int := x.2.1
  let v7 : Int := x.2.2
  cond (decide (v7 < 3)) (
    let x1 : Int := (↑(List.length v0) : Int)
    cond (decide (v7 < x1)) (
      chk ((decide (0 ≤ v7) && decide (v7 < ↑(List.length v0)))) (
        let x2 : Int := (↑(UInt8.toNat (List.getD v0 (Int.toNat v7) 0)) : Int)
        let x3 : Int := (bitsI .or .i64 (shlI .i64 v3 8) (IntKind.wrap .i64 x2))
        let x4 : Int := (IntKind.wrap .i64 (v7 + 1))
        again0 (v0, x3, x4))) (
      let x5 : Int := (IntKind.wrap .i64 (v7 + 1))
      again0 (v0, (shlI .i64 v3 8), x5))) (
    let x6 : Int := (↑(List.length v0) : Int)
    let x7 : Int := (IntKind.wrap .i64 (x6 + 1))
    q1 (v3, 4, x7, 0, ([(UInt8.ofNat (Int.toNat 61)), (UInt8.ofNat (Int.toNat 61)), (UInt8.ofNat (Int.toNat 61)), (UInt8.ofNat (Int.toNat 61))] : List UInt8)))
def B_sixty_four_0 (N : Nat) (again0 : (List UInt8 × Int × Int) → Option (V × List AObj)) (x : (List UInt8 × Int × Int)) : Option (V × List AObj) := BA_sixty_four_0 N again0 (fun z => iterL N (B_sixty_four_1 N) z) x
theorem FB_sixty_four_0 (N : Nat) : ∀ (again0 : St → Option (V × List AObj)) (x : (List UInt8 × Int × Int)), F_sixty_four_0 N again0 (mk_sixty_four_0 x) = B_sixty_four_0 N (fun y => again0 (mk_sixty_four_0 y)) x := by
  intro again0 x
  have h : F_sixty_four_0 N again0 (mk_sixty_four_0 x) = BA_sixty_four_0 N (fun y => again0 (mk_sixty_four_0 y)) (fun z => loopN N (F_sixty_four_1 N) (mk_sixty_four_1 z)) x := by kernel_rfl
  have e1 : (fun z => loopN N (F_sixty_four_1 N) (mk_sixty_four_1 z)) = (fun z => iterL N (B_sixty_four_1 N) z) := funext fun z => loop_eq (mk_sixty_four_1) (F_sixty_four_1 N) (B_sixty_four_1 N) (FB_sixty_four_1 N) N z
  rw [h, e1]
  rfl
/-- proclitic/sixty.four -/
def sa_sixty_four (N : Nat) (p0 : List UInt8) (q0 : (List UInt8 × Int × Int) → Option (V × List AObj)) : Option (V × List AObj) :=
  q0 (p0, 0, 0)
def sh_sixty_four (N : Nat) (p0 : List UInt8) : Option (V × List AObj) := sa_sixty_four N p0 (fun z => iterL N (B_sixty_four_0 N) z)
theorem run_sixty_four (N : Nat) (p0 : List UInt8) : callF Γ_sixty_four N 43 rs_sixty_four ir_sixty_four [.str p0] [] = sh_sixty_four N p0 := by
  have h : callF Γ_sixty_four N 43 rs_sixty_four ir_sixty_four [.str p0] [] = sa_sixty_four N p0 (fun z => loopN N (F_sixty_four_0 N) (mk_sixty_four_0 z)) := by kernel_rfl
  have e0 : (fun z => loopN N (F_sixty_four_0 N) (mk_sixty_four_0 z)) = (fun z => iterL N (B_sixty_four_0 N) z) := funext fun z => loop_eq (mk_sixty_four_0) (F_sixty_four_0 N) (B_sixty_four_0 N) (FB_sixty_four_0 N) N z
  rw [h, e0]
  rfl
theorem ok_sixty_four (hΓ : SpecOK Tryd.prog Γ_sixty_four) (N : Nat) (p0 : List UInt8) {v : V} {hp : List AObj} (h : sh_sixty_four N p0 = some (v, hp)) : PureOK Tryd.prog i_sixty_four [.str p0] v := by
  have hc := chk_sixty_four
  simp only [Bool.and_eq_true] at hc
  exact ⟨hp, fnOK_of hΓ pureS_sixty_four Tryd.func14 body_sixty_four hc.1 hc.2 (by decide) ((run_sixty_four N p0).trans h)⟩

def G_sixty_Put : Nat → List V → Option (Bool × V) := fun f vs => match f, vs with
  | 14, [.str a0] => some (decide (List.length a0 ≤ 3), .str (fourS a0))
  | _, _ => none
def Γ_sixty_Put : ASpec := withB (liftG G_sixty_Put)
theorem pureS_sixty_Put : PureS Γ_sixty_Put [13, 15] := (withB_pure (liftG_pure _ _)).mono (by decide)
theorem spec_sixty_Put (h_sixty_four : ∀ (a0 : List UInt8), (decide (List.length a0 ≤ 3)) = true → PureOK Tryd.prog i_sixty_four [.str a0] (.str (fourS a0))) : SpecOK Tryd.prog Γ_sixty_Put := by
  refine withB_ok ?_
  intro f vs hp v hp' h0
  obtain ⟨h, he⟩ := liftG_inv h0
  subst he
  unfold G_sixty_Put at h
  split at h
  · simp only [Option.some.injEq, Prod.mk.injEq] at h
    obtain ⟨hc, rfl⟩ := h
    exact (h_sixty_four _ hc).frame rfl rfl _
  · simp at h
def ir_sixty_Put_0 : IR := (.cond (.t 6) .skip (.exit 0))
def ir_sixty_Put_1 : IR := (.reg [⟨none, .mov 15 (.t 0)⟩,
    ⟨none, .mov 16 (.t 4)⟩,
    ⟨none, .subs 17 (.t 15) (some (.t 16)) none⟩,
    ⟨none, .mov 0 (.t 17)⟩] [])
def ir_sixty_Put_2 : IR := (.seq (.reg [⟨none, .mov 10 (.t 0)⟩,
    ⟨none, .mov 11 (.t 4)⟩,
    ⟨none, .subs 12 (.t 10) none (some (.t 11))⟩,
    ⟨none, .call (some 13) 14 [(.t 12)]⟩,
    ⟨none, .call (some 14) 13 [(.t 3), (.t 13)]⟩] []) ir_sixty_Put_1)
def ir_sixty_Put_3 : IR := (.block 1 (.seq (.reg [⟨none, .mov 7 (.t 0)⟩,
    ⟨none, .lens 8 (.t 7)⟩,
    ⟨none, .mx 9 true (.t 8) (.c (.int .i64 3))⟩,
    ⟨none, .mov 4 (.t 9)⟩] []) ir_sixty_Put_2))
def ir_sixty_Put_4 : IR := (.seq (.seq (.reg [⟨none, .mov 5 (.t 0)⟩,
    ⟨none, .bin 6 .neq (.t 5) (.c (.str ([] : List UInt8)))⟩] []) ir_sixty_Put_0) ir_sixty_Put_3)
def ir_sixty_Put_5 : IR := .ret
def ir_sixty_Put_6 : IR := (.seq (.reg [⟨none, .call (some 18) 15 [(.t 3)]⟩,
    ⟨none, .mov 2 (.t 18)⟩] []) ir_sixty_Put_5)
def ir_sixty_Put_7 : IR := (.seq (.block 0 (.loop [0, 3] 1 ir_sixty_Put_4)) ir_sixty_Put_6)
def ir_sixty_Put_8 : IR := (.seq (.reg [⟨none, .newb 3 [.bn 35 2, .sl .u8 true ([] : List UInt8)]⟩] []) ir_sixty_Put_7)
def ir_sixty_Put : IR := (.seq (.reg [⟨none, .mov 2 (.c (.str ([] : List UInt8)))⟩] []) ir_sixty_Put_8)
def rs_sixty_Put : List RV := [.t 2]
theorem chk_sixty_Put : (chkCode Tryd.prog [13, 15] 0 ir_sixty_Put (Tryd.f9.body.getD .skip) && chkRes Tryd.prog rs_sixty_Put Tryd.f9.results.toList) = true := by kernel_rfl
theorem body_sixty_Put : Tryd.f9.body = some (Tryd.f9.body.getD .skip) := by kernel_rfl
def mk_sixty_Put_0 (x : (List UInt8 × List UInt8)) : St := { env := [.str x.1, .undef, .undef, .ptr 0 0, .undef, .undef, .undef, .undef, .undef, .undef, .undef, .undef, .undef, .undef, .undef, .undef, .undef, .undef, .undef], hp := [some [.bn 35 2, .sl .u8 true x.2]] }
def F_sixty_Put_0 (N : Nat) : (St → Option (V × List AObj)) → St → Option (V × List AObj) := fun again0 s => run Γ_sixty_Put N ir_sixty_Put_4 (kloop again0 [0, 3] 1 (kblock 0 (kseq (run Γ_sixty_Put N ir_sixty_Put_6) (fin rs_sixty_Put)))) s
def B_sixty_Put_0 (N : Nat) (again0 : (List UInt8 × List UInt8) → Option (V × List AObj)) (x : (List UInt8 × List UInt8)) : Option (V × List AObj) :=
  let v0 : List UInt8 := x.1
  let o0_1 : List UInt8 := x.2
  let x1 : Bool := (!decide (v0 = ([] : List UInt8)))
  cond x1 (
    let x2 : Int := (↑(List.length v0) : Int)
    let x3 : Int := (if 3 < x2 then 3 else x2)
    chk ((decide (0 ≤ x3) && decide (x3 ≤ (↑(List.length v0) : Int)))) (
      let x4 : List UInt8 := (List.drop 0 (List.take (Int.toNat x3) v0))
      chk (decide (List.length x4 ≤ 3)) (
        chk (decide (List.length o0_1 + List.length (fourS x4) ≤ 140737488355328)) (
          let x5 : Int := (↑(List.length (fourS x4)) : Int)
          chk ((decide (0 ≤ x3) && decide (x3 ≤ (↑(List.length v0) : Int)))) (
            let x6 : List UInt8 := (List.drop (Int.toNat x3) (List.take (List.length v0) v0))
            again0 (x6, (o0_1 ++ (fourS x4)))))))) (
    some (.str o0_1, [some [.bn 35 2, .sl .u8 false o0_1]]))
theorem FB_sixty_Put_0 (N : Nat) : ∀ (again0 : St → Option (V × List AObj)) (x : (List UInt8 × List UInt8)), F_sixty_Put_0 N again0 (mk_sixty_Put_0 x) = B_sixty_Put_0 N (fun y => again0 (mk_sixty_Put_0 y)) x := by
  intro again0 x
  kernel_rfl
/-- proclitic/sixty.Put -/
def sa_sixty_Put (N : Nat) (p0 : List UInt8) (q0 : (List UInt8 × List UInt8) → Option (V × List AObj)) : Option (V × List AObj) :=
  q0 (p0, ([] : List UInt8))
def sh_sixty_Put (N : Nat) (p0 : List UInt8) : Option (V × List AObj) := sa_sixty_Put N p0 (fun z => iterL N (B_sixty_Put_0 N) z)
theorem run_sixty_Put (N : Nat) (p0 : List UInt8) : callF Γ_sixty_Put N 19 rs_sixty_Put ir_sixty_Put [.str p0] [] = sh_sixty_Put N p0 := by
  have h : callF Γ_sixty_Put N 19 rs_sixty_Put ir_sixty_Put [.str p0] [] = sa_sixty_Put N p0 (fun z => loopN N (F_sixty_Put_0 N) (mk_sixty_Put_0 z)) := by kernel_rfl
  have e0 : (fun z => loopN N (F_sixty_Put_0 N) (mk_sixty_Put_0 z)) = (fun z => iterL N (B_sixty_Put_0 N) z) := funext fun z => loop_eq (mk_sixty_Put_0) (F_sixty_Put_0 N) (B_sixty_Put_0 N) (FB_sixty_Put_0 N) N z
  rw [h, e0]
  rfl
theorem ok_sixty_Put (hΓ : SpecOK Tryd.prog Γ_sixty_Put) (N : Nat) (p0 : List UInt8) {v : V} {hp : List AObj} (h : sh_sixty_Put N p0 = some (v, hp)) : PureOK Tryd.prog i_sixty_Put [.str p0] v := by
  have hc := chk_sixty_Put
  simp only [Bool.and_eq_true] at hc
  exact ⟨hp, fnOK_of hΓ pureS_sixty_Put Tryd.func9 body_sixty_Put hc.1 hc.2 (by decide) ((run_sixty_Put N p0).trans h)⟩

def G_sixty_Take : Nat → List V → Option (Bool × V) := fun f vs => match f, vs with
  | 9, [.str a0] => some (decide (List.length a0 ≤ 1000), .str (putS a0))
  | 11, [.str a0, .str a1] => some (decide (a1 = [61]), .str (trimS a0))
  | 12, [.str a0, .int .u8 a1] => some (true, .int .i64 (indexB a0 a1))
  | _, _ => none
def Γ_sixty_Take : ASpec := liftG G_sixty_Take
theorem pureS_sixty_Take : PureS Γ_sixty_Take [] := liftG_pure _ _
theorem spec_sixty_Take (h_sixty_Put : ∀ (a0 : List UInt8), (decide (List.length a0 ≤ 1000)) = true → PureOK Tryd.prog i_sixty_Put [.str a0] (.str (putS a0))) (h_strings_TrimRight : ∀ (a0 : List UInt8) (a1 : List UInt8), (decide (a1 = [61])) = true → PureOK Tryd.prog i_strings_TrimRight [.str a0, .str a1] (.str (trimS a0))) (h_strings_IndexByte : ∀ (a0 : List UInt8) (a1 : Int), PureOK Tryd.prog i_strings_IndexByte [.str a0, .int .u8 a1] (.int .i64 (indexB a0 a1))) : SpecOK Tryd.prog Γ_sixty_Take := by
  intro f vs hp v hp' h0
  obtain ⟨h, he⟩ := liftG_inv h0
  subst he
  unfold G_sixty_Take at h
  split at h
  · simp only [Option.some.injEq, Prod.mk.injEq] at h
    obtain ⟨hc, rfl⟩ := h
    exact (h_sixty_Put _ hc).frame rfl rfl _
  · simp only [Option.some.injEq, Prod.mk.injEq] at h
    obtain ⟨hc, rfl⟩ := h
    exact (h_strings_TrimRight _ _ hc).frame rfl rfl _
  · simp only [Option.some.injEq, Prod.mk.injEq] at h
    obtain ⟨hc, rfl⟩ := h
    exact (h_strings_IndexByte _ _).frame rfl rfl _
  · simp at h
def ir_sixty_Take_0 : IR := .ret
def ir_sixty_Take_1 : IR := (.cond (.t 20) (.seq (.reg [⟨none, .mov 2 (.c (.str ([] : List UInt8)))⟩,
    ⟨none, .mov 3 (.c (.int .i64 2))⟩] []) ir_sixty_Take_0) .skip)
def ir_sixty_Take_2 : IR := (.reg [⟨none, .mov 32 (.tk 4)⟩,
    ⟨none, .mov 33 (.t 5)⟩,
    ⟨none, .mov 34 (.t 6)⟩,
    ⟨none, .bin 35 .shr (.t 33) (.t 34)⟩,
    ⟨none, .cvi 36 .u8 (.t 35)⟩,
    ⟨none, .bsl 37 .u8 [(.t 36)]⟩,
    ⟨none, .app 38 .u8 (.tk 32) (.t 37)⟩,
    ⟨none, .mov 4 (.tk 38)⟩] [])
def ir_sixty_Take_3 : IR := (.cond (.t 29) (.seq (.reg [⟨none, .mov 30 (.t 6)⟩,
    ⟨none, .bin 31 .sub (.t 30) (.c (.int .i64 8))⟩,
    ⟨none, .mov 6 (.t 31)⟩] []) ir_sixty_Take_2) .skip)
def ir_sixty_Take_4 : IR := (.seq (.reg [⟨none, .mov 28 (.t 6)⟩,
    ⟨none, .bin 29 .geq (.t 28) (.c (.int .i64 8))⟩] []) ir_sixty_Take_3)
def ir_sixty_Take_5 : IR := (.seq (.reg [⟨none, .mov 21 (.t 5)⟩,
    ⟨none, .bin 22 .shl (.t 21) (.c (.int .u64 6))⟩,
    ⟨none, .mov 23 (.t 8)⟩,
    ⟨none, .bin 24 .or (.t 22) (.t 23)⟩,
    ⟨none, .bin 25 .and (.t 24) (.c (.int .i64 65535))⟩,
    ⟨none, .mov 26 (.t 6)⟩,
    ⟨none, .bin 27 .add (.t 26) (.c (.int .i64 6))⟩,
    ⟨none, .mov 5 (.t 25)⟩,
    ⟨none, .mov 6 (.t 27)⟩] []) ir_sixty_Take_4)
def ir_sixty_Take_6 : IR := (.seq (.seq (.reg [⟨none, .mov 19 (.t 8)⟩,
    ⟨none, .bin 20 .lss (.t 19) (.c (.int .i64 0))⟩] []) ir_sixty_Take_1) ir_sixty_Take_5)
def ir_sixty_Take_7 : IR := (.seq (.reg [⟨none, .mov 15 (.t 0)⟩,
    ⟨none, .mov 16 (.t 7)⟩,
    ⟨none, .idx 17 (.t 15) (.t 16)⟩,
    ⟨none, .call (some 18) 12 [(.c (.str ([65, 66, 67, 68, 69, 70, 71, 72, 73, 74, 75, 76, 77, 78, 79, 80, 81, 82, 83, 84, 85, 86, 87, 88, 89, 90, 97, 98, 99, 100, 101, 102, 103, 104, 105, 106, 107, 108, 109, 110, 111, 112, 113, 114, 115, 116, 117, 118, 119, 120, 121, 122, 48, 49, 50, 51, 52, 53, 54, 55, 56, 57, 43, 47] : List UInt8))), (.t 17)]⟩,
    ⟨none, .mov 8 (.t 18)⟩] []) ir_sixty_Take_6)
def ir_sixty_Take_8 : IR := (.reg [⟨none, .bin 39 .add (.t 12) (.c (.int .i64 1))⟩,
    ⟨none, .mov 12 (.t 39)⟩] [])
def ir_sixty_Take_9 : IR := (.seq (.block 1 (.seq (.reg [⟨none, .mov 14 (.t 12)⟩,
    ⟨none, .mov 7 (.t 14)⟩] []) ir_sixty_Take_7)) ir_sixty_Take_8)
def ir_sixty_Take_10 : IR := (.seq (.cond (.t 13) .skip (.exit 0)) ir_sixty_Take_9)
def ir_sixty_Take_11 : IR := (.seq (.reg [⟨none, .bin 13 .lss (.t 12) (.t 11)⟩] []) ir_sixty_Take_10)
def ir_sixty_Take_12 : IR := (.block 0 (.loop [0, 4, 5, 6, 11, 12] 0 ir_sixty_Take_11))
def ir_sixty_Take_13 : IR := .ret
def ir_sixty_Take_14 : IR := (.cond (.t 44) (.seq (.reg [⟨none, .mov 2 (.c (.str ([] : List UInt8)))⟩,
    ⟨none, .mov 3 (.c (.int .i64 2))⟩] []) ir_sixty_Take_13) .skip)
def ir_sixty_Take_15 : IR := .ret
def ir_sixty_Take_16 : IR := (.seq (.reg [⟨none, .mov 45 (.t 4)⟩,
    ⟨none, .b2s 46 (.t 45)⟩,
    ⟨none, .mov 2 (.t 46)⟩,
    ⟨none, .mov 3 (.c (.int .i64 0))⟩] []) ir_sixty_Take_15)
def ir_sixty_Take_17 : IR := (.seq (.seq (.reg [⟨none, .mov 40 (.t 4)⟩,
    ⟨none, .b2s 41 (.t 40)⟩,
    ⟨none, .call (some 42) 9 [(.t 41)]⟩,
    ⟨none, .mov 43 (.t 0)⟩,
    ⟨none, .bin 44 .neq (.t 42) (.t 43)⟩] []) ir_sixty_Take_14) ir_sixty_Take_16)
def ir_sixty_Take_18 : IR := (.seq (.seq (.reg [⟨none, .mov 9 (.t 0)⟩,
    ⟨none, .call (some 10) 11 [(.t 9), (.c (.str ([61] : List UInt8)))]⟩,
    ⟨none, .lens 11 (.t 10)⟩,
    ⟨none, .mov 12 (.c (.int .i64 0))⟩] []) ir_sixty_Take_12) ir_sixty_Take_17)
def ir_sixty_Take_19 : IR := (.seq (.reg [⟨none, .mov 5 (.c (.int .i64 0))⟩,
    ⟨none, .mov 6 (.c (.int .i64 0))⟩] []) ir_sixty_Take_18)
def ir_sixty_Take_20 : IR := (.seq (.reg [⟨none, .mov 4 (.c (.sl .u8 true ([] : List UInt8)))⟩] []) ir_sixty_Take_19)
def ir_sixty_Take : IR := (.seq (.reg [⟨none, .mov 2 (.c (.str ([] : List UInt8)))⟩,
    ⟨none, .mov 3 (.c (.int .i64 0))⟩] []) ir_sixty_Take_20)
def rs_sixty_Take : List RV := [.t 2, .t 3]
theorem chk_sixty_Take : (chkCode Tryd.prog [] 0 ir_sixty_Take (Tryd.f7.body.getD .skip) && chkRes Tryd.prog rs_sixty_Take Tryd.f7.results.toList) = true := by kernel_rfl
theorem body_sixty_Take : Tryd.f7.body = some (Tryd.f7.body.getD .skip) := by kernel_rfl
def mk_sixty_Take_0 (x : (List UInt8 × List UInt8 × Int × Int × Int × Int)) : St := { env := [.str x.1, .undef, .undef, .undef, .sl .u8 true x.2.1, .int .i64 x.2.2.1, .int .i64 x.2.2.2.1, .undef, .undef, .undef, .undef, .int .i64 x.2.2.2.2.1, .int .i64 x.2.2.2.2.2, .undef, .undef, .undef, .undef, .undef, .undef, .undef, .undef, .undef, .undef, .undef, .undef, .undef, .undef, .undef, .undef, .undef, .undef, .undef, .undef, .undef, .undef, .undef, .undef, .undef, .undef, .undef, .undef, .undef, .undef, .undef, .undef, .undef, .undef], hp := [] }
def F_sixty_Take_0 (N : Nat) : (St → Option (V × List AObj)) → St → Option (V × List AObj) := fun again0 s => run Γ_sixty_Take N ir_sixty_Take_11 (kloop again0 [0, 4, 5, 6, 11, 12] 0 (kblock 0 (kseq (run Γ_sixty_Take N ir_sixty_Take_17) (fin rs_sixty_Take)))) s
def B_sixty_Take_0 (N : Nat) (again0 : (List UInt8 × List UInt8 × Int × Int × Int × Int) → Option (V × List AObj)) (x : (List UInt8 × List UInt8 × Int × Int × Int × Int)) : Option (V × List AObj) :=
  let v0 : List UInt8 := x.1
  let v4 : List UInt8 := x.2.1
  let v5 : Int := x.2.2.1
  let v6 : Int := x.2.2.2.1
  let v11 : Int := x.2.2.2.2.1
  let v12 : Int := x.2.2.2.2.2
  cond (decide (v12 < v11)) (
    chk ((decide (0 ≤ v12) && decide (v12 < ↑(List.length v0)))) (
      let x2 : Int := (↑(UInt8.toNat (List.getD v0 (Int.toNat v12) 0)) : Int)
      let x3 : Int := (indexB ([65, 66, 67, 68, 69, 70, 71, 72, 73, 74, 75, 76, 77, 78, 79, 80, 81, 82, 83, 84, 85, 86, 87, 88, 89, 90, 97, 98, 99, 100, 101, 102, 103, 104, 105, 106, 107, 108, 109, 110, 111, 112, 113, 114, 115, 116, 117, 118, 119, 120, 121, 122, 48, 49, 50, 51, 52, 53, 54, 55, 56, 57, 43, 47] : List UInt8) x2)
      cond (decide (x3 < 0)) (
        some (.tup [.str ([] : List UInt8), .int .i64 2], [])) (
        let x4 : Int := (bitsI .or .i64 (shlI .i64 v5 6) x3)
        let x5 : Int := (bitsI .and .i64 x4 65535)
        let x6 : Int := (IntKind.wrap .i64 (v6 + 6))
        cond (decide (8 ≤ x6)) (
          let x7 : Int := (IntKind.wrap .i64 (x6 - 8))
          chk (decide (0 ≤ x7)) (
            let x8 : Int := (IntKind.wrap .u8 (shrI .i64 x5 x7))
            chk (decide ((List.length v4 + List.length ([(UInt8.ofNat (Int.toNat x8))] : List UInt8)) * 1 ≤ 140737488355328)) (
              let x9 : List UInt8 := (v4 ++ ([(UInt8.ofNat (Int.toNat x8))] : List UInt8))
              let x10 : Int := (IntKind.wrap .i64 (v12 + 1))
              again0 (v0, x9, x5, x7, v11, x10)))) (
          let x11 : Int := (IntKind.wrap .i64 (v12 + 1))
          again0 (v0, v4, x5, x6, v11, x11))))) (
    chk (decide (List.length v4 ≤ 1000)) (
      let x12 : Bool := (!decide ((putS v4) = v0))
      cond x12 (
        some (.tup [.str ([] : List UInt8), .int .i64 2], [])) (
        some (.tup [.str v4, .int .i64 0], []))))
theorem FB_sixty_Take_0 (N : Nat) : ∀ (again0 : St → Option (V × List AObj)) (x : (List UInt8 × List UInt8 × Int × Int × Int × Int)), F_sixty_Take_0 N again0 (mk_sixty_Take_0 x) = B_sixty_Take_0 N (fun y => again0 (mk_sixty_Take_0 y)) x := by
  intro again0 x
  kernel_rfl
/-- proclitic/sixty.Take -/
def sa_sixty_Take (N : Nat) (p0 : List UInt8) (q0 : (List UInt8 × List UInt8 × Int × Int × Int × Int) → Option (V × List AObj)) : Option (V × List AObj) :=
  chk (decide (([61] : List UInt8) = [61])) (
    let x1 : Int := (↑(List.length (trimS p0)) : Int)
    q0 (p0, ([] : List UInt8), 0, 0, x1, 0))
def sh_sixty_Take (N : Nat) (p0 : List UInt8) : Option (V × List AObj) := sa_sixty_Take N p0 (fun z => iterL N (B_sixty_Take_0 N) z)
theorem run_sixty_Take (N : Nat) (p0 : List UInt8) : callF Γ_sixty_Take N 47 rs_sixty_Take ir_sixty_Take [.str p0] [] = sh_sixty_Take N p0 := by
  have h : callF Γ_sixty_Take N 47 rs_sixty_Take ir_sixty_Take [.str p0] [] = sa_sixty_Take N p0 (fun z => loopN N (F_sixty_Take_0 N) (mk_sixty_Take_0 z)) := by kernel_rfl
  have e0 : (fun z => loopN N (F_sixty_Take_0 N) (mk_sixty_Take_0 z)) = (fun z => iterL N (B_sixty_Take_0 N) z) := funext fun z => loop_eq (mk_sixty_Take_0) (F_sixty_Take_0 N) (B_sixty_Take_0 N) (FB_sixty_Take_0 N) N z
  rw [h, e0]
  rfl
theorem ok_sixty_Take (hΓ : SpecOK Tryd.prog Γ_sixty_Take) (N : Nat) (p0 : List UInt8) {v : V} {hp : List AObj} (h : sh_sixty_Take N p0 = some (v, hp)) : PureOK Tryd.prog i_sixty_Take [.str p0] v := by
  have hc := chk_sixty_Take
  simp only [Bool.and_eq_true] at hc
  exact ⟨hp, fnOK_of hΓ pureS_sixty_Take Tryd.func7 body_sixty_Take hc.1 hc.2 (by decide) ((run_sixty_Take N p0).trans h)⟩

def G_strings_TrimRight : Nat → List V → Option (Bool × V) := fun f vs => match f, vs with
  | 16, [.str a0, .int .u8 a1] => some (decide ((a1 : Int) = 61), .str (trimS a0))
  | _, _ => none
def Γ_strings_TrimRight : ASpec := liftG G_strings_TrimRight
theorem pureS_strings_TrimRight : PureS Γ_strings_TrimRight [] := liftG_pure _ _
theorem spec_strings_TrimRight (h_strings_trimRightByte : ∀ (a0 : List UInt8) (a1 : Int), (decide ((a1 : Int) = 61)) = true → PureOK Tryd.prog i_strings_trimRightByte [.str a0, .int .u8 a1] (.str (trimS a0))) : SpecOK Tryd.prog Γ_strings_TrimRight := by
  intro f vs hp v hp' h0
  obtain ⟨h, he⟩ := liftG_inv h0
  subst he
  unfold G_strings_TrimRight at h
  split at h
  · simp only [Option.some.injEq, Prod.mk.injEq] at h
    obtain ⟨hc, rfl⟩ := h
    exact (h_strings_trimRightByte _ _ hc).frame rfl rfl _
  · simp at h
def ir_strings_TrimRight_0 : IR := .ret
def ir_strings_TrimRight_1 : IR := (.cond (.t 12) (.seq (.reg [⟨none, .mov 13 (.t 0)⟩,
    ⟨none, .mov 4 (.t 13)⟩] []) ir_strings_TrimRight_0) .skip)
def ir_strings_TrimRight_2 : IR := .ret
def ir_strings_TrimRight_3 : IR := (.cond (.t 21) (.seq (.reg [⟨none, .mov 22 (.t 0)⟩,
    ⟨none, .mov 23 (.t 1)⟩,
    ⟨none, .idx 24 (.t 23) (.c (.int .i64 0))⟩,
    ⟨none, .call (some 25) 16 [(.t 22), (.t 24)]⟩,
    ⟨none, .mov 4 (.t 25)⟩] []) ir_strings_TrimRight_2) .skip)
def ir_strings_TrimRight_4 : IR := .ret
def ir_strings_TrimRight_5 : IR := (.cond (.t 31) (.seq .bad ir_strings_TrimRight_4) .skip)
def ir_strings_TrimRight_6 : IR := (.seq (.reg [⟨none, .mov 31 (.t 6)⟩] []) ir_strings_TrimRight_5)
def ir_strings_TrimRight_7 : IR := .ret
def ir_strings_TrimRight_8 : IR := (.seq .bad ir_strings_TrimRight_7)
def ir_strings_TrimRight_9 : IR := (.seq (.seq .bad ir_strings_TrimRight_6) ir_strings_TrimRight_8)
def ir_strings_TrimRight_10 : IR := (.seq (.seq (.reg [⟨none, .mov 14 (.t 1)⟩,
    ⟨none, .lens 15 (.t 14)⟩,
    ⟨none, .bin 16 .eql (.t 15) (.c (.int .i64 1))⟩,
    ⟨none, .mov 17 (.t 16)⟩,
    ⟨some (17, true), .mov 18 (.t 1)⟩,
    ⟨some (17, true), .idx 19 (.t 18) (.c (.int .i64 0))⟩,
    ⟨some (17, true), .bin 20 .lss (.t 19) (.c (.int .u8 128))⟩,
    ⟨none, .pick 21 (.t 17) (.t 20) (.c (.bool false))⟩] []) ir_strings_TrimRight_3) ir_strings_TrimRight_9)
def ir_strings_TrimRight_11 : IR := (.seq (.seq (.reg [⟨none, .mov 7 (.t 0)⟩,
    ⟨none, .bin 8 .eql (.t 7) (.c (.str ([] : List UInt8)))⟩,
    ⟨none, .mov 9 (.t 8)⟩,
    ⟨some (9, false), .mov 10 (.t 1)⟩,
    ⟨some (9, false), .bin 11 .eql (.t 10) (.c (.str ([] : List UInt8)))⟩,
    ⟨none, .pick 12 (.t 9) (.c (.bool true)) (.t 11)⟩] []) ir_strings_TrimRight_1) ir_strings_TrimRight_10)
def ir_strings_TrimRight : IR := (.seq (.reg [⟨none, .mov 4 (.c (.str ([] : List UInt8)))⟩] []) ir_strings_TrimRight_11)
def rs_strings_TrimRight : List RV := [.t 4]
theorem chk_strings_TrimRight : (chkCode Tryd.prog [] 0 ir_strings_TrimRight (Tryd.f11.body.getD .skip) && chkRes Tryd.prog rs_strings_TrimRight Tryd.f11.results.toList) = true := by kernel_rfl
theorem body_strings_TrimRight : Tryd.f11.body = some (Tryd.f11.body.getD .skip) := by kernel_rfl
/-- strings.TrimRight -/
def sa_strings_TrimRight (N : Nat) (p0 : List UInt8) (p1 : List UInt8)  : Option (V × List AObj) :=
  let x1 : Bool := decide (p0 = ([] : List UInt8))
  cond x1 (
    some (.str p0, [])) (
    let x2 : Bool := decide (p1 = ([] : List UInt8))
    cond x2 (
      some (.str p0, [])) (
      let x3 : Int := (↑(List.length p1) : Int)
      cond (x3 == 1) (
        chk (decide ((0 : Int) < ↑(List.length p1))) (
          let x4 : Int := (↑(UInt8.toNat (List.getD p1 (Int.toNat 0) 0)) : Int)
          cond (decide (x4 < 128)) (
            chk (decide ((0 : Int) < ↑(List.length p1))) (
              let x5 : Int := (↑(UInt8.toNat (List.getD p1 (Int.toNat 0) 0)) : Int)
              chk (decide ((x5 : Int) = 61)) (
                some (.str (trimS p0), [])))) (
            none))) (
        none)))
def sh_strings_TrimRight (N : Nat) (p0 : List UInt8) (p1 : List UInt8) : Option (V × List AObj) := sa_strings_TrimRight N p0 p1
theorem run_strings_TrimRight (N : Nat) (p0 : List UInt8) (p1 : List UInt8) : callF Γ_strings_TrimRight N 37 rs_strings_TrimRight ir_strings_TrimRight [.str p0, .str p1] [] = sh_strings_TrimRight N p0 p1 := by kernel_rfl
theorem ok_strings_TrimRight (hΓ : SpecOK Tryd.prog Γ_strings_TrimRight) (N : Nat) (p0 : List UInt8) (p1 : List UInt8) {v : V} {hp : List AObj} (h : sh_strings_TrimRight N p0 p1 = some (v, hp)) : PureOK Tryd.prog i_strings_TrimRight [.str p0, .str p1] v := by
  have hc := chk_strings_TrimRight
  simp only [Bool.and_eq_true] at hc
  exact ⟨hp, fnOK_of hΓ pureS_strings_TrimRight Tryd.func11 body_strings_TrimRight hc.1 hc.2 (by decide) ((run_strings_TrimRight N p0 p1).trans h)⟩

def G_strings_trimRightByte : Nat → List V → Option (Bool × V) := fun _ _ => none
def Γ_strings_trimRightByte : ASpec := liftG G_strings_trimRightByte
theorem pureS_strings_trimRightByte : PureS Γ_strings_trimRightByte [] := liftG_pure _ _
theorem spec_strings_trimRightByte  : SpecOK Tryd.prog Γ_strings_trimRightByte := by
  intro f vs hp v hp' h
  obtain ⟨h, -⟩ := liftG_inv h
  simp [G_strings_trimRightByte] at h
def ir_strings_trimRightByte_0 : IR := (.cond (.t 16) .skip (.exit 0))
def ir_strings_trimRightByte_1 : IR := (.block 1 (.reg [⟨none, .mov 17 (.t 0)⟩,
    ⟨none, .mov 18 (.t 0)⟩,
    ⟨none, .lens 19 (.t 18)⟩,
    ⟨none, .bin 20 .sub (.t 19) (.c (.int .i64 1))⟩,
    ⟨none, .subs 21 (.t 17) none (some (.t 20))⟩,
    ⟨none, .mov 0 (.t 21)⟩] []))
def ir_strings_trimRightByte_2 : IR := (.seq (.seq (.reg [⟨none, .mov 5 (.t 0)⟩,
    ⟨none, .lens 6 (.t 5)⟩,
    ⟨none, .bin 7 .gtr (.t 6) (.c (.int .i64 0))⟩,
    ⟨none, .mov 8 (.t 7)⟩,
    ⟨some (8, true), .mov 9 (.t 0)⟩,
    ⟨some (8, true), .mov 10 (.t 0)⟩,
    ⟨some (8, true), .lens 11 (.t 10)⟩,
    ⟨some (8, true), .bin 12 .sub (.t 11) (.c (.int .i64 1))⟩,
    ⟨some (8, true), .idx 13 (.t 9) (.t 12)⟩,
    ⟨some (8, true), .mov 14 (.t 1)⟩,
    ⟨some (8, true), .bin 15 .eql (.t 13) (.t 14)⟩,
    ⟨none, .pick 16 (.t 8) (.t 15) (.c (.bool false))⟩] []) ir_strings_trimRightByte_0) ir_strings_trimRightByte_1)
def ir_strings_trimRightByte_3 : IR := .ret
def ir_strings_trimRightByte_4 : IR := (.seq (.reg [⟨none, .mov 22 (.t 0)⟩,
    ⟨none, .mov 4 (.t 22)⟩] []) ir_strings_trimRightByte_3)
def ir_strings_trimRightByte_5 : IR := (.seq (.block 0 (.loop [0, 1] 0 ir_strings_trimRightByte_2)) ir_strings_trimRightByte_4)
def ir_strings_trimRightByte : IR := (.seq (.reg [⟨none, .mov 4 (.c (.str ([] : List UInt8)))⟩] []) ir_strings_trimRightByte_5)
def rs_strings_trimRightByte : List RV := [.t 4]
theorem chk_strings_trimRightByte : (chkCode Tryd.prog [] 0 ir_strings_trimRightByte (Tryd.f16.body.getD .skip) && chkRes Tryd.prog rs_strings_trimRightByte Tryd.f16.results.toList) = true := by kernel_rfl
theorem body_strings_trimRightByte : Tryd.f16.body = some (Tryd.f16.body.getD .skip) := by kernel_rfl
def mk_strings_trimRightByte_0 (x : (List UInt8 × Int)) : St := { env := [.str x.1, .int .u8 x.2, .undef, .undef, .undef, .undef, .undef, .undef, .undef, .undef, .undef, .undef, .undef, .undef, .undef, .undef, .undef, .undef, .undef, .undef, .undef, .undef, .undef], hp := [] }
def F_strings_trimRightByte_0 (N : Nat) : (St → Option (V × List AObj)) → St → Option (V × List AObj) := fun again0 s => run Γ_strings_trimRightByte N ir_strings_trimRightByte_2 (kloop again0 [0, 1] 0 (kblock 0 (kseq (run Γ_strings_trimRightByte N ir_strings_trimRightByte_4) (fin rs_strings_trimRightByte)))) s
def B_strings_trimRightByte_0 (N : Nat) (again0 : (List UInt8 × Int) → Option (V × List AObj)) (x : (List UInt8 × Int)) : Option (V × List AObj) :=
  let v0 : List UInt8 := x.1
  let v1 : Int := x.2
  let x1 : Int := (↑(List.length v0) : Int)
  cond (decide (0 < x1)) (
    let x2 : Int := (↑(List.length v0) : Int)
    let x3 : Int := (IntKind.wrap .i64 (x2 - 1))
    chk ((decide (0 ≤ x3) && decide (x3 < ↑(List.length v0)))) (
      let x4 : Int := (↑(UInt8.toNat (List.getD v0 (Int.toNat x3) 0)) : Int)
      cond (x4 == v1) (
        let x5 : Int := (↑(List.length v0) : Int)
        let x6 : Int := (IntKind.wrap .i64 (x5 - 1))
        chk ((decide (0 ≤ x6) && decide (x6 ≤ (↑(List.length v0) : Int)))) (
          let x7 : List UInt8 := (List.drop 0 (List.take (Int.toNat x6) v0))
          again0 (x7, v1))) (
        some (.str v0, [])))) (
    some (.str v0, []))
theorem FB_strings_trimRightByte_0 (N : Nat) : ∀ (again0 : St → Option (V × List AObj)) (x : (List UInt8 × Int)), F_strings_trimRightByte_0 N again0 (mk_strings_trimRightByte_0 x) = B_strings_trimRightByte_0 N (fun y => again0 (mk_strings_trimRightByte_0 y)) x := by
  intro again0 x
  kernel_rfl
/-- strings.trimRightByte -/
def sa_strings_trimRightByte (N : Nat) (p0 : List UInt8) (p1 : Int) (q0 : (List UInt8 × Int) → Option (V × List AObj)) : Option (V × List AObj) :=
  q0 (p0, p1)
def sh_strings_trimRightByte (N : Nat) (p0 : List UInt8) (p1 : Int) : Option (V × List AObj) := sa_strings_trimRightByte N p0 p1 (fun z => iterL N (B_strings_trimRightByte_0 N) z)
theorem run_strings_trimRightByte (N : Nat) (p0 : List UInt8) (p1 : Int) : callF Γ_strings_trimRightByte N 23 rs_strings_trimRightByte ir_strings_trimRightByte [.str p0, .int .u8 p1] [] = sh_strings_trimRightByte N p0 p1 := by
  have h : callF Γ_strings_trimRightByte N 23 rs_strings_trimRightByte ir_strings_trimRightByte [.str p0, .int .u8 p1] [] = sa_strings_trimRightByte N p0 p1 (fun z => loopN N (F_strings_trimRightByte_0 N) (mk_strings_trimRightByte_0 z)) := by kernel_rfl
  have e0 : (fun z => loopN N (F_strings_trimRightByte_0 N) (mk_strings_trimRightByte_0 z)) = (fun z => iterL N (B_strings_trimRightByte_0 N) z) := funext fun z => loop_eq (mk_strings_trimRightByte_0) (F_strings_trimRightByte_0 N) (B_strings_trimRightByte_0 N) (FB_strings_trimRightByte_0 N) N z
  rw [h, e0]
  rfl
theorem ok_strings_trimRightByte (hΓ : SpecOK Tryd.prog Γ_strings_trimRightByte) (N : Nat) (p0 : List UInt8) (p1 : Int) {v : V} {hp : List AObj} (h : sh_strings_trimRightByte N p0 p1 = some (v, hp)) : PureOK Tryd.prog i_strings_trimRightByte [.str p0, .int .u8 p1] v := by
  have hc := chk_strings_trimRightByte
  simp only [Bool.and_eq_true] at hc
  exact ⟨hp, fnOK_of hΓ pureS_strings_trimRightByte Tryd.func16 body_strings_trimRightByte hc.1 hc.2 (by decide) ((run_strings_trimRightByte N p0 p1).trans h)⟩

def G_strings_IndexByte : Nat → List V → Option (Bool × V) := fun f vs => match f, vs with
  | 20, [.str a0, .int .u8 a1] => some (true, .int .i64 (indexB a0 a1))
  | _, _ => none
def Γ_strings_IndexByte : ASpec := liftG G_strings_IndexByte
theorem pureS_strings_IndexByte : PureS Γ_strings_IndexByte [] := liftG_pure _ _
theorem spec_strings_IndexByte (h_internal_stringslite_IndexByte : ∀ (a0 : List UInt8) (a1 : Int), PureOK Tryd.prog i_internal_stringslite_IndexByte [.str a0, .int .u8 a1] (.int .i64 (indexB a0 a1))) : SpecOK Tryd.prog Γ_strings_IndexByte := by
  intro f vs hp v hp' h0
  obtain ⟨h, he⟩ := liftG_inv h0
  subst he
  unfold G_strings_IndexByte at h
  split at h
  · simp only [Option.some.injEq, Prod.mk.injEq] at h
    obtain ⟨hc, rfl⟩ := h
    exact (h_internal_stringslite_IndexByte _ _).frame rfl rfl _
  · simp at h
def ir_strings_IndexByte_0 : IR := .ret
def ir_strings_IndexByte_1 : IR := (.seq (.reg [⟨none, .mov 5 (.t 0)⟩,
    ⟨none, .mov 6 (.t 1)⟩,
    ⟨none, .call (some 7) 20 [(.t 5), (.t 6)]⟩,
    ⟨none, .mov 4 (.t 7)⟩] []) ir_strings_IndexByte_0)
def ir_strings_IndexByte : IR := (.seq (.reg [⟨none, .mov 4 (.c (.int .i64 0))⟩] []) ir_strings_IndexByte_1)
def rs_strings_IndexByte : List RV := [.t 4]
theorem chk_strings_IndexByte : (chkCode Tryd.prog [] 0 ir_strings_IndexByte (Tryd.f12.body.getD .skip) && chkRes Tryd.prog rs_strings_IndexByte Tryd.f12.results.toList) = true := by kernel_rfl
theorem body_strings_IndexByte : Tryd.f12.body = some (Tryd.f12.body.getD .skip) := by kernel_rfl
/-- strings.IndexByte -/
def sa_strings_IndexByte (N : Nat) (p0 : List UInt8) (p1 : Int)  : Option (V × List AObj) :=
  some (.int .i64 (indexB p0 p1), [])
def sh_strings_IndexByte (N : Nat) (p0 : List UInt8) (p1 : Int) : Option (V × List AObj) := sa_strings_IndexByte N p0 p1
theorem run_strings_IndexByte (N : Nat) (p0 : List UInt8) (p1 : Int) : callF Γ_strings_IndexByte N 8 rs_strings_IndexByte ir_strings_IndexByte [.str p0, .int .u8 p1] [] = sh_strings_IndexByte N p0 p1 := by kernel_rfl
theorem ok_strings_IndexByte (hΓ : SpecOK Tryd.prog Γ_strings_IndexByte) (N : Nat) (p0 : List UInt8) (p1 : Int) {v : V} {hp : List AObj} (h : sh_strings_IndexByte N p0 p1 = some (v, hp)) : PureOK Tryd.prog i_strings_IndexByte [.str p0, .int .u8 p1] v := by
  have hc := chk_strings_IndexByte
  simp only [Bool.and_eq_true] at hc
  exact ⟨hp, fnOK_of hΓ pureS_strings_IndexByte Tryd.func12 body_strings_IndexByte hc.1 hc.2 (by decide) ((run_strings_IndexByte N p0 p1).trans h)⟩

def G_law4_begun : Nat → List V → Option (Bool × V) := fun f vs => match f, vs with
  | 7, [.str a0] => some (decide (List.length a0 ≤ 1000), .tup [.str (takeT a0), .int .i64 (takeE a0)])
  | 9, [.str a0] => some (decide (List.length a0 ≤ 1000), .str (putS a0))
  | _, _ => none
def Γ_law4_begun : ASpec := liftG G_law4_begun
theorem pureS_law4_begun : PureS Γ_law4_begun [] := liftG_pure _ _
theorem spec_law4_begun (h_sixty_Take : ∀ (a0 : List UInt8), (decide (List.length a0 ≤ 1000)) = true → PureOK Tryd.prog i_sixty_Take [.str a0] (.tup [.str (takeT a0), .int .i64 (takeE a0)])) (h_sixty_Put : ∀ (a0 : List UInt8), (decide (List.length a0 ≤ 1000)) = true → PureOK Tryd.prog i_sixty_Put [.str a0] (.str (putS a0))) : SpecOK Tryd.prog Γ_law4_begun := by
  intro f vs hp v hp' h0
  obtain ⟨h, he⟩ := liftG_inv h0
  subst he
  unfold G_law4_begun at h
  split at h
  · simp only [Option.some.injEq, Prod.mk.injEq] at h
    obtain ⟨hc, rfl⟩ := h
    exact (h_sixty_Take _ hc).frame rfl rfl _
  · simp only [Option.some.injEq, Prod.mk.injEq] at h
    obtain ⟨hc, rfl⟩ := h
    exact (h_sixty_Put _ hc).frame rfl rfl _
  · simp at h
def ir_law4_begun_0 : IR := .ret
def ir_law4_begun_1 : IR := (.seq (.reg [⟨none, .call (some 13) 9 [(.c (.str ([97] : List UInt8)))]⟩,
    ⟨none, .bin 14 .eql (.t 13) (.c (.str ([89, 81, 61, 61] : List UInt8)))⟩,
    ⟨none, .mov 15 (.t 14)⟩,
    ⟨some (15, true), .mov 16 (.t 1)⟩,
    ⟨some (15, true), .bin 17 .eql (.t 16) (.c (.str ([97] : List UInt8)))⟩,
    ⟨none, .pick 18 (.t 15) (.t 17) (.c (.bool false))⟩,
    ⟨none, .mov 19 (.t 18)⟩,
    ⟨some (19, true), .mov 20 (.t 2)⟩,
    ⟨some (19, true), .bin 21 .eql (.t 20) (.c (.int .i64 0))⟩,
    ⟨none, .pick 22 (.t 19) (.t 21) (.c (.bool false))⟩,
    ⟨none, .mov 23 (.t 22)⟩,
    ⟨some (23, true), .mov 24 (.t 4)⟩,
    ⟨some (23, true), .bin 25 .eql (.t 24) (.c (.int .i64 2))⟩,
    ⟨none, .pick 26 (.t 23) (.t 25) (.c (.bool false))⟩,
    ⟨none, .mov 0 (.t 26)⟩] []) ir_law4_begun_0)
def ir_law4_begun_2 : IR := (.seq (.reg [⟨none, .call (some 10) 7 [(.c (.str ([89, 81, 61] : List UInt8)))]⟩,
    ⟨none, .mov 9 (.t 10)⟩,
    ⟨none, .ext 11 0 (.t 9)⟩,
    ⟨none, .ext 12 1 (.t 9)⟩,
    ⟨none, .mov 3 (.t 11)⟩,
    ⟨none, .mov 4 (.t 12)⟩] []) ir_law4_begun_1)
def ir_law4_begun_3 : IR := (.seq (.reg [⟨none, .call (some 6) 7 [(.c (.str ([89, 81, 61, 61] : List UInt8)))]⟩,
    ⟨none, .mov 5 (.t 6)⟩,
    ⟨none, .ext 7 0 (.t 5)⟩,
    ⟨none, .ext 8 1 (.t 5)⟩,
    ⟨none, .mov 1 (.t 7)⟩,
    ⟨none, .mov 2 (.t 8)⟩] []) ir_law4_begun_2)
def ir_law4_begun : IR := (.seq (.reg [⟨none, .mov 0 (.c (.bool false))⟩] []) ir_law4_begun_3)
def rs_law4_begun : List RV := [.t 0]
theorem chk_law4_begun : (chkCode Tryd.prog [] 0 ir_law4_begun (Tryd.f6.body.getD .skip) && chkRes Tryd.prog rs_law4_begun Tryd.f6.results.toList) = true := by kernel_rfl
theorem body_law4_begun : Tryd.f6.body = some (Tryd.f6.body.getD .skip) := by kernel_rfl
/-- proclitic/procliticlaw4.begun -/
def sa_law4_begun (N : Nat)   : Option (V × List AObj) :=
  chk (decide (List.length ([89, 81, 61, 61] : List UInt8) ≤ 1000)) (
    let x1 : List UInt8 := (takeT ([89, 81, 61, 61] : List UInt8))
    let x2 : Int := (takeE ([89, 81, 61, 61] : List UInt8))
    chk (decide (List.length ([89, 81, 61] : List UInt8) ≤ 1000)) (
      let x3 : List UInt8 := (takeT ([89, 81, 61] : List UInt8))
      let x4 : Int := (takeE ([89, 81, 61] : List UInt8))
      chk (decide (List.length ([97] : List UInt8) ≤ 1000)) (
        let x5 : List UInt8 := (putS ([97] : List UInt8))
        let x6 : Bool := decide (x5 = ([89, 81, 61, 61] : List UInt8))
        cond x6 (
          let x7 : Bool := decide (x1 = ([97] : List UInt8))
          cond x7 (
            cond (x2 == 0) (
              some (.bool (x4 == 2), [])) (
              some (.bool false, []))) (
            some (.bool false, []))) (
          some (.bool false, [])))))
def sh_law4_begun (N : Nat)  : Option (V × List AObj) := sa_law4_begun N 
theorem run_law4_begun (N : Nat)  : callF Γ_law4_begun N 27 rs_law4_begun ir_law4_begun [] [] = sh_law4_begun N  := by kernel_rfl
theorem ok_law4_begun (hΓ : SpecOK Tryd.prog Γ_law4_begun) (N : Nat)  {v : V} {hp : List AObj} (h : sh_law4_begun N  = some (v, hp)) : PureOK Tryd.prog i_law4_begun [] v := by
  have hc := chk_law4_begun
  simp only [Bool.and_eq_true] at hc
  exact ⟨hp, fnOK_of hΓ pureS_law4_begun Tryd.func6 body_law4_begun hc.1 hc.2 (by decide) ((run_law4_begun N ).trans h)⟩

def G_law4_SixtyJoins : Nat → List V → Option (Bool × V) := fun f vs => match f, vs with
  | 6, [] => some (true, .bool true)
  | 9, [.str a0] => some (decide (List.length a0 ≤ 1000), .str (putS a0))
  | _, _ => none
def Γ_law4_SixtyJoins : ASpec := liftG G_law4_SixtyJoins
theorem pureS_law4_SixtyJoins : PureS Γ_law4_SixtyJoins [] := liftG_pure _ _
theorem spec_law4_SixtyJoins (h_law4_begun : PureOK Tryd.prog i_law4_begun [] (.bool true)) (h_sixty_Put : ∀ (a0 : List UInt8), (decide (List.length a0 ≤ 1000)) = true → PureOK Tryd.prog i_sixty_Put [.str a0] (.str (putS a0))) : SpecOK Tryd.prog Γ_law4_SixtyJoins := by
  intro f vs hp v hp' h0
  obtain ⟨h, he⟩ := liftG_inv h0
  subst he
  unfold G_law4_SixtyJoins at h
  split at h
  · simp only [Option.some.injEq, Prod.mk.injEq] at h
    obtain ⟨hc, rfl⟩ := h
    exact (h_law4_begun ).frame rfl rfl _
  · simp only [Option.some.injEq, Prod.mk.injEq] at h
    obtain ⟨hc, rfl⟩ := h
    exact (h_sixty_Put _ hc).frame rfl rfl _
  · simp at h
def ir_law4_SixtyJoins_0 : IR := .ret
def ir_law4_SixtyJoins_1 : IR := (.cond (.t 7) (.seq (.reg [⟨none, .mov 4 (.c (.bool false))⟩] []) ir_law4_SixtyJoins_0) .skip)
def ir_law4_SixtyJoins_2 : IR := .ret
def ir_law4_SixtyJoins_3 : IR := (.cond (.t 15) (.seq (.reg [⟨none, .mov 4 (.c (.bool true))⟩] []) ir_law4_SixtyJoins_2) .skip)
def ir_law4_SixtyJoins_4 : IR := .ret
def ir_law4_SixtyJoins_5 : IR := (.seq (.reg [⟨none, .mov 22 (.t 5)⟩,
    ⟨none, .mov 23 (.t 1)⟩,
    ⟨none, .bin 24 .add (.t 22) (.t 23)⟩,
    ⟨none, .call (some 25) 9 [(.t 24)]⟩,
    ⟨none, .mov 26 (.t 5)⟩,
    ⟨none, .call (some 27) 9 [(.t 26)]⟩,
    ⟨none, .mov 28 (.t 1)⟩,
    ⟨none, .call (some 29) 9 [(.t 28)]⟩,
    ⟨none, .bin 30 .add (.t 27) (.t 29)⟩,
    ⟨none, .bin 31 .eql (.t 25) (.t 30)⟩,
    ⟨none, .mov 4 (.t 31)⟩] []) ir_law4_SixtyJoins_4)
def ir_law4_SixtyJoins_6 : IR := (.seq (.reg [⟨none, .mov 16 (.t 0)⟩,
    ⟨none, .mov 17 (.t 0)⟩,
    ⟨none, .lens 18 (.t 17)⟩,
    ⟨none, .bin 19 .quo (.t 18) (.c (.int .i64 3))⟩,
    ⟨none, .bin 20 .mul (.t 19) (.c (.int .i64 3))⟩,
    ⟨none, .subs 21 (.t 16) none (some (.t 20))⟩,
    ⟨none, .mov 5 (.t 21)⟩] []) ir_law4_SixtyJoins_5)
def ir_law4_SixtyJoins_7 : IR := (.seq (.seq (.reg [⟨none, .mov 8 (.t 0)⟩,
    ⟨none, .lens 9 (.t 8)⟩,
    ⟨none, .bin 10 .gtr (.t 9) (.c (.int .i64 60))⟩,
    ⟨none, .mov 11 (.t 10)⟩,
    ⟨some (11, false), .mov 12 (.t 1)⟩,
    ⟨some (11, false), .lens 13 (.t 12)⟩,
    ⟨some (11, false), .bin 14 .gtr (.t 13) (.c (.int .i64 60))⟩,
    ⟨none, .pick 15 (.t 11) (.c (.bool true)) (.t 14)⟩] []) ir_law4_SixtyJoins_3) ir_law4_SixtyJoins_6)
def ir_law4_SixtyJoins_8 : IR := (.seq (.seq (.reg [⟨none, .call (some 6) 6 []⟩,
    ⟨none, .un 7 .not (.t 6)⟩] []) ir_law4_SixtyJoins_1) ir_law4_SixtyJoins_7)
def ir_law4_SixtyJoins : IR := (.seq (.reg [⟨none, .mov 4 (.c (.bool false))⟩] []) ir_law4_SixtyJoins_8)
def rs_law4_SixtyJoins : List RV := [.t 4]
theorem chk_law4_SixtyJoins : (chkCode Tryd.prog [] 0 ir_law4_SixtyJoins (Tryd.f5.body.getD .skip) && chkRes Tryd.prog rs_law4_SixtyJoins Tryd.f5.results.toList) = true := by kernel_rfl
theorem body_law4_SixtyJoins : Tryd.f5.body = some (Tryd.f5.body.getD .skip) := by kernel_rfl
/-- proclitic/procliticlaw4.SixtyJoins -/
def sa_law4_SixtyJoins (N : Nat) (p0 : List UInt8) (p1 : List UInt8)  : Option (V × List AObj) :=
  let x1 : Int := (↑(List.length p0) : Int)
  cond (decide (60 < x1)) (
    some (.bool true, [])) (
    let x2 : Int := (↑(List.length p1) : Int)
    cond (decide (60 < x2)) (
      some (.bool true, [])) (
      let x3 : Int := (↑(List.length p0) : Int)
      let x4 : Int := (IntKind.wrap .i64 (Int.tdiv x3 3))
      let x5 : Int := (IntKind.wrap .i64 (x4 * 3))
      chk ((decide (0 ≤ x5) && decide (x5 ≤ (↑(List.length p0) : Int)))) (
        let x6 : List UInt8 := (List.drop 0 (List.take (Int.toNat x5) p0))
        chk (decide (List.length x6 + List.length p1 ≤ 9223372036854775807)) (
          chk (decide (List.length (x6 ++ p1) ≤ 1000)) (
            chk (decide (List.length x6 ≤ 1000)) (
              chk (decide (List.length p1 ≤ 1000)) (
                chk (decide (List.length (putS x6) + List.length (putS p1) ≤ 9223372036854775807)) (
                  let x7 : Bool := decide ((putS (x6 ++ p1)) = ((putS x6) ++ (putS p1)))
                  some (.bool x7, [])))))))))
def sh_law4_SixtyJoins (N : Nat) (p0 : List UInt8) (p1 : List UInt8) : Option (V × List AObj) := sa_law4_SixtyJoins N p0 p1
theorem run_law4_SixtyJoins (N : Nat) (p0 : List UInt8) (p1 : List UInt8) : callF Γ_law4_SixtyJoins N 32 rs_law4_SixtyJoins ir_law4_SixtyJoins [.str p0, .str p1] [] = sh_law4_SixtyJoins N p0 p1 := by kernel_rfl
theorem ok_law4_SixtyJoins (hΓ : SpecOK Tryd.prog Γ_law4_SixtyJoins) (N : Nat) (p0 : List UInt8) (p1 : List UInt8) {v : V} {hp : List AObj} (h : sh_law4_SixtyJoins N p0 p1 = some (v, hp)) : PureOK Tryd.prog i_law4_SixtyJoins [.str p0, .str p1] v := by
  have hc := chk_law4_SixtyJoins
  simp only [Bool.and_eq_true] at hc
  exact ⟨hp, fnOK_of hΓ pureS_law4_SixtyJoins Tryd.func5 body_law4_SixtyJoins hc.1 hc.2 (by decide) ((run_law4_SixtyJoins N p0 p1).trans h)⟩

end Go.Proofs.YtmiclamhiohemaaDoor
