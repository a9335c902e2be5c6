/-
  The plain functions that runs of the code are: written by wip/gen/gen.py.
-/
import Derived.Test.YtmiclamhiohemaaAmLaw
import Derived.Test.YtmiclamhiohemaaAmOne
import Derived.Test.YtmiclamhiohemaaGlSpec
import Derived.Test.YtmiclamhiohemaaLbB
import Derived.Test.YtmiclamhiohemaaChecked
import Derived.KernelRfl
namespace Go.Proofs.Ytmiclamhiohemaa
open Go.AM
set_option autoImplicit false
set_option linter.unusedVariables false
set_option maxRecDepth 100000
abbrev i_glyph_cursor_escaped : FuncId := 41
abbrev i_glyph_cursor_next : FuncId := 39
abbrev i_glyph_cursor_unit : FuncId := 49
abbrev i_internal_stringslite_HasPrefix : FuncId := 54
abbrev i_internal_stringslite_IndexByte : FuncId := 53
abbrev i_glyph_Put : FuncId := 33
abbrev i_glyph_Quote : FuncId := 31
abbrev i_glyph_Unquote : FuncId := 27
abbrev i_glyph_Valid : FuncId := 29
abbrev i_glyph_point : FuncId := 44
abbrev i_glyph_tail : FuncId := 48
abbrev i_law3_GlyphAll : FuncId := 9
abbrev i_law3_GlyphBack : FuncId := 11
abbrev i_law3_GlyphForms : FuncId := 13
abbrev i_law3_begun : FuncId := 26
abbrev i_ref1_Digit : FuncId := 56
abbrev i_ref1_Glyph : FuncId := 34
abbrev i_ref1_Quote : FuncId := 32
abbrev i_ref1_Unquote : FuncId := 28
abbrev i_ref1_Valid : FuncId := 30
abbrev i_ref1_escape : FuncId := 43
abbrev i_ref1_point : FuncId := 45
abbrev i_ref1_unit : FuncId := 52
abbrev i_strings_HasPrefix : FuncId := 50
abbrev i_strings_IndexByte : FuncId := 46
def G_glyph_cursor_next : Nat → List V → Option (Bool × V) := fun _ _ => none
def Γ_glyph_cursor_next : ASpec := liftG G_glyph_cursor_next
theorem pureS_glyph_cursor_next : PureS Γ_glyph_cursor_next [] := liftG_pure _ _
theorem spec_glyph_cursor_next  : SpecOK Try.prog Γ_glyph_cursor_next := by
  intro f vs hp v hp' h
  obtain ⟨h, -⟩ := liftG_inv h
  simp [G_glyph_cursor_next] at h
def ir_glyph_cursor_next_0 : IR := .ret
def ir_glyph_cursor_next_1 : IR := (.seq (.reg [⟨none, .mov 2 (.c (.int .u8 0))⟩] []) ir_glyph_cursor_next_0)
def ir_glyph_cursor_next_2 : IR := (.cond (.t 12) (.seq (.reg [⟨none, .mov 13 (.t 0)⟩,
    ⟨none, .nck (some 14) (.t 13)⟩,
    ⟨none, .fad 15 4 (.t 14)⟩,
    ⟨none, .st none 1 (.t 15) (.c (.bool true))⟩] []) ir_glyph_cursor_next_1) .skip)
def ir_glyph_cursor_next_3 : IR := .ret
def ir_glyph_cursor_next_4 : IR := (.seq (.reg [⟨none, .mov 23 (.t 0)⟩,
    ⟨none, .nck (some 24) (.t 23)⟩,
    ⟨none, .fad 25 0 (.t 24)⟩,
    ⟨none, .ld 26 1 false false (.t 25)⟩,
    ⟨none, .mov 27 (.t 0)⟩,
    ⟨none, .nck (some 28) (.t 27)⟩,
    ⟨none, .fad 29 1 (.t 28)⟩,
    ⟨none, .ld 30 1 false false (.t 29)⟩,
    ⟨none, .bin 31 .sub (.t 30) (.c (.int .i64 1))⟩,
    ⟨none, .idx 32 (.t 26) (.t 31)⟩,
    ⟨none, .mov 2 (.t 32)⟩] [[], [0], [0, 1], [0, 1, 2], [], [4], [4, 5], [4, 5, 6], [4, 5, 6, 7], [0, 1, 2, 3, 4, 5, 6, 7, 8], [0, 1, 2, 3, 4, 5, 6, 7, 8, 9]]) ir_glyph_cursor_next_3)
def ir_glyph_cursor_next_5 : IR := (.seq (.reg [⟨none, .mov 16 (.t 0)⟩,
    ⟨none, .nck (some 17) (.t 16)⟩,
    ⟨none, .fad 18 1 (.t 17)⟩,
    ⟨none, .ld 19 1 false false (.t 18)⟩,
    ⟨none, .bin 20 .add (.t 19) (.c (.int .i64 1))⟩,
    ⟨none, .nck (some 21) (.t 16)⟩,
    ⟨none, .fad 22 1 (.t 21)⟩,
    ⟨none, .st none 1 (.t 22) (.t 20)⟩] []) ir_glyph_cursor_next_4)
def ir_glyph_cursor_next_6 : IR := (.seq (.seq (.reg [⟨none, .mov 3 (.t 0)⟩,
    ⟨none, .nck (some 4) (.t 3)⟩,
    ⟨none, .fad 5 1 (.t 4)⟩,
    ⟨none, .ld 6 1 false false (.t 5)⟩,
    ⟨none, .mov 7 (.t 0)⟩,
    ⟨none, .nck (some 8) (.t 7)⟩,
    ⟨none, .fad 9 0 (.t 8)⟩,
    ⟨none, .ld 10 1 false false (.t 9)⟩,
    ⟨none, .lens 11 (.t 10)⟩,
    ⟨none, .bin 12 .geq (.t 6) (.t 11)⟩] [[], [0], [0, 1], [0, 1, 2], [], [4], [4, 5], [4, 5, 6], [4, 5, 6, 7], [0, 1, 2, 3, 4, 5, 6, 7, 8]]) ir_glyph_cursor_next_2) ir_glyph_cursor_next_5)
def ir_glyph_cursor_next : IR := (.seq (.reg [⟨none, .mov 2 (.c (.int .u8 0))⟩] []) ir_glyph_cursor_next_6)
def rs_glyph_cursor_next : List RV := [.t 2]
theorem chk_glyph_cursor_next : (chkCode Try.prog [] 1 ir_glyph_cursor_next (Try.f39.body.getD .skip) && chkRes Try.prog rs_glyph_cursor_next Try.f39.results.toList) = true := by kernel_rfl
theorem body_glyph_cursor_next : Try.f39.body = some (Try.f39.body.getD .skip) := by kernel_rfl
/-- (*proclitic/glyph.cursor).next -/
def sa_glyph_cursor_next (N : Nat) (o0 : List UInt8) (o1 : Int) (o3 : List UInt8) (o4 : Bool)  : Option (V × List AObj) :=
  let x1 : Int := (↑(List.length o0) : Int)
  cond (decide (x1 ≤ o1)) (
    some (.int .u8 0, [some [.str o0, .int .i64 o1, .bn 62 5, .sl .u8 true o3, .bool true]])) (
    let x2 : Int := (IntKind.wrap .i64 (o1 + 1))
    let x3 : Int := (IntKind.wrap .i64 (x2 - 1))
    chk ((decide (0 ≤ x3) && decide (x3 < ↑(List.length o0)))) (
      let x4 : Int := (↑(UInt8.toNat (List.getD o0 (Int.toNat x3) 0)) : Int)
      some (.int .u8 x4, [some [.str o0, .int .i64 x2, .bn 62 5, .sl .u8 true o3, .bool o4]])))
def sh_glyph_cursor_next (N : Nat) (o0 : List UInt8) (o1 : Int) (o3 : List UInt8) (o4 : Bool) : Option (V × List AObj) := sa_glyph_cursor_next N o0 o1 o3 o4
theorem run_glyph_cursor_next (N : Nat) (o0 : List UInt8) (o1 : Int) (o3 : List UInt8) (o4 : Bool) : callF Γ_glyph_cursor_next N 33 rs_glyph_cursor_next ir_glyph_cursor_next [.ptr 0 0] [some [.str o0, .int .i64 o1, .bn 62 5, .sl .u8 true o3, .bool o4]] = sh_glyph_cursor_next N o0 o1 o3 o4 := by kernel_rfl
theorem ok_glyph_cursor_next (hΓ : SpecOK Try.prog Γ_glyph_cursor_next) (N : Nat) (o0 : List UInt8) (o1 : Int) (o3 : List UInt8) (o4 : Bool) {v : V} {cs : List V} {rest : List AObj} (h : sh_glyph_cursor_next N o0 o1 o3 o4 = some (v, some cs :: rest)) : ObjFn Try.prog i_glyph_cursor_next [] [.str o0, .int .i64 o1, .bn 62 5, .sl .u8 true o3, .bool o4] v cs := by
  have hc := chk_glyph_cursor_next
  simp only [Bool.and_eq_true] at hc
  exact ⟨rest, fnOK_of hΓ pureS_glyph_cursor_next Try.func39 body_glyph_cursor_next hc.1 hc.2 (by decide) ((run_glyph_cursor_next N o0 o1 o3 o4).trans h)⟩

def G_glyph_cursor_unit : Nat → List V → Option (Bool × V) := fun f vs => match f, vs with
  | 46, [.str a0, .int .u8 a1] => some (true, .int .i64 (indexB a0 a1))
  | _, _ => none
def O_glyph_cursor_unit : OSpec := fun f us cs => match f, us, cs with
  | 39, [], [.str o0, .int .i64 o1, .bn 62 5, .sl .u8 true o3, .bool o4] => some ((decide (0 ≤ (o1 : Int)) && decide (List.length o0 ≤ 1000)), .int .u8 (nextC o0 o1), [.str o0, .int .i64 (nextAt o0 o1), .bn 62 5, .sl .u8 true o3, .bool (nextBad o0 o1 o4)])
  | _, _, _ => none
def Γ_glyph_cursor_unit : ASpec := withO O_glyph_cursor_unit (withB (liftG G_glyph_cursor_unit))
theorem pureS_glyph_cursor_unit : PureS Γ_glyph_cursor_unit [47, 40, 42, 39, 41, 49] := by
  refine withO_pure ?_ ((withB_pure (liftG_pure _ _)).mono (by decide))
  intro f us cs hf
  unfold O_glyph_cursor_unit
  split <;> first | rfl | (simp at hf)
theorem spec_glyph_cursor_unit (h_glyph_cursor_next : ∀ (o0 : List UInt8) (o1 : Int) (o3 : List UInt8) (o4 : Bool), (decide (0 ≤ (o1 : Int)) && decide (List.length o0 ≤ 1000)) = true → ObjFn Try.prog i_glyph_cursor_next [] [.str o0, .int .i64 o1, .bn 62 5, .sl .u8 true o3, .bool o4] (.int .u8 (nextC o0 o1)) [.str o0, .int .i64 (nextAt o0 o1), .bn 62 5, .sl .u8 true o3, .bool (nextBad o0 o1 o4)]) (h_strings_IndexByte : ∀ (a0 : List UInt8) (a1 : Int), PureOK Try.prog i_strings_IndexByte [.str a0, .int .u8 a1] (.int .i64 (indexB a0 a1))) : SpecOK Try.prog Γ_glyph_cursor_unit := by
  refine withO_ok ?_ (withB_ok ?_)
  · intro f us cs v cs' h
    unfold O_glyph_cursor_unit at h
    split at h
    · simp only [Option.some.injEq, Prod.mk.injEq] at h
      obtain ⟨hc, rfl, rfl⟩ := h
      exact h_glyph_cursor_next _ _ _ _ hc
    · simp at h
  intro f vs hp v hp' h0
  obtain ⟨h, he⟩ := liftG_inv h0
  subst he
  unfold G_glyph_cursor_unit at h
  split at h
  · simp only [Option.some.injEq, Prod.mk.injEq] at h
    obtain ⟨hc, rfl⟩ := h
    exact (h_strings_IndexByte _ _).frame rfl rfl _
  · simp at h
def ir_glyph_cursor_unit_0 : IR := (.cond (.t 14) (.reg [⟨none, .mov 15 (.t 3)⟩,
    ⟨none, .bin 16 .add (.t 15) (.c (.int .u8 32))⟩,
    ⟨none, .mov 3 (.t 16)⟩] []) .skip)
def ir_glyph_cursor_unit_1 : IR := (.cond (.t 20) (.reg [⟨none, .mov 21 (.t 0)⟩,
    ⟨none, .nck (some 22) (.t 21)⟩,
    ⟨none, .fad 23 4 (.t 22)⟩,
    ⟨none, .st none 1 (.t 23) (.c (.bool true))⟩] []) .skip)
def ir_glyph_cursor_unit_2 : IR := (.reg [⟨none, .mov 24 (.t 2)⟩,
    ⟨none, .bin 25 .shl (.t 24) (.c (.int .u64 4))⟩,
    ⟨none, .mov 26 (.t 4)⟩,
    ⟨none, .bin 27 .and (.t 26) (.c (.int .i64 15))⟩,
    ⟨none, .cvi 28 .u32 (.t 27)⟩,
    ⟨none, .bin 29 .or (.t 25) (.t 28)⟩,
    ⟨none, .mov 2 (.t 29)⟩] [])
def ir_glyph_cursor_unit_3 : IR := (.seq (.seq (.reg [⟨none, .mov 19 (.t 4)⟩,
    ⟨none, .bin 20 .lss (.t 19) (.c (.int .i64 0))⟩] []) ir_glyph_cursor_unit_1) ir_glyph_cursor_unit_2)
def ir_glyph_cursor_unit_4 : IR := (.seq (.reg [⟨none, .mov 17 (.t 3)⟩,
    ⟨none, .call (some 18) 46 [(.c (.str ([48, 49, 50, 51, 52, 53, 54, 55, 56, 57, 97, 98, 99, 100, 101, 102] : List UInt8))), (.t 17)]⟩,
    ⟨none, .mov 4 (.t 18)⟩] []) ir_glyph_cursor_unit_3)
def ir_glyph_cursor_unit_5 : IR := (.seq (.seq (.reg [⟨none, .mov 9 (.t 3)⟩,
    ⟨none, .bin 10 .geq (.t 9) (.c (.int .u8 65))⟩,
    ⟨none, .mov 11 (.t 10)⟩,
    ⟨some (11, true), .mov 12 (.t 3)⟩,
    ⟨some (11, true), .bin 13 .leq (.t 12) (.c (.int .u8 70))⟩,
    ⟨none, .pick 14 (.t 11) (.t 13) (.c (.bool false))⟩] []) ir_glyph_cursor_unit_0) ir_glyph_cursor_unit_4)
def ir_glyph_cursor_unit_6 : IR := (.reg [⟨none, .bin 30 .add (.t 5) (.c (.int .i64 1))⟩,
    ⟨none, .mov 5 (.t 30)⟩] [])
def ir_glyph_cursor_unit_7 : IR := (.seq (.block 1 (.seq (.reg [⟨none, .mov 7 (.t 0)⟩,
    ⟨none, .call (some 8) 39 [(.t 7)]⟩,
    ⟨none, .mov 3 (.t 8)⟩] []) ir_glyph_cursor_unit_5)) ir_glyph_cursor_unit_6)
def ir_glyph_cursor_unit_8 : IR := (.seq (.cond (.t 6) .skip (.exit 0)) ir_glyph_cursor_unit_7)
def ir_glyph_cursor_unit_9 : IR := (.seq (.reg [⟨none, .bin 6 .lss (.t 5) (.c (.int .i64 4))⟩] []) ir_glyph_cursor_unit_8)
def ir_glyph_cursor_unit_10 : IR := (.block 0 (.loop [0, 2, 5] 1 ir_glyph_cursor_unit_9))
def ir_glyph_cursor_unit_11 : IR := .ret
def ir_glyph_cursor_unit_12 : IR := (.seq (.reg [⟨none, .mov 31 (.t 2)⟩,
    ⟨none, .mov 2 (.t 31)⟩] []) ir_glyph_cursor_unit_11)
def ir_glyph_cursor_unit_13 : IR := (.seq (.seq (.reg [⟨none, .mov 5 (.c (.int .i64 0))⟩] []) ir_glyph_cursor_unit_10) ir_glyph_cursor_unit_12)
def ir_glyph_cursor_unit : IR := (.seq (.reg [⟨none, .mov 2 (.c (.int .u32 0))⟩] []) ir_glyph_cursor_unit_13)
def rs_glyph_cursor_unit : List RV := [.t 2]
theorem chk_glyph_cursor_unit : (chkCode Try.prog [47, 40, 42, 39, 41, 49] 1 ir_glyph_cursor_unit (Try.f49.body.getD .skip) && chkRes Try.prog rs_glyph_cursor_unit Try.f49.results.toList) = true := by kernel_rfl
theorem body_glyph_cursor_unit : Try.f49.body = some (Try.f49.body.getD .skip) := by kernel_rfl
def mk_glyph_cursor_unit_0 (x : (Int × Int × List UInt8 × Int × List UInt8 × Bool)) : St := { env := [.ptr 0 0, .undef, .int .u32 x.1, .undef, .undef, .int .i64 x.2.1, .undef, .undef, .undef, .undef, .undef, .undef, .undef, .undef, .undef, .undef, .undef, .undef, .undef, .undef, .undef, .undef, .undef, .undef, .undef, .undef, .undef, .undef, .undef, .undef, .undef, .undef], hp := [some [.str x.2.2.1, .int .i64 x.2.2.2.1, .bn 62 5, .sl .u8 true x.2.2.2.2.1, .bool x.2.2.2.2.2]] }
def F_glyph_cursor_unit_0 (N : Nat) : (St → Option (V × List AObj)) → St → Option (V × List AObj) := fun again0 s => run Γ_glyph_cursor_unit N ir_glyph_cursor_unit_9 (kloop again0 [0, 2, 5] 1 (kblock 0 (kseq (run Γ_glyph_cursor_unit N ir_glyph_cursor_unit_12) (fin rs_glyph_cursor_unit)))) s
def B_glyph_cursor_unit_0 (N : Nat) (again0 : (Int × Int × List UInt8 × Int × List UInt8 × Bool) → Option (V × List AObj)) (x : (Int × Int × List UInt8 × Int × List UInt8 × Bool)) : Option (V × List AObj) :=
  let v2 : Int := x.1
  let v5 : Int := x.2.1
  let o0_0 : List UInt8 := x.2.2.1
  let o0_1 : Int := x.2.2.2.1
  let o0_3 : List UInt8 := x.2.2.2.2.1
  let o0_4 : Bool := x.2.2.2.2.2
  cond (decide (v5 < 4)) (
    chk ((decide (0 ≤ (o0_1 : Int)) && decide (List.length o0_0 ≤ 1000))) (
      let x1 : Bool := decide (65 ≤ (nextC o0_0 o0_1))
      cond x1 (
        let x2 : Bool := decide ((nextC o0_0 o0_1) ≤ 70)
        cond x2 (
          let x3 : Int := (IntKind.wrap .u8 ((nextC o0_0 o0_1) + 32))
          let x4 : Int := (indexB ([48, 49, 50, 51, 52, 53, 54, 55, 56, 57, 97, 98, 99, 100, 101, 102] : List UInt8) x3)
          cond (decide (x4 < 0)) (
            let x5 : Int := (IntKind.wrap .u32 (bitsI .and .i64 x4 15))
            let x6 : Int := (bitsI .or .u32 (shlI .u32 v2 4) x5)
            let x7 : Int := (IntKind.wrap .i64 (v5 + 1))
            again0 (x6, x7, o0_0, (nextAt o0_0 o0_1), o0_3, true)) (
            let x8 : Int := (IntKind.wrap .u32 (bitsI .and .i64 x4 15))
            let x9 : Int := (bitsI .or .u32 (shlI .u32 v2 4) x8)
            let x10 : Int := (IntKind.wrap .i64 (v5 + 1))
            again0 (x9, x10, o0_0, (nextAt o0_0 o0_1), o0_3, (nextBad o0_0 o0_1 o0_4)))) (
          let x11 : Int := (indexB ([48, 49, 50, 51, 52, 53, 54, 55, 56, 57, 97, 98, 99, 100, 101, 102] : List UInt8) (nextC o0_0 o0_1))
          cond (decide (x11 < 0)) (
            let x12 : Int := (IntKind.wrap .u32 (bitsI .and .i64 x11 15))
            let x13 : Int := (bitsI .or .u32 (shlI .u32 v2 4) x12)
            let x14 : Int := (IntKind.wrap .i64 (v5 + 1))
            again0 (x13, x14, o0_0, (nextAt o0_0 o0_1), o0_3, true)) (
            let x15 : Int := (IntKind.wrap .u32 (bitsI .and .i64 x11 15))
            let x16 : Int := (bitsI .or .u32 (shlI .u32 v2 4) x15)
            let x17 : Int := (IntKind.wrap .i64 (v5 + 1))
            again0 (x16, x17, o0_0, (nextAt o0_0 o0_1), o0_3, (nextBad o0_0 o0_1 o0_4))))) (
        let x18 : Int := (indexB ([48, 49, 50, 51, 52, 53, 54, 55, 56, 57, 97, 98, 99, 100, 101, 102] : List UInt8) (nextC o0_0 o0_1))
        cond (decide (x18 < 0)) (
          let x19 : Int := (IntKind.wrap .u32 (bitsI .and .i64 x18 15))
          let x20 : Int := (bitsI .or .u32 (shlI .u32 v2 4) x19)
          let x21 : Int := (IntKind.wrap .i64 (v5 + 1))
          again0 (x20, x21, o0_0, (nextAt o0_0 o0_1), o0_3, true)) (
          let x22 : Int := (IntKind.wrap .u32 (bitsI .and .i64 x18 15))
          let x23 : Int := (bitsI .or .u32 (shlI .u32 v2 4) x22)
          let x24 : Int := (IntKind.wrap .i64 (v5 + 1))
          again0 (x23, x24, o0_0, (nextAt o0_0 o0_1), o0_3, (nextBad o0_0 o0_1 o0_4)))))) (
    some (.int .u32 v2, [some [.str o0_0, .int .i64 o0_1, .bn 62 5, .sl .u8 true o0_3, .bool o0_4]]))
theorem FB_glyph_cursor_unit_0 (N : Nat) : ∀ (again0 : St → Option (V × List AObj)) (x : (Int × Int × List UInt8 × Int × List UInt8 × Bool)), F_glyph_cursor_unit_0 N again0 (mk_glyph_cursor_unit_0 x) = B_glyph_cursor_unit_0 N (fun y => again0 (mk_glyph_cursor_unit_0 y)) x := by
  intro again0 x
  kernel_rfl
/-- (*proclitic/glyph.cursor).unit -/
def sa_glyph_cursor_unit (N : Nat) (o0 : List UInt8) (o1 : Int) (o3 : List UInt8) (o4 : Bool) (q0 : (Int × Int × List UInt8 × Int × List UInt8 × Bool) → Option (V × List AObj)) : Option (V × List AObj) :=
  q0 (0, 0, o0, o1, o3, o4)
def sh_glyph_cursor_unit (N : Nat) (o0 : List UInt8) (o1 : Int) (o3 : List UInt8) (o4 : Bool) : Option (V × List AObj) := sa_glyph_cursor_unit N o0 o1 o3 o4 (fun z => iterL N (B_glyph_cursor_unit_0 N) z)
theorem run_glyph_cursor_unit (N : Nat) (o0 : List UInt8) (o1 : Int) (o3 : List UInt8) (o4 : Bool) : callF Γ_glyph_cursor_unit N 32 rs_glyph_cursor_unit ir_glyph_cursor_unit [.ptr 0 0] [some [.str o0, .int .i64 o1, .bn 62 5, .sl .u8 true o3, .bool o4]] = sh_glyph_cursor_unit N o0 o1 o3 o4 := by
  have h : callF Γ_glyph_cursor_unit N 32 rs_glyph_cursor_unit ir_glyph_cursor_unit [.ptr 0 0] [some [.str o0, .int .i64 o1, .bn 62 5, .sl .u8 true o3, .bool o4]] = sa_glyph_cursor_unit N o0 o1 o3 o4 (fun z => loopN N (F_glyph_cursor_unit_0 N) (mk_glyph_cursor_unit_0 z)) := by kernel_rfl
  have e0 : (fun z => loopN N (F_glyph_cursor_unit_0 N) (mk_glyph_cursor_unit_0 z)) = (fun z => iterL N (B_glyph_cursor_unit_0 N) z) := funext fun z => loop_eq (mk_glyph_cursor_unit_0) (F_glyph_cursor_unit_0 N) (B_glyph_cursor_unit_0 N) (FB_glyph_cursor_unit_0 N) N z
  rw [h, e0]
  rfl
theorem ok_glyph_cursor_unit (hΓ : SpecOK Try.prog Γ_glyph_cursor_unit) (N : Nat) (o0 : List UInt8) (o1 : Int) (o3 : List UInt8) (o4 : Bool) {v : V} {cs : List V} {rest : List AObj} (h : sh_glyph_cursor_unit N o0 o1 o3 o4 = some (v, some cs :: rest)) : ObjFn Try.prog i_glyph_cursor_unit [] [.str o0, .int .i64 o1, .bn 62 5, .sl .u8 true o3, .bool o4] v cs := by
  have hc := chk_glyph_cursor_unit
  simp only [Bool.and_eq_true] at hc
  exact ⟨rest, fnOK_of hΓ pureS_glyph_cursor_unit Try.func49 body_glyph_cursor_unit hc.1 hc.2 (by decide) ((run_glyph_cursor_unit N o0 o1 o3 o4).trans h)⟩

def G_glyph_cursor_escaped : Nat → List V → Option (Bool × V) := fun f vs => match f, vs with
  | 33, [.int .u32 a0] => some (true, .str (putG a0))
  | 46, [.str a0, .int .u8 a1] => some (true, .int .i64 (indexB a0 a1))
  | 50, [.str a0, .str a1] => some (true, .bool (prefixB a0 a1))
  | _, _ => none
def O_glyph_cursor_escaped : OSpec := fun f us cs => match f, us, cs with
  | 39, [], [.str o0, .int .i64 o1, .bn 62 5, .sl .u8 true o3, .bool o4] => some ((decide (0 ≤ (o1 : Int)) && decide (List.length o0 ≤ 1000)), .int .u8 (nextC o0 o1), [.str o0, .int .i64 (nextAt o0 o1), .bn 62 5, .sl .u8 true o3, .bool (nextBad o0 o1 o4)])
  | 49, [], [.str o0, .int .i64 o1, .bn 62 5, .sl .u8 true o3, .bool o4] => some ((decide (0 ≤ (o1 : Int)) && decide (List.length o0 ≤ 1000)), .int .u32 (unitC o0 o1), [.str o0, .int .i64 (unitAt o0 o1), .bn 62 5, .sl .u8 true o3, .bool (unitBad o0 o1 o4)])
  | _, _, _ => none
def Γ_glyph_cursor_escaped : ASpec := withO O_glyph_cursor_escaped (withB (liftG G_glyph_cursor_escaped))
theorem pureS_glyph_cursor_escaped : PureS Γ_glyph_cursor_escaped [47, 40, 42, 39, 41, 49] := by
  refine withO_pure ?_ ((withB_pure (liftG_pure _ _)).mono (by decide))
  intro f us cs hf
  unfold O_glyph_cursor_escaped
  split <;> first | rfl | (simp at hf)
theorem spec_glyph_cursor_escaped (h_glyph_cursor_next : ∀ (o0 : List UInt8) (o1 : Int) (o3 : List UInt8) (o4 : Bool), (decide (0 ≤ (o1 : Int)) && decide (List.length o0 ≤ 1000)) = true → ObjFn Try.prog i_glyph_cursor_next [] [.str o0, .int .i64 o1, .bn 62 5, .sl .u8 true o3, .bool o4] (.int .u8 (nextC o0 o1)) [.str o0, .int .i64 (nextAt o0 o1), .bn 62 5, .sl .u8 true o3, .bool (nextBad o0 o1 o4)]) (h_glyph_cursor_unit : ∀ (o0 : List UInt8) (o1 : Int) (o3 : List UInt8) (o4 : Bool), (decide (0 ≤ (o1 : Int)) && decide (List.length o0 ≤ 1000)) = true → ObjFn Try.prog i_glyph_cursor_unit [] [.str o0, .int .i64 o1, .bn 62 5, .sl .u8 true o3, .bool o4] (.int .u32 (unitC o0 o1)) [.str o0, .int .i64 (unitAt o0 o1), .bn 62 5, .sl .u8 true o3, .bool (unitBad o0 o1 o4)]) (h_glyph_Put : ∀ (a0 : Int), PureOK Try.prog i_glyph_Put [.int .u32 a0] (.str (putG a0))) (h_strings_IndexByte : ∀ (a0 : List UInt8) (a1 : Int), PureOK Try.prog i_strings_IndexByte [.str a0, .int .u8 a1] (.int .i64 (indexB a0 a1))) (h_strings_HasPrefix : ∀ (a0 : List UInt8) (a1 : List UInt8), PureOK Try.prog i_strings_HasPrefix [.str a0, .str a1] (.bool (prefixB a0 a1))) : SpecOK Try.prog Γ_glyph_cursor_escaped := by
  refine withO_ok ?_ (withB_ok ?_)
  · intro f us cs v cs' h
    unfold O_glyph_cursor_escaped at h
    split at h
    · simp only [Option.some.injEq, Prod.mk.injEq] at h
      obtain ⟨hc, rfl, rfl⟩ := h
      exact h_glyph_cursor_next _ _ _ _ hc
    · simp only [Option.some.injEq, Prod.mk.injEq] at h
      obtain ⟨hc, rfl, rfl⟩ := h
      exact h_glyph_cursor_unit _ _ _ _ hc
    · simp at h
  intro f vs hp v hp' h0
  obtain ⟨h, he⟩ := liftG_inv h0
  subst he
  unfold G_glyph_cursor_escaped at h
  split at h
  · simp only [Option.some.injEq, Prod.mk.injEq] at h
    obtain ⟨hc, rfl⟩ := h
    exact (h_glyph_Put _).frame rfl rfl _
  · simp only [Option.some.injEq, Prod.mk.injEq] at h
    obtain ⟨hc, rfl⟩ := h
    exact (h_strings_IndexByte _ _).frame rfl rfl _
  · simp only [Option.some.injEq, Prod.mk.injEq] at h
    obtain ⟨hc, rfl⟩ := h
    exact (h_strings_HasPrefix _ _).frame rfl rfl _
  · simp at h
def ir_glyph_cursor_escaped_0 : IR := .ret
def ir_glyph_cursor_escaped_1 : IR := (.cond (.t 11) (.seq (.reg [⟨none, .mov 12 (.t 0)⟩,
    ⟨none, .nck (some 13) (.t 12)⟩,
    ⟨none, .fad 14 2 (.t 13)⟩,
    ⟨none, .mov 15 (.t 3)⟩,
    ⟨none, .idx 16 (.c (.str ([34, 92, 8, 12, 10, 13, 9] : List UInt8))) (.t 15)⟩,
    ⟨none, .call (some 17) 42 [(.t 14), (.t 16)]⟩] [[], [0], [0, 1], [], [3], [0, 1, 2, 3, 4]]) ir_glyph_cursor_escaped_0) .skip)
def ir_glyph_cursor_escaped_2 : IR := (.seq (.reg [⟨none, .mov 10 (.t 3)⟩,
    ⟨none, .bin 11 .geq (.t 10) (.c (.int .i64 0))⟩] []) ir_glyph_cursor_escaped_1)
def ir_glyph_cursor_escaped_3 : IR := .ret
def ir_glyph_cursor_escaped_4 : IR := (.cond (.t 19) (.seq (.reg [⟨none, .mov 20 (.t 0)⟩,
    ⟨none, .nck (some 21) (.t 20)⟩,
    ⟨none, .fad 22 2 (.t 21)⟩,
    ⟨none, .mov 23 (.t 2)⟩,
    ⟨none, .call (some 24) 42 [(.t 22), (.t 23)]⟩] []) ir_glyph_cursor_escaped_3) .skip)
def ir_glyph_cursor_escaped_5 : IR := .ret
def ir_glyph_cursor_escaped_6 : IR := (.cond (.t 26) (.seq (.reg [⟨none, .mov 27 (.t 0)⟩,
    ⟨none, .nck (some 28) (.t 27)⟩,
    ⟨none, .fad 29 4 (.t 28)⟩,
    ⟨none, .st none 1 (.t 29) (.c (.bool true))⟩] []) ir_glyph_cursor_escaped_5) .skip)
def ir_glyph_cursor_escaped_7 : IR := (.cond (.t 64) (.reg [⟨none, .mov 65 (.t 0)⟩,
    ⟨none, .nck (some 66) (.t 65)⟩,
    ⟨none, .fad 67 4 (.t 66)⟩,
    ⟨none, .st none 1 (.t 67) (.c (.bool true))⟩] []) .skip)
def ir_glyph_cursor_escaped_8 : IR := (.reg [⟨none, .mov 68 (.t 4)⟩,
    ⟨none, .bin 69 .sub (.t 68) (.c (.int .u32 55296))⟩,
    ⟨none, .bin 70 .shl (.t 69) (.c (.int .u64 10))⟩,
    ⟨none, .bin 71 .add (.c (.int .u32 65536)) (.t 70)⟩,
    ⟨none, .mov 72 (.t 5)⟩,
    ⟨none, .bin 73 .and (.t 72) (.c (.int .u32 1023))⟩,
    ⟨none, .bin 74 .add (.t 71) (.t 73)⟩,
    ⟨none, .mov 4 (.t 74)⟩] [])
def ir_glyph_cursor_escaped_9 : IR := (.seq (.seq (.reg [⟨none, .mov 59 (.t 5)⟩,
    ⟨none, .bin 60 .lss (.t 59) (.c (.int .u32 56320))⟩,
    ⟨none, .mov 61 (.t 60)⟩,
    ⟨some (61, false), .mov 62 (.t 5)⟩,
    ⟨some (61, false), .bin 63 .geq (.t 62) (.c (.int .u32 57344))⟩,
    ⟨none, .pick 64 (.t 61) (.c (.bool true)) (.t 63)⟩] []) ir_glyph_cursor_escaped_7) ir_glyph_cursor_escaped_8)
def ir_glyph_cursor_escaped_10 : IR := (.seq (.reg [⟨none, .mov 57 (.t 0)⟩,
    ⟨none, .call (some 58) 49 [(.t 57)]⟩,
    ⟨none, .mov 5 (.t 58)⟩] []) ir_glyph_cursor_escaped_9)
def ir_glyph_cursor_escaped_11 : IR := (.cond (.t 80) (.reg [⟨none, .mov 81 (.t 0)⟩,
    ⟨none, .nck (some 82) (.t 81)⟩,
    ⟨none, .fad 83 4 (.t 82)⟩,
    ⟨none, .st none 1 (.t 83) (.c (.bool true))⟩] []) .skip)
def ir_glyph_cursor_escaped_12 : IR := (.cond (.t 49) (.seq (.reg [⟨none, .mov 50 (.t 0)⟩,
    ⟨none, .nck (some 51) (.t 50)⟩,
    ⟨none, .fad 52 1 (.t 51)⟩,
    ⟨none, .ld 53 1 false false (.t 52)⟩,
    ⟨none, .bin 54 .add (.t 53) (.c (.int .i64 2))⟩,
    ⟨none, .nck (some 55) (.t 50)⟩,
    ⟨none, .fad 56 1 (.t 55)⟩,
    ⟨none, .st none 1 (.t 56) (.t 54)⟩] []) ir_glyph_cursor_escaped_10) (.seq (.reg [⟨none, .mov 75 (.t 4)⟩,
    ⟨none, .bin 76 .geq (.t 75) (.c (.int .u32 55296))⟩,
    ⟨none, .mov 77 (.t 76)⟩,
    ⟨some (77, true), .mov 78 (.t 4)⟩,
    ⟨some (77, true), .bin 79 .lss (.t 78) (.c (.int .u32 57344))⟩,
    ⟨none, .pick 80 (.t 77) (.t 79) (.c (.bool false))⟩] []) ir_glyph_cursor_escaped_11))
def ir_glyph_cursor_escaped_13 : IR := (.reg [⟨none, .mov 84 (.t 0)⟩,
    ⟨none, .nck (some 85) (.t 84)⟩,
    ⟨none, .fad 86 2 (.t 85)⟩,
    ⟨none, .mov 87 (.t 4)⟩,
    ⟨none, .call (some 88) 33 [(.t 87)]⟩,
    ⟨none, .call (some 89) 47 [(.t 86), (.t 88)]⟩] [[], [0], [0, 1], [], [3], [0, 1, 2, 3, 4]])
def ir_glyph_cursor_escaped_14 : IR := (.seq (.seq (.reg [⟨none, .mov 32 (.t 4)⟩,
    ⟨none, .bin 33 .geq (.t 32) (.c (.int .u32 55296))⟩,
    ⟨none, .mov 34 (.t 33)⟩,
    ⟨some (34, true), .mov 35 (.t 4)⟩,
    ⟨some (34, true), .bin 36 .lss (.t 35) (.c (.int .u32 56320))⟩,
    ⟨none, .pick 37 (.t 34) (.t 36) (.c (.bool false))⟩,
    ⟨none, .mov 38 (.t 37)⟩,
    ⟨some (38, true), .mov 39 (.t 0)⟩,
    ⟨some (38, true), .nck (some 40) (.t 39)⟩,
    ⟨some (38, true), .fad 41 0 (.t 40)⟩,
    ⟨some (38, true), .ld 42 1 false false (.t 41)⟩,
    ⟨some (38, true), .mov 43 (.t 0)⟩,
    ⟨some (38, true), .nck (some 44) (.t 43)⟩,
    ⟨some (38, true), .fad 45 1 (.t 44)⟩,
    ⟨some (38, true), .ld 46 1 false false (.t 45)⟩,
    ⟨some (38, true), .subs 47 (.t 42) (some (.t 46)) none⟩,
    ⟨some (38, true), .call (some 48) 50 [(.t 47), (.c (.str ([92, 117] : List UInt8)))]⟩,
    ⟨none, .pick 49 (.t 38) (.t 48) (.c (.bool false))⟩] [[], [0], [0, 1], [0, 1, 2], [0, 1, 2, 3], [0, 1, 2, 3, 4], [0, 1, 2, 3, 4, 5], [0, 1, 2, 3, 4, 5, 6], [0, 1, 2, 3, 4, 5, 6, 7], [0, 1, 2, 3, 4, 5, 6, 7, 8], [0, 1, 2, 3, 4, 5, 6, 7, 8, 9], [0, 1, 2, 3, 4, 5, 6], [0, 1, 2, 3, 4, 5, 6, 11], [0, 1, 2, 3, 4, 5, 6, 11, 12], [0, 1, 2, 3, 4, 5, 6, 11, 12, 13], [0, 1, 2, 3, 4, 5, 6, 7, 8, 9, 10, 11, 12, 13, 14], [0, 1, 2, 3, 4, 5, 6, 7, 8, 9, 10, 11, 12, 13, 14, 15], [0, 1, 2, 3, 4, 5, 6, 7, 8, 9, 10, 11, 12, 13, 14, 15, 16]]) ir_glyph_cursor_escaped_12) ir_glyph_cursor_escaped_13)
def ir_glyph_cursor_escaped_15 : IR := (.seq (.reg [⟨none, .mov 30 (.t 0)⟩,
    ⟨none, .call (some 31) 49 [(.t 30)]⟩,
    ⟨none, .mov 4 (.t 31)⟩] []) ir_glyph_cursor_escaped_14)
def ir_glyph_cursor_escaped_16 : IR := (.seq (.seq (.reg [⟨none, .mov 25 (.t 2)⟩,
    ⟨none, .bin 26 .neq (.t 25) (.c (.int .u8 117))⟩] []) ir_glyph_cursor_escaped_6) ir_glyph_cursor_escaped_15)
def ir_glyph_cursor_escaped_17 : IR := (.seq (.seq (.reg [⟨none, .mov 18 (.t 2)⟩,
    ⟨none, .bin 19 .eql (.t 18) (.c (.int .u8 47))⟩] []) ir_glyph_cursor_escaped_4) ir_glyph_cursor_escaped_16)
def ir_glyph_cursor_escaped_18 : IR := (.seq (.seq (.reg [⟨none, .mov 8 (.t 2)⟩,
    ⟨none, .call (some 9) 46 [(.c (.str ([34, 92, 98, 102, 110, 114, 116] : List UInt8))), (.t 8)]⟩,
    ⟨none, .mov 3 (.t 9)⟩] []) ir_glyph_cursor_escaped_2) ir_glyph_cursor_escaped_17)
def ir_glyph_cursor_escaped : IR := (.seq (.reg [⟨none, .mov 6 (.t 0)⟩,
    ⟨none, .call (some 7) 39 [(.t 6)]⟩,
    ⟨none, .mov 2 (.t 7)⟩] []) ir_glyph_cursor_escaped_18)
def rs_glyph_cursor_escaped : List RV := []
theorem chk_glyph_cursor_escaped : (chkCode Try.prog [47, 40, 42, 39, 41, 49] 1 ir_glyph_cursor_escaped (Try.f41.body.getD .skip) && chkRes Try.prog rs_glyph_cursor_escaped Try.f41.results.toList) = true := by kernel_rfl
theorem body_glyph_cursor_escaped : Try.f41.body = some (Try.f41.body.getD .skip) := by kernel_rfl
/-- (*proclitic/glyph.cursor).escaped -/
def sa_glyph_cursor_escaped (N : Nat) (o0 : List UInt8) (o1 : Int) (o3 : List UInt8) (o4 : Bool)  : Option (V × List AObj) :=
  chk ((decide (0 ≤ (o1 : Int)) && decide (List.length o0 ≤ 1000))) (
    let x1 : Int := (indexB ([34, 92, 98, 102, 110, 114, 116] : List UInt8) (nextC o0 o1))
    cond (decide (0 ≤ x1)) (
      chk ((decide (0 ≤ x1) && decide (x1 < ↑(List.length ([34, 92, 8, 12, 10, 13, 9] : List UInt8))))) (
        let x2 : Int := (↑(UInt8.toNat (List.getD ([34, 92, 8, 12, 10, 13, 9] : List UInt8) (Int.toNat x1) 0)) : Int)
        chk (decide (List.length o3 + 1 ≤ 140737488355328)) (
          some (.tup [], [some [.str o0, .int .i64 (nextAt o0 o1), .bn 62 5, .sl .u8 true (o3 ++ [UInt8.ofNat (Int.toNat x2)]), .bool (nextBad o0 o1 o4)]])))) (
      cond ((nextC o0 o1) == 47) (
        chk (decide (List.length o3 + 1 ≤ 140737488355328)) (
          some (.tup [], [some [.str o0, .int .i64 (nextAt o0 o1), .bn 62 5, .sl .u8 true (o3 ++ [UInt8.ofNat (Int.toNat (nextC o0 o1))]), .bool (nextBad o0 o1 o4)]]))) (
        let x3 : Bool := (!((nextC o0 o1) == 117))
        cond x3 (
          some (.tup [], [some [.str o0, .int .i64 (nextAt o0 o1), .bn 62 5, .sl .u8 true o3, .bool true]])) (
          chk ((decide (0 ≤ ((nextAt o0 o1) : Int)) && decide (List.length o0 ≤ 1000))) (
            let x4 : Int := (unitC o0 (nextAt o0 o1))
            cond (decide (55296 ≤ x4)) (
              cond (decide (x4 < 56320)) (
                let x5 : Int := (unitAt o0 (nextAt o0 o1))
                chk ((decide (0 ≤ x5) && decide (x5 ≤ (↑(List.length o0) : Int)))) (
                  let x6 : List UInt8 := (List.drop (Int.toNat x5) (List.take (List.length o0) o0))
                  let x7 : Bool := (prefixB x6 ([92, 117] : List UInt8))
                  cond x7 (
                    let x8 : Int := (unitAt o0 (nextAt o0 o1))
                    let x9 : Int := (IntKind.wrap .i64 (x8 + 2))
                    chk ((decide (0 ≤ (x9 : Int)) && decide (List.length o0 ≤ 1000))) (
                      let x10 : Bool := decide ((unitC o0 x9) < 56320)
                      cond x10 (
                        let x11 : Int := (IntKind.wrap .u32 (x4 - 55296))
                        let x12 : Int := (IntKind.wrap .u32 (65536 + (shlI .u32 x11 10)))
                        let x13 : Int := (bitsI .and .u32 (unitC o0 x9) 1023)
                        let x14 : Int := (IntKind.wrap .u32 (x12 + x13))
                        chk (decide (List.length o3 + List.length (putG x14) ≤ 140737488355328)) (
                          let x15 : Int := (↑(List.length (putG x14)) : Int)
                          some (.tup [], [some [.str o0, .int .i64 (unitAt o0 x9), .bn 62 5, .sl .u8 true (o3 ++ (putG x14)), .bool true]]))) (
                        let x16 : Bool := decide (57344 ≤ (unitC o0 x9))
                        cond x16 (
                          let x17 : Int := (IntKind.wrap .u32 (x4 - 55296))
                          let x18 : Int := (IntKind.wrap .u32 (65536 + (shlI .u32 x17 10)))
                          let x19 : Int := (bitsI .and .u32 (unitC o0 x9) 1023)
                          let x20 : Int := (IntKind.wrap .u32 (x18 + x19))
                          chk (decide (List.length o3 + List.length (putG x20) ≤ 140737488355328)) (
                            let x21 : Int := (↑(List.length (putG x20)) : Int)
                            some (.tup [], [some [.str o0, .int .i64 (unitAt o0 x9), .bn 62 5, .sl .u8 true (o3 ++ (putG x20)), .bool true]]))) (
                          let x22 : Int := (IntKind.wrap .u32 (x4 - 55296))
                          let x23 : Int := (IntKind.wrap .u32 (65536 + (shlI .u32 x22 10)))
                          let x24 : Int := (bitsI .and .u32 (unitC o0 x9) 1023)
                          let x25 : Int := (IntKind.wrap .u32 (x23 + x24))
                          chk (decide (List.length o3 + List.length (putG x25) ≤ 140737488355328)) (
                            let x26 : Int := (↑(List.length (putG x25)) : Int)
                            some (.tup [], [some [.str o0, .int .i64 (unitAt o0 x9), .bn 62 5, .sl .u8 true (o3 ++ (putG x25)), .bool (unitBad o0 x9 (unitBad o0 (nextAt o0 o1) (nextBad o0 o1 o4)))]])))))) (
                    cond (decide (55296 ≤ x4)) (
                      cond (decide (x4 < 57344)) (
                        chk (decide (List.length o3 + List.length (putG x4) ≤ 140737488355328)) (
                          let x27 : Int := (↑(List.length (putG x4)) : Int)
                          some (.tup [], [some [.str o0, .int .i64 (unitAt o0 (nextAt o0 o1)), .bn 62 5, .sl .u8 true (o3 ++ (putG x4)), .bool true]]))) (
                        chk (decide (List.length o3 + List.length (putG x4) ≤ 140737488355328)) (
                          let x28 : Int := (↑(List.length (putG x4)) : Int)
                          some (.tup [], [some [.str o0, .int .i64 (unitAt o0 (nextAt o0 o1)), .bn 62 5, .sl .u8 true (o3 ++ (putG x4)), .bool (unitBad o0 (nextAt o0 o1) (nextBad o0 o1 o4))]])))) (
                      chk (decide (List.length o3 + List.length (putG x4) ≤ 140737488355328)) (
                        let x29 : Int := (↑(List.length (putG x4)) : Int)
                        some (.tup [], [some [.str o0, .int .i64 (unitAt o0 (nextAt o0 o1)), .bn 62 5, .sl .u8 true (o3 ++ (putG x4)), .bool (unitBad o0 (nextAt o0 o1) (nextBad o0 o1 o4))]])))))) (
                cond (decide (55296 ≤ x4)) (
                  cond (decide (x4 < 57344)) (
                    chk (decide (List.length o3 + List.length (putG x4) ≤ 140737488355328)) (
                      let x30 : Int := (↑(List.length (putG x4)) : Int)
                      some (.tup [], [some [.str o0, .int .i64 (unitAt o0 (nextAt o0 o1)), .bn 62 5, .sl .u8 true (o3 ++ (putG x4)), .bool true]]))) (
                    chk (decide (List.length o3 + List.length (putG x4) ≤ 140737488355328)) (
                      let x31 : Int := (↑(List.length (putG x4)) : Int)
                      some (.tup [], [some [.str o0, .int .i64 (unitAt o0 (nextAt o0 o1)), .bn 62 5, .sl .u8 true (o3 ++ (putG x4)), .bool (unitBad o0 (nextAt o0 o1) (nextBad o0 o1 o4))]])))) (
                  chk (decide (List.length o3 + List.length (putG x4) ≤ 140737488355328)) (
                    let x32 : Int := (↑(List.length (putG x4)) : Int)
                    some (.tup [], [some [.str o0, .int .i64 (unitAt o0 (nextAt o0 o1)), .bn 62 5, .sl .u8 true (o3 ++ (putG x4)), .bool (unitBad o0 (nextAt o0 o1) (nextBad o0 o1 o4))]]))))) (
              cond (decide (55296 ≤ x4)) (
                cond (decide (x4 < 57344)) (
                  chk (decide (List.length o3 + List.length (putG x4) ≤ 140737488355328)) (
                    let x33 : Int := (↑(List.length (putG x4)) : Int)
                    some (.tup [], [some [.str o0, .int .i64 (unitAt o0 (nextAt o0 o1)), .bn 62 5, .sl .u8 true (o3 ++ (putG x4)), .bool true]]))) (
                  chk (decide (List.length o3 + List.length (putG x4) ≤ 140737488355328)) (
                    let x34 : Int := (↑(List.length (putG x4)) : Int)
                    some (.tup [], [some [.str o0, .int .i64 (unitAt o0 (nextAt o0 o1)), .bn 62 5, .sl .u8 true (o3 ++ (putG x4)), .bool (unitBad o0 (nextAt o0 o1) (nextBad o0 o1 o4))]])))) (
                chk (decide (List.length o3 + List.length (putG x4) ≤ 140737488355328)) (
                  let x35 : Int := (↑(List.length (putG x4)) : Int)
                  some (.tup [], [some [.str o0, .int .i64 (unitAt o0 (nextAt o0 o1)), .bn 62 5, .sl .u8 true (o3 ++ (putG x4)), .bool (unitBad o0 (nextAt o0 o1) (nextBad o0 o1 o4))]])))))))))
def sh_glyph_cursor_escaped (N : Nat) (o0 : List UInt8) (o1 : Int) (o3 : List UInt8) (o4 : Bool) : Option (V × List AObj) := sa_glyph_cursor_escaped N o0 o1 o3 o4
theorem run_glyph_cursor_escaped (N : Nat) (o0 : List UInt8) (o1 : Int) (o3 : List UInt8) (o4 : Bool) : callF Γ_glyph_cursor_escaped N 90 rs_glyph_cursor_escaped ir_glyph_cursor_escaped [.ptr 0 0] [some [.str o0, .int .i64 o1, .bn 62 5, .sl .u8 true o3, .bool o4]] = sh_glyph_cursor_escaped N o0 o1 o3 o4 := by kernel_rfl
theorem ok_glyph_cursor_escaped (hΓ : SpecOK Try.prog Γ_glyph_cursor_escaped) (N : Nat) (o0 : List UInt8) (o1 : Int) (o3 : List UInt8) (o4 : Bool) {v : V} {cs : List V} {rest : List AObj} (h : sh_glyph_cursor_escaped N o0 o1 o3 o4 = some (v, some cs :: rest)) : ObjFn Try.prog i_glyph_cursor_escaped [] [.str o0, .int .i64 o1, .bn 62 5, .sl .u8 true o3, .bool o4] v cs := by
  have hc := chk_glyph_cursor_escaped
  simp only [Bool.and_eq_true] at hc
  exact ⟨rest, fnOK_of hΓ pureS_glyph_cursor_escaped Try.func41 body_glyph_cursor_escaped hc.1 hc.2 (by decide) ((run_glyph_cursor_escaped N o0 o1 o3 o4).trans h)⟩

def G_glyph_Unquote : Nat → List V → Option (Bool × V) := fun f vs => match f, vs with
  | 29, [.str a0] => some (true, .bool (validG a0))
  | _, _ => none
def O_glyph_Unquote : OSpec := fun f us cs => match f, us, cs with
  | 39, [], [.str o0, .int .i64 o1, .bn 62 5, .sl .u8 true o3, .bool o4] => some ((decide (0 ≤ (o1 : Int)) && decide (List.length o0 ≤ 1000)), .int .u8 (nextC o0 o1), [.str o0, .int .i64 (nextAt o0 o1), .bn 62 5, .sl .u8 true o3, .bool (nextBad o0 o1 o4)])
  | 41, [], [.str o0, .int .i64 o1, .bn 62 5, .sl .u8 true o3, .bool o4] => some (((decide (0 ≤ (o1 : Int)) && decide (List.length o0 ≤ 1000)) && (decide (o1 ≤ (List.length o0 : Int)) && decide (List.length o3 ≤ 5000))), .tup [], [.str o0, .int .i64 (escAt o0 o1), .bn 62 5, .sl .u8 true (escOut o0 o1 o3), .bool (escBad o0 o1 o4)])
  | _, _, _ => none
def Γ_glyph_Unquote : ASpec := withO O_glyph_Unquote (withB (liftG G_glyph_Unquote))
theorem pureS_glyph_Unquote : PureS Γ_glyph_Unquote [47, 40, 42, 39, 41, 49] := by
  refine withO_pure ?_ ((withB_pure (liftG_pure _ _)).mono (by decide))
  intro f us cs hf
  unfold O_glyph_Unquote
  split <;> first | rfl | (simp at hf)
theorem spec_glyph_Unquote (h_glyph_cursor_next : ∀ (o0 : List UInt8) (o1 : Int) (o3 : List UInt8) (o4 : Bool), (decide (0 ≤ (o1 : Int)) && decide (List.length o0 ≤ 1000)) = true → ObjFn Try.prog i_glyph_cursor_next [] [.str o0, .int .i64 o1, .bn 62 5, .sl .u8 true o3, .bool o4] (.int .u8 (nextC o0 o1)) [.str o0, .int .i64 (nextAt o0 o1), .bn 62 5, .sl .u8 true o3, .bool (nextBad o0 o1 o4)]) (h_glyph_cursor_escaped : ∀ (o0 : List UInt8) (o1 : Int) (o3 : List UInt8) (o4 : Bool), ((decide (0 ≤ (o1 : Int)) && decide (List.length o0 ≤ 1000)) && (decide (o1 ≤ (List.length o0 : Int)) && decide (List.length o3 ≤ 5000))) = true → ObjFn Try.prog i_glyph_cursor_escaped [] [.str o0, .int .i64 o1, .bn 62 5, .sl .u8 true o3, .bool o4] (.tup []) [.str o0, .int .i64 (escAt o0 o1), .bn 62 5, .sl .u8 true (escOut o0 o1 o3), .bool (escBad o0 o1 o4)]) (h_glyph_Valid : ∀ (a0 : List UInt8), PureOK Try.prog i_glyph_Valid [.str a0] (.bool (validG a0))) : SpecOK Try.prog Γ_glyph_Unquote := by
  refine withO_ok ?_ (withB_ok ?_)
  · intro f us cs v cs' h
    unfold O_glyph_Unquote at h
    split at h
    · simp only [Option.some.injEq, Prod.mk.injEq] at h
      obtain ⟨hc, rfl, rfl⟩ := h
      exact h_glyph_cursor_next _ _ _ _ hc
    · simp only [Option.some.injEq, Prod.mk.injEq] at h
      obtain ⟨hc, rfl, rfl⟩ := h
      exact h_glyph_cursor_escaped _ _ _ _ hc
    · simp at h
  intro f vs hp v hp' h0
  obtain ⟨h, he⟩ := liftG_inv h0
  subst he
  unfold G_glyph_Unquote at h
  split at h
  · simp only [Option.some.injEq, Prod.mk.injEq] at h
    obtain ⟨hc, rfl⟩ := h
    exact (h_glyph_Valid _).frame rfl rfl _
  · simp at h
def ir_glyph_Unquote_0 : IR := .ret
def ir_glyph_Unquote_1 : IR := (.cond (.t 12) (.seq (.reg [⟨none, .mov 2 (.c (.str ([] : List UInt8)))⟩,
    ⟨none, .mov 3 (.c (.int .i64 0))⟩,
    ⟨none, .mov 4 (.c (.int .i64 2))⟩] []) ir_glyph_Unquote_0) .skip)
def ir_glyph_Unquote_2 : IR := (.cond (.t 17) .skip (.exit 0))
def ir_glyph_Unquote_3 : IR := .ret
def ir_glyph_Unquote_4 : IR := (.cond (.t 34) (.seq (.reg [⟨none, .mov 2 (.c (.str ([] : List UInt8)))⟩,
    ⟨none, .mov 3 (.c (.int .i64 0))⟩,
    ⟨none, .mov 4 (.c (.int .i64 2))⟩] []) ir_glyph_Unquote_3) .skip)
def ir_glyph_Unquote_5 : IR := (.seq (.reg [⟨none, .mov 32 (.t 2)⟩,
    ⟨none, .call (some 33) 29 [(.t 32)]⟩,
    ⟨none, .un 34 .not (.t 33)⟩] []) ir_glyph_Unquote_4)
def ir_glyph_Unquote_6 : IR := .ret
def ir_glyph_Unquote_7 : IR := (.seq (.reg [⟨none, .mov 35 (.t 2)⟩,
    ⟨none, .mov 36 (.t 5)⟩,
    ⟨none, .nck (some 37) (.t 36)⟩,
    ⟨none, .fad 38 1 (.t 37)⟩,
    ⟨none, .ld 39 1 false false (.t 38)⟩,
    ⟨none, .mov 2 (.t 35)⟩,
    ⟨none, .mov 3 (.t 39)⟩,
    ⟨none, .mov 4 (.c (.int .i64 0))⟩] [[], [], [1], [1, 2], [1, 2, 3], [0], [0, 1, 2, 3, 4, 5], [0, 1, 2, 3, 4, 5, 6]]) ir_glyph_Unquote_6)
def ir_glyph_Unquote_8 : IR := (.cond (.t 46) (.reg [⟨none, .mov 49 (.t 5)⟩,
    ⟨none, .call (some 50) 41 [(.t 49)]⟩] []) (.reg [⟨none, .mov 20 (.t 5)⟩,
    ⟨none, .nck (some 21) (.t 20)⟩,
    ⟨none, .fad 22 2 (.t 21)⟩,
    ⟨none, .mov 23 (.t 6)⟩,
    ⟨none, .call (some 24) 42 [(.t 22), (.t 23)]⟩] []))
def ir_glyph_Unquote_9 : IR := (.cond (.t 40) (.reg [⟨none, .mov 43 (.t 5)⟩,
    ⟨none, .nck (some 44) (.t 43)⟩,
    ⟨none, .fad 45 4 (.t 44)⟩,
    ⟨none, .st none 1 (.t 45) (.c (.bool true))⟩] []) (.seq (.reg [⟨none, .mov 47 (.t 6)⟩,
    ⟨none, .bin 48 .eql (.t 47) (.c (.int .u8 92))⟩,
    ⟨none, .mov 46 (.t 48)⟩] []) ir_glyph_Unquote_8))
def ir_glyph_Unquote_10 : IR := (.cond (.t 25) (.seq (.seq (.reg [⟨none, .mov 28 (.t 5)⟩,
    ⟨none, .nck (some 29) (.t 28)⟩,
    ⟨none, .fad 30 2 (.t 29)⟩,
    ⟨none, .call (some 31) 40 [(.t 30)]⟩,
    ⟨none, .mov 2 (.t 31)⟩] []) ir_glyph_Unquote_5) ir_glyph_Unquote_7) (.seq (.reg [⟨none, .mov 41 (.t 6)⟩,
    ⟨none, .bin 42 .lss (.t 41) (.c (.int .u8 32))⟩,
    ⟨none, .mov 40 (.t 42)⟩] []) ir_glyph_Unquote_9))
def ir_glyph_Unquote_11 : IR := (.block 2 (.seq (.reg [⟨none, .mov 26 (.t 6)⟩,
    ⟨none, .bin 27 .eql (.t 26) (.c (.int .u8 34))⟩,
    ⟨none, .mov 25 (.t 27)⟩] []) ir_glyph_Unquote_10))
def ir_glyph_Unquote_12 : IR := (.block 1 (.seq (.reg [⟨none, .mov 18 (.t 5)⟩,
    ⟨none, .call (some 19) 39 [(.t 18)]⟩,
    ⟨none, .mov 6 (.t 19)⟩] []) ir_glyph_Unquote_11))
def ir_glyph_Unquote_13 : IR := (.seq (.seq (.reg [⟨none, .mov 13 (.t 5)⟩,
    ⟨none, .nck (some 14) (.t 13)⟩,
    ⟨none, .fad 15 4 (.t 14)⟩,
    ⟨none, .ld 16 1 false false (.t 15)⟩,
    ⟨none, .un 17 .not (.t 16)⟩] []) ir_glyph_Unquote_2) ir_glyph_Unquote_12)
def ir_glyph_Unquote_14 : IR := .ret
def ir_glyph_Unquote_15 : IR := (.seq (.reg [⟨none, .mov 2 (.c (.str ([] : List UInt8)))⟩,
    ⟨none, .mov 3 (.c (.int .i64 0))⟩,
    ⟨none, .mov 4 (.c (.int .i64 2))⟩] []) ir_glyph_Unquote_14)
def ir_glyph_Unquote_16 : IR := (.seq (.block 0 (.loop [5] 1 ir_glyph_Unquote_13)) ir_glyph_Unquote_15)
def ir_glyph_Unquote_17 : IR := (.seq (.seq (.reg [⟨none, .mov 10 (.t 5)⟩,
    ⟨none, .call (some 11) 39 [(.t 10)]⟩,
    ⟨none, .bin 12 .neq (.t 11) (.c (.int .u8 34))⟩] []) ir_glyph_Unquote_1) ir_glyph_Unquote_16)
def ir_glyph_Unquote_18 : IR := (.seq (.reg [⟨none, .mov 7 (.t 0)⟩,
    ⟨none, .bld 8 [.str ([] : List UInt8), .int .i64 0, .nilp, .sl .u8 true ([] : List UInt8), .bool false] [(0, 1, (.t 7))]⟩,
    ⟨none, .boxb 9 2 62 5 (.t 8)⟩,
    ⟨none, .mov 5 (.t 9)⟩] []) ir_glyph_Unquote_17)
def ir_glyph_Unquote : IR := (.seq (.reg [⟨none, .mov 2 (.c (.str ([] : List UInt8)))⟩,
    ⟨none, .mov 3 (.c (.int .i64 0))⟩,
    ⟨none, .mov 4 (.c (.int .i64 0))⟩] []) ir_glyph_Unquote_18)
def rs_glyph_Unquote : List RV := [.t 2, .t 3, .t 4]
theorem chk_glyph_Unquote : (chkCode Try.prog [47, 40, 42, 39, 41, 49] 0 ir_glyph_Unquote (Try.f27.body.getD .skip) && chkRes Try.prog rs_glyph_Unquote Try.f27.results.toList) = true := by kernel_rfl
theorem body_glyph_Unquote : Try.f27.body = some (Try.f27.body.getD .skip) := by kernel_rfl
def mk_glyph_Unquote_0 (x : (List UInt8 × Int × List UInt8 × Bool)) : St := { env := [.undef, .undef, .undef, .undef, .undef, .ptr 0 0, .undef, .undef, .undef, .undef, .undef, .undef, .undef, .undef, .undef, .undef, .undef, .undef, .undef, .undef, .undef, .undef, .undef, .undef, .undef, .undef, .undef, .undef, .undef, .undef, .undef, .undef, .undef, .undef, .undef, .undef, .undef, .undef, .undef, .undef, .undef, .undef, .undef, .undef, .undef, .undef, .undef, .undef, .undef, .undef, .undef], hp := [some [.str x.1, .int .i64 x.2.1, .bn 62 5, .sl .u8 true x.2.2.1, .bool x.2.2.2]] }
def F_glyph_Unquote_0 (N : Nat) : (St → Option (V × List AObj)) → St → Option (V × List AObj) := fun again0 s => run Γ_glyph_Unquote N ir_glyph_Unquote_13 (kloop again0 [5] 1 (kblock 0 (kseq (run Γ_glyph_Unquote N ir_glyph_Unquote_15) (fin rs_glyph_Unquote)))) s
def B_glyph_Unquote_0 (N : Nat) (again0 : (List UInt8 × Int × List UInt8 × Bool) → Option (V × List AObj)) (x : (List UInt8 × Int × List UInt8 × Bool)) : Option (V × List AObj) :=
  let o0_0 : List UInt8 := x.1
  let o0_1 : Int := x.2.1
  let o0_3 : List UInt8 := x.2.2.1
  let o0_4 : Bool := x.2.2.2
  cond (!o0_4) (
    chk ((decide (0 ≤ (o0_1 : Int)) && decide (List.length o0_0 ≤ 1000))) (
      let x1 : Bool := ((nextC o0_0 o0_1) == 34)
      cond x1 (
        cond (!(validG o0_3)) (
          some (.tup [.str ([] : List UInt8), .int .i64 0, .int .i64 2], [some [.str o0_0, .int .i64 (nextAt o0_0 o0_1), .bn 62 5, .sl .u8 false o0_3, .bool (nextBad o0_0 o0_1 o0_4)]])) (
          some (.tup [.str o0_3, .int .i64 (nextAt o0_0 o0_1), .int .i64 0], [some [.str o0_0, .int .i64 (nextAt o0_0 o0_1), .bn 62 5, .sl .u8 false o0_3, .bool (nextBad o0_0 o0_1 o0_4)]]))) (
        let x2 : Bool := decide ((nextC o0_0 o0_1) < 32)
        cond x2 (
          again0 (o0_0, (nextAt o0_0 o0_1), o0_3, true)) (
          let x3 : Bool := ((nextC o0_0 o0_1) == 92)
          cond x3 (
            chk (((decide (0 ≤ ((nextAt o0_0 o0_1) : Int)) && decide (List.length o0_0 ≤ 1000)) && (decide ((nextAt o0_0 o0_1) ≤ (List.length o0_0 : Int)) && decide (List.length o0_3 ≤ 5000)))) (
              again0 (o0_0, (escAt o0_0 (nextAt o0_0 o0_1)), (escOut o0_0 (nextAt o0_0 o0_1) o0_3), (escBad o0_0 (nextAt o0_0 o0_1) (nextBad o0_0 o0_1 o0_4))))) (
            chk (decide (List.length o0_3 + 1 ≤ 140737488355328)) (
              again0 (o0_0, (nextAt o0_0 o0_1), (o0_3 ++ [UInt8.ofNat (Int.toNat (nextC o0_0 o0_1))]), (nextBad o0_0 o0_1 o0_4)))))))) (
    some (.tup [.str ([] : List UInt8), .int .i64 0, .int .i64 2], [some [.str o0_0, .int .i64 o0_1, .bn 62 5, .sl .u8 true o0_3, .bool o0_4]]))
theorem FB_glyph_Unquote_0 (N : Nat) : ∀ (again0 : St → Option (V × List AObj)) (x : (List UInt8 × Int × List UInt8 × Bool)), F_glyph_Unquote_0 N again0 (mk_glyph_Unquote_0 x) = B_glyph_Unquote_0 N (fun y => again0 (mk_glyph_Unquote_0 y)) x := by
  intro again0 x
  kernel_rfl
/-- proclitic/glyph.Unquote -/
def sa_glyph_Unquote (N : Nat) (p0 : List UInt8) (q0 : (List UInt8 × Int × List UInt8 × Bool) → Option (V × List AObj)) : Option (V × List AObj) :=
  chk ((decide (0 ≤ (0 : Int)) && decide (List.length p0 ≤ 1000))) (
    cond (!((nextC p0 0) == 34)) (
      some (.tup [.str ([] : List UInt8), .int .i64 0, .int .i64 2], [some [.str p0, .int .i64 (nextAt p0 0), .bn 62 5, .sl .u8 true ([] : List UInt8), .bool (nextBad p0 0 false)]])) (
      q0 (p0, (nextAt p0 0), ([] : List UInt8), (nextBad p0 0 false))))
def sh_glyph_Unquote (N : Nat) (p0 : List UInt8) : Option (V × List AObj) := sa_glyph_Unquote N p0 (fun z => iterL N (B_glyph_Unquote_0 N) z)
theorem run_glyph_Unquote (N : Nat) (p0 : List UInt8) : callF Γ_glyph_Unquote N 51 rs_glyph_Unquote ir_glyph_Unquote [.str p0] [] = sh_glyph_Unquote N p0 := by
  have h : callF Γ_glyph_Unquote N 51 rs_glyph_Unquote ir_glyph_Unquote [.str p0] [] = sa_glyph_Unquote N p0 (fun z => loopN N (F_glyph_Unquote_0 N) (mk_glyph_Unquote_0 z)) := by kernel_rfl
  have e0 : (fun z => loopN N (F_glyph_Unquote_0 N) (mk_glyph_Unquote_0 z)) = (fun z => iterL N (B_glyph_Unquote_0 N) z) := funext fun z => loop_eq (mk_glyph_Unquote_0) (F_glyph_Unquote_0 N) (B_glyph_Unquote_0 N) (FB_glyph_Unquote_0 N) N z
  rw [h, e0]
  rfl
theorem ok_glyph_Unquote (hΓ : SpecOK Try.prog Γ_glyph_Unquote) (N : Nat) (p0 : List UInt8) {v : V} {hp : List AObj} (h : sh_glyph_Unquote N p0 = some (v, hp)) : PureOK Try.prog i_glyph_Unquote [.str p0] v := by
  have hc := chk_glyph_Unquote
  simp only [Bool.and_eq_true] at hc
  exact ⟨hp, fnOK_of hΓ pureS_glyph_Unquote Try.func27 body_glyph_Unquote hc.1 hc.2 (by decide) ((run_glyph_Unquote N p0).trans h)⟩

def G_glyph_Valid : Nat → List V → Option (Bool × V) := fun f vs => match f, vs with
  | 44, [.str a0] => some ((!decide (a0 = [])), .tup [.int .u32 ((pointG a0).1), .int .i64 ((pointG a0).2)])
  | _, _ => none
def Γ_glyph_Valid : ASpec := liftG G_glyph_Valid
theorem pureS_glyph_Valid : PureS Γ_glyph_Valid [] := liftG_pure _ _
theorem spec_glyph_Valid (h_glyph_point : ∀ (a0 : List UInt8), (!decide (a0 = [])) = true → PureOK Try.prog i_glyph_point [.str a0] (.tup [.int .u32 ((pointG a0).1), .int .i64 ((pointG a0).2)])) : SpecOK Try.prog Γ_glyph_Valid := by
  intro f vs hp v hp' h0
  obtain ⟨h, he⟩ := liftG_inv h0
  subst he
  unfold G_glyph_Valid at h
  split at h
  · simp only [Option.some.injEq, Prod.mk.injEq] at h
    obtain ⟨hc, rfl⟩ := h
    exact (h_glyph_point _ hc).frame rfl rfl _
  · simp at h
def ir_glyph_Valid_0 : IR := (.cond (.t 6) .skip (.exit 0))
def ir_glyph_Valid_1 : IR := .ret
def ir_glyph_Valid_2 : IR := (.cond (.t 13) (.seq (.reg [⟨none, .mov 2 (.c (.bool false))⟩] []) ir_glyph_Valid_1) .skip)
def ir_glyph_Valid_3 : IR := (.reg [⟨none, .mov 14 (.t 0)⟩,
    ⟨none, .mov 15 (.t 4)⟩,
    ⟨none, .subs 16 (.t 14) (some (.t 15)) none⟩,
    ⟨none, .mov 0 (.t 16)⟩] [])
def ir_glyph_Valid_4 : IR := (.seq (.seq (.reg [⟨none, .mov 12 (.t 4)⟩,
    ⟨none, .bin 13 .eql (.t 12) (.c (.int .i64 0))⟩] []) ir_glyph_Valid_2) ir_glyph_Valid_3)
def ir_glyph_Valid_5 : IR := (.block 1 (.seq (.reg [⟨none, .mov 8 (.t 0)⟩,
    ⟨none, .call (some 9) 44 [(.t 8)]⟩,
    ⟨none, .mov 7 (.t 9)⟩,
    ⟨none, .ext 10 0 (.t 7)⟩,
    ⟨none, .ext 11 1 (.t 7)⟩,
    ⟨none, .mov 3 (.t 10)⟩,
    ⟨none, .mov 4 (.t 11)⟩] []) ir_glyph_Valid_4))
def ir_glyph_Valid_6 : IR := (.seq (.seq (.reg [⟨none, .mov 5 (.t 0)⟩,
    ⟨none, .bin 6 .neq (.t 5) (.c (.str ([] : List UInt8)))⟩] []) ir_glyph_Valid_0) ir_glyph_Valid_5)
def ir_glyph_Valid_7 : IR := .ret
def ir_glyph_Valid_8 : IR := (.seq (.reg [⟨none, .mov 2 (.c (.bool true))⟩] []) ir_glyph_Valid_7)
def ir_glyph_Valid_9 : IR := (.seq (.block 0 (.loop [0] 0 ir_glyph_Valid_6)) ir_glyph_Valid_8)
def ir_glyph_Valid : IR := (.seq (.reg [⟨none, .mov 2 (.c (.bool false))⟩] []) ir_glyph_Valid_9)
def rs_glyph_Valid : List RV := [.t 2]
theorem chk_glyph_Valid : (chkCode Try.prog [] 0 ir_glyph_Valid (Try.f29.body.getD .skip) && chkRes Try.prog rs_glyph_Valid Try.f29.results.toList) = true := by kernel_rfl
theorem body_glyph_Valid : Try.f29.body = some (Try.f29.body.getD .skip) := by kernel_rfl
def mk_glyph_Valid_0 (x : (List UInt8)) : St := { env := [.str x, .undef, .undef, .undef, .undef, .undef, .undef, .undef, .undef, .undef, .undef, .undef, .undef, .undef, .undef, .undef, .undef], hp := [] }
def F_glyph_Valid_0 (N : Nat) : (St → Option (V × List AObj)) → St → Option (V × List AObj) := fun again0 s => run Γ_glyph_Valid N ir_glyph_Valid_6 (kloop again0 [0] 0 (kblock 0 (kseq (run Γ_glyph_Valid N ir_glyph_Valid_8) (fin rs_glyph_Valid)))) s
def B_glyph_Valid_0 (N : Nat) (again0 : (List UInt8) → Option (V × List AObj)) (x : (List UInt8)) : Option (V × List AObj) :=
  let v0 : List UInt8 := x
  let x1 : Bool := (!decide (v0 = ([] : List UInt8)))
  cond x1 (
    chk ((!decide (v0 = []))) (
      cond (((pointG v0).2) == 0) (
        some (.bool false, [])) (
        chk ((decide (0 ≤ ((pointG v0).2)) && decide (((pointG v0).2) ≤ (↑(List.length v0) : Int)))) (
          let x2 : List UInt8 := (List.drop (Int.toNat ((pointG v0).2)) (List.take (List.length v0) v0))
          again0 (x2))))) (
    some (.bool true, []))
theorem FB_glyph_Valid_0 (N : Nat) : ∀ (again0 : St → Option (V × List AObj)) (x : (List UInt8)), F_glyph_Valid_0 N again0 (mk_glyph_Valid_0 x) = B_glyph_Valid_0 N (fun y => again0 (mk_glyph_Valid_0 y)) x := by
  intro again0 x
  kernel_rfl
/-- proclitic/glyph.Valid -/
def sa_glyph_Valid (N : Nat) (p0 : List UInt8) (q0 : (List UInt8) → Option (V × List AObj)) : Option (V × List AObj) :=
  q0 (p0)
def sh_glyph_Valid (N : Nat) (p0 : List UInt8) : Option (V × List AObj) := sa_glyph_Valid N p0 (fun z => iterL N (B_glyph_Valid_0 N) z)
theorem run_glyph_Valid (N : Nat) (p0 : List UInt8) : callF Γ_glyph_Valid N 17 rs_glyph_Valid ir_glyph_Valid [.str p0] [] = sh_glyph_Valid N p0 := by
  have h : callF Γ_glyph_Valid N 17 rs_glyph_Valid ir_glyph_Valid [.str p0] [] = sa_glyph_Valid N p0 (fun z => loopN N (F_glyph_Valid_0 N) (mk_glyph_Valid_0 z)) := by kernel_rfl
  have e0 : (fun z => loopN N (F_glyph_Valid_0 N) (mk_glyph_Valid_0 z)) = (fun z => iterL N (B_glyph_Valid_0 N) z) := funext fun z => loop_eq (mk_glyph_Valid_0) (F_glyph_Valid_0 N) (B_glyph_Valid_0 N) (FB_glyph_Valid_0 N) N z
  rw [h, e0]
  rfl
theorem ok_glyph_Valid (hΓ : SpecOK Try.prog Γ_glyph_Valid) (N : Nat) (p0 : List UInt8) {v : V} {hp : List AObj} (h : sh_glyph_Valid N p0 = some (v, hp)) : PureOK Try.prog i_glyph_Valid [.str p0] v := by
  have hc := chk_glyph_Valid
  simp only [Bool.and_eq_true] at hc
  exact ⟨hp, fnOK_of hΓ pureS_glyph_Valid Try.func29 body_glyph_Valid hc.1 hc.2 (by decide) ((run_glyph_Valid N p0).trans h)⟩

def G_glyph_Quote : Nat → List V → Option (Bool × V) := fun f vs => match f, vs with
  | 46, [.str a0, .int .u8 a1] => some (true, .int .i64 (indexB a0 a1))
  | _, _ => none
def Γ_glyph_Quote : ASpec := withB (liftG G_glyph_Quote)
theorem pureS_glyph_Quote : PureS Γ_glyph_Quote [47, 40, 42, 39, 41, 49] := (withB_pure (liftG_pure _ _)).mono (by decide)
theorem spec_glyph_Quote (h_strings_IndexByte : ∀ (a0 : List UInt8) (a1 : Int), PureOK Try.prog i_strings_IndexByte [.str a0, .int .u8 a1] (.int .i64 (indexB a0 a1))) : SpecOK Try.prog Γ_glyph_Quote := by
  refine withB_ok ?_
  intro f vs hp v hp' h0
  obtain ⟨h, he⟩ := liftG_inv h0
  subst he
  unfold G_glyph_Quote at h
  split at h
  · simp only [Option.some.injEq, Prod.mk.injEq] at h
    obtain ⟨hc, rfl⟩ := h
    exact (h_strings_IndexByte _ _).frame rfl rfl _
  · simp at h
def ir_glyph_Quote_0 : IR := (.reg [⟨none, .mov 21 (.t 6)⟩,
    ⟨none, .idx 22 (.c (.str ([34, 92, 98, 102, 110, 114, 116] : List UInt8))) (.t 21)⟩,
    ⟨none, .call (some 23) 42 [(.t 3), (.t 22)]⟩] [])
def ir_glyph_Quote_1 : IR := (.reg [⟨none, .mov 31 (.t 5)⟩,
    ⟨none, .bin 32 .and (.t 31) (.c (.int .u8 15))⟩,
    ⟨none, .idx 33 (.c (.str ([48, 49, 50, 51, 52, 53, 54, 55, 56, 57, 97, 98, 99, 100, 101, 102] : List UInt8))) (.t 32)⟩,
    ⟨none, .call (some 34) 42 [(.t 3), (.t 33)]⟩] [])
def ir_glyph_Quote_2 : IR := (.seq (.reg [⟨none, .mov 27 (.t 5)⟩,
    ⟨none, .bin 28 .shr (.t 27) (.c (.int .u64 4))⟩,
    ⟨none, .idx 29 (.c (.str ([48, 49, 50, 51, 52, 53, 54, 55, 56, 57, 97, 98, 99, 100, 101, 102] : List UInt8))) (.t 28)⟩,
    ⟨none, .call (some 30) 42 [(.t 3), (.t 29)]⟩] []) ir_glyph_Quote_1)
def ir_glyph_Quote_3 : IR := (.cond (.t 25) (.seq (.reg [⟨none, .call (some 26) 47 [(.t 3), (.c (.str ([92, 117, 48, 48] : List UInt8)))]⟩] []) ir_glyph_Quote_2) (.reg [⟨none, .mov 35 (.t 5)⟩,
    ⟨none, .call (some 36) 42 [(.t 3), (.t 35)]⟩] []))
def ir_glyph_Quote_4 : IR := (.cond (.t 19) (.seq (.reg [⟨none, .call (some 20) 42 [(.t 3), (.c (.int .u8 92))]⟩] []) ir_glyph_Quote_0) (.seq (.reg [⟨none, .mov 24 (.t 5)⟩,
    ⟨none, .bin 25 .lss (.t 24) (.c (.int .u8 32))⟩] []) ir_glyph_Quote_3))
def ir_glyph_Quote_5 : IR := (.seq (.reg [⟨none, .mov 18 (.t 6)⟩,
    ⟨none, .bin 19 .geq (.t 18) (.c (.int .i64 0))⟩] []) ir_glyph_Quote_4)
def ir_glyph_Quote_6 : IR := (.seq (.reg [⟨none, .mov 16 (.t 5)⟩,
    ⟨none, .call (some 17) 46 [(.c (.str ([34, 92, 8, 12, 10, 13, 9] : List UInt8))), (.t 16)]⟩,
    ⟨none, .mov 6 (.t 17)⟩] []) ir_glyph_Quote_5)
def ir_glyph_Quote_7 : IR := (.seq (.reg [⟨none, .mov 13 (.t 0)⟩,
    ⟨none, .mov 14 (.t 4)⟩,
    ⟨none, .idx 15 (.t 13) (.t 14)⟩,
    ⟨none, .mov 5 (.t 15)⟩] []) ir_glyph_Quote_6)
def ir_glyph_Quote_8 : IR := (.reg [⟨none, .bin 37 .add (.t 10) (.c (.int .i64 1))⟩,
    ⟨none, .mov 10 (.t 37)⟩] [])
def ir_glyph_Quote_9 : IR := (.seq (.block 1 (.seq (.reg [⟨none, .mov 12 (.t 10)⟩,
    ⟨none, .mov 4 (.t 12)⟩] []) ir_glyph_Quote_7)) ir_glyph_Quote_8)
def ir_glyph_Quote_10 : IR := (.seq (.cond (.t 11) .skip (.exit 0)) ir_glyph_Quote_9)
def ir_glyph_Quote_11 : IR := (.seq (.reg [⟨none, .bin 11 .lss (.t 10) (.t 9)⟩] []) ir_glyph_Quote_10)
def ir_glyph_Quote_12 : IR := (.block 0 (.loop [0, 3, 9, 10] 1 ir_glyph_Quote_11))
def ir_glyph_Quote_13 : IR := .ret
def ir_glyph_Quote_14 : IR := (.seq (.reg [⟨none, .call (some 39) 40 [(.t 3)]⟩,
    ⟨none, .mov 2 (.t 39)⟩] []) ir_glyph_Quote_13)
def ir_glyph_Quote_15 : IR := (.seq (.reg [⟨none, .call (some 38) 42 [(.t 3), (.c (.int .u8 34))]⟩] []) ir_glyph_Quote_14)
def ir_glyph_Quote_16 : IR := (.seq (.seq (.reg [⟨none, .mov 8 (.t 0)⟩,
    ⟨none, .lens 9 (.t 8)⟩,
    ⟨none, .mov 10 (.c (.int .i64 0))⟩] []) ir_glyph_Quote_12) ir_glyph_Quote_15)
def ir_glyph_Quote_17 : IR := (.seq (.reg [⟨none, .call (some 7) 42 [(.t 3), (.c (.int .u8 34))]⟩] []) ir_glyph_Quote_16)
def ir_glyph_Quote_18 : IR := (.seq (.reg [⟨none, .newb 3 [.bn 60 2, .sl .u8 true ([] : List UInt8)]⟩] []) ir_glyph_Quote_17)
def ir_glyph_Quote : IR := (.seq (.reg [⟨none, .mov 2 (.c (.str ([] : List UInt8)))⟩] []) ir_glyph_Quote_18)
def rs_glyph_Quote : List RV := [.t 2]
theorem chk_glyph_Quote : (chkCode Try.prog [47, 40, 42, 39, 41, 49] 0 ir_glyph_Quote (Try.f31.body.getD .skip) && chkRes Try.prog rs_glyph_Quote Try.f31.results.toList) = true := by kernel_rfl
theorem body_glyph_Quote : Try.f31.body = some (Try.f31.body.getD .skip) := by kernel_rfl
def mk_glyph_Quote_0 (x : (List UInt8 × Int × Int × List UInt8)) : St := { env := [.str x.1, .undef, .undef, .ptr 0 0, .undef, .undef, .undef, .undef, .undef, .int .i64 x.2.1, .int .i64 x.2.2.1, .undef, .undef, .undef, .undef, .undef, .undef, .undef, .undef, .undef, .undef, .undef, .undef, .undef, .undef, .undef, .undef, .undef, .undef, .undef, .undef, .undef, .undef, .undef, .undef, .undef, .undef, .undef, .undef, .undef], hp := [some [.bn 60 2, .sl .u8 true x.2.2.2]] }
def F_glyph_Quote_0 (N : Nat) : (St → Option (V × List AObj)) → St → Option (V × List AObj) := fun again0 s => run Γ_glyph_Quote N ir_glyph_Quote_11 (kloop again0 [0, 3, 9, 10] 1 (kblock 0 (kseq (run Γ_glyph_Quote N ir_glyph_Quote_15) (fin rs_glyph_Quote)))) s
def B_glyph_Quote_0 (N : Nat) (again0 : (List UInt8 × Int × Int × List UInt8) → Option (V × List AObj)) (x : (List UInt8 × Int × Int × List UInt8)) : Option (V × List AObj) :=
  let v0 : List UInt8 := x.1
  let v9 : Int := x.2.1
  let v10 : Int := x.2.2.1
  let o0_1 : List UInt8 := x.2.2.2
  cond (decide (v10 < v9)) (
    chk ((decide (0 ≤ v10) && decide (v10 < ↑(List.length v0)))) (
      let x2 : Int := (↑(UInt8.toNat (List.getD v0 (Int.toNat v10) 0)) : Int)
      let x3 : Int := (indexB ([34, 92, 8, 12, 10, 13, 9] : List UInt8) x2)
      cond (decide (0 ≤ x3)) (
        chk (decide (List.length o0_1 + 1 ≤ 140737488355328)) (
          chk ((decide (0 ≤ x3) && decide (x3 < ↑(List.length ([34, 92, 98, 102, 110, 114, 116] : List UInt8))))) (
            let x4 : Int := (↑(UInt8.toNat (List.getD ([34, 92, 98, 102, 110, 114, 116] : List UInt8) (Int.toNat x3) 0)) : Int)
            chk (decide (List.length (o0_1 ++ [UInt8.ofNat (Int.toNat 92)]) + 1 ≤ 140737488355328)) (
              let x5 : Int := (IntKind.wrap .i64 (v10 + 1))
              again0 (v0, v9, x5, ((o0_1 ++ [UInt8.ofNat (Int.toNat 92)]) ++ [UInt8.ofNat (Int.toNat x4)])))))) (
        cond (decide (x2 < 32)) (
          chk (decide (List.length o0_1 + List.length ([92, 117, 48, 48] : List UInt8) ≤ 140737488355328)) (
            let x6 : Int := (↑(List.length ([92, 117, 48, 48] : List UInt8)) : Int)
            chk ((decide (0 ≤ (shrI .u8 x2 4)) && decide ((shrI .u8 x2 4) < ↑(List.length ([48, 49, 50, 51, 52, 53, 54, 55, 56, 57, 97, 98, 99, 100, 101, 102] : List UInt8))))) (
              let x7 : Int := (↑(UInt8.toNat (List.getD ([48, 49, 50, 51, 52, 53, 54, 55, 56, 57, 97, 98, 99, 100, 101, 102] : List UInt8) (Int.toNat (shrI .u8 x2 4)) 0)) : Int)
              chk (decide (List.length (o0_1 ++ ([92, 117, 48, 48] : List UInt8)) + 1 ≤ 140737488355328)) (
                chk ((decide (0 ≤ (bitsI .and .u8 x2 15)) && decide ((bitsI .and .u8 x2 15) < ↑(List.length ([48, 49, 50, 51, 52, 53, 54, 55, 56, 57, 97, 98, 99, 100, 101, 102] : List UInt8))))) (
                  let x8 : Int := (↑(UInt8.toNat (List.getD ([48, 49, 50, 51, 52, 53, 54, 55, 56, 57, 97, 98, 99, 100, 101, 102] : List UInt8) (Int.toNat (bitsI .and .u8 x2 15)) 0)) : Int)
                  chk (decide (List.length ((o0_1 ++ ([92, 117, 48, 48] : List UInt8)) ++ [UInt8.ofNat (Int.toNat x7)]) + 1 ≤ 140737488355328)) (
                    let x9 : Int := (IntKind.wrap .i64 (v10 + 1))
                    again0 (v0, v9, x9, (((o0_1 ++ ([92, 117, 48, 48] : List UInt8)) ++ [UInt8.ofNat (Int.toNat x7)]) ++ [UInt8.ofNat (Int.toNat x8)])))))))) (
          chk (decide (List.length o0_1 + 1 ≤ 140737488355328)) (
            let x10 : Int := (IntKind.wrap .i64 (v10 + 1))
            again0 (v0, v9, x10, (o0_1 ++ [UInt8.ofNat (Int.toNat x2)]))))))) (
    chk (decide (List.length o0_1 + 1 ≤ 140737488355328)) (
      let x11 : List UInt8 := (o0_1 ++ [UInt8.ofNat (Int.toNat 34)])
      some (.str x11, [some [.bn 60 2, .sl .u8 false (o0_1 ++ [UInt8.ofNat (Int.toNat 34)])]])))
theorem FB_glyph_Quote_0 (N : Nat) : ∀ (again0 : St → Option (V × List AObj)) (x : (List UInt8 × Int × Int × List UInt8)), F_glyph_Quote_0 N again0 (mk_glyph_Quote_0 x) = B_glyph_Quote_0 N (fun y => again0 (mk_glyph_Quote_0 y)) x := by
  intro again0 x
  kernel_rfl
/-- proclitic/glyph.Quote -/
def sa_glyph_Quote (N : Nat) (p0 : List UInt8) (q0 : (List UInt8 × Int × Int × List UInt8) → Option (V × List AObj)) : Option (V × List AObj) :=
  chk (decide (List.length ([] : List UInt8) + 1 ≤ 140737488355328)) (
    let x1 : Int := (↑(List.length p0) : Int)
    q0 (p0, x1, 0, (([] : List UInt8) ++ [UInt8.ofNat (Int.toNat 34)])))
def sh_glyph_Quote (N : Nat) (p0 : List UInt8) : Option (V × List AObj) := sa_glyph_Quote N p0 (fun z => iterL N (B_glyph_Quote_0 N) z)
theorem run_glyph_Quote (N : Nat) (p0 : List UInt8) : callF Γ_glyph_Quote N 40 rs_glyph_Quote ir_glyph_Quote [.str p0] [] = sh_glyph_Quote N p0 := by
  have h : callF Γ_glyph_Quote N 40 rs_glyph_Quote ir_glyph_Quote [.str p0] [] = sa_glyph_Quote N p0 (fun z => loopN N (F_glyph_Quote_0 N) (mk_glyph_Quote_0 z)) := by kernel_rfl
  have e0 : (fun z => loopN N (F_glyph_Quote_0 N) (mk_glyph_Quote_0 z)) = (fun z => iterL N (B_glyph_Quote_0 N) z) := funext fun z => loop_eq (mk_glyph_Quote_0) (F_glyph_Quote_0 N) (B_glyph_Quote_0 N) (FB_glyph_Quote_0 N) N z
  rw [h, e0]
  rfl
theorem ok_glyph_Quote (hΓ : SpecOK Try.prog Γ_glyph_Quote) (N : Nat) (p0 : List UInt8) {v : V} {hp : List AObj} (h : sh_glyph_Quote N p0 = some (v, hp)) : PureOK Try.prog i_glyph_Quote [.str p0] v := by
  have hc := chk_glyph_Quote
  simp only [Bool.and_eq_true] at hc
  exact ⟨hp, fnOK_of hΓ pureS_glyph_Quote Try.func31 body_glyph_Quote hc.1 hc.2 (by decide) ((run_glyph_Quote N p0).trans h)⟩

def G_glyph_point : Nat → List V → Option (Bool × V) := fun f vs => match f, vs with
  | 33, [.int .u32 a0] => some (true, .str (putG a0))
  | _, _ => none
def Γ_glyph_point : ASpec := liftG G_glyph_point
theorem pureS_glyph_point : PureS Γ_glyph_point [] := liftG_pure _ _
theorem spec_glyph_point (h_glyph_Put : ∀ (a0 : Int), PureOK Try.prog i_glyph_Put [.int .u32 a0] (.str (putG a0))) : SpecOK Try.prog Γ_glyph_point := by
  intro f vs hp v hp' h0
  obtain ⟨h, he⟩ := liftG_inv h0
  subst he
  unfold G_glyph_point at h
  split at h
  · simp only [Option.some.injEq, Prod.mk.injEq] at h
    obtain ⟨hc, rfl⟩ := h
    exact (h_glyph_Put _).frame rfl rfl _
  · simp at h
def ir_glyph_point_0 : IR := .ret
def ir_glyph_point_1 : IR := (.cond (.t 27) (.reg [⟨none, .mov 31 (.t 4)⟩,
    ⟨none, .bin 32 .and (.t 31) (.c (.int .u8 7))⟩,
    ⟨none, .cvi 33 .u32 (.t 32)⟩,
    ⟨none, .mov 2 (.t 33)⟩,
    ⟨none, .mov 3 (.c (.int .i64 4))⟩] []) .skip)
def ir_glyph_point_2 : IR := (.cond (.t 20) (.reg [⟨none, .mov 24 (.t 4)⟩,
    ⟨none, .bin 25 .and (.t 24) (.c (.int .u8 15))⟩,
    ⟨none, .cvi 26 .u32 (.t 25)⟩,
    ⟨none, .mov 2 (.t 26)⟩,
    ⟨none, .mov 3 (.c (.int .i64 3))⟩] []) (.seq (.reg [⟨none, .mov 28 (.t 4)⟩,
    ⟨none, .bin 29 .shr (.t 28) (.c (.int .u64 3))⟩,
    ⟨none, .bin 30 .eql (.t 29) (.c (.int .u8 30))⟩,
    ⟨none, .mov 27 (.t 30)⟩] []) ir_glyph_point_1))
def ir_glyph_point_3 : IR := (.cond (.t 13) (.reg [⟨none, .mov 17 (.t 4)⟩,
    ⟨none, .bin 18 .and (.t 17) (.c (.int .u8 31))⟩,
    ⟨none, .cvi 19 .u32 (.t 18)⟩,
    ⟨none, .mov 2 (.t 19)⟩,
    ⟨none, .mov 3 (.c (.int .i64 2))⟩] []) (.seq (.reg [⟨none, .mov 21 (.t 4)⟩,
    ⟨none, .bin 22 .shr (.t 21) (.c (.int .u64 4))⟩,
    ⟨none, .bin 23 .eql (.t 22) (.c (.int .u8 14))⟩,
    ⟨none, .mov 20 (.t 23)⟩] []) ir_glyph_point_2))
def ir_glyph_point_4 : IR := (.cond (.t 8) (.seq (.reg [⟨none, .mov 11 (.t 4)⟩,
    ⟨none, .cvi 12 .u32 (.t 11)⟩,
    ⟨none, .mov 2 (.t 12)⟩,
    ⟨none, .mov 3 (.c (.int .i64 1))⟩] []) ir_glyph_point_0) (.seq (.reg [⟨none, .mov 14 (.t 4)⟩,
    ⟨none, .bin 15 .shr (.t 14) (.c (.int .u64 5))⟩,
    ⟨none, .bin 16 .eql (.t 15) (.c (.int .u8 6))⟩,
    ⟨none, .mov 13 (.t 16)⟩] []) ir_glyph_point_3))
def ir_glyph_point_5 : IR := .ret
def ir_glyph_point_6 : IR := (.cond (.t 41) (.seq (.reg [⟨none, .mov 2 (.c (.int .u32 0))⟩,
    ⟨none, .mov 3 (.c (.int .i64 0))⟩] []) ir_glyph_point_5) .skip)
def ir_glyph_point_7 : IR := (.cond (.t 44) .skip (.exit 1))
def ir_glyph_point_8 : IR := (.reg [⟨none, .mov 45 (.t 5)⟩,
    ⟨none, .bin 46 .add (.t 45) (.c (.int .i64 1))⟩,
    ⟨none, .mov 5 (.t 46)⟩] [])
def ir_glyph_point_9 : IR := (.seq (.block 2 (.reg [⟨none, .mov 47 (.t 2)⟩,
    ⟨none, .bin 48 .shl (.t 47) (.c (.int .u64 6))⟩,
    ⟨none, .mov 49 (.t 0)⟩,
    ⟨none, .mov 50 (.t 5)⟩,
    ⟨none, .idx 51 (.t 49) (.t 50)⟩,
    ⟨none, .bin 52 .and (.t 51) (.c (.int .u8 63))⟩,
    ⟨none, .cvi 53 .u32 (.t 52)⟩,
    ⟨none, .bin 54 .or (.t 48) (.t 53)⟩,
    ⟨none, .mov 2 (.t 54)⟩] [])) ir_glyph_point_8)
def ir_glyph_point_10 : IR := (.seq (.seq (.reg [⟨none, .mov 42 (.t 5)⟩,
    ⟨none, .mov 43 (.t 3)⟩,
    ⟨none, .bin 44 .lss (.t 42) (.t 43)⟩] []) ir_glyph_point_7) ir_glyph_point_9)
def ir_glyph_point_11 : IR := (.block 1 (.loop [0, 2, 3, 5] 0 ir_glyph_point_10))
def ir_glyph_point_12 : IR := .ret
def ir_glyph_point_13 : IR := (.cond (.t 60) (.seq (.reg [⟨none, .mov 2 (.c (.int .u32 0))⟩,
    ⟨none, .mov 3 (.c (.int .i64 0))⟩] []) ir_glyph_point_12) .skip)
def ir_glyph_point_14 : IR := .ret
def ir_glyph_point_15 : IR := (.seq (.reg [⟨none, .mov 61 (.t 2)⟩,
    ⟨none, .mov 62 (.t 3)⟩,
    ⟨none, .mov 2 (.t 61)⟩,
    ⟨none, .mov 3 (.t 62)⟩] []) ir_glyph_point_14)
def ir_glyph_point_16 : IR := (.seq (.seq (.reg [⟨none, .mov 55 (.t 2)⟩,
    ⟨none, .call (some 56) 33 [(.t 55)]⟩,
    ⟨none, .mov 57 (.t 0)⟩,
    ⟨none, .mov 58 (.t 3)⟩,
    ⟨none, .subs 59 (.t 57) none (some (.t 58))⟩,
    ⟨none, .bin 60 .neq (.t 56) (.t 59)⟩] [[], [0], [], [], [2, 3], [0, 1, 2, 3, 4]]) ir_glyph_point_13) ir_glyph_point_15)
def ir_glyph_point_17 : IR := (.seq (.seq (.reg [⟨none, .mov 5 (.c (.int .i64 1))⟩] []) ir_glyph_point_11) ir_glyph_point_16)
def ir_glyph_point_18 : IR := (.seq (.seq (.reg [⟨none, .mov 34 (.t 3)⟩,
    ⟨none, .bin 35 .eql (.t 34) (.c (.int .i64 0))⟩,
    ⟨none, .mov 36 (.t 35)⟩,
    ⟨some (36, false), .mov 37 (.t 3)⟩,
    ⟨some (36, false), .mov 38 (.t 0)⟩,
    ⟨some (36, false), .lens 39 (.t 38)⟩,
    ⟨some (36, false), .bin 40 .gtr (.t 37) (.t 39)⟩,
    ⟨none, .pick 41 (.t 36) (.c (.bool true)) (.t 40)⟩] []) ir_glyph_point_6) ir_glyph_point_17)
def ir_glyph_point_19 : IR := (.seq (.block 0 (.seq (.reg [⟨none, .mov 9 (.t 4)⟩,
    ⟨none, .bin 10 .lss (.t 9) (.c (.int .u8 128))⟩,
    ⟨none, .mov 8 (.t 10)⟩] []) ir_glyph_point_4)) ir_glyph_point_18)
def ir_glyph_point_20 : IR := (.seq (.reg [⟨none, .mov 6 (.t 0)⟩,
    ⟨none, .idx 7 (.t 6) (.c (.int .i64 0))⟩,
    ⟨none, .mov 4 (.t 7)⟩] []) ir_glyph_point_19)
def ir_glyph_point : IR := (.seq (.reg [⟨none, .mov 2 (.c (.int .u32 0))⟩,
    ⟨none, .mov 3 (.c (.int .i64 0))⟩] []) ir_glyph_point_20)
def rs_glyph_point : List RV := [.t 2, .t 3]
theorem chk_glyph_point : (chkCode Try.prog [] 0 ir_glyph_point (Try.f44.body.getD .skip) && chkRes Try.prog rs_glyph_point Try.f44.results.toList) = true := by kernel_rfl
theorem body_glyph_point : Try.f44.body = some (Try.f44.body.getD .skip) := by kernel_rfl
def mk_glyph_point_0 (x : (List UInt8 × Int × Int × Int)) : St := { env := [.str x.1, .undef, .int .u32 x.2.1, .int .i64 x.2.2.1, .undef, .int .i64 x.2.2.2, .undef, .undef, .undef, .undef, .undef, .undef, .undef, .undef, .undef, .undef, .undef, .undef, .undef, .undef, .undef, .undef, .undef, .undef, .undef, .undef, .undef, .undef, .undef, .undef, .undef, .undef, .undef, .undef, .undef, .undef, .undef, .undef, .undef, .undef, .undef, .undef, .undef, .undef, .undef, .undef, .undef, .undef, .undef, .undef, .undef, .undef, .undef, .undef, .undef, .undef, .undef, .undef, .undef, .undef, .undef, .undef, .undef], hp := [] }
def F_glyph_point_0 (N : Nat) : (St → Option (V × List AObj)) → St → Option (V × List AObj) := fun again0 s => run Γ_glyph_point N ir_glyph_point_10 (kloop again0 [0, 2, 3, 5] 0 (kblock 1 (kseq (run Γ_glyph_point N ir_glyph_point_16) (fin rs_glyph_point)))) s
def B_glyph_point_0 (N : Nat) (again0 : (List UInt8 × Int × Int × Int) → Option (V × List AObj)) (x : (List UInt8 × Int × Int × Int)) : Option (V × List AObj) :=
  let v0 : List UInt8 := x.1
  let v2 : Int := x.2.1
  let v3 : Int := x.2.2.1
  let v5 : Int := x.2.2.2
  cond (decide (v5 < v3)) (
    chk ((decide (0 ≤ v5) && decide (v5 < ↑(List.length v0)))) (
      let x4 : Int := (↑(UInt8.toNat (List.getD v0 (Int.toNat v5) 0)) : Int)
      let x5 : Int := (IntKind.wrap .u32 (bitsI .and .u8 x4 63))
      let x6 : Int := (bitsI .or .u32 (shlI .u32 v2 6) x5)
      let x7 : Int := (IntKind.wrap .i64 (v5 + 1))
      again0 (v0, x6, v3, x7))) (
    chk ((decide (0 ≤ v3) && decide (v3 ≤ (↑(List.length v0) : Int)))) (
      let x8 : List UInt8 := (List.drop 0 (List.take (Int.toNat v3) v0))
      let x9 : Bool := (!decide ((putG v2) = x8))
      cond x9 (
        some (.tup [.int .u32 0, .int .i64 0], [])) (
        some (.tup [.int .u32 v2, .int .i64 v3], []))))
theorem FB_glyph_point_0 (N : Nat) : ∀ (again0 : St → Option (V × List AObj)) (x : (List UInt8 × Int × Int × Int)), F_glyph_point_0 N again0 (mk_glyph_point_0 x) = B_glyph_point_0 N (fun y => again0 (mk_glyph_point_0 y)) x := by
  intro again0 x
  kernel_rfl
/-- proclitic/glyph.point -/
def sa_glyph_point (N : Nat) (p0 : List UInt8) (q0 : (List UInt8 × Int × Int × Int) → Option (V × List AObj)) : Option (V × List AObj) :=
  chk (decide ((0 : Int) < ↑(List.length p0))) (
    let x1 : Int := (↑(UInt8.toNat (List.getD p0 (Int.toNat 0) 0)) : Int)
    cond (decide (x1 < 128)) (
      some (.tup [.int .u32 (IntKind.wrap .u32 x1), .int .i64 1], [])) (
      cond ((shrI .u8 x1 5) == 6) (
        let x2 : Int := (IntKind.wrap .u32 (bitsI .and .u8 x1 31))
        cond (2 == 0) (
          some (.tup [.int .u32 0, .int .i64 0], [])) (
          let x3 : Int := (↑(List.length p0) : Int)
          cond (decide (x3 < 2)) (
            some (.tup [.int .u32 0, .int .i64 0], [])) (
            q0 (p0, x2, 2, 1)))) (
        cond ((shrI .u8 x1 4) == 14) (
          let x10 : Int := (IntKind.wrap .u32 (bitsI .and .u8 x1 15))
          cond (3 == 0) (
            some (.tup [.int .u32 0, .int .i64 0], [])) (
            let x11 : Int := (↑(List.length p0) : Int)
            cond (decide (x11 < 3)) (
              some (.tup [.int .u32 0, .int .i64 0], [])) (
              q0 (p0, x10, 3, 1)))) (
          cond ((shrI .u8 x1 3) == 30) (
            let x12 : Int := (IntKind.wrap .u32 (bitsI .and .u8 x1 7))
            cond (4 == 0) (
              some (.tup [.int .u32 0, .int .i64 0], [])) (
              let x13 : Int := (↑(List.length p0) : Int)
              cond (decide (x13 < 4)) (
                some (.tup [.int .u32 0, .int .i64 0], [])) (
                q0 (p0, x12, 4, 1)))) (
            cond (0 == 0) (
              some (.tup [.int .u32 0, .int .i64 0], [])) (
              let x14 : Int := (↑(List.length p0) : Int)
              cond (decide (x14 < 0)) (
                some (.tup [.int .u32 0, .int .i64 0], [])) (
                q0 (p0, 0, 0, 1))))))))
def sh_glyph_point (N : Nat) (p0 : List UInt8) : Option (V × List AObj) := sa_glyph_point N p0 (fun z => iterL N (B_glyph_point_0 N) z)
theorem run_glyph_point (N : Nat) (p0 : List UInt8) : callF Γ_glyph_point N 63 rs_glyph_point ir_glyph_point [.str p0] [] = sh_glyph_point N p0 := by
  have h : callF Γ_glyph_point N 63 rs_glyph_point ir_glyph_point [.str p0] [] = sa_glyph_point N p0 (fun z => loopN N (F_glyph_point_0 N) (mk_glyph_point_0 z)) := by kernel_rfl
  have e0 : (fun z => loopN N (F_glyph_point_0 N) (mk_glyph_point_0 z)) = (fun z => iterL N (B_glyph_point_0 N) z) := funext fun z => loop_eq (mk_glyph_point_0) (F_glyph_point_0 N) (B_glyph_point_0 N) (FB_glyph_point_0 N) N z
  rw [h, e0]
  rfl
theorem ok_glyph_point (hΓ : SpecOK Try.prog Γ_glyph_point) (N : Nat) (p0 : List UInt8) {v : V} {hp : List AObj} (h : sh_glyph_point N p0 = some (v, hp)) : PureOK Try.prog i_glyph_point [.str p0] v := by
  have hc := chk_glyph_point
  simp only [Bool.and_eq_true] at hc
  exact ⟨hp, fnOK_of hΓ pureS_glyph_point Try.func44 body_glyph_point hc.1 hc.2 (by decide) ((run_glyph_point N p0).trans h)⟩

def G_glyph_tail : Nat → List V → Option (Bool × V) := fun _ _ => none
def Γ_glyph_tail : ASpec := liftG G_glyph_tail
theorem pureS_glyph_tail : PureS Γ_glyph_tail [] := liftG_pure _ _
theorem spec_glyph_tail  : SpecOK Try.prog Γ_glyph_tail := by
  intro f vs hp v hp' h
  obtain ⟨h, -⟩ := liftG_inv h
  simp [G_glyph_tail] at h
def ir_glyph_tail_0 : IR := .ret
def ir_glyph_tail_1 : IR := (.seq (.reg [⟨none, .mov 5 (.t 0)⟩,
    ⟨none, .mov 6 (.t 1)⟩,
    ⟨none, .bin 7 .shr (.t 5) (.t 6)⟩,
    ⟨none, .bin 8 .and (.t 7) (.c (.int .u32 63))⟩,
    ⟨none, .bin 9 .or (.c (.int .u32 128)) (.t 8)⟩,
    ⟨none, .cvi 10 .u8 (.t 9)⟩,
    ⟨none, .mov 4 (.t 10)⟩] []) ir_glyph_tail_0)
def ir_glyph_tail : IR := (.seq (.reg [⟨none, .mov 4 (.c (.int .u8 0))⟩] []) ir_glyph_tail_1)
def rs_glyph_tail : List RV := [.t 4]
theorem chk_glyph_tail : (chkCode Try.prog [] 0 ir_glyph_tail (Try.f48.body.getD .skip) && chkRes Try.prog rs_glyph_tail Try.f48.results.toList) = true := by kernel_rfl
theorem body_glyph_tail : Try.f48.body = some (Try.f48.body.getD .skip) := by kernel_rfl
/-- proclitic/glyph.tail -/
def sa_glyph_tail (N : Nat) (p0 : Int) (p1 : Int)  : Option (V × List AObj) :=
  chk (decide (0 ≤ p1)) (
    let x1 : Int := (bitsI .and .u32 (shrI .u32 p0 p1) 63)
    let x2 : Int := (IntKind.wrap .u8 (bitsI .or .u32 128 x1))
    some (.int .u8 x2, []))
def sh_glyph_tail (N : Nat) (p0 : Int) (p1 : Int) : Option (V × List AObj) := sa_glyph_tail N p0 p1
theorem run_glyph_tail (N : Nat) (p0 : Int) (p1 : Int) : callF Γ_glyph_tail N 11 rs_glyph_tail ir_glyph_tail [.int .u32 p0, .int .i64 p1] [] = sh_glyph_tail N p0 p1 := by kernel_rfl
theorem ok_glyph_tail (hΓ : SpecOK Try.prog Γ_glyph_tail) (N : Nat) (p0 : Int) (p1 : Int) {v : V} {hp : List AObj} (h : sh_glyph_tail N p0 p1 = some (v, hp)) : PureOK Try.prog i_glyph_tail [.int .u32 p0, .int .i64 p1] v := by
  have hc := chk_glyph_tail
  simp only [Bool.and_eq_true] at hc
  exact ⟨hp, fnOK_of hΓ pureS_glyph_tail Try.func48 body_glyph_tail hc.1 hc.2 (by decide) ((run_glyph_tail N p0 p1).trans h)⟩

def G_ref1_Quote : Nat → List V → Option (Bool × V) := fun _ _ => none
def Γ_ref1_Quote : ASpec := liftG G_ref1_Quote
theorem pureS_ref1_Quote : PureS Γ_ref1_Quote [] := liftG_pure _ _
theorem spec_ref1_Quote  : SpecOK Try.prog Γ_ref1_Quote := by
  intro f vs hp v hp' h
  obtain ⟨h, -⟩ := liftG_inv h
  simp [G_ref1_Quote] at h
def ir_ref1_Quote_0 : IR := (.cond (.t 9) .skip (.exit 0))
def ir_ref1_Quote_1 : IR := (.cond (.t 62) (.reg [⟨none, .mov 65 (.t 3)⟩,
    ⟨none, .bin 66 .add (.t 65) (.c (.str ([92, 117, 48, 48] : List UInt8)))⟩,
    ⟨none, .mov 67 (.t 5)⟩,
    ⟨none, .bin 68 .quo (.t 67) (.c (.int .u8 16))⟩,
    ⟨none, .mov 69 (.t 5)⟩,
    ⟨none, .bin 70 .quo (.t 69) (.c (.int .u8 16))⟩,
    ⟨none, .bin 71 .add (.t 70) (.c (.int .u8 1))⟩,
    ⟨none, .subs 72 (.c (.str ([48, 49, 50, 51, 52, 53, 54, 55, 56, 57, 97, 98, 99, 100, 101, 102] : List UInt8))) (some (.t 68)) (some (.t 71))⟩,
    ⟨none, .bin 73 .add (.t 66) (.t 72)⟩,
    ⟨none, .mov 74 (.t 5)⟩,
    ⟨none, .bin 75 .rem (.t 74) (.c (.int .u8 16))⟩,
    ⟨none, .mov 76 (.t 5)⟩,
    ⟨none, .bin 77 .rem (.t 76) (.c (.int .u8 16))⟩,
    ⟨none, .bin 78 .add (.t 77) (.c (.int .u8 1))⟩,
    ⟨none, .subs 79 (.c (.str ([48, 49, 50, 51, 52, 53, 54, 55, 56, 57, 97, 98, 99, 100, 101, 102] : List UInt8))) (some (.t 75)) (some (.t 78))⟩,
    ⟨none, .bin 80 .add (.t 73) (.t 79)⟩,
    ⟨none, .mov 3 (.t 80)⟩] [[], [0], [], [2], [], [4], [4, 5], [2, 3, 4, 5, 6], [0, 1, 2, 3, 4, 5, 6, 7], [], [9], [], [11], [11, 12], [9, 10, 11, 12, 13], [0, 1, 2, 3, 4, 5, 6, 7, 8, 9, 10, 11, 12, 13, 14], [0, 1, 2, 3, 4, 5, 6, 7, 8, 9, 10, 11, 12, 13, 14, 15]]) (.reg [⟨none, .mov 15 (.t 3)⟩,
    ⟨none, .mov 16 (.t 0)⟩,
    ⟨none, .mov 17 (.t 4)⟩,
    ⟨none, .mov 18 (.t 4)⟩,
    ⟨none, .bin 19 .add (.t 18) (.c (.int .i64 1))⟩,
    ⟨none, .subs 20 (.t 16) (some (.t 17)) (some (.t 19))⟩,
    ⟨none, .bin 21 .add (.t 15) (.t 20)⟩,
    ⟨none, .mov 3 (.t 21)⟩] []))
def ir_ref1_Quote_2 : IR := (.cond (.t 57) (.reg [⟨none, .mov 60 (.t 3)⟩,
    ⟨none, .bin 61 .add (.t 60) (.c (.str ([92, 116] : List UInt8)))⟩,
    ⟨none, .mov 3 (.t 61)⟩] []) (.seq (.reg [⟨none, .mov 63 (.t 5)⟩,
    ⟨none, .bin 64 .lss (.t 63) (.c (.int .u8 32))⟩,
    ⟨none, .mov 62 (.t 64)⟩] []) ir_ref1_Quote_1))
def ir_ref1_Quote_3 : IR := (.cond (.t 52) (.reg [⟨none, .mov 55 (.t 3)⟩,
    ⟨none, .bin 56 .add (.t 55) (.c (.str ([92, 114] : List UInt8)))⟩,
    ⟨none, .mov 3 (.t 56)⟩] []) (.seq (.reg [⟨none, .mov 58 (.t 5)⟩,
    ⟨none, .bin 59 .eql (.t 58) (.c (.int .u8 9))⟩,
    ⟨none, .mov 57 (.t 59)⟩] []) ir_ref1_Quote_2))
def ir_ref1_Quote_4 : IR := (.cond (.t 47) (.reg [⟨none, .mov 50 (.t 3)⟩,
    ⟨none, .bin 51 .add (.t 50) (.c (.str ([92, 110] : List UInt8)))⟩,
    ⟨none, .mov 3 (.t 51)⟩] []) (.seq (.reg [⟨none, .mov 53 (.t 5)⟩,
    ⟨none, .bin 54 .eql (.t 53) (.c (.int .u8 13))⟩,
    ⟨none, .mov 52 (.t 54)⟩] []) ir_ref1_Quote_3))
def ir_ref1_Quote_5 : IR := (.cond (.t 42) (.reg [⟨none, .mov 45 (.t 3)⟩,
    ⟨none, .bin 46 .add (.t 45) (.c (.str ([92, 102] : List UInt8)))⟩,
    ⟨none, .mov 3 (.t 46)⟩] []) (.seq (.reg [⟨none, .mov 48 (.t 5)⟩,
    ⟨none, .bin 49 .eql (.t 48) (.c (.int .u8 10))⟩,
    ⟨none, .mov 47 (.t 49)⟩] []) ir_ref1_Quote_4))
def ir_ref1_Quote_6 : IR := (.cond (.t 37) (.reg [⟨none, .mov 40 (.t 3)⟩,
    ⟨none, .bin 41 .add (.t 40) (.c (.str ([92, 98] : List UInt8)))⟩,
    ⟨none, .mov 3 (.t 41)⟩] []) (.seq (.reg [⟨none, .mov 43 (.t 5)⟩,
    ⟨none, .bin 44 .eql (.t 43) (.c (.int .u8 12))⟩,
    ⟨none, .mov 42 (.t 44)⟩] []) ir_ref1_Quote_5))
def ir_ref1_Quote_7 : IR := (.cond (.t 22) (.reg [⟨none, .mov 29 (.t 3)⟩,
    ⟨none, .bin 30 .add (.t 29) (.c (.str ([92] : List UInt8)))⟩,
    ⟨none, .mov 31 (.t 0)⟩,
    ⟨none, .mov 32 (.t 4)⟩,
    ⟨none, .mov 33 (.t 4)⟩,
    ⟨none, .bin 34 .add (.t 33) (.c (.int .i64 1))⟩,
    ⟨none, .subs 35 (.t 31) (some (.t 32)) (some (.t 34))⟩,
    ⟨none, .bin 36 .add (.t 30) (.t 35)⟩,
    ⟨none, .mov 3 (.t 36)⟩] []) (.seq (.reg [⟨none, .mov 38 (.t 5)⟩,
    ⟨none, .bin 39 .eql (.t 38) (.c (.int .u8 8))⟩,
    ⟨none, .mov 37 (.t 39)⟩] []) ir_ref1_Quote_6))
def ir_ref1_Quote_8 : IR := (.block 2 (.seq (.reg [⟨none, .mov 23 (.t 5)⟩,
    ⟨none, .bin 24 .eql (.t 23) (.c (.int .u8 34))⟩,
    ⟨none, .mov 25 (.t 24)⟩,
    ⟨some (25, false), .mov 26 (.t 5)⟩,
    ⟨some (25, false), .bin 27 .eql (.t 26) (.c (.int .u8 92))⟩,
    ⟨none, .pick 28 (.t 25) (.c (.bool true)) (.t 27)⟩,
    ⟨none, .mov 22 (.t 28)⟩] []) ir_ref1_Quote_7))
def ir_ref1_Quote_9 : IR := (.reg [⟨none, .mov 10 (.t 4)⟩,
    ⟨none, .bin 11 .add (.t 10) (.c (.int .i64 1))⟩,
    ⟨none, .mov 4 (.t 11)⟩] [])
def ir_ref1_Quote_10 : IR := (.seq (.block 1 (.seq (.reg [⟨none, .mov 12 (.t 0)⟩,
    ⟨none, .mov 13 (.t 4)⟩,
    ⟨none, .idx 14 (.t 12) (.t 13)⟩,
    ⟨none, .mov 5 (.t 14)⟩] []) ir_ref1_Quote_8)) ir_ref1_Quote_9)
def ir_ref1_Quote_11 : IR := (.seq (.seq (.reg [⟨none, .mov 6 (.t 4)⟩,
    ⟨none, .mov 7 (.t 0)⟩,
    ⟨none, .lens 8 (.t 7)⟩,
    ⟨none, .bin 9 .lss (.t 6) (.t 8)⟩] []) ir_ref1_Quote_0) ir_ref1_Quote_10)
def ir_ref1_Quote_12 : IR := (.block 0 (.loop [0, 3, 4] 0 ir_ref1_Quote_11))
def ir_ref1_Quote_13 : IR := .ret
def ir_ref1_Quote_14 : IR := (.seq (.reg [⟨none, .mov 81 (.t 3)⟩,
    ⟨none, .bin 82 .add (.t 81) (.c (.str ([34] : List UInt8)))⟩,
    ⟨none, .mov 2 (.t 82)⟩] []) ir_ref1_Quote_13)
def ir_ref1_Quote_15 : IR := (.seq (.seq (.reg [⟨none, .mov 4 (.c (.int .i64 0))⟩] []) ir_ref1_Quote_12) ir_ref1_Quote_14)
def ir_ref1_Quote_16 : IR := (.seq (.reg [⟨none, .mov 3 (.c (.str ([34] : List UInt8)))⟩] []) ir_ref1_Quote_15)
def ir_ref1_Quote : IR := (.seq (.reg [⟨none, .mov 2 (.c (.str ([] : List UInt8)))⟩] []) ir_ref1_Quote_16)
def rs_ref1_Quote : List RV := [.t 2]
theorem chk_ref1_Quote : (chkCode Try.prog [] 0 ir_ref1_Quote (Try.f32.body.getD .skip) && chkRes Try.prog rs_ref1_Quote Try.f32.results.toList) = true := by kernel_rfl
theorem body_ref1_Quote : Try.f32.body = some (Try.f32.body.getD .skip) := by kernel_rfl
def mk_ref1_Quote_0 (x : (List UInt8 × List UInt8 × Int)) : St := { env := [.str x.1, .undef, .undef, .str x.2.1, .int .i64 x.2.2, .undef, .undef, .undef, .undef, .undef, .undef, .undef, .undef, .undef, .undef, .undef, .undef, .undef, .undef, .undef, .undef, .undef, .undef, .undef, .undef, .undef, .undef, .undef, .undef, .undef, .undef, .undef, .undef, .undef, .undef, .undef, .undef, .undef, .undef, .undef, .undef, .undef, .undef, .undef, .undef, .undef, .undef, .undef, .undef, .undef, .undef, .undef, .undef, .undef, .undef, .undef, .undef, .undef, .undef, .undef, .undef, .undef, .undef, .undef, .undef, .undef, .undef, .undef, .undef, .undef, .undef, .undef, .undef, .undef, .undef, .undef, .undef, .undef, .undef, .undef, .undef, .undef, .undef], hp := [] }
def F_ref1_Quote_0 (N : Nat) : (St → Option (V × List AObj)) → St → Option (V × List AObj) := fun again0 s => run Γ_ref1_Quote N ir_ref1_Quote_11 (kloop again0 [0, 3, 4] 0 (kblock 0 (kseq (run Γ_ref1_Quote N ir_ref1_Quote_14) (fin rs_ref1_Quote)))) s
def B_ref1_Quote_0 (N : Nat) (again0 : (List UInt8 × List UInt8 × Int) → Option (V × List AObj)) (x : (List UInt8 × List UInt8 × Int)) : Option (V × List AObj) :=
  let v0 : List UInt8 := x.1
  let v3 : List UInt8 := x.2.1
  let v4 : Int := x.2.2
  let x1 : Int := (↑(List.length v0) : Int)
  cond (decide (v4 < x1)) (
    chk ((decide (0 ≤ v4) && decide (v4 < ↑(List.length v0)))) (
      let x2 : Int := (↑(UInt8.toNat (List.getD v0 (Int.toNat v4) 0)) : Int)
      cond (x2 == 34) (
        chk (decide (List.length v3 + List.length ([92] : List UInt8) ≤ 9223372036854775807)) (
          let x3 : List UInt8 := (v3 ++ ([92] : List UInt8))
          let x4 : Int := (IntKind.wrap .i64 (v4 + 1))
          chk ((decide (0 ≤ x4) && decide (x4 ≤ (↑(List.length v0) : Int)) && (decide (0 ≤ v4) && decide (v4 ≤ x4)))) (
            let x5 : List UInt8 := (List.drop (Int.toNat v4) (List.take (Int.toNat x4) v0))
            chk (decide (List.length x3 + List.length x5 ≤ 9223372036854775807)) (
              let x6 : Int := (IntKind.wrap .i64 (v4 + 1))
              again0 (v0, (x3 ++ x5), x6))))) (
        cond (x2 == 92) (
          chk (decide (List.length v3 + List.length ([92] : List UInt8) ≤ 9223372036854775807)) (
            let x7 : List UInt8 := (v3 ++ ([92] : List UInt8))
            let x8 : Int := (IntKind.wrap .i64 (v4 + 1))
            chk ((decide (0 ≤ x8) && decide (x8 ≤ (↑(List.length v0) : Int)) && (decide (0 ≤ v4) && decide (v4 ≤ x8)))) (
              let x9 : List UInt8 := (List.drop (Int.toNat v4) (List.take (Int.toNat x8) v0))
              chk (decide (List.length x7 + List.length x9 ≤ 9223372036854775807)) (
                let x10 : Int := (IntKind.wrap .i64 (v4 + 1))
                again0 (v0, (x7 ++ x9), x10))))) (
          cond (x2 == 8) (
            chk (decide (List.length v3 + List.length ([92, 98] : List UInt8) ≤ 9223372036854775807)) (
              let x11 : List UInt8 := (v3 ++ ([92, 98] : List UInt8))
              let x12 : Int := (IntKind.wrap .i64 (v4 + 1))
              again0 (v0, x11, x12))) (
            cond (x2 == 12) (
              chk (decide (List.length v3 + List.length ([92, 102] : List UInt8) ≤ 9223372036854775807)) (
                let x13 : List UInt8 := (v3 ++ ([92, 102] : List UInt8))
                let x14 : Int := (IntKind.wrap .i64 (v4 + 1))
                again0 (v0, x13, x14))) (
              cond (x2 == 10) (
                chk (decide (List.length v3 + List.length ([92, 110] : List UInt8) ≤ 9223372036854775807)) (
                  let x15 : List UInt8 := (v3 ++ ([92, 110] : List UInt8))
                  let x16 : Int := (IntKind.wrap .i64 (v4 + 1))
                  again0 (v0, x15, x16))) (
                cond (x2 == 13) (
                  chk (decide (List.length v3 + List.length ([92, 114] : List UInt8) ≤ 9223372036854775807)) (
                    let x17 : List UInt8 := (v3 ++ ([92, 114] : List UInt8))
                    let x18 : Int := (IntKind.wrap .i64 (v4 + 1))
                    again0 (v0, x17, x18))) (
                  cond (x2 == 9) (
                    chk (decide (List.length v3 + List.length ([92, 116] : List UInt8) ≤ 9223372036854775807)) (
                      let x19 : List UInt8 := (v3 ++ ([92, 116] : List UInt8))
                      let x20 : Int := (IntKind.wrap .i64 (v4 + 1))
                      again0 (v0, x19, x20))) (
                    cond (decide (x2 < 32)) (
                      chk (decide (List.length v3 + List.length ([92, 117, 48, 48] : List UInt8) ≤ 9223372036854775807)) (
                        let x21 : List UInt8 := (v3 ++ ([92, 117, 48, 48] : List UInt8))
                        let x22 : Int := (IntKind.wrap .u8 (Int.tdiv x2 16))
                        let x23 : Int := (IntKind.wrap .u8 (Int.tdiv x2 16))
                        let x24 : Int := (IntKind.wrap .u8 (x23 + 1))
                        chk ((decide (0 ≤ x24) && decide (x24 ≤ (↑(List.length ([48, 49, 50, 51, 52, 53, 54, 55, 56, 57, 97, 98, 99, 100, 101, 102] : List UInt8)) : Int)) && (decide (0 ≤ x22) && decide (x22 ≤ x24)))) (
                          let x25 : List UInt8 := (List.drop (Int.toNat x22) (List.take (Int.toNat x24) ([48, 49, 50, 51, 52, 53, 54, 55, 56, 57, 97, 98, 99, 100, 101, 102] : List UInt8)))
                          chk (decide (List.length x21 + List.length x25 ≤ 9223372036854775807)) (
                            let x26 : Int := (IntKind.wrap .u8 ((Int.tmod x2 16) + 1))
                            chk ((decide (0 ≤ x26) && decide (x26 ≤ (↑(List.length ([48, 49, 50, 51, 52, 53, 54, 55, 56, 57, 97, 98, 99, 100, 101, 102] : List UInt8)) : Int)) && (decide (0 ≤ (Int.tmod x2 16)) && decide ((Int.tmod x2 16) ≤ x26)))) (
                              let x27 : List UInt8 := (List.drop (Int.toNat (Int.tmod x2 16)) (List.take (Int.toNat x26) ([48, 49, 50, 51, 52, 53, 54, 55, 56, 57, 97, 98, 99, 100, 101, 102] : List UInt8)))
                              chk (decide (List.length (x21 ++ x25) + List.length x27 ≤ 9223372036854775807)) (
                                let x28 : Int := (IntKind.wrap .i64 (v4 + 1))
                                again0 (v0, ((x21 ++ x25) ++ x27), x28))))))) (
                      let x29 : Int := (IntKind.wrap .i64 (v4 + 1))
                      chk ((decide (0 ≤ x29) && decide (x29 ≤ (↑(List.length v0) : Int)) && (decide (0 ≤ v4) && decide (v4 ≤ x29)))) (
                        let x30 : List UInt8 := (List.drop (Int.toNat v4) (List.take (Int.toNat x29) v0))
                        chk (decide (List.length v3 + List.length x30 ≤ 9223372036854775807)) (
                          let x31 : Int := (IntKind.wrap .i64 (v4 + 1))
                          again0 (v0, (v3 ++ x30), x31))))))))))))) (
    chk (decide (List.length v3 + List.length ([34] : List UInt8) ≤ 9223372036854775807)) (
      let x32 : List UInt8 := (v3 ++ ([34] : List UInt8))
      some (.str x32, [])))
theorem FB_ref1_Quote_0 (N : Nat) : ∀ (again0 : St → Option (V × List AObj)) (x : (List UInt8 × List UInt8 × Int)), F_ref1_Quote_0 N again0 (mk_ref1_Quote_0 x) = B_ref1_Quote_0 N (fun y => again0 (mk_ref1_Quote_0 y)) x := by
  intro again0 x
  kernel_rfl
/-- proclitic/procliticref1.Quote -/
def sa_ref1_Quote (N : Nat) (p0 : List UInt8) (q0 : (List UInt8 × List UInt8 × Int) → Option (V × List AObj)) : Option (V × List AObj) :=
  q0 (p0, ([34] : List UInt8), 0)
def sh_ref1_Quote (N : Nat) (p0 : List UInt8) : Option (V × List AObj) := sa_ref1_Quote N p0 (fun z => iterL N (B_ref1_Quote_0 N) z)
theorem run_ref1_Quote (N : Nat) (p0 : List UInt8) : callF Γ_ref1_Quote N 83 rs_ref1_Quote ir_ref1_Quote [.str p0] [] = sh_ref1_Quote N p0 := by
  have h : callF Γ_ref1_Quote N 83 rs_ref1_Quote ir_ref1_Quote [.str p0] [] = sa_ref1_Quote N p0 (fun z => loopN N (F_ref1_Quote_0 N) (mk_ref1_Quote_0 z)) := by kernel_rfl
  have e0 : (fun z => loopN N (F_ref1_Quote_0 N) (mk_ref1_Quote_0 z)) = (fun z => iterL N (B_ref1_Quote_0 N) z) := funext fun z => loop_eq (mk_ref1_Quote_0) (F_ref1_Quote_0 N) (B_ref1_Quote_0 N) (FB_ref1_Quote_0 N) N z
  rw [h, e0]
  rfl
theorem ok_ref1_Quote (hΓ : SpecOK Try.prog Γ_ref1_Quote) (N : Nat) (p0 : List UInt8) {v : V} {hp : List AObj} (h : sh_ref1_Quote N p0 = some (v, hp)) : PureOK Try.prog i_ref1_Quote [.str p0] v := by
  have hc := chk_ref1_Quote
  simp only [Bool.and_eq_true] at hc
  exact ⟨hp, fnOK_of hΓ pureS_ref1_Quote Try.func32 body_ref1_Quote hc.1 hc.2 (by decide) ((run_ref1_Quote N p0).trans h)⟩

def G_ref1_Glyph : Nat → List V → Option (Bool × V) := fun _ _ => none
def Γ_ref1_Glyph : ASpec := liftG G_ref1_Glyph
theorem pureS_ref1_Glyph : PureS Γ_ref1_Glyph [] := liftG_pure _ _
theorem spec_ref1_Glyph  : SpecOK Try.prog Γ_ref1_Glyph := by
  intro f vs hp v hp' h
  obtain ⟨h, -⟩ := liftG_inv h
  simp [G_ref1_Glyph] at h
def ir_ref1_Glyph_0 : IR := (.cond (.t 12) (.reg [⟨none, .mov 0 (.c (.int .u32 65533))⟩] []) .skip)
def ir_ref1_Glyph_1 : IR := .ret
def ir_ref1_Glyph_2 : IR := .ret
def ir_ref1_Glyph_3 : IR := .ret
def ir_ref1_Glyph_4 : IR := (.cond (.t 33) (.seq (.reg [⟨none, .mov 36 (.t 0)⟩,
    ⟨none, .bin 37 .quo (.t 36) (.c (.int .u32 4096))⟩,
    ⟨none, .bin 38 .add (.c (.int .u32 224)) (.t 37)⟩,
    ⟨none, .cvi 39 .u8 (.t 38)⟩,
    ⟨none, .mov 40 (.t 0)⟩,
    ⟨none, .bin 41 .quo (.t 40) (.c (.int .u32 64))⟩,
    ⟨none, .bin 42 .rem (.t 41) (.c (.int .u32 64))⟩,
    ⟨none, .bin 43 .add (.c (.int .u32 128)) (.t 42)⟩,
    ⟨none, .cvi 44 .u8 (.t 43)⟩,
    ⟨none, .mov 45 (.t 0)⟩,
    ⟨none, .bin 46 .rem (.t 45) (.c (.int .u32 64))⟩,
    ⟨none, .bin 47 .add (.c (.int .u32 128)) (.t 46)⟩,
    ⟨none, .cvi 48 .u8 (.t 47)⟩,
    ⟨none, .bsl 49 .u8 [(.t 39), (.t 44), (.t 48)]⟩,
    ⟨none, .b2s 50 (.t 49)⟩,
    ⟨none, .mov 2 (.t 50)⟩] []) ir_ref1_Glyph_3) .skip)
def ir_ref1_Glyph_5 : IR := (.cond (.t 20) (.seq (.reg [⟨none, .mov 23 (.t 0)⟩,
    ⟨none, .bin 24 .quo (.t 23) (.c (.int .u32 64))⟩,
    ⟨none, .bin 25 .add (.c (.int .u32 192)) (.t 24)⟩,
    ⟨none, .cvi 26 .u8 (.t 25)⟩,
    ⟨none, .mov 27 (.t 0)⟩,
    ⟨none, .bin 28 .rem (.t 27) (.c (.int .u32 64))⟩,
    ⟨none, .bin 29 .add (.c (.int .u32 128)) (.t 28)⟩,
    ⟨none, .cvi 30 .u8 (.t 29)⟩,
    ⟨none, .bsl 31 .u8 [(.t 26), (.t 30)]⟩,
    ⟨none, .b2s 32 (.t 31)⟩,
    ⟨none, .mov 2 (.t 32)⟩] []) ir_ref1_Glyph_2) (.seq (.reg [⟨none, .mov 34 (.t 0)⟩,
    ⟨none, .bin 35 .lss (.t 34) (.c (.int .u32 65536))⟩,
    ⟨none, .mov 33 (.t 35)⟩] []) ir_ref1_Glyph_4))
def ir_ref1_Glyph_6 : IR := (.cond (.t 13) (.seq (.reg [⟨none, .mov 16 (.t 0)⟩,
    ⟨none, .cvi 17 .u8 (.t 16)⟩,
    ⟨none, .bsl 18 .u8 [(.t 17)]⟩,
    ⟨none, .b2s 19 (.t 18)⟩,
    ⟨none, .mov 2 (.t 19)⟩] []) ir_ref1_Glyph_1) (.seq (.reg [⟨none, .mov 21 (.t 0)⟩,
    ⟨none, .bin 22 .lss (.t 21) (.c (.int .u32 2048))⟩,
    ⟨none, .mov 20 (.t 22)⟩] []) ir_ref1_Glyph_5))
def ir_ref1_Glyph_7 : IR := .ret
def ir_ref1_Glyph_8 : IR := (.seq (.reg [⟨none, .mov 51 (.t 0)⟩,
    ⟨none, .bin 52 .quo (.t 51) (.c (.int .u32 262144))⟩,
    ⟨none, .bin 53 .add (.c (.int .u32 240)) (.t 52)⟩,
    ⟨none, .cvi 54 .u8 (.t 53)⟩,
    ⟨none, .mov 55 (.t 0)⟩,
    ⟨none, .bin 56 .quo (.t 55) (.c (.int .u32 4096))⟩,
    ⟨none, .bin 57 .rem (.t 56) (.c (.int .u32 64))⟩,
    ⟨none, .bin 58 .add (.c (.int .u32 128)) (.t 57)⟩,
    ⟨none, .cvi 59 .u8 (.t 58)⟩,
    ⟨none, .mov 60 (.t 0)⟩,
    ⟨none, .bin 61 .quo (.t 60) (.c (.int .u32 64))⟩,
    ⟨none, .bin 62 .rem (.t 61) (.c (.int .u32 64))⟩,
    ⟨none, .bin 63 .add (.c (.int .u32 128)) (.t 62)⟩,
    ⟨none, .cvi 64 .u8 (.t 63)⟩,
    ⟨none, .mov 65 (.t 0)⟩,
    ⟨none, .bin 66 .rem (.t 65) (.c (.int .u32 64))⟩,
    ⟨none, .bin 67 .add (.c (.int .u32 128)) (.t 66)⟩,
    ⟨none, .cvi 68 .u8 (.t 67)⟩,
    ⟨none, .bsl 69 .u8 [(.t 54), (.t 59), (.t 64), (.t 68)]⟩,
    ⟨none, .b2s 70 (.t 69)⟩,
    ⟨none, .mov 2 (.t 70)⟩] []) ir_ref1_Glyph_7)
def ir_ref1_Glyph_9 : IR := (.seq (.block 0 (.seq (.reg [⟨none, .mov 14 (.t 0)⟩,
    ⟨none, .bin 15 .lss (.t 14) (.c (.int .u32 128))⟩,
    ⟨none, .mov 13 (.t 15)⟩] []) ir_ref1_Glyph_6)) ir_ref1_Glyph_8)
def ir_ref1_Glyph_10 : IR := (.seq (.seq (.reg [⟨none, .mov 3 (.t 0)⟩,
    ⟨none, .bin 4 .gtr (.t 3) (.c (.int .u32 1114111))⟩,
    ⟨none, .mov 5 (.t 4)⟩,
    ⟨some (5, false), .mov 6 (.t 0)⟩,
    ⟨some (5, false), .bin 7 .geq (.t 6) (.c (.int .u32 55296))⟩,
    ⟨some (5, false), .mov 8 (.t 7)⟩,
    ⟨some (8, true), .mov 9 (.t 0)⟩,
    ⟨some (8, true), .bin 10 .leq (.t 9) (.c (.int .u32 57343))⟩,
    ⟨some (5, false), .pick 11 (.t 8) (.t 10) (.c (.bool false))⟩,
    ⟨none, .pick 12 (.t 5) (.c (.bool true)) (.t 11)⟩] []) ir_ref1_Glyph_0) ir_ref1_Glyph_9)
def ir_ref1_Glyph : IR := (.seq (.reg [⟨none, .mov 2 (.c (.str ([] : List UInt8)))⟩] []) ir_ref1_Glyph_10)
def rs_ref1_Glyph : List RV := [.t 2]
theorem chk_ref1_Glyph : (chkCode Try.prog [] 0 ir_ref1_Glyph (Try.f34.body.getD .skip) && chkRes Try.prog rs_ref1_Glyph Try.f34.results.toList) = true := by kernel_rfl
theorem body_ref1_Glyph : Try.f34.body = some (Try.f34.body.getD .skip) := by kernel_rfl
/-- proclitic/procliticref1.Glyph -/
def sa_ref1_Glyph (N : Nat) (p0 : Int)  : Option (V × List AObj) :=
  cond (decide (1114111 < p0)) (
    cond (decide (65533 < 128)) (
      some (.str ([(UInt8.ofNat (Int.toNat (IntKind.wrap .u8 65533)))] : List UInt8), [])) (
      cond (decide (65533 < 2048)) (
        let x1 : Int := (IntKind.wrap .u32 (Int.tdiv 65533 64))
        let x2 : Int := (IntKind.wrap .u32 (192 + x1))
        let x3 : Int := (IntKind.wrap .u32 (128 + (Int.tmod 65533 64)))
        some (.str ([(UInt8.ofNat (Int.toNat (IntKind.wrap .u8 x2))), (UInt8.ofNat (Int.toNat (IntKind.wrap .u8 x3)))] : List UInt8), [])) (
        cond (decide (65533 < 65536)) (
          let x4 : Int := (IntKind.wrap .u32 (Int.tdiv 65533 4096))
          let x5 : Int := (IntKind.wrap .u32 (224 + x4))
          let x6 : Int := (IntKind.wrap .u32 (Int.tdiv 65533 64))
          let x7 : Int := (IntKind.wrap .u32 (128 + (Int.tmod x6 64)))
          let x8 : Int := (IntKind.wrap .u32 (128 + (Int.tmod 65533 64)))
          some (.str ([(UInt8.ofNat (Int.toNat (IntKind.wrap .u8 x5))), (UInt8.ofNat (Int.toNat (IntKind.wrap .u8 x7))), (UInt8.ofNat (Int.toNat (IntKind.wrap .u8 x8)))] : List UInt8), [])) (
          let x9 : Int := (IntKind.wrap .u32 (Int.tdiv 65533 262144))
          let x10 : Int := (IntKind.wrap .u32 (240 + x9))
          let x11 : Int := (IntKind.wrap .u32 (Int.tdiv 65533 4096))
          let x12 : Int := (IntKind.wrap .u32 (128 + (Int.tmod x11 64)))
          let x13 : Int := (IntKind.wrap .u32 (Int.tdiv 65533 64))
          let x14 : Int := (IntKind.wrap .u32 (128 + (Int.tmod x13 64)))
          let x15 : Int := (IntKind.wrap .u32 (128 + (Int.tmod 65533 64)))
          some (.str ([(UInt8.ofNat (Int.toNat (IntKind.wrap .u8 x10))), (UInt8.ofNat (Int.toNat (IntKind.wrap .u8 x12))), (UInt8.ofNat (Int.toNat (IntKind.wrap .u8 x14))), (UInt8.ofNat (Int.toNat (IntKind.wrap .u8 x15)))] : List UInt8), []))))) (
    cond (decide (55296 ≤ p0)) (
      cond (decide (p0 ≤ 57343)) (
        cond (decide (65533 < 128)) (
          some (.str ([(UInt8.ofNat (Int.toNat (IntKind.wrap .u8 65533)))] : List UInt8), [])) (
          cond (decide (65533 < 2048)) (
            let x16 : Int := (IntKind.wrap .u32 (Int.tdiv 65533 64))
            let x17 : Int := (IntKind.wrap .u32 (192 + x16))
            let x18 : Int := (IntKind.wrap .u32 (128 + (Int.tmod 65533 64)))
            some (.str ([(UInt8.ofNat (Int.toNat (IntKind.wrap .u8 x17))), (UInt8.ofNat (Int.toNat (IntKind.wrap .u8 x18)))] : List UInt8), [])) (
            cond (decide (65533 < 65536)) (
              let x19 : Int := (IntKind.wrap .u32 (Int.tdiv 65533 4096))
              let x20 : Int := (IntKind.wrap .u32 (224 + x19))
              let x21 : Int := (IntKind.wrap .u32 (Int.tdiv 65533 64))
              let x22 : Int := (IntKind.wrap .u32 (128 + (Int.tmod x21 64)))
              let x23 : Int := (IntKind.wrap .u32 (128 + (Int.tmod 65533 64)))
              some (.str ([(UInt8.ofNat (Int.toNat (IntKind.wrap .u8 x20))), (UInt8.ofNat (Int.toNat (IntKind.wrap .u8 x22))), (UInt8.ofNat (Int.toNat (IntKind.wrap .u8 x23)))] : List UInt8), [])) (
              let x24 : Int := (IntKind.wrap .u32 (Int.tdiv 65533 262144))
              let x25 : Int := (IntKind.wrap .u32 (240 + x24))
              let x26 : Int := (IntKind.wrap .u32 (Int.tdiv 65533 4096))
              let x27 : Int := (IntKind.wrap .u32 (128 + (Int.tmod x26 64)))
              let x28 : Int := (IntKind.wrap .u32 (Int.tdiv 65533 64))
              let x29 : Int := (IntKind.wrap .u32 (128 + (Int.tmod x28 64)))
              let x30 : Int := (IntKind.wrap .u32 (128 + (Int.tmod 65533 64)))
              some (.str ([(UInt8.ofNat (Int.toNat (IntKind.wrap .u8 x25))), (UInt8.ofNat (Int.toNat (IntKind.wrap .u8 x27))), (UInt8.ofNat (Int.toNat (IntKind.wrap .u8 x29))), (UInt8.ofNat (Int.toNat (IntKind.wrap .u8 x30)))] : List UInt8), []))))) (
        cond (decide (p0 < 128)) (
          some (.str ([(UInt8.ofNat (Int.toNat (IntKind.wrap .u8 p0)))] : List UInt8), [])) (
          cond (decide (p0 < 2048)) (
            let x31 : Int := (IntKind.wrap .u32 (Int.tdiv p0 64))
            let x32 : Int := (IntKind.wrap .u32 (192 + x31))
            let x33 : Int := (IntKind.wrap .u32 (128 + (Int.tmod p0 64)))
            some (.str ([(UInt8.ofNat (Int.toNat (IntKind.wrap .u8 x32))), (UInt8.ofNat (Int.toNat (IntKind.wrap .u8 x33)))] : List UInt8), [])) (
            cond (decide (p0 < 65536)) (
              let x34 : Int := (IntKind.wrap .u32 (Int.tdiv p0 4096))
              let x35 : Int := (IntKind.wrap .u32 (224 + x34))
              let x36 : Int := (IntKind.wrap .u32 (Int.tdiv p0 64))
              let x37 : Int := (IntKind.wrap .u32 (128 + (Int.tmod x36 64)))
              let x38 : Int := (IntKind.wrap .u32 (128 + (Int.tmod p0 64)))
              some (.str ([(UInt8.ofNat (Int.toNat (IntKind.wrap .u8 x35))), (UInt8.ofNat (Int.toNat (IntKind.wrap .u8 x37))), (UInt8.ofNat (Int.toNat (IntKind.wrap .u8 x38)))] : List UInt8), [])) (
              let x39 : Int := (IntKind.wrap .u32 (Int.tdiv p0 262144))
              let x40 : Int := (IntKind.wrap .u32 (240 + x39))
              let x41 : Int := (IntKind.wrap .u32 (Int.tdiv p0 4096))
              let x42 : Int := (IntKind.wrap .u32 (128 + (Int.tmod x41 64)))
              let x43 : Int := (IntKind.wrap .u32 (Int.tdiv p0 64))
              let x44 : Int := (IntKind.wrap .u32 (128 + (Int.tmod x43 64)))
              let x45 : Int := (IntKind.wrap .u32 (128 + (Int.tmod p0 64)))
              some (.str ([(UInt8.ofNat (Int.toNat (IntKind.wrap .u8 x40))), (UInt8.ofNat (Int.toNat (IntKind.wrap .u8 x42))), (UInt8.ofNat (Int.toNat (IntKind.wrap .u8 x44))), (UInt8.ofNat (Int.toNat (IntKind.wrap .u8 x45)))] : List UInt8), [])))))) (
      cond (decide (p0 < 128)) (
        some (.str ([(UInt8.ofNat (Int.toNat (IntKind.wrap .u8 p0)))] : List UInt8), [])) (
        cond (decide (p0 < 2048)) (
          let x46 : Int := (IntKind.wrap .u32 (Int.tdiv p0 64))
          let x47 : Int := (IntKind.wrap .u32 (192 + x46))
          let x48 : Int := (IntKind.wrap .u32 (128 + (Int.tmod p0 64)))
          some (.str ([(UInt8.ofNat (Int.toNat (IntKind.wrap .u8 x47))), (UInt8.ofNat (Int.toNat (IntKind.wrap .u8 x48)))] : List UInt8), [])) (
          cond (decide (p0 < 65536)) (
            let x49 : Int := (IntKind.wrap .u32 (Int.tdiv p0 4096))
            let x50 : Int := (IntKind.wrap .u32 (224 + x49))
            let x51 : Int := (IntKind.wrap .u32 (Int.tdiv p0 64))
            let x52 : Int := (IntKind.wrap .u32 (128 + (Int.tmod x51 64)))
            let x53 : Int := (IntKind.wrap .u32 (128 + (Int.tmod p0 64)))
            some (.str ([(UInt8.ofNat (Int.toNat (IntKind.wrap .u8 x50))), (UInt8.ofNat (Int.toNat (IntKind.wrap .u8 x52))), (UInt8.ofNat (Int.toNat (IntKind.wrap .u8 x53)))] : List UInt8), [])) (
            let x54 : Int := (IntKind.wrap .u32 (Int.tdiv p0 262144))
            let x55 : Int := (IntKind.wrap .u32 (240 + x54))
            let x56 : Int := (IntKind.wrap .u32 (Int.tdiv p0 4096))
            let x57 : Int := (IntKind.wrap .u32 (128 + (Int.tmod x56 64)))
            let x58 : Int := (IntKind.wrap .u32 (Int.tdiv p0 64))
            let x59 : Int := (IntKind.wrap .u32 (128 + (Int.tmod x58 64)))
            let x60 : Int := (IntKind.wrap .u32 (128 + (Int.tmod p0 64)))
            some (.str ([(UInt8.ofNat (Int.toNat (IntKind.wrap .u8 x55))), (UInt8.ofNat (Int.toNat (IntKind.wrap .u8 x57))), (UInt8.ofNat (Int.toNat (IntKind.wrap .u8 x59))), (UInt8.ofNat (Int.toNat (IntKind.wrap .u8 x60)))] : List UInt8), []))))))
def sh_ref1_Glyph (N : Nat) (p0 : Int) : Option (V × List AObj) := sa_ref1_Glyph N p0
theorem run_ref1_Glyph (N : Nat) (p0 : Int) : callF Γ_ref1_Glyph N 71 rs_ref1_Glyph ir_ref1_Glyph [.int .u32 p0] [] = sh_ref1_Glyph N p0 := by kernel_rfl
theorem ok_ref1_Glyph (hΓ : SpecOK Try.prog Γ_ref1_Glyph) (N : Nat) (p0 : Int) {v : V} {hp : List AObj} (h : sh_ref1_Glyph N p0 = some (v, hp)) : PureOK Try.prog i_ref1_Glyph [.int .u32 p0] v := by
  have hc := chk_ref1_Glyph
  simp only [Bool.and_eq_true] at hc
  exact ⟨hp, fnOK_of hΓ pureS_ref1_Glyph Try.func34 body_ref1_Glyph hc.1 hc.2 (by decide) ((run_ref1_Glyph N p0).trans h)⟩

def G_strings_IndexByte : Nat → List V → Option (Bool × V) := fun f vs => match f, vs with
  | 53, [.str a0, .int .u8 a1] => some (true, .int .i64 (indexB a0 a1))
  | _, _ => none
def Γ_strings_IndexByte : ASpec := liftG G_strings_IndexByte
theorem pureS_strings_IndexByte : PureS Γ_strings_IndexByte [] := liftG_pure _ _
theorem spec_strings_IndexByte (h_internal_stringslite_IndexByte : ∀ (a0 : List UInt8) (a1 : Int), PureOK Try.prog i_internal_stringslite_IndexByte [.str a0, .int .u8 a1] (.int .i64 (indexB a0 a1))) : SpecOK Try.prog Γ_strings_IndexByte := by
  intro f vs hp v hp' h0
  obtain ⟨h, he⟩ := liftG_inv h0
  subst he
  unfold G_strings_IndexByte at h
  split at h
  · simp only [Option.some.injEq, Prod.mk.injEq] at h
    obtain ⟨hc, rfl⟩ := h
    exact (h_internal_stringslite_IndexByte _ _).frame rfl rfl _
  · simp at h
def ir_strings_IndexByte_0 : IR := .ret
def ir_strings_IndexByte_1 : IR := (.seq (.reg [⟨none, .mov 5 (.t 0)⟩,
    ⟨none, .mov 6 (.t 1)⟩,
    ⟨none, .call (some 7) 53 [(.t 5), (.t 6)]⟩,
    ⟨none, .mov 4 (.t 7)⟩] []) ir_strings_IndexByte_0)
def ir_strings_IndexByte : IR := (.seq (.reg [⟨none, .mov 4 (.c (.int .i64 0))⟩] []) ir_strings_IndexByte_1)
def rs_strings_IndexByte : List RV := [.t 4]
theorem chk_strings_IndexByte : (chkCode Try.prog [] 0 ir_strings_IndexByte (Try.f46.body.getD .skip) && chkRes Try.prog rs_strings_IndexByte Try.f46.results.toList) = true := by kernel_rfl
theorem body_strings_IndexByte : Try.f46.body = some (Try.f46.body.getD .skip) := by kernel_rfl
/-- strings.IndexByte -/
def sa_strings_IndexByte (N : Nat) (p0 : List UInt8) (p1 : Int)  : Option (V × List AObj) :=
  some (.int .i64 (indexB p0 p1), [])
def sh_strings_IndexByte (N : Nat) (p0 : List UInt8) (p1 : Int) : Option (V × List AObj) := sa_strings_IndexByte N p0 p1
theorem run_strings_IndexByte (N : Nat) (p0 : List UInt8) (p1 : Int) : callF Γ_strings_IndexByte N 8 rs_strings_IndexByte ir_strings_IndexByte [.str p0, .int .u8 p1] [] = sh_strings_IndexByte N p0 p1 := by kernel_rfl
theorem ok_strings_IndexByte (hΓ : SpecOK Try.prog Γ_strings_IndexByte) (N : Nat) (p0 : List UInt8) (p1 : Int) {v : V} {hp : List AObj} (h : sh_strings_IndexByte N p0 p1 = some (v, hp)) : PureOK Try.prog i_strings_IndexByte [.str p0, .int .u8 p1] v := by
  have hc := chk_strings_IndexByte
  simp only [Bool.and_eq_true] at hc
  exact ⟨hp, fnOK_of hΓ pureS_strings_IndexByte Try.func46 body_strings_IndexByte hc.1 hc.2 (by decide) ((run_strings_IndexByte N p0 p1).trans h)⟩

def G_strings_HasPrefix : Nat → List V → Option (Bool × V) := fun f vs => match f, vs with
  | 54, [.str a0, .str a1] => some (true, .bool (prefixB a0 a1))
  | _, _ => none
def Γ_strings_HasPrefix : ASpec := liftG G_strings_HasPrefix
theorem pureS_strings_HasPrefix : PureS Γ_strings_HasPrefix [] := liftG_pure _ _
theorem spec_strings_HasPrefix (h_internal_stringslite_HasPrefix : ∀ (a0 : List UInt8) (a1 : List UInt8), PureOK Try.prog i_internal_stringslite_HasPrefix [.str a0, .str a1] (.bool (prefixB a0 a1))) : SpecOK Try.prog Γ_strings_HasPrefix := by
  intro f vs hp v hp' h0
  obtain ⟨h, he⟩ := liftG_inv h0
  subst he
  unfold G_strings_HasPrefix at h
  split at h
  · simp only [Option.some.injEq, Prod.mk.injEq] at h
    obtain ⟨hc, rfl⟩ := h
    exact (h_internal_stringslite_HasPrefix _ _).frame rfl rfl _
  · simp at h
def ir_strings_HasPrefix_0 : IR := .ret
def ir_strings_HasPrefix_1 : IR := (.seq (.reg [⟨none, .mov 5 (.t 0)⟩,
    ⟨none, .mov 6 (.t 1)⟩,
    ⟨none, .call (some 7) 54 [(.t 5), (.t 6)]⟩,
    ⟨none, .mov 4 (.t 7)⟩] []) ir_strings_HasPrefix_0)
def ir_strings_HasPrefix : IR := (.seq (.reg [⟨none, .mov 4 (.c (.bool false))⟩] []) ir_strings_HasPrefix_1)
def rs_strings_HasPrefix : List RV := [.t 4]
theorem chk_strings_HasPrefix : (chkCode Try.prog [] 0 ir_strings_HasPrefix (Try.f50.body.getD .skip) && chkRes Try.prog rs_strings_HasPrefix Try.f50.results.toList) = true := by kernel_rfl
theorem body_strings_HasPrefix : Try.f50.body = some (Try.f50.body.getD .skip) := by kernel_rfl
/-- strings.HasPrefix -/
def sa_strings_HasPrefix (N : Nat) (p0 : List UInt8) (p1 : List UInt8)  : Option (V × List AObj) :=
  some (.bool (prefixB p0 p1), [])
def sh_strings_HasPrefix (N : Nat) (p0 : List UInt8) (p1 : List UInt8) : Option (V × List AObj) := sa_strings_HasPrefix N p0 p1
theorem run_strings_HasPrefix (N : Nat) (p0 : List UInt8) (p1 : List UInt8) : callF Γ_strings_HasPrefix N 8 rs_strings_HasPrefix ir_strings_HasPrefix [.str p0, .str p1] [] = sh_strings_HasPrefix N p0 p1 := by kernel_rfl
theorem ok_strings_HasPrefix (hΓ : SpecOK Try.prog Γ_strings_HasPrefix) (N : Nat) (p0 : List UInt8) (p1 : List UInt8) {v : V} {hp : List AObj} (h : sh_strings_HasPrefix N p0 p1 = some (v, hp)) : PureOK Try.prog i_strings_HasPrefix [.str p0, .str p1] v := by
  have hc := chk_strings_HasPrefix
  simp only [Bool.and_eq_true] at hc
  exact ⟨hp, fnOK_of hΓ pureS_strings_HasPrefix Try.func50 body_strings_HasPrefix hc.1 hc.2 (by decide) ((run_strings_HasPrefix N p0 p1).trans h)⟩

def G_internal_stringslite_HasPrefix : Nat → List V → Option (Bool × V) := fun _ _ => none
def Γ_internal_stringslite_HasPrefix : ASpec := liftG G_internal_stringslite_HasPrefix
theorem pureS_internal_stringslite_HasPrefix : PureS Γ_internal_stringslite_HasPrefix [] := liftG_pure _ _
theorem spec_internal_stringslite_HasPrefix  : SpecOK Try.prog Γ_internal_stringslite_HasPrefix := by
  intro f vs hp v hp' h
  obtain ⟨h, -⟩ := liftG_inv h
  simp [G_internal_stringslite_HasPrefix] at h
def ir_internal_stringslite_HasPrefix_0 : IR := .ret
def ir_internal_stringslite_HasPrefix_1 : IR := (.seq (.reg [⟨none, .mov 5 (.t 0)⟩,
    ⟨none, .lens 6 (.t 5)⟩,
    ⟨none, .mov 7 (.t 1)⟩,
    ⟨none, .lens 8 (.t 7)⟩,
    ⟨none, .bin 9 .geq (.t 6) (.t 8)⟩,
    ⟨none, .mov 10 (.t 9)⟩,
    ⟨some (10, true), .mov 11 (.t 0)⟩,
    ⟨some (10, true), .mov 12 (.t 1)⟩,
    ⟨some (10, true), .lens 13 (.t 12)⟩,
    ⟨some (10, true), .subs 14 (.t 11) none (some (.t 13))⟩,
    ⟨some (10, true), .mov 15 (.t 1)⟩,
    ⟨some (10, true), .bin 16 .eql (.t 14) (.t 15)⟩,
    ⟨none, .pick 17 (.t 10) (.t 16) (.c (.bool false))⟩,
    ⟨none, .mov 4 (.t 17)⟩] []) ir_internal_stringslite_HasPrefix_0)
def ir_internal_stringslite_HasPrefix : IR := (.seq (.reg [⟨none, .mov 4 (.c (.bool false))⟩] []) ir_internal_stringslite_HasPrefix_1)
def rs_internal_stringslite_HasPrefix : List RV := [.t 4]
theorem chk_internal_stringslite_HasPrefix : (chkCode Try.prog [] 0 ir_internal_stringslite_HasPrefix (Try.f54.body.getD .skip) && chkRes Try.prog rs_internal_stringslite_HasPrefix Try.f54.results.toList) = true := by kernel_rfl
theorem body_internal_stringslite_HasPrefix : Try.f54.body = some (Try.f54.body.getD .skip) := by kernel_rfl
/-- internal/stringslite.HasPrefix -/
def sa_internal_stringslite_HasPrefix (N : Nat) (p0 : List UInt8) (p1 : List UInt8)  : Option (V × List AObj) :=
  let x1 : Int := (↑(List.length p0) : Int)
  let x2 : Int := (↑(List.length p1) : Int)
  cond (decide (x2 ≤ x1)) (
    let x3 : Int := (↑(List.length p1) : Int)
    chk ((decide (0 ≤ x3) && decide (x3 ≤ (↑(List.length p0) : Int)))) (
      let x4 : List UInt8 := (List.drop 0 (List.take (Int.toNat x3) p0))
      some (.bool (decide (x4 = p1)), []))) (
    some (.bool false, []))
def sh_internal_stringslite_HasPrefix (N : Nat) (p0 : List UInt8) (p1 : List UInt8) : Option (V × List AObj) := sa_internal_stringslite_HasPrefix N p0 p1
theorem run_internal_stringslite_HasPrefix (N : Nat) (p0 : List UInt8) (p1 : List UInt8) : callF Γ_internal_stringslite_HasPrefix N 18 rs_internal_stringslite_HasPrefix ir_internal_stringslite_HasPrefix [.str p0, .str p1] [] = sh_internal_stringslite_HasPrefix N p0 p1 := by kernel_rfl
theorem ok_internal_stringslite_HasPrefix (hΓ : SpecOK Try.prog Γ_internal_stringslite_HasPrefix) (N : Nat) (p0 : List UInt8) (p1 : List UInt8) {v : V} {hp : List AObj} (h : sh_internal_stringslite_HasPrefix N p0 p1 = some (v, hp)) : PureOK Try.prog i_internal_stringslite_HasPrefix [.str p0, .str p1] v := by
  have hc := chk_internal_stringslite_HasPrefix
  simp only [Bool.and_eq_true] at hc
  exact ⟨hp, fnOK_of hΓ pureS_internal_stringslite_HasPrefix Try.func54 body_internal_stringslite_HasPrefix hc.1 hc.2 (by decide) ((run_internal_stringslite_HasPrefix N p0 p1).trans h)⟩

def G_ref1_point : Nat → List V → Option (Bool × V) := fun _ _ => none
def Γ_ref1_point : ASpec := liftG G_ref1_point
theorem pureS_ref1_point : PureS Γ_ref1_point [] := liftG_pure _ _
theorem spec_ref1_point  : SpecOK Try.prog Γ_ref1_point := by
  intro f vs hp v hp' h
  obtain ⟨h, -⟩ := liftG_inv h
  simp [G_ref1_point] at h
def ir_ref1_point_0 : IR := .ret
def ir_ref1_point_1 : IR := (.cond (.t 11) (.seq (.reg [⟨none, .mov 2 (.c (.int .u32 0))⟩,
    ⟨none, .mov 3 (.c (.int .i64 0))⟩] []) ir_ref1_point_0) .skip)
def ir_ref1_point_2 : IR := .ret
def ir_ref1_point_3 : IR := .ret
def ir_ref1_point_4 : IR := (.cond (.t 37) (.reg [⟨none, .mov 44 (.t 4)⟩,
    ⟨none, .bin 45 .sub (.t 44) (.c (.int .u32 240))⟩,
    ⟨none, .mov 5 (.c (.int .i64 4))⟩,
    ⟨none, .mov 6 (.t 45)⟩,
    ⟨none, .mov 7 (.c (.int .u32 65536))⟩] []) (.seq (.reg [⟨none, .mov 2 (.c (.int .u32 0))⟩,
    ⟨none, .mov 3 (.c (.int .i64 0))⟩] []) ir_ref1_point_3))
def ir_ref1_point_5 : IR := (.cond (.t 28) (.reg [⟨none, .mov 35 (.t 4)⟩,
    ⟨none, .bin 36 .sub (.t 35) (.c (.int .u32 224))⟩,
    ⟨none, .mov 5 (.c (.int .i64 3))⟩,
    ⟨none, .mov 6 (.t 36)⟩,
    ⟨none, .mov 7 (.c (.int .u32 2048))⟩] []) (.seq (.reg [⟨none, .mov 38 (.t 4)⟩,
    ⟨none, .bin 39 .geq (.t 38) (.c (.int .u32 240))⟩,
    ⟨none, .mov 40 (.t 39)⟩,
    ⟨some (40, true), .mov 41 (.t 4)⟩,
    ⟨some (40, true), .bin 42 .lss (.t 41) (.c (.int .u32 248))⟩,
    ⟨none, .pick 43 (.t 40) (.t 42) (.c (.bool false))⟩,
    ⟨none, .mov 37 (.t 43)⟩] []) ir_ref1_point_4))
def ir_ref1_point_6 : IR := (.cond (.t 19) (.reg [⟨none, .mov 26 (.t 4)⟩,
    ⟨none, .bin 27 .sub (.t 26) (.c (.int .u32 192))⟩,
    ⟨none, .mov 5 (.c (.int .i64 2))⟩,
    ⟨none, .mov 6 (.t 27)⟩,
    ⟨none, .mov 7 (.c (.int .u32 128))⟩] []) (.seq (.reg [⟨none, .mov 29 (.t 4)⟩,
    ⟨none, .bin 30 .geq (.t 29) (.c (.int .u32 224))⟩,
    ⟨none, .mov 31 (.t 30)⟩,
    ⟨some (31, true), .mov 32 (.t 4)⟩,
    ⟨some (31, true), .bin 33 .lss (.t 32) (.c (.int .u32 240))⟩,
    ⟨none, .pick 34 (.t 31) (.t 33) (.c (.bool false))⟩,
    ⟨none, .mov 28 (.t 34)⟩] []) ir_ref1_point_5))
def ir_ref1_point_7 : IR := (.cond (.t 15) (.seq (.reg [⟨none, .mov 18 (.t 4)⟩,
    ⟨none, .mov 2 (.t 18)⟩,
    ⟨none, .mov 3 (.c (.int .i64 1))⟩] []) ir_ref1_point_2) (.seq (.reg [⟨none, .mov 20 (.t 4)⟩,
    ⟨none, .bin 21 .geq (.t 20) (.c (.int .u32 192))⟩,
    ⟨none, .mov 22 (.t 21)⟩,
    ⟨some (22, true), .mov 23 (.t 4)⟩,
    ⟨some (22, true), .bin 24 .lss (.t 23) (.c (.int .u32 224))⟩,
    ⟨none, .pick 25 (.t 22) (.t 24) (.c (.bool false))⟩,
    ⟨none, .mov 19 (.t 25)⟩] []) ir_ref1_point_6))
def ir_ref1_point_8 : IR := .ret
def ir_ref1_point_9 : IR := (.cond (.t 49) (.seq (.reg [⟨none, .mov 2 (.c (.int .u32 0))⟩,
    ⟨none, .mov 3 (.c (.int .i64 0))⟩] []) ir_ref1_point_8) .skip)
def ir_ref1_point_10 : IR := (.cond (.t 52) .skip (.exit 1))
def ir_ref1_point_11 : IR := .ret
def ir_ref1_point_12 : IR := (.cond (.t 64) (.seq (.reg [⟨none, .mov 2 (.c (.int .u32 0))⟩,
    ⟨none, .mov 3 (.c (.int .i64 0))⟩] []) ir_ref1_point_11) .skip)
def ir_ref1_point_13 : IR := (.reg [⟨none, .mov 65 (.t 6)⟩,
    ⟨none, .bin 66 .mul (.t 65) (.c (.int .u32 64))⟩,
    ⟨none, .mov 67 (.t 0)⟩,
    ⟨none, .mov 68 (.t 8)⟩,
    ⟨none, .idx 69 (.t 67) (.t 68)⟩,
    ⟨none, .bin 70 .sub (.t 69) (.c (.int .u8 128))⟩,
    ⟨none, .cvi 71 .u32 (.t 70)⟩,
    ⟨none, .bin 72 .add (.t 66) (.t 71)⟩,
    ⟨none, .mov 6 (.t 72)⟩] [])
def ir_ref1_point_14 : IR := (.reg [⟨none, .mov 53 (.t 8)⟩,
    ⟨none, .bin 54 .add (.t 53) (.c (.int .i64 1))⟩,
    ⟨none, .mov 8 (.t 54)⟩] [])
def ir_ref1_point_15 : IR := (.seq (.block 2 (.seq (.seq (.reg [⟨none, .mov 55 (.t 0)⟩,
    ⟨none, .mov 56 (.t 8)⟩,
    ⟨none, .idx 57 (.t 55) (.t 56)⟩,
    ⟨none, .bin 58 .lss (.t 57) (.c (.int .u8 128))⟩,
    ⟨none, .mov 59 (.t 58)⟩,
    ⟨some (59, false), .mov 60 (.t 0)⟩,
    ⟨some (59, false), .mov 61 (.t 8)⟩,
    ⟨some (59, false), .idx 62 (.t 60) (.t 61)⟩,
    ⟨some (59, false), .bin 63 .gtr (.t 62) (.c (.int .u8 191))⟩,
    ⟨none, .pick 64 (.t 59) (.c (.bool true)) (.t 63)⟩] []) ir_ref1_point_12) ir_ref1_point_13)) ir_ref1_point_14)
def ir_ref1_point_16 : IR := (.seq (.seq (.reg [⟨none, .mov 50 (.t 8)⟩,
    ⟨none, .mov 51 (.t 5)⟩,
    ⟨none, .bin 52 .lss (.t 50) (.t 51)⟩] []) ir_ref1_point_10) ir_ref1_point_15)
def ir_ref1_point_17 : IR := (.block 1 (.loop [0, 5, 6, 7, 8] 0 ir_ref1_point_16))
def ir_ref1_point_18 : IR := .ret
def ir_ref1_point_19 : IR := (.cond (.t 87) (.seq (.reg [⟨none, .mov 2 (.c (.int .u32 0))⟩,
    ⟨none, .mov 3 (.c (.int .i64 0))⟩] []) ir_ref1_point_18) .skip)
def ir_ref1_point_20 : IR := .ret
def ir_ref1_point_21 : IR := (.seq (.reg [⟨none, .mov 88 (.t 6)⟩,
    ⟨none, .mov 89 (.t 5)⟩,
    ⟨none, .mov 2 (.t 88)⟩,
    ⟨none, .mov 3 (.t 89)⟩] []) ir_ref1_point_20)
def ir_ref1_point_22 : IR := (.seq (.seq (.reg [⟨none, .mov 73 (.t 6)⟩,
    ⟨none, .mov 74 (.t 7)⟩,
    ⟨none, .bin 75 .lss (.t 73) (.t 74)⟩,
    ⟨none, .mov 76 (.t 75)⟩,
    ⟨some (76, false), .mov 77 (.t 6)⟩,
    ⟨some (76, false), .bin 78 .gtr (.t 77) (.c (.int .u32 1114111))⟩,
    ⟨none, .pick 79 (.t 76) (.c (.bool true)) (.t 78)⟩,
    ⟨none, .mov 80 (.t 79)⟩,
    ⟨some (80, false), .mov 81 (.t 6)⟩,
    ⟨some (80, false), .bin 82 .geq (.t 81) (.c (.int .u32 55296))⟩,
    ⟨some (80, false), .mov 83 (.t 82)⟩,
    ⟨some (83, true), .mov 84 (.t 6)⟩,
    ⟨some (83, true), .bin 85 .leq (.t 84) (.c (.int .u32 57343))⟩,
    ⟨some (80, false), .pick 86 (.t 83) (.t 85) (.c (.bool false))⟩,
    ⟨none, .pick 87 (.t 80) (.c (.bool true)) (.t 86)⟩] []) ir_ref1_point_19) ir_ref1_point_21)
def ir_ref1_point_23 : IR := (.seq (.seq (.reg [⟨none, .mov 8 (.c (.int .i64 1))⟩] []) ir_ref1_point_17) ir_ref1_point_22)
def ir_ref1_point_24 : IR := (.seq (.seq (.reg [⟨none, .mov 46 (.t 0)⟩,
    ⟨none, .lens 47 (.t 46)⟩,
    ⟨none, .mov 48 (.t 5)⟩,
    ⟨none, .bin 49 .lss (.t 47) (.t 48)⟩] []) ir_ref1_point_9) ir_ref1_point_23)
def ir_ref1_point_25 : IR := (.seq (.block 0 (.seq (.reg [⟨none, .mov 16 (.t 4)⟩,
    ⟨none, .bin 17 .lss (.t 16) (.c (.int .u32 128))⟩,
    ⟨none, .mov 15 (.t 17)⟩] []) ir_ref1_point_7)) ir_ref1_point_24)
def ir_ref1_point_26 : IR := (.seq (.reg [⟨none, .mov 5 (.c (.int .i64 0))⟩,
    ⟨none, .mov 6 (.c (.int .u32 0))⟩,
    ⟨none, .mov 7 (.c (.int .u32 0))⟩] []) ir_ref1_point_25)
def ir_ref1_point_27 : IR := (.seq (.reg [⟨none, .mov 12 (.t 0)⟩,
    ⟨none, .idx 13 (.t 12) (.c (.int .i64 0))⟩,
    ⟨none, .cvi 14 .u32 (.t 13)⟩,
    ⟨none, .mov 4 (.t 14)⟩] []) ir_ref1_point_26)
def ir_ref1_point_28 : IR := (.seq (.seq (.reg [⟨none, .mov 9 (.t 0)⟩,
    ⟨none, .lens 10 (.t 9)⟩,
    ⟨none, .bin 11 .eql (.t 10) (.c (.int .i64 0))⟩] []) ir_ref1_point_1) ir_ref1_point_27)
def ir_ref1_point : IR := (.seq (.reg [⟨none, .mov 2 (.c (.int .u32 0))⟩,
    ⟨none, .mov 3 (.c (.int .i64 0))⟩] []) ir_ref1_point_28)
def rs_ref1_point : List RV := [.t 2, .t 3]
theorem chk_ref1_point : (chkCode Try.prog [] 0 ir_ref1_point (Try.f45.body.getD .skip) && chkRes Try.prog rs_ref1_point Try.f45.results.toList) = true := by kernel_rfl
theorem body_ref1_point : Try.f45.body = some (Try.f45.body.getD .skip) := by kernel_rfl
def mk_ref1_point_0 (x : (List UInt8 × Int × Int × Int × Int)) : St := { env := [.str x.1, .undef, .undef, .undef, .undef, .int .i64 x.2.1, .int .u32 x.2.2.1, .int .u32 x.2.2.2.1, .int .i64 x.2.2.2.2, .undef, .undef, .undef, .undef, .undef, .undef, .undef, .undef, .undef, .undef, .undef, .undef, .undef, .undef, .undef, .undef, .undef, .undef, .undef, .undef, .undef, .undef, .undef, .undef, .undef, .undef, .undef, .undef, .undef, .undef, .undef, .undef, .undef, .undef, .undef, .undef, .undef, .undef, .undef, .undef, .undef, .undef, .undef, .undef, .undef, .undef, .undef, .undef, .undef, .undef, .undef, .undef, .undef, .undef, .undef, .undef, .undef, .undef, .undef, .undef, .undef, .undef, .undef, .undef, .undef, .undef, .undef, .undef, .undef, .undef, .undef, .undef, .undef, .undef, .undef, .undef, .undef, .undef, .undef, .undef, .undef], hp := [] }
def F_ref1_point_0 (N : Nat) : (St → Option (V × List AObj)) → St → Option (V × List AObj) := fun again0 s => run Γ_ref1_point N ir_ref1_point_16 (kloop again0 [0, 5, 6, 7, 8] 0 (kblock 1 (kseq (run Γ_ref1_point N ir_ref1_point_22) (fin rs_ref1_point)))) s
def B_ref1_point_0 (N : Nat) (again0 : (List UInt8 × Int × Int × Int × Int) → Option (V × List AObj)) (x : (List UInt8 × Int × Int × Int × Int)) : Option (V × List AObj) :=
  let v0 : List UInt8 := x.1
  let v5 : Int := x.2.1
  let v6 : Int := x.2.2.1
  let v7 : Int := x.2.2.2.1
  let v8 : Int := x.2.2.2.2
  cond (decide (v8 < v5)) (
    chk ((decide (0 ≤ v8) && decide (v8 < ↑(List.length v0)))) (
      let x8 : Int := (↑(UInt8.toNat (List.getD v0 (Int.toNat v8) 0)) : Int)
      cond (decide (x8 < 128)) (
        some (.tup [.int .u32 0, .int .i64 0], [])) (
        chk ((decide (0 ≤ v8) && decide (v8 < ↑(List.length v0)))) (
          let x9 : Int := (↑(UInt8.toNat (List.getD v0 (Int.toNat v8) 0)) : Int)
          cond (decide (191 < x9)) (
            some (.tup [.int .u32 0, .int .i64 0], [])) (
            let x10 : Int := (IntKind.wrap .u32 (v6 * 64))
            chk ((decide (0 ≤ v8) && decide (v8 < ↑(List.length v0)))) (
              let x11 : Int := (↑(UInt8.toNat (List.getD v0 (Int.toNat v8) 0)) : Int)
              let x12 : Int := (IntKind.wrap .u8 (x11 - 128))
              let x13 : Int := (IntKind.wrap .u32 (x10 + (IntKind.wrap .u32 x12)))
              let x14 : Int := (IntKind.wrap .i64 (v8 + 1))
              again0 (v0, v5, x13, v7, x14))))))) (
    cond (decide (v6 < v7)) (
      some (.tup [.int .u32 0, .int .i64 0], [])) (
      cond (decide (1114111 < v6)) (
        some (.tup [.int .u32 0, .int .i64 0], [])) (
        cond (decide (55296 ≤ v6)) (
          cond (decide (v6 ≤ 57343)) (
            some (.tup [.int .u32 0, .int .i64 0], [])) (
            some (.tup [.int .u32 v6, .int .i64 v5], []))) (
          some (.tup [.int .u32 v6, .int .i64 v5], [])))))
theorem FB_ref1_point_0 (N : Nat) : ∀ (again0 : St → Option (V × List AObj)) (x : (List UInt8 × Int × Int × Int × Int)), F_ref1_point_0 N again0 (mk_ref1_point_0 x) = B_ref1_point_0 N (fun y => again0 (mk_ref1_point_0 y)) x := by
  intro again0 x
  kernel_rfl
/-- proclitic/procliticref1.point -/
def sa_ref1_point (N : Nat) (p0 : List UInt8) (q0 : (List UInt8 × Int × Int × Int × Int) → Option (V × List AObj)) : Option (V × List AObj) :=
  let x1 : Int := (↑(List.length p0) : Int)
  cond (x1 == 0) (
    some (.tup [.int .u32 0, .int .i64 0], [])) (
    chk (decide ((0 : Int) < ↑(List.length p0))) (
      let x2 : Int := (↑(UInt8.toNat (List.getD p0 (Int.toNat 0) 0)) : Int)
      let x3 : Bool := decide ((IntKind.wrap .u32 x2) < 128)
      cond x3 (
        some (.tup [.int .u32 (IntKind.wrap .u32 x2), .int .i64 1], [])) (
        let x4 : Bool := decide (192 ≤ (IntKind.wrap .u32 x2))
        cond x4 (
          let x5 : Bool := decide ((IntKind.wrap .u32 x2) < 224)
          cond x5 (
            let x6 : Int := (IntKind.wrap .u32 ((IntKind.wrap .u32 x2) - 192))
            let x7 : Int := (↑(List.length p0) : Int)
            cond (decide (x7 < 2)) (
              some (.tup [.int .u32 0, .int .i64 0], [])) (
              q0 (p0, 2, x6, 128, 1))) (
            let x15 : Bool := decide (224 ≤ (IntKind.wrap .u32 x2))
            cond x15 (
              let x16 : Bool := decide ((IntKind.wrap .u32 x2) < 240)
              cond x16 (
                let x17 : Int := (IntKind.wrap .u32 ((IntKind.wrap .u32 x2) - 224))
                let x18 : Int := (↑(List.length p0) : Int)
                cond (decide (x18 < 3)) (
                  some (.tup [.int .u32 0, .int .i64 0], [])) (
                  q0 (p0, 3, x17, 2048, 1))) (
                let x19 : Bool := decide (240 ≤ (IntKind.wrap .u32 x2))
                cond x19 (
                  let x20 : Bool := decide ((IntKind.wrap .u32 x2) < 248)
                  cond x20 (
                    let x21 : Int := (IntKind.wrap .u32 ((IntKind.wrap .u32 x2) - 240))
                    let x22 : Int := (↑(List.length p0) : Int)
                    cond (decide (x22 < 4)) (
                      some (.tup [.int .u32 0, .int .i64 0], [])) (
                      q0 (p0, 4, x21, 65536, 1))) (
                    some (.tup [.int .u32 0, .int .i64 0], []))) (
                  some (.tup [.int .u32 0, .int .i64 0], [])))) (
              let x23 : Bool := decide (240 ≤ (IntKind.wrap .u32 x2))
              cond x23 (
                let x24 : Bool := decide ((IntKind.wrap .u32 x2) < 248)
                cond x24 (
                  let x25 : Int := (IntKind.wrap .u32 ((IntKind.wrap .u32 x2) - 240))
                  let x26 : Int := (↑(List.length p0) : Int)
                  cond (decide (x26 < 4)) (
                    some (.tup [.int .u32 0, .int .i64 0], [])) (
                    q0 (p0, 4, x25, 65536, 1))) (
                  some (.tup [.int .u32 0, .int .i64 0], []))) (
                some (.tup [.int .u32 0, .int .i64 0], []))))) (
          let x27 : Bool := decide (224 ≤ (IntKind.wrap .u32 x2))
          cond x27 (
            let x28 : Bool := decide ((IntKind.wrap .u32 x2) < 240)
            cond x28 (
              let x29 : Int := (IntKind.wrap .u32 ((IntKind.wrap .u32 x2) - 224))
              let x30 : Int := (↑(List.length p0) : Int)
              cond (decide (x30 < 3)) (
                some (.tup [.int .u32 0, .int .i64 0], [])) (
                q0 (p0, 3, x29, 2048, 1))) (
              let x31 : Bool := decide (240 ≤ (IntKind.wrap .u32 x2))
              cond x31 (
                let x32 : Bool := decide ((IntKind.wrap .u32 x2) < 248)
                cond x32 (
                  let x33 : Int := (IntKind.wrap .u32 ((IntKind.wrap .u32 x2) - 240))
                  let x34 : Int := (↑(List.length p0) : Int)
                  cond (decide (x34 < 4)) (
                    some (.tup [.int .u32 0, .int .i64 0], [])) (
                    q0 (p0, 4, x33, 65536, 1))) (
                  some (.tup [.int .u32 0, .int .i64 0], []))) (
                some (.tup [.int .u32 0, .int .i64 0], [])))) (
            let x35 : Bool := decide (240 ≤ (IntKind.wrap .u32 x2))
            cond x35 (
              let x36 : Bool := decide ((IntKind.wrap .u32 x2) < 248)
              cond x36 (
                let x37 : Int := (IntKind.wrap .u32 ((IntKind.wrap .u32 x2) - 240))
                let x38 : Int := (↑(List.length p0) : Int)
                cond (decide (x38 < 4)) (
                  some (.tup [.int .u32 0, .int .i64 0], [])) (
                  q0 (p0, 4, x37, 65536, 1))) (
                some (.tup [.int .u32 0, .int .i64 0], []))) (
              some (.tup [.int .u32 0, .int .i64 0], [])))))))
def sh_ref1_point (N : Nat) (p0 : List UInt8) : Option (V × List AObj) := sa_ref1_point N p0 (fun z => iterL N (B_ref1_point_0 N) z)
theorem run_ref1_point (N : Nat) (p0 : List UInt8) : callF Γ_ref1_point N 90 rs_ref1_point ir_ref1_point [.str p0] [] = sh_ref1_point N p0 := by
  have h : callF Γ_ref1_point N 90 rs_ref1_point ir_ref1_point [.str p0] [] = sa_ref1_point N p0 (fun z => loopN N (F_ref1_point_0 N) (mk_ref1_point_0 z)) := by kernel_rfl
  have e0 : (fun z => loopN N (F_ref1_point_0 N) (mk_ref1_point_0 z)) = (fun z => iterL N (B_ref1_point_0 N) z) := funext fun z => loop_eq (mk_ref1_point_0) (F_ref1_point_0 N) (B_ref1_point_0 N) (FB_ref1_point_0 N) N z
  rw [h, e0]
  rfl
theorem ok_ref1_point (hΓ : SpecOK Try.prog Γ_ref1_point) (N : Nat) (p0 : List UInt8) {v : V} {hp : List AObj} (h : sh_ref1_point N p0 = some (v, hp)) : PureOK Try.prog i_ref1_point [.str p0] v := by
  have hc := chk_ref1_point
  simp only [Bool.and_eq_true] at hc
  exact ⟨hp, fnOK_of hΓ pureS_ref1_point Try.func45 body_ref1_point hc.1 hc.2 (by decide) ((run_ref1_point N p0).trans h)⟩

def G_ref1_Valid : Nat → List V → Option (Bool × V) := fun f vs => match f, vs with
  | 45, [.str a0] => some (true, .tup [.int .u32 ((pointG a0).1), .int .i64 ((pointG a0).2)])
  | _, _ => none
def Γ_ref1_Valid : ASpec := liftG G_ref1_Valid
theorem pureS_ref1_Valid : PureS Γ_ref1_Valid [] := liftG_pure _ _
theorem spec_ref1_Valid (h_ref1_point : ∀ (a0 : List UInt8), PureOK Try.prog i_ref1_point [.str a0] (.tup [.int .u32 ((pointG a0).1), .int .i64 ((pointG a0).2)])) : SpecOK Try.prog Γ_ref1_Valid := by
  intro f vs hp v hp' h0
  obtain ⟨h, he⟩ := liftG_inv h0
  subst he
  unfold G_ref1_Valid at h
  split at h
  · simp only [Option.some.injEq, Prod.mk.injEq] at h
    obtain ⟨hc, rfl⟩ := h
    exact (h_ref1_point _).frame rfl rfl _
  · simp at h
def ir_ref1_Valid_0 : IR := (.cond (.t 7) .skip (.exit 0))
def ir_ref1_Valid_1 : IR := .ret
def ir_ref1_Valid_2 : IR := (.cond (.t 14) (.seq (.reg [⟨none, .mov 2 (.c (.bool false))⟩] []) ir_ref1_Valid_1) .skip)
def ir_ref1_Valid_3 : IR := (.reg [⟨none, .mov 15 (.t 0)⟩,
    ⟨none, .mov 16 (.t 4)⟩,
    ⟨none, .subs 17 (.t 15) (some (.t 16)) none⟩,
    ⟨none, .mov 0 (.t 17)⟩] [])
def ir_ref1_Valid_4 : IR := (.seq (.seq (.reg [⟨none, .mov 13 (.t 4)⟩,
    ⟨none, .bin 14 .eql (.t 13) (.c (.int .i64 0))⟩] []) ir_ref1_Valid_2) ir_ref1_Valid_3)
def ir_ref1_Valid_5 : IR := (.block 1 (.seq (.reg [⟨none, .mov 9 (.t 0)⟩,
    ⟨none, .call (some 10) 45 [(.t 9)]⟩,
    ⟨none, .mov 8 (.t 10)⟩,
    ⟨none, .ext 11 0 (.t 8)⟩,
    ⟨none, .ext 12 1 (.t 8)⟩,
    ⟨none, .mov 3 (.t 11)⟩,
    ⟨none, .mov 4 (.t 12)⟩] []) ir_ref1_Valid_4))
def ir_ref1_Valid_6 : IR := (.seq (.seq (.reg [⟨none, .mov 5 (.t 0)⟩,
    ⟨none, .lens 6 (.t 5)⟩,
    ⟨none, .bin 7 .gtr (.t 6) (.c (.int .i64 0))⟩] []) ir_ref1_Valid_0) ir_ref1_Valid_5)
def ir_ref1_Valid_7 : IR := .ret
def ir_ref1_Valid_8 : IR := (.seq (.reg [⟨none, .mov 2 (.c (.bool true))⟩] []) ir_ref1_Valid_7)
def ir_ref1_Valid_9 : IR := (.seq (.block 0 (.loop [0] 0 ir_ref1_Valid_6)) ir_ref1_Valid_8)
def ir_ref1_Valid : IR := (.seq (.reg [⟨none, .mov 2 (.c (.bool false))⟩] []) ir_ref1_Valid_9)
def rs_ref1_Valid : List RV := [.t 2]
theorem chk_ref1_Valid : (chkCode Try.prog [] 0 ir_ref1_Valid (Try.f30.body.getD .skip) && chkRes Try.prog rs_ref1_Valid Try.f30.results.toList) = true := by kernel_rfl
theorem body_ref1_Valid : Try.f30.body = some (Try.f30.body.getD .skip) := by kernel_rfl
def mk_ref1_Valid_0 (x : (List UInt8)) : St := { env := [.str x, .undef, .undef, .undef, .undef, .undef, .undef, .undef, .undef, .undef, .undef, .undef, .undef, .undef, .undef, .undef, .undef, .undef], hp := [] }
def F_ref1_Valid_0 (N : Nat) : (St → Option (V × List AObj)) → St → Option (V × List AObj) := fun again0 s => run Γ_ref1_Valid N ir_ref1_Valid_6 (kloop again0 [0] 0 (kblock 0 (kseq (run Γ_ref1_Valid N ir_ref1_Valid_8) (fin rs_ref1_Valid)))) s
def B_ref1_Valid_0 (N : Nat) (again0 : (List UInt8) → Option (V × List AObj)) (x : (List UInt8)) : Option (V × List AObj) :=
  let v0 : List UInt8 := x
  let x1 : Int := (↑(List.length v0) : Int)
  cond (decide (0 < x1)) (
    cond (((pointG v0).2) == 0) (
      some (.bool false, [])) (
      chk ((decide (0 ≤ ((pointG v0).2)) && decide (((pointG v0).2) ≤ (↑(List.length v0) : Int)))) (
        let x2 : List UInt8 := (List.drop (Int.toNat ((pointG v0).2)) (List.take (List.length v0) v0))
        again0 (x2)))) (
    some (.bool true, []))
theorem FB_ref1_Valid_0 (N : Nat) : ∀ (again0 : St → Option (V × List AObj)) (x : (List UInt8)), F_ref1_Valid_0 N again0 (mk_ref1_Valid_0 x) = B_ref1_Valid_0 N (fun y => again0 (mk_ref1_Valid_0 y)) x := by
  intro again0 x
  kernel_rfl
/-- proclitic/procliticref1.Valid -/
def sa_ref1_Valid (N : Nat) (p0 : List UInt8) (q0 : (List UInt8) → Option (V × List AObj)) : Option (V × List AObj) :=
  q0 (p0)
def sh_ref1_Valid (N : Nat) (p0 : List UInt8) : Option (V × List AObj) := sa_ref1_Valid N p0 (fun z => iterL N (B_ref1_Valid_0 N) z)
theorem run_ref1_Valid (N : Nat) (p0 : List UInt8) : callF Γ_ref1_Valid N 18 rs_ref1_Valid ir_ref1_Valid [.str p0] [] = sh_ref1_Valid N p0 := by
  have h : callF Γ_ref1_Valid N 18 rs_ref1_Valid ir_ref1_Valid [.str p0] [] = sa_ref1_Valid N p0 (fun z => loopN N (F_ref1_Valid_0 N) (mk_ref1_Valid_0 z)) := by kernel_rfl
  have e0 : (fun z => loopN N (F_ref1_Valid_0 N) (mk_ref1_Valid_0 z)) = (fun z => iterL N (B_ref1_Valid_0 N) z) := funext fun z => loop_eq (mk_ref1_Valid_0) (F_ref1_Valid_0 N) (B_ref1_Valid_0 N) (FB_ref1_Valid_0 N) N z
  rw [h, e0]
  rfl
theorem ok_ref1_Valid (hΓ : SpecOK Try.prog Γ_ref1_Valid) (N : Nat) (p0 : List UInt8) {v : V} {hp : List AObj} (h : sh_ref1_Valid N p0 = some (v, hp)) : PureOK Try.prog i_ref1_Valid [.str p0] v := by
  have hc := chk_ref1_Valid
  simp only [Bool.and_eq_true] at hc
  exact ⟨hp, fnOK_of hΓ pureS_ref1_Valid Try.func30 body_ref1_Valid hc.1 hc.2 (by decide) ((run_ref1_Valid N p0).trans h)⟩

def G_ref1_Digit : Nat → List V → Option (Bool × V) := fun _ _ => none
def Γ_ref1_Digit : ASpec := liftG G_ref1_Digit
theorem pureS_ref1_Digit : PureS Γ_ref1_Digit [] := liftG_pure _ _
theorem spec_ref1_Digit  : SpecOK Try.prog Γ_ref1_Digit := by
  intro f vs hp v hp' h
  obtain ⟨h, -⟩ := liftG_inv h
  simp [G_ref1_Digit] at h
def ir_ref1_Digit_0 : IR := .ret
def ir_ref1_Digit_1 : IR := .ret
def ir_ref1_Digit_2 : IR := .ret
def ir_ref1_Digit_3 : IR := (.cond (.t 24) (.seq (.reg [⟨none, .mov 31 (.t 0)⟩,
    ⟨none, .bin 32 .sub (.t 31) (.c (.int .u8 65))⟩,
    ⟨none, .cvi 33 .i64 (.t 32)⟩,
    ⟨none, .bin 34 .add (.t 33) (.c (.int .i64 10))⟩,
    ⟨none, .mov 2 (.t 34)⟩] []) ir_ref1_Digit_2) .skip)
def ir_ref1_Digit_4 : IR := (.cond (.t 13) (.seq (.reg [⟨none, .mov 20 (.t 0)⟩,
    ⟨none, .bin 21 .sub (.t 20) (.c (.int .u8 97))⟩,
    ⟨none, .cvi 22 .i64 (.t 21)⟩,
    ⟨none, .bin 23 .add (.t 22) (.c (.int .i64 10))⟩,
    ⟨none, .mov 2 (.t 23)⟩] []) ir_ref1_Digit_1) (.seq (.reg [⟨none, .mov 25 (.t 0)⟩,
    ⟨none, .bin 26 .geq (.t 25) (.c (.int .u8 65))⟩,
    ⟨none, .mov 27 (.t 26)⟩,
    ⟨some (27, true), .mov 28 (.t 0)⟩,
    ⟨some (27, true), .bin 29 .leq (.t 28) (.c (.int .u8 70))⟩,
    ⟨none, .pick 30 (.t 27) (.t 29) (.c (.bool false))⟩,
    ⟨none, .mov 24 (.t 30)⟩] []) ir_ref1_Digit_3))
def ir_ref1_Digit_5 : IR := (.cond (.t 3) (.seq (.reg [⟨none, .mov 10 (.t 0)⟩,
    ⟨none, .bin 11 .sub (.t 10) (.c (.int .u8 48))⟩,
    ⟨none, .cvi 12 .i64 (.t 11)⟩,
    ⟨none, .mov 2 (.t 12)⟩] []) ir_ref1_Digit_0) (.seq (.reg [⟨none, .mov 14 (.t 0)⟩,
    ⟨none, .bin 15 .geq (.t 14) (.c (.int .u8 97))⟩,
    ⟨none, .mov 16 (.t 15)⟩,
    ⟨some (16, true), .mov 17 (.t 0)⟩,
    ⟨some (16, true), .bin 18 .leq (.t 17) (.c (.int .u8 102))⟩,
    ⟨none, .pick 19 (.t 16) (.t 18) (.c (.bool false))⟩,
    ⟨none, .mov 13 (.t 19)⟩] []) ir_ref1_Digit_4))
def ir_ref1_Digit_6 : IR := .ret
def ir_ref1_Digit_7 : IR := (.seq (.reg [⟨none, .mov 2 (.c (.int .i64 (-1)))⟩] []) ir_ref1_Digit_6)
def ir_ref1_Digit_8 : IR := (.seq (.block 0 (.seq (.reg [⟨none, .mov 4 (.t 0)⟩,
    ⟨none, .bin 5 .geq (.t 4) (.c (.int .u8 48))⟩,
    ⟨none, .mov 6 (.t 5)⟩,
    ⟨some (6, true), .mov 7 (.t 0)⟩,
    ⟨some (6, true), .bin 8 .leq (.t 7) (.c (.int .u8 57))⟩,
    ⟨none, .pick 9 (.t 6) (.t 8) (.c (.bool false))⟩,
    ⟨none, .mov 3 (.t 9)⟩] []) ir_ref1_Digit_5)) ir_ref1_Digit_7)
def ir_ref1_Digit : IR := (.seq (.reg [⟨none, .mov 2 (.c (.int .i64 0))⟩] []) ir_ref1_Digit_8)
def rs_ref1_Digit : List RV := [.t 2]
theorem chk_ref1_Digit : (chkCode Try.prog [] 0 ir_ref1_Digit (Try.f56.body.getD .skip) && chkRes Try.prog rs_ref1_Digit Try.f56.results.toList) = true := by kernel_rfl
theorem body_ref1_Digit : Try.f56.body = some (Try.f56.body.getD .skip) := by kernel_rfl
/-- proclitic/procliticref1.Digit -/
def sa_ref1_Digit (N : Nat) (p0 : Int)  : Option (V × List AObj) :=
  cond (decide (48 ≤ p0)) (
    cond (decide (p0 ≤ 57)) (
      let x1 : Int := (IntKind.wrap .u8 (p0 - 48))
      some (.int .i64 (IntKind.wrap .i64 x1), [])) (
      cond (decide (97 ≤ p0)) (
        cond (decide (p0 ≤ 102)) (
          let x2 : Int := (IntKind.wrap .u8 (p0 - 97))
          let x3 : Int := (IntKind.wrap .i64 ((IntKind.wrap .i64 x2) + 10))
          some (.int .i64 x3, [])) (
          cond (decide (65 ≤ p0)) (
            cond (decide (p0 ≤ 70)) (
              let x4 : Int := (IntKind.wrap .u8 (p0 - 65))
              let x5 : Int := (IntKind.wrap .i64 ((IntKind.wrap .i64 x4) + 10))
              some (.int .i64 x5, [])) (
              some (.int .i64 (-1), []))) (
            some (.int .i64 (-1), [])))) (
        cond (decide (65 ≤ p0)) (
          cond (decide (p0 ≤ 70)) (
            let x6 : Int := (IntKind.wrap .u8 (p0 - 65))
            let x7 : Int := (IntKind.wrap .i64 ((IntKind.wrap .i64 x6) + 10))
            some (.int .i64 x7, [])) (
            some (.int .i64 (-1), []))) (
          some (.int .i64 (-1), []))))) (
    cond (decide (97 ≤ p0)) (
      cond (decide (p0 ≤ 102)) (
        let x8 : Int := (IntKind.wrap .u8 (p0 - 97))
        let x9 : Int := (IntKind.wrap .i64 ((IntKind.wrap .i64 x8) + 10))
        some (.int .i64 x9, [])) (
        cond (decide (65 ≤ p0)) (
          cond (decide (p0 ≤ 70)) (
            let x10 : Int := (IntKind.wrap .u8 (p0 - 65))
            let x11 : Int := (IntKind.wrap .i64 ((IntKind.wrap .i64 x10) + 10))
            some (.int .i64 x11, [])) (
            some (.int .i64 (-1), []))) (
          some (.int .i64 (-1), [])))) (
      cond (decide (65 ≤ p0)) (
        cond (decide (p0 ≤ 70)) (
          let x12 : Int := (IntKind.wrap .u8 (p0 - 65))
          let x13 : Int := (IntKind.wrap .i64 ((IntKind.wrap .i64 x12) + 10))
          some (.int .i64 x13, [])) (
          some (.int .i64 (-1), []))) (
        some (.int .i64 (-1), []))))
def sh_ref1_Digit (N : Nat) (p0 : Int) : Option (V × List AObj) := sa_ref1_Digit N p0
theorem run_ref1_Digit (N : Nat) (p0 : Int) : callF Γ_ref1_Digit N 35 rs_ref1_Digit ir_ref1_Digit [.int .u8 p0] [] = sh_ref1_Digit N p0 := by kernel_rfl
theorem ok_ref1_Digit (hΓ : SpecOK Try.prog Γ_ref1_Digit) (N : Nat) (p0 : Int) {v : V} {hp : List AObj} (h : sh_ref1_Digit N p0 = some (v, hp)) : PureOK Try.prog i_ref1_Digit [.int .u8 p0] v := by
  have hc := chk_ref1_Digit
  simp only [Bool.and_eq_true] at hc
  exact ⟨hp, fnOK_of hΓ pureS_ref1_Digit Try.func56 body_ref1_Digit hc.1 hc.2 (by decide) ((run_ref1_Digit N p0).trans h)⟩

def G_ref1_unit : Nat → List V → Option (Bool × V) := fun f vs => match f, vs with
  | 56, [.int .u8 a0] => some (true, .int .i64 (digitI a0))
  | _, _ => none
def Γ_ref1_unit : ASpec := liftG G_ref1_unit
theorem pureS_ref1_unit : PureS Γ_ref1_unit [] := liftG_pure _ _
theorem spec_ref1_unit (h_ref1_Digit : ∀ (a0 : Int), PureOK Try.prog i_ref1_Digit [.int .u8 a0] (.int .i64 (digitI a0))) : SpecOK Try.prog Γ_ref1_unit := by
  intro f vs hp v hp' h0
  obtain ⟨h, he⟩ := liftG_inv h0
  subst he
  unfold G_ref1_unit at h
  split at h
  · simp only [Option.some.injEq, Prod.mk.injEq] at h
    obtain ⟨hc, rfl⟩ := h
    exact (h_ref1_Digit _).frame rfl rfl _
  · simp at h
def ir_ref1_unit_0 : IR := .ret
def ir_ref1_unit_1 : IR := (.cond (.t 19) (.seq (.reg [⟨none, .mov 2 (.c (.int .u32 0))⟩,
    ⟨none, .mov 3 (.c (.bool false))⟩] []) ir_ref1_unit_0) .skip)
def ir_ref1_unit_2 : IR := (.cond (.t 21) .skip (.exit 0))
def ir_ref1_unit_3 : IR := .ret
def ir_ref1_unit_4 : IR := (.cond (.t 29) (.seq (.reg [⟨none, .mov 2 (.c (.int .u32 0))⟩,
    ⟨none, .mov 3 (.c (.bool false))⟩] []) ir_ref1_unit_3) .skip)
def ir_ref1_unit_5 : IR := (.reg [⟨none, .mov 30 (.t 4)⟩,
    ⟨none, .bin 31 .mul (.t 30) (.c (.int .u32 16))⟩,
    ⟨none, .mov 32 (.t 6)⟩,
    ⟨none, .cvi 33 .u32 (.t 32)⟩,
    ⟨none, .bin 34 .add (.t 31) (.t 33)⟩,
    ⟨none, .mov 4 (.t 34)⟩] [])
def ir_ref1_unit_6 : IR := (.seq (.seq (.reg [⟨none, .mov 28 (.t 6)⟩,
    ⟨none, .bin 29 .lss (.t 28) (.c (.int .i64 0))⟩] []) ir_ref1_unit_4) ir_ref1_unit_5)
def ir_ref1_unit_7 : IR := (.reg [⟨none, .mov 22 (.t 5)⟩,
    ⟨none, .bin 23 .add (.t 22) (.c (.int .i64 1))⟩,
    ⟨none, .mov 5 (.t 23)⟩] [])
def ir_ref1_unit_8 : IR := (.seq (.block 1 (.seq (.reg [⟨none, .mov 24 (.t 0)⟩,
    ⟨none, .mov 25 (.t 5)⟩,
    ⟨none, .idx 26 (.t 24) (.t 25)⟩,
    ⟨none, .call (some 27) 56 [(.t 26)]⟩,
    ⟨none, .mov 6 (.t 27)⟩] []) ir_ref1_unit_6)) ir_ref1_unit_7)
def ir_ref1_unit_9 : IR := (.seq (.seq (.reg [⟨none, .mov 20 (.t 5)⟩,
    ⟨none, .bin 21 .lss (.t 20) (.c (.int .i64 6))⟩] []) ir_ref1_unit_2) ir_ref1_unit_8)
def ir_ref1_unit_10 : IR := (.block 0 (.loop [0, 4, 5] 0 ir_ref1_unit_9))
def ir_ref1_unit_11 : IR := .ret
def ir_ref1_unit_12 : IR := (.seq (.reg [⟨none, .mov 35 (.t 4)⟩,
    ⟨none, .mov 2 (.t 35)⟩,
    ⟨none, .mov 3 (.c (.bool true))⟩] []) ir_ref1_unit_11)
def ir_ref1_unit_13 : IR := (.seq (.seq (.reg [⟨none, .mov 5 (.c (.int .i64 2))⟩] []) ir_ref1_unit_10) ir_ref1_unit_12)
def ir_ref1_unit_14 : IR := (.seq (.reg [⟨none, .mov 4 (.c (.int .u32 0))⟩] []) ir_ref1_unit_13)
def ir_ref1_unit_15 : IR := (.seq (.seq (.reg [⟨none, .mov 7 (.t 0)⟩,
    ⟨none, .lens 8 (.t 7)⟩,
    ⟨none, .bin 9 .lss (.t 8) (.c (.int .i64 6))⟩,
    ⟨none, .mov 10 (.t 9)⟩,
    ⟨some (10, false), .mov 11 (.t 0)⟩,
    ⟨some (10, false), .idx 12 (.t 11) (.c (.int .i64 0))⟩,
    ⟨some (10, false), .bin 13 .neq (.t 12) (.c (.int .u8 92))⟩,
    ⟨none, .pick 14 (.t 10) (.c (.bool true)) (.t 13)⟩,
    ⟨none, .mov 15 (.t 14)⟩,
    ⟨some (15, false), .mov 16 (.t 0)⟩,
    ⟨some (15, false), .idx 17 (.t 16) (.c (.int .i64 1))⟩,
    ⟨some (15, false), .bin 18 .neq (.t 17) (.c (.int .u8 117))⟩,
    ⟨none, .pick 19 (.t 15) (.c (.bool true)) (.t 18)⟩] []) ir_ref1_unit_1) ir_ref1_unit_14)
def ir_ref1_unit : IR := (.seq (.reg [⟨none, .mov 2 (.c (.int .u32 0))⟩,
    ⟨none, .mov 3 (.c (.bool false))⟩] []) ir_ref1_unit_15)
def rs_ref1_unit : List RV := [.t 2, .t 3]
theorem chk_ref1_unit : (chkCode Try.prog [] 0 ir_ref1_unit (Try.f52.body.getD .skip) && chkRes Try.prog rs_ref1_unit Try.f52.results.toList) = true := by kernel_rfl
theorem body_ref1_unit : Try.f52.body = some (Try.f52.body.getD .skip) := by kernel_rfl
def mk_ref1_unit_0 (x : (List UInt8 × Int × Int)) : St := { env := [.str x.1, .undef, .undef, .undef, .int .u32 x.2.1, .int .i64 x.2.2, .undef, .undef, .undef, .undef, .undef, .undef, .undef, .undef, .undef, .undef, .undef, .undef, .undef, .undef, .undef, .undef, .undef, .undef, .undef, .undef, .undef, .undef, .undef, .undef, .undef, .undef, .undef, .undef, .undef, .undef], hp := [] }
def F_ref1_unit_0 (N : Nat) : (St → Option (V × List AObj)) → St → Option (V × List AObj) := fun again0 s => run Γ_ref1_unit N ir_ref1_unit_9 (kloop again0 [0, 4, 5] 0 (kblock 0 (kseq (run Γ_ref1_unit N ir_ref1_unit_12) (fin rs_ref1_unit)))) s
def B_ref1_unit_0 (N : Nat) (again0 : (List UInt8 × Int × Int) → Option (V × List AObj)) (x : (List UInt8 × Int × Int)) : Option (V × List AObj) :=
  let v0 : List UInt8 := x.1
  let v4 : Int := x.2.1
  let v5 : Int := x.2.2
  cond (decide (v5 < 6)) (
    chk ((decide (0 ≤ v5) && decide (v5 < ↑(List.length v0)))) (
      let x4 : Int := (↑(UInt8.toNat (List.getD v0 (Int.toNat v5) 0)) : Int)
      cond (decide ((digitI x4) < 0)) (
        some (.tup [.int .u32 0, .bool false], [])) (
        let x5 : Int := (IntKind.wrap .u32 (v4 * 16))
        let x6 : Int := (IntKind.wrap .u32 (digitI x4))
        let x7 : Int := (IntKind.wrap .u32 (x5 + x6))
        let x8 : Int := (IntKind.wrap .i64 (v5 + 1))
        again0 (v0, x7, x8)))) (
    some (.tup [.int .u32 v4, .bool true], []))
theorem FB_ref1_unit_0 (N : Nat) : ∀ (again0 : St → Option (V × List AObj)) (x : (List UInt8 × Int × Int)), F_ref1_unit_0 N again0 (mk_ref1_unit_0 x) = B_ref1_unit_0 N (fun y => again0 (mk_ref1_unit_0 y)) x := by
  intro again0 x
  kernel_rfl
/-- proclitic/procliticref1.unit -/
def sa_ref1_unit (N : Nat) (p0 : List UInt8) (q0 : (List UInt8 × Int × Int) → Option (V × List AObj)) : Option (V × List AObj) :=
  let x1 : Int := (↑(List.length p0) : Int)
  cond (decide (x1 < 6)) (
    some (.tup [.int .u32 0, .bool false], [])) (
    chk (decide ((0 : Int) < ↑(List.length p0))) (
      let x2 : Int := (↑(UInt8.toNat (List.getD p0 (Int.toNat 0) 0)) : Int)
      cond (!(x2 == 92)) (
        some (.tup [.int .u32 0, .bool false], [])) (
        chk (decide ((1 : Int) < ↑(List.length p0))) (
          let x3 : Int := (↑(UInt8.toNat (List.getD p0 (Int.toNat 1) 0)) : Int)
          cond (!(x3 == 117)) (
            some (.tup [.int .u32 0, .bool false], [])) (
            q0 (p0, 0, 2))))))
def sh_ref1_unit (N : Nat) (p0 : List UInt8) : Option (V × List AObj) := sa_ref1_unit N p0 (fun z => iterL N (B_ref1_unit_0 N) z)
theorem run_ref1_unit (N : Nat) (p0 : List UInt8) : callF Γ_ref1_unit N 36 rs_ref1_unit ir_ref1_unit [.str p0] [] = sh_ref1_unit N p0 := by
  have h : callF Γ_ref1_unit N 36 rs_ref1_unit ir_ref1_unit [.str p0] [] = sa_ref1_unit N p0 (fun z => loopN N (F_ref1_unit_0 N) (mk_ref1_unit_0 z)) := by kernel_rfl
  have e0 : (fun z => loopN N (F_ref1_unit_0 N) (mk_ref1_unit_0 z)) = (fun z => iterL N (B_ref1_unit_0 N) z) := funext fun z => loop_eq (mk_ref1_unit_0) (F_ref1_unit_0 N) (B_ref1_unit_0 N) (FB_ref1_unit_0 N) N z
  rw [h, e0]
  rfl
theorem ok_ref1_unit (hΓ : SpecOK Try.prog Γ_ref1_unit) (N : Nat) (p0 : List UInt8) {v : V} {hp : List AObj} (h : sh_ref1_unit N p0 = some (v, hp)) : PureOK Try.prog i_ref1_unit [.str p0] v := by
  have hc := chk_ref1_unit
  simp only [Bool.and_eq_true] at hc
  exact ⟨hp, fnOK_of hΓ pureS_ref1_unit Try.func52 body_ref1_unit hc.1 hc.2 (by decide) ((run_ref1_unit N p0).trans h)⟩

def G_ref1_escape : Nat → List V → Option (Bool × V) := fun f vs => match f, vs with
  | 34, [.int .u32 a0] => some (true, .str (putG a0))
  | 52, [.str a0] => some (true, .tup [.int .u32 (runitV a0), .bool (runitB a0)])
  | _, _ => none
def Γ_ref1_escape : ASpec := liftG G_ref1_escape
theorem pureS_ref1_escape : PureS Γ_ref1_escape [] := liftG_pure _ _
theorem spec_ref1_escape (h_ref1_Glyph : ∀ (a0 : Int), PureOK Try.prog i_ref1_Glyph [.int .u32 a0] (.str (putG a0))) (h_ref1_unit : ∀ (a0 : List UInt8), PureOK Try.prog i_ref1_unit [.str a0] (.tup [.int .u32 (runitV a0), .bool (runitB a0)])) : SpecOK Try.prog Γ_ref1_escape := by
  intro f vs hp v hp' h0
  obtain ⟨h, he⟩ := liftG_inv h0
  subst he
  unfold G_ref1_escape at h
  split at h
  · simp only [Option.some.injEq, Prod.mk.injEq] at h
    obtain ⟨hc, rfl⟩ := h
    exact (h_ref1_Glyph _).frame rfl rfl _
  · simp only [Option.some.injEq, Prod.mk.injEq] at h
    obtain ⟨hc, rfl⟩ := h
    exact (h_ref1_unit _).frame rfl rfl _
  · simp at h
def ir_ref1_escape_0 : IR := .ret
def ir_ref1_escape_1 : IR := (.cond (.t 12) (.seq (.reg [⟨none, .mov 2 (.c (.str ([] : List UInt8)))⟩,
    ⟨none, .mov 3 (.c (.int .i64 0))⟩] []) ir_ref1_escape_0) .skip)
def ir_ref1_escape_2 : IR := (.cond (.t 16) .skip (.exit 0))
def ir_ref1_escape_3 : IR := .ret
def ir_ref1_escape_4 : IR := (.cond (.t 24) (.seq (.reg [⟨none, .mov 25 (.t 5)⟩,
    ⟨none, .mov 26 (.t 6)⟩,
    ⟨none, .mov 27 (.t 6)⟩,
    ⟨none, .bin 28 .add (.t 27) (.c (.int .i64 1))⟩,
    ⟨none, .subs 29 (.t 25) (some (.t 26)) (some (.t 28))⟩,
    ⟨none, .mov 2 (.t 29)⟩,
    ⟨none, .mov 3 (.c (.int .i64 2))⟩] []) ir_ref1_escape_3) .skip)
def ir_ref1_escape_5 : IR := (.reg [⟨none, .mov 17 (.t 6)⟩,
    ⟨none, .bin 18 .add (.t 17) (.c (.int .i64 1))⟩,
    ⟨none, .mov 6 (.t 18)⟩] [])
def ir_ref1_escape_6 : IR := (.seq (.block 1 (.seq (.reg [⟨none, .mov 19 (.t 4)⟩,
    ⟨none, .mov 20 (.t 6)⟩,
    ⟨none, .idx 21 (.t 19) (.t 20)⟩,
    ⟨none, .mov 22 (.t 0)⟩,
    ⟨none, .idx 23 (.t 22) (.c (.int .i64 1))⟩,
    ⟨none, .bin 24 .eql (.t 21) (.t 23)⟩] [[], [], [0, 1], [], [3], [0, 1, 2, 3, 4]]) ir_ref1_escape_4)) ir_ref1_escape_5)
def ir_ref1_escape_7 : IR := (.seq (.seq (.reg [⟨none, .mov 13 (.t 6)⟩,
    ⟨none, .mov 14 (.t 4)⟩,
    ⟨none, .lens 15 (.t 14)⟩,
    ⟨none, .bin 16 .lss (.t 13) (.t 15)⟩] []) ir_ref1_escape_2) ir_ref1_escape_6)
def ir_ref1_escape_8 : IR := (.block 0 (.loop [0, 4, 5, 6] 0 ir_ref1_escape_7))
def ir_ref1_escape_9 : IR := .ret
def ir_ref1_escape_10 : IR := .ret
def ir_ref1_escape_11 : IR := (.cond (.t 46) (.seq (.reg [⟨none, .mov 53 (.t 7)⟩,
    ⟨none, .call (some 54) 34 [(.t 53)]⟩,
    ⟨none, .mov 2 (.t 54)⟩,
    ⟨none, .mov 3 (.c (.int .i64 6))⟩] []) ir_ref1_escape_10) .skip)
def ir_ref1_escape_12 : IR := (.cond (.t 35) (.seq (.reg [⟨none, .mov 2 (.c (.str ([] : List UInt8)))⟩,
    ⟨none, .mov 3 (.c (.int .i64 0))⟩] []) ir_ref1_escape_9) (.seq (.reg [⟨none, .mov 47 (.t 7)⟩,
    ⟨none, .bin 48 .lss (.t 47) (.c (.int .u32 55296))⟩,
    ⟨none, .mov 49 (.t 48)⟩,
    ⟨some (49, false), .mov 50 (.t 7)⟩,
    ⟨some (49, false), .bin 51 .gtr (.t 50) (.c (.int .u32 57343))⟩,
    ⟨none, .pick 52 (.t 49) (.c (.bool true)) (.t 51)⟩,
    ⟨none, .mov 46 (.t 52)⟩] []) ir_ref1_escape_11))
def ir_ref1_escape_13 : IR := .ret
def ir_ref1_escape_14 : IR := (.cond (.t 70) (.seq (.reg [⟨none, .mov 2 (.c (.str ([] : List UInt8)))⟩,
    ⟨none, .mov 3 (.c (.int .i64 0))⟩] []) ir_ref1_escape_13) .skip)
def ir_ref1_escape_15 : IR := .ret
def ir_ref1_escape_16 : IR := (.seq (.reg [⟨none, .mov 71 (.t 7)⟩,
    ⟨none, .bin 72 .sub (.t 71) (.c (.int .u32 55296))⟩,
    ⟨none, .bin 73 .mul (.t 72) (.c (.int .u32 1024))⟩,
    ⟨none, .bin 74 .add (.c (.int .u32 65536)) (.t 73)⟩,
    ⟨none, .mov 75 (.t 9)⟩,
    ⟨none, .bin 76 .add (.t 74) (.t 75)⟩,
    ⟨none, .bin 77 .sub (.t 76) (.c (.int .u32 56320))⟩,
    ⟨none, .call (some 78) 34 [(.t 77)]⟩,
    ⟨none, .mov 2 (.t 78)⟩,
    ⟨none, .mov 3 (.c (.int .i64 12))⟩] []) ir_ref1_escape_15)
def ir_ref1_escape_17 : IR := (.seq (.seq (.reg [⟨none, .mov 61 (.t 8)⟩,
    ⟨none, .un 62 .not (.t 61)⟩,
    ⟨none, .mov 63 (.t 62)⟩,
    ⟨some (63, false), .mov 64 (.t 9)⟩,
    ⟨some (63, false), .bin 65 .lss (.t 64) (.c (.int .u32 56320))⟩,
    ⟨none, .pick 66 (.t 63) (.c (.bool true)) (.t 65)⟩,
    ⟨none, .mov 67 (.t 66)⟩,
    ⟨some (67, false), .mov 68 (.t 9)⟩,
    ⟨some (67, false), .bin 69 .gtr (.t 68) (.c (.int .u32 57343))⟩,
    ⟨none, .pick 70 (.t 67) (.c (.bool true)) (.t 69)⟩] []) ir_ref1_escape_14) ir_ref1_escape_16)
def ir_ref1_escape_18 : IR := (.seq (.reg [⟨none, .mov 56 (.t 0)⟩,
    ⟨none, .subs 57 (.t 56) (some (.c (.int .i64 6))) none⟩,
    ⟨none, .call (some 58) 52 [(.t 57)]⟩,
    ⟨none, .mov 55 (.t 58)⟩,
    ⟨none, .ext 59 0 (.t 55)⟩,
    ⟨none, .ext 60 1 (.t 55)⟩,
    ⟨none, .mov 9 (.t 59)⟩,
    ⟨none, .mov 8 (.t 60)⟩] []) ir_ref1_escape_17)
def ir_ref1_escape_19 : IR := (.seq (.block 2 (.seq (.reg [⟨none, .mov 36 (.t 8)⟩,
    ⟨none, .un 37 .not (.t 36)⟩,
    ⟨none, .mov 38 (.t 37)⟩,
    ⟨some (38, false), .mov 39 (.t 7)⟩,
    ⟨some (38, false), .bin 40 .geq (.t 39) (.c (.int .u32 56320))⟩,
    ⟨some (38, false), .mov 41 (.t 40)⟩,
    ⟨some (41, true), .mov 42 (.t 7)⟩,
    ⟨some (41, true), .bin 43 .leq (.t 42) (.c (.int .u32 57343))⟩,
    ⟨some (38, false), .pick 44 (.t 41) (.t 43) (.c (.bool false))⟩,
    ⟨none, .pick 45 (.t 38) (.c (.bool true)) (.t 44)⟩,
    ⟨none, .mov 35 (.t 45)⟩] []) ir_ref1_escape_12)) ir_ref1_escape_18)
def ir_ref1_escape_20 : IR := (.seq (.reg [⟨none, .mov 31 (.t 0)⟩,
    ⟨none, .call (some 32) 52 [(.t 31)]⟩,
    ⟨none, .mov 30 (.t 32)⟩,
    ⟨none, .ext 33 0 (.t 30)⟩,
    ⟨none, .ext 34 1 (.t 30)⟩,
    ⟨none, .mov 7 (.t 33)⟩,
    ⟨none, .mov 8 (.t 34)⟩] []) ir_ref1_escape_19)
def ir_ref1_escape_21 : IR := (.seq (.seq (.reg [⟨none, .mov 6 (.c (.int .i64 0))⟩] []) ir_ref1_escape_8) ir_ref1_escape_20)
def ir_ref1_escape_22 : IR := (.seq (.reg [⟨none, .mov 4 (.c (.str ([34, 92, 47, 98, 102, 110, 114, 116] : List UInt8)))⟩,
    ⟨none, .mov 5 (.c (.str ([34, 92, 47, 8, 12, 10, 13, 9] : List UInt8)))⟩] []) ir_ref1_escape_21)
def ir_ref1_escape_23 : IR := (.seq (.seq (.reg [⟨none, .mov 10 (.t 0)⟩,
    ⟨none, .lens 11 (.t 10)⟩,
    ⟨none, .bin 12 .lss (.t 11) (.c (.int .i64 2))⟩] []) ir_ref1_escape_1) ir_ref1_escape_22)
def ir_ref1_escape : IR := (.seq (.reg [⟨none, .mov 2 (.c (.str ([] : List UInt8)))⟩,
    ⟨none, .mov 3 (.c (.int .i64 0))⟩] []) ir_ref1_escape_23)
def rs_ref1_escape : List RV := [.t 2, .t 3]
theorem chk_ref1_escape : (chkCode Try.prog [] 0 ir_ref1_escape (Try.f43.body.getD .skip) && chkRes Try.prog rs_ref1_escape Try.f43.results.toList) = true := by kernel_rfl
theorem body_ref1_escape : Try.f43.body = some (Try.f43.body.getD .skip) := by kernel_rfl
def mk_ref1_escape_0 (x : (List UInt8 × List UInt8 × List UInt8 × Int)) : St := { env := [.str x.1, .undef, .undef, .undef, .str x.2.1, .str x.2.2.1, .int .i64 x.2.2.2, .undef, .undef, .undef, .undef, .undef, .undef, .undef, .undef, .undef, .undef, .undef, .undef, .undef, .undef, .undef, .undef, .undef, .undef, .undef, .undef, .undef, .undef, .undef, .undef, .undef, .undef, .undef, .undef, .undef, .undef, .undef, .undef, .undef, .undef, .undef, .undef, .undef, .undef, .undef, .undef, .undef, .undef, .undef, .undef, .undef, .undef, .undef, .undef, .undef, .undef, .undef, .undef, .undef, .undef, .undef, .undef, .undef, .undef, .undef, .undef, .undef, .undef, .undef, .undef, .undef, .undef, .undef, .undef, .undef, .undef, .undef, .undef], hp := [] }
def F_ref1_escape_0 (N : Nat) : (St → Option (V × List AObj)) → St → Option (V × List AObj) := fun again0 s => run Γ_ref1_escape N ir_ref1_escape_7 (kloop again0 [0, 4, 5, 6] 0 (kblock 0 (kseq (run Γ_ref1_escape N ir_ref1_escape_20) (fin rs_ref1_escape)))) s
def B_ref1_escape_0 (N : Nat) (again0 : (List UInt8 × List UInt8 × List UInt8 × Int) → Option (V × List AObj)) (x : (List UInt8 × List UInt8 × List UInt8 × Int)) : Option (V × List AObj) :=
  let v0 : List UInt8 := x.1
  let v4 : List UInt8 := x.2.1
  let v5 : List UInt8 := x.2.2.1
  let v6 : Int := x.2.2.2
  let x2 : Int := (↑(List.length v4) : Int)
  cond (decide (v6 < x2)) (
    chk ((decide (0 ≤ v6) && decide (v6 < ↑(List.length v4)))) (
      let x3 : Int := (↑(UInt8.toNat (List.getD v4 (Int.toNat v6) 0)) : Int)
      chk (decide ((1 : Int) < ↑(List.length v0))) (
        let x4 : Int := (↑(UInt8.toNat (List.getD v0 (Int.toNat 1) 0)) : Int)
        cond (x3 == x4) (
          let x5 : Int := (IntKind.wrap .i64 (v6 + 1))
          chk ((decide (0 ≤ x5) && decide (x5 ≤ (↑(List.length v5) : Int)) && (decide (0 ≤ v6) && decide (v6 ≤ x5)))) (
            let x6 : List UInt8 := (List.drop (Int.toNat v6) (List.take (Int.toNat x5) v5))
            some (.tup [.str x6, .int .i64 2], []))) (
          let x7 : Int := (IntKind.wrap .i64 (v6 + 1))
          again0 (v0, v4, v5, x7))))) (
    cond (!(runitB v0)) (
      some (.tup [.str ([] : List UInt8), .int .i64 0], [])) (
      let x8 : Bool := decide (56320 ≤ (runitV v0))
      cond x8 (
        let x9 : Bool := decide ((runitV v0) ≤ 57343)
        cond x9 (
          some (.tup [.str ([] : List UInt8), .int .i64 0], [])) (
          let x10 : Bool := decide ((runitV v0) < 55296)
          cond x10 (
            some (.tup [.str (putG (runitV v0)), .int .i64 6], [])) (
            let x11 : Bool := decide (57343 < (runitV v0))
            cond x11 (
              some (.tup [.str (putG (runitV v0)), .int .i64 6], [])) (
              chk ((decide (0 ≤ 6) && decide (6 ≤ (↑(List.length v0) : Int)))) (
                let x12 : List UInt8 := (List.drop (Int.toNat 6) (List.take (List.length v0) v0))
                cond (!(runitB x12)) (
                  some (.tup [.str ([] : List UInt8), .int .i64 0], [])) (
                  let x13 : Bool := decide ((runitV x12) < 56320)
                  cond x13 (
                    some (.tup [.str ([] : List UInt8), .int .i64 0], [])) (
                    let x14 : Bool := decide (57343 < (runitV x12))
                    cond x14 (
                      some (.tup [.str ([] : List UInt8), .int .i64 0], [])) (
                      let x15 : Int := (IntKind.wrap .u32 ((runitV v0) - 55296))
                      let x16 : Int := (IntKind.wrap .u32 (x15 * 1024))
                      let x17 : Int := (IntKind.wrap .u32 (65536 + x16))
                      let x18 : Int := (IntKind.wrap .u32 (x17 + (runitV x12)))
                      let x19 : Int := (IntKind.wrap .u32 (x18 - 56320))
                      some (.tup [.str (putG x19), .int .i64 12], []))))))))) (
        let x20 : Bool := decide ((runitV v0) < 55296)
        cond x20 (
          some (.tup [.str (putG (runitV v0)), .int .i64 6], [])) (
          let x21 : Bool := decide (57343 < (runitV v0))
          cond x21 (
            some (.tup [.str (putG (runitV v0)), .int .i64 6], [])) (
            chk ((decide (0 ≤ 6) && decide (6 ≤ (↑(List.length v0) : Int)))) (
              let x22 : List UInt8 := (List.drop (Int.toNat 6) (List.take (List.length v0) v0))
              cond (!(runitB x22)) (
                some (.tup [.str ([] : List UInt8), .int .i64 0], [])) (
                let x23 : Bool := decide ((runitV x22) < 56320)
                cond x23 (
                  some (.tup [.str ([] : List UInt8), .int .i64 0], [])) (
                  let x24 : Bool := decide (57343 < (runitV x22))
                  cond x24 (
                    some (.tup [.str ([] : List UInt8), .int .i64 0], [])) (
                    let x25 : Int := (IntKind.wrap .u32 ((runitV v0) - 55296))
                    let x26 : Int := (IntKind.wrap .u32 (x25 * 1024))
                    let x27 : Int := (IntKind.wrap .u32 (65536 + x26))
                    let x28 : Int := (IntKind.wrap .u32 (x27 + (runitV x22)))
                    let x29 : Int := (IntKind.wrap .u32 (x28 - 56320))
                    some (.tup [.str (putG x29), .int .i64 12], []))))))))))
theorem FB_ref1_escape_0 (N : Nat) : ∀ (again0 : St → Option (V × List AObj)) (x : (List UInt8 × List UInt8 × List UInt8 × Int)), F_ref1_escape_0 N again0 (mk_ref1_escape_0 x) = B_ref1_escape_0 N (fun y => again0 (mk_ref1_escape_0 y)) x := by
  intro again0 x
  kernel_rfl
/-- proclitic/procliticref1.escape -/
def sa_ref1_escape (N : Nat) (p0 : List UInt8) (q0 : (List UInt8 × List UInt8 × List UInt8 × Int) → Option (V × List AObj)) : Option (V × List AObj) :=
  let x1 : Int := (↑(List.length p0) : Int)
  cond (decide (x1 < 2)) (
    some (.tup [.str ([] : List UInt8), .int .i64 0], [])) (
    q0 (p0, ([34, 92, 47, 98, 102, 110, 114, 116] : List UInt8), ([34, 92, 47, 8, 12, 10, 13, 9] : List UInt8), 0))
def sh_ref1_escape (N : Nat) (p0 : List UInt8) : Option (V × List AObj) := sa_ref1_escape N p0 (fun z => iterL N (B_ref1_escape_0 N) z)
theorem run_ref1_escape (N : Nat) (p0 : List UInt8) : callF Γ_ref1_escape N 79 rs_ref1_escape ir_ref1_escape [.str p0] [] = sh_ref1_escape N p0 := by
  have h : callF Γ_ref1_escape N 79 rs_ref1_escape ir_ref1_escape [.str p0] [] = sa_ref1_escape N p0 (fun z => loopN N (F_ref1_escape_0 N) (mk_ref1_escape_0 z)) := by kernel_rfl
  have e0 : (fun z => loopN N (F_ref1_escape_0 N) (mk_ref1_escape_0 z)) = (fun z => iterL N (B_ref1_escape_0 N) z) := funext fun z => loop_eq (mk_ref1_escape_0) (F_ref1_escape_0 N) (B_ref1_escape_0 N) (FB_ref1_escape_0 N) N z
  rw [h, e0]
  rfl
theorem ok_ref1_escape (hΓ : SpecOK Try.prog Γ_ref1_escape) (N : Nat) (p0 : List UInt8) {v : V} {hp : List AObj} (h : sh_ref1_escape N p0 = some (v, hp)) : PureOK Try.prog i_ref1_escape [.str p0] v := by
  have hc := chk_ref1_escape
  simp only [Bool.and_eq_true] at hc
  exact ⟨hp, fnOK_of hΓ pureS_ref1_escape Try.func43 body_ref1_escape hc.1 hc.2 (by decide) ((run_ref1_escape N p0).trans h)⟩

def G_ref1_Unquote : Nat → List V → Option (Bool × V) := fun f vs => match f, vs with
  | 30, [.str a0] => some (true, .bool (validG a0))
  | 43, [.str a0] => some (decide (List.length a0 ≤ 1000), .tup [.str (rescT a0), .int .i64 (rescN a0)])
  | _, _ => none
def Γ_ref1_Unquote : ASpec := liftG G_ref1_Unquote
theorem pureS_ref1_Unquote : PureS Γ_ref1_Unquote [] := liftG_pure _ _
theorem spec_ref1_Unquote (h_ref1_Valid : ∀ (a0 : List UInt8), PureOK Try.prog i_ref1_Valid [.str a0] (.bool (validG a0))) (h_ref1_escape : ∀ (a0 : List UInt8), (decide (List.length a0 ≤ 1000)) = true → PureOK Try.prog i_ref1_escape [.str a0] (.tup [.str (rescT a0), .int .i64 (rescN a0)])) : SpecOK Try.prog Γ_ref1_Unquote := by
  intro f vs hp v hp' h0
  obtain ⟨h, he⟩ := liftG_inv h0
  subst he
  unfold G_ref1_Unquote at h
  split at h
  · simp only [Option.some.injEq, Prod.mk.injEq] at h
    obtain ⟨hc, rfl⟩ := h
    exact (h_ref1_Valid _).frame rfl rfl _
  · simp only [Option.some.injEq, Prod.mk.injEq] at h
    obtain ⟨hc, rfl⟩ := h
    exact (h_ref1_escape _ hc).frame rfl rfl _
  · simp at h
def ir_ref1_Unquote_0 : IR := .ret
def ir_ref1_Unquote_1 : IR := (.cond (.t 17) (.seq (.reg [⟨none, .mov 2 (.c (.str ([] : List UInt8)))⟩,
    ⟨none, .mov 3 (.c (.int .i64 0))⟩,
    ⟨none, .mov 4 (.c (.int .i64 2))⟩] []) ir_ref1_Unquote_0) .skip)
def ir_ref1_Unquote_2 : IR := (.cond (.t 21) .skip (.exit 0))
def ir_ref1_Unquote_3 : IR := .ret
def ir_ref1_Unquote_4 : IR := (.cond (.t 45) (.seq (.reg [⟨none, .mov 2 (.c (.str ([] : List UInt8)))⟩,
    ⟨none, .mov 3 (.c (.int .i64 0))⟩,
    ⟨none, .mov 4 (.c (.int .i64 2))⟩] []) ir_ref1_Unquote_3) .skip)
def ir_ref1_Unquote_5 : IR := .ret
def ir_ref1_Unquote_6 : IR := (.seq (.reg [⟨none, .mov 46 (.t 5)⟩,
    ⟨none, .mov 47 (.t 6)⟩,
    ⟨none, .bin 48 .add (.t 47) (.c (.int .i64 1))⟩,
    ⟨none, .mov 2 (.t 46)⟩,
    ⟨none, .mov 3 (.t 48)⟩,
    ⟨none, .mov 4 (.c (.int .i64 0))⟩] []) ir_ref1_Unquote_5)
def ir_ref1_Unquote_7 : IR := .ret
def ir_ref1_Unquote_8 : IR := (.reg [⟨none, .mov 62 (.t 6)⟩,
    ⟨none, .bin 63 .add (.t 62) (.c (.int .i64 1))⟩,
    ⟨none, .mov 6 (.t 63)⟩] [])
def ir_ref1_Unquote_9 : IR := .ret
def ir_ref1_Unquote_10 : IR := (.cond (.t 33) (.seq (.reg [⟨none, .mov 2 (.c (.str ([] : List UInt8)))⟩,
    ⟨none, .mov 3 (.c (.int .i64 0))⟩,
    ⟨none, .mov 4 (.c (.int .i64 2))⟩] []) ir_ref1_Unquote_9) .skip)
def ir_ref1_Unquote_11 : IR := (.reg [⟨none, .mov 34 (.t 5)⟩,
    ⟨none, .mov 35 (.t 8)⟩,
    ⟨none, .bin 36 .add (.t 34) (.t 35)⟩,
    ⟨none, .mov 37 (.t 6)⟩,
    ⟨none, .mov 38 (.t 9)⟩,
    ⟨none, .bin 39 .add (.t 37) (.t 38)⟩,
    ⟨none, .mov 5 (.t 36)⟩,
    ⟨none, .mov 6 (.t 39)⟩] [])
def ir_ref1_Unquote_12 : IR := (.seq (.seq (.reg [⟨none, .mov 32 (.t 9)⟩,
    ⟨none, .bin 33 .eql (.t 32) (.c (.int .i64 0))⟩] []) ir_ref1_Unquote_10) ir_ref1_Unquote_11)
def ir_ref1_Unquote_13 : IR := (.cond (.t 52) (.seq (.reg [⟨none, .mov 55 (.t 5)⟩,
    ⟨none, .mov 56 (.t 0)⟩,
    ⟨none, .mov 57 (.t 6)⟩,
    ⟨none, .mov 58 (.t 6)⟩,
    ⟨none, .bin 59 .add (.t 58) (.c (.int .i64 1))⟩,
    ⟨none, .subs 60 (.t 56) (some (.t 57)) (some (.t 59))⟩,
    ⟨none, .bin 61 .add (.t 55) (.t 60)⟩,
    ⟨none, .mov 5 (.t 61)⟩] []) ir_ref1_Unquote_8) (.seq (.reg [⟨none, .mov 26 (.t 0)⟩,
    ⟨none, .mov 27 (.t 6)⟩,
    ⟨none, .subs 28 (.t 26) (some (.t 27)) none⟩,
    ⟨none, .call (some 29) 43 [(.t 28)]⟩,
    ⟨none, .mov 25 (.t 29)⟩,
    ⟨none, .ext 30 0 (.t 25)⟩,
    ⟨none, .ext 31 1 (.t 25)⟩,
    ⟨none, .mov 8 (.t 30)⟩,
    ⟨none, .mov 9 (.t 31)⟩] []) ir_ref1_Unquote_12))
def ir_ref1_Unquote_14 : IR := (.cond (.t 49) (.seq (.reg [⟨none, .mov 2 (.c (.str ([] : List UInt8)))⟩,
    ⟨none, .mov 3 (.c (.int .i64 0))⟩,
    ⟨none, .mov 4 (.c (.int .i64 2))⟩] []) ir_ref1_Unquote_7) (.seq (.reg [⟨none, .mov 53 (.t 7)⟩,
    ⟨none, .bin 54 .neq (.t 53) (.c (.int .u8 92))⟩,
    ⟨none, .mov 52 (.t 54)⟩] []) ir_ref1_Unquote_13))
def ir_ref1_Unquote_15 : IR := (.cond (.t 40) (.seq (.seq (.reg [⟨none, .mov 43 (.t 5)⟩,
    ⟨none, .call (some 44) 30 [(.t 43)]⟩,
    ⟨none, .un 45 .not (.t 44)⟩] []) ir_ref1_Unquote_4) ir_ref1_Unquote_6) (.seq (.reg [⟨none, .mov 50 (.t 7)⟩,
    ⟨none, .bin 51 .lss (.t 50) (.c (.int .u8 32))⟩,
    ⟨none, .mov 49 (.t 51)⟩] []) ir_ref1_Unquote_14))
def ir_ref1_Unquote_16 : IR := (.block 2 (.seq (.reg [⟨none, .mov 41 (.t 7)⟩,
    ⟨none, .bin 42 .eql (.t 41) (.c (.int .u8 34))⟩,
    ⟨none, .mov 40 (.t 42)⟩] []) ir_ref1_Unquote_15))
def ir_ref1_Unquote_17 : IR := (.block 1 (.seq (.reg [⟨none, .mov 22 (.t 0)⟩,
    ⟨none, .mov 23 (.t 6)⟩,
    ⟨none, .idx 24 (.t 22) (.t 23)⟩,
    ⟨none, .mov 7 (.t 24)⟩] []) ir_ref1_Unquote_16))
def ir_ref1_Unquote_18 : IR := (.seq (.seq (.reg [⟨none, .mov 18 (.t 6)⟩,
    ⟨none, .mov 19 (.t 0)⟩,
    ⟨none, .lens 20 (.t 19)⟩,
    ⟨none, .bin 21 .lss (.t 18) (.t 20)⟩] []) ir_ref1_Unquote_2) ir_ref1_Unquote_17)
def ir_ref1_Unquote_19 : IR := (.block 0 (.loop [0, 5, 6] 0 ir_ref1_Unquote_18))
def ir_ref1_Unquote_20 : IR := .ret
def ir_ref1_Unquote_21 : IR := (.seq (.reg [⟨none, .mov 2 (.c (.str ([] : List UInt8)))⟩,
    ⟨none, .mov 3 (.c (.int .i64 0))⟩,
    ⟨none, .mov 4 (.c (.int .i64 2))⟩] []) ir_ref1_Unquote_20)
def ir_ref1_Unquote_22 : IR := (.seq (.seq (.reg [⟨none, .mov 6 (.c (.int .i64 1))⟩] []) ir_ref1_Unquote_19) ir_ref1_Unquote_21)
def ir_ref1_Unquote_23 : IR := (.seq (.seq (.reg [⟨none, .mov 10 (.t 0)⟩,
    ⟨none, .lens 11 (.t 10)⟩,
    ⟨none, .bin 12 .eql (.t 11) (.c (.int .i64 0))⟩,
    ⟨none, .mov 13 (.t 12)⟩,
    ⟨some (13, false), .mov 14 (.t 0)⟩,
    ⟨some (13, false), .idx 15 (.t 14) (.c (.int .i64 0))⟩,
    ⟨some (13, false), .bin 16 .neq (.t 15) (.c (.int .u8 34))⟩,
    ⟨none, .pick 17 (.t 13) (.c (.bool true)) (.t 16)⟩] []) ir_ref1_Unquote_1) ir_ref1_Unquote_22)
def ir_ref1_Unquote_24 : IR := (.seq (.reg [⟨none, .mov 5 (.c (.str ([] : List UInt8)))⟩] []) ir_ref1_Unquote_23)
def ir_ref1_Unquote : IR := (.seq (.reg [⟨none, .mov 2 (.c (.str ([] : List UInt8)))⟩,
    ⟨none, .mov 3 (.c (.int .i64 0))⟩,
    ⟨none, .mov 4 (.c (.int .i64 0))⟩] []) ir_ref1_Unquote_24)
def rs_ref1_Unquote : List RV := [.t 2, .t 3, .t 4]
theorem chk_ref1_Unquote : (chkCode Try.prog [] 0 ir_ref1_Unquote (Try.f28.body.getD .skip) && chkRes Try.prog rs_ref1_Unquote Try.f28.results.toList) = true := by kernel_rfl
theorem body_ref1_Unquote : Try.f28.body = some (Try.f28.body.getD .skip) := by kernel_rfl
def mk_ref1_Unquote_0 (x : (List UInt8 × List UInt8 × Int)) : St := { env := [.str x.1, .undef, .undef, .undef, .undef, .str x.2.1, .int .i64 x.2.2, .undef, .undef, .undef, .undef, .undef, .undef, .undef, .undef, .undef, .undef, .undef, .undef, .undef, .undef, .undef, .undef, .undef, .undef, .undef, .undef, .undef, .undef, .undef, .undef, .undef, .undef, .undef, .undef, .undef, .undef, .undef, .undef, .undef, .undef, .undef, .undef, .undef, .undef, .undef, .undef, .undef, .undef, .undef, .undef, .undef, .undef, .undef, .undef, .undef, .undef, .undef, .undef, .undef, .undef, .undef, .undef, .undef], hp := [] }
def F_ref1_Unquote_0 (N : Nat) : (St → Option (V × List AObj)) → St → Option (V × List AObj) := fun again0 s => run Γ_ref1_Unquote N ir_ref1_Unquote_18 (kloop again0 [0, 5, 6] 0 (kblock 0 (kseq (run Γ_ref1_Unquote N ir_ref1_Unquote_21) (fin rs_ref1_Unquote)))) s
def B_ref1_Unquote_0 (N : Nat) (again0 : (List UInt8 × List UInt8 × Int) → Option (V × List AObj)) (x : (List UInt8 × List UInt8 × Int)) : Option (V × List AObj) :=
  let v0 : List UInt8 := x.1
  let v5 : List UInt8 := x.2.1
  let v6 : Int := x.2.2
  let x3 : Int := (↑(List.length v0) : Int)
  cond (decide (v6 < x3)) (
    chk ((decide (0 ≤ v6) && decide (v6 < ↑(List.length v0)))) (
      let x4 : Int := (↑(UInt8.toNat (List.getD v0 (Int.toNat v6) 0)) : Int)
      cond (x4 == 34) (
        cond (!(validG v5)) (
          some (.tup [.str ([] : List UInt8), .int .i64 0, .int .i64 2], [])) (
          let x5 : Int := (IntKind.wrap .i64 (v6 + 1))
          some (.tup [.str v5, .int .i64 x5, .int .i64 0], []))) (
        cond (decide (x4 < 32)) (
          some (.tup [.str ([] : List UInt8), .int .i64 0, .int .i64 2], [])) (
          cond (!(x4 == 92)) (
            let x6 : Int := (IntKind.wrap .i64 (v6 + 1))
            chk ((decide (0 ≤ x6) && decide (x6 ≤ (↑(List.length v0) : Int)) && (decide (0 ≤ v6) && decide (v6 ≤ x6)))) (
              let x7 : List UInt8 := (List.drop (Int.toNat v6) (List.take (Int.toNat x6) v0))
              chk (decide (List.length v5 + List.length x7 ≤ 9223372036854775807)) (
                let x8 : Int := (IntKind.wrap .i64 (v6 + 1))
                again0 (v0, (v5 ++ x7), x8)))) (
            chk ((decide (0 ≤ v6) && decide (v6 ≤ (↑(List.length v0) : Int)))) (
              let x9 : List UInt8 := (List.drop (Int.toNat v6) (List.take (List.length v0) v0))
              chk (decide (List.length x9 ≤ 1000)) (
                cond ((rescN x9) == 0) (
                  some (.tup [.str ([] : List UInt8), .int .i64 0, .int .i64 2], [])) (
                  chk (decide (List.length v5 + List.length (rescT x9) ≤ 9223372036854775807)) (
                    let x10 : Int := (IntKind.wrap .i64 (v6 + (rescN x9)))
                    again0 (v0, (v5 ++ (rescT x9)), x10)))))))))) (
    some (.tup [.str ([] : List UInt8), .int .i64 0, .int .i64 2], []))
theorem FB_ref1_Unquote_0 (N : Nat) : ∀ (again0 : St → Option (V × List AObj)) (x : (List UInt8 × List UInt8 × Int)), F_ref1_Unquote_0 N again0 (mk_ref1_Unquote_0 x) = B_ref1_Unquote_0 N (fun y => again0 (mk_ref1_Unquote_0 y)) x := by
  intro again0 x
  kernel_rfl
/-- proclitic/procliticref1.Unquote -/
def sa_ref1_Unquote (N : Nat) (p0 : List UInt8) (q0 : (List UInt8 × List UInt8 × Int) → Option (V × List AObj)) : Option (V × List AObj) :=
  let x1 : Int := (↑(List.length p0) : Int)
  cond (x1 == 0) (
    some (.tup [.str ([] : List UInt8), .int .i64 0, .int .i64 2], [])) (
    chk (decide ((0 : Int) < ↑(List.length p0))) (
      let x2 : Int := (↑(UInt8.toNat (List.getD p0 (Int.toNat 0) 0)) : Int)
      cond (!(x2 == 34)) (
        some (.tup [.str ([] : List UInt8), .int .i64 0, .int .i64 2], [])) (
        q0 (p0, ([] : List UInt8), 1))))
def sh_ref1_Unquote (N : Nat) (p0 : List UInt8) : Option (V × List AObj) := sa_ref1_Unquote N p0 (fun z => iterL N (B_ref1_Unquote_0 N) z)
theorem run_ref1_Unquote (N : Nat) (p0 : List UInt8) : callF Γ_ref1_Unquote N 64 rs_ref1_Unquote ir_ref1_Unquote [.str p0] [] = sh_ref1_Unquote N p0 := by
  have h : callF Γ_ref1_Unquote N 64 rs_ref1_Unquote ir_ref1_Unquote [.str p0] [] = sa_ref1_Unquote N p0 (fun z => loopN N (F_ref1_Unquote_0 N) (mk_ref1_Unquote_0 z)) := by kernel_rfl
  have e0 : (fun z => loopN N (F_ref1_Unquote_0 N) (mk_ref1_Unquote_0 z)) = (fun z => iterL N (B_ref1_Unquote_0 N) z) := funext fun z => loop_eq (mk_ref1_Unquote_0) (F_ref1_Unquote_0 N) (B_ref1_Unquote_0 N) (FB_ref1_Unquote_0 N) N z
  rw [h, e0]
  rfl
theorem ok_ref1_Unquote (hΓ : SpecOK Try.prog Γ_ref1_Unquote) (N : Nat) (p0 : List UInt8) {v : V} {hp : List AObj} (h : sh_ref1_Unquote N p0 = some (v, hp)) : PureOK Try.prog i_ref1_Unquote [.str p0] v := by
  have hc := chk_ref1_Unquote
  simp only [Bool.and_eq_true] at hc
  exact ⟨hp, fnOK_of hΓ pureS_ref1_Unquote Try.func28 body_ref1_Unquote hc.1 hc.2 (by decide) ((run_ref1_Unquote N p0).trans h)⟩

def G_law3_begun : Nat → List V → Option (Bool × V) := fun f vs => match f, vs with
  | 27, [.str a0] => some (decide (List.length a0 ≤ 1000), .tup [.str (unqT a0), .int .i64 (unqC a0), .int .i64 (unqE a0)])
  | 29, [.str a0] => some (true, .bool (validG a0))
  | 31, [.str a0] => some (decide (List.length a0 ≤ 1000), .str (quoteG a0))
  | 33, [.int .u32 a0] => some (true, .str (putG a0))
  | _, _ => none
def Γ_law3_begun : ASpec := liftG G_law3_begun
theorem pureS_law3_begun : PureS Γ_law3_begun [] := liftG_pure _ _
theorem spec_law3_begun (h_glyph_Unquote : ∀ (a0 : List UInt8), (decide (List.length a0 ≤ 1000)) = true → PureOK Try.prog i_glyph_Unquote [.str a0] (.tup [.str (unqT a0), .int .i64 (unqC a0), .int .i64 (unqE a0)])) (h_glyph_Valid : ∀ (a0 : List UInt8), PureOK Try.prog i_glyph_Valid [.str a0] (.bool (validG a0))) (h_glyph_Quote : ∀ (a0 : List UInt8), (decide (List.length a0 ≤ 1000)) = true → PureOK Try.prog i_glyph_Quote [.str a0] (.str (quoteG a0))) (h_glyph_Put : ∀ (a0 : Int), PureOK Try.prog i_glyph_Put [.int .u32 a0] (.str (putG a0))) : SpecOK Try.prog Γ_law3_begun := by
  intro f vs hp v hp' h0
  obtain ⟨h, he⟩ := liftG_inv h0
  subst he
  unfold G_law3_begun at h
  split at h
  · simp only [Option.some.injEq, Prod.mk.injEq] at h
    obtain ⟨hc, rfl⟩ := h
    exact (h_glyph_Unquote _ hc).frame rfl rfl _
  · simp only [Option.some.injEq, Prod.mk.injEq] at h
    obtain ⟨hc, rfl⟩ := h
    exact (h_glyph_Valid _).frame rfl rfl _
  · simp only [Option.some.injEq, Prod.mk.injEq] at h
    obtain ⟨hc, rfl⟩ := h
    exact (h_glyph_Quote _ hc).frame rfl rfl _
  · simp only [Option.some.injEq, Prod.mk.injEq] at h
    obtain ⟨hc, rfl⟩ := h
    exact (h_glyph_Put _).frame rfl rfl _
  · simp at h
def ir_law3_begun_0 : IR := .ret
def ir_law3_begun_1 : IR := (.seq (.reg [⟨none, .call (some 9) 29 [(.c (.str ([97] : List UInt8)))]⟩,
    ⟨none, .mov 10 (.t 9)⟩,
    ⟨some (10, true), .call (some 11) 29 [(.c (.str ([255] : List UInt8)))]⟩,
    ⟨some (10, true), .un 12 .not (.t 11)⟩,
    ⟨none, .pick 13 (.t 10) (.t 12) (.c (.bool false))⟩,
    ⟨none, .mov 14 (.t 13)⟩,
    ⟨some (14, true), .call (some 15) 31 [(.c (.str ([97, 10] : List UInt8)))]⟩,
    ⟨some (14, true), .bin 16 .eql (.t 15) (.c (.str ([34, 97, 92, 110, 34] : List UInt8)))⟩,
    ⟨none, .pick 17 (.t 14) (.t 16) (.c (.bool false))⟩,
    ⟨none, .mov 18 (.t 17)⟩,
    ⟨some (18, true), .mov 19 (.t 1)⟩,
    ⟨some (18, true), .bin 20 .eql (.t 19) (.c (.str ([97, 10] : List UInt8)))⟩,
    ⟨none, .pick 21 (.t 18) (.t 20) (.c (.bool false))⟩,
    ⟨none, .mov 22 (.t 21)⟩,
    ⟨some (22, true), .mov 23 (.t 2)⟩,
    ⟨some (22, true), .bin 24 .eql (.t 23) (.c (.int .i64 5))⟩,
    ⟨none, .pick 25 (.t 22) (.t 24) (.c (.bool false))⟩,
    ⟨none, .mov 26 (.t 25)⟩,
    ⟨some (26, true), .mov 27 (.t 3)⟩,
    ⟨some (26, true), .bin 28 .eql (.t 27) (.c (.int .i64 0))⟩,
    ⟨none, .pick 29 (.t 26) (.t 28) (.c (.bool false))⟩,
    ⟨none, .mov 30 (.t 29)⟩,
    ⟨some (30, true), .call (some 31) 33 [(.c (.int .u32 228))]⟩,
    ⟨some (30, true), .bin 32 .eql (.t 31) (.c (.str ([195, 164] : List UInt8)))⟩,
    ⟨none, .pick 33 (.t 30) (.t 32) (.c (.bool false))⟩,
    ⟨none, .mov 0 (.t 33)⟩] []) ir_law3_begun_0)
def ir_law3_begun_2 : IR := (.seq (.reg [⟨none, .call (some 5) 27 [(.c (.str ([34, 97, 92, 110, 34, 120] : List UInt8)))]⟩,
    ⟨none, .mov 4 (.t 5)⟩,
    ⟨none, .ext 6 0 (.t 4)⟩,
    ⟨none, .ext 7 1 (.t 4)⟩,
    ⟨none, .ext 8 2 (.t 4)⟩,
    ⟨none, .mov 1 (.t 6)⟩,
    ⟨none, .mov 2 (.t 7)⟩,
    ⟨none, .mov 3 (.t 8)⟩] []) ir_law3_begun_1)
def ir_law3_begun : IR := (.seq (.reg [⟨none, .mov 0 (.c (.bool false))⟩] []) ir_law3_begun_2)
def rs_law3_begun : List RV := [.t 0]
theorem chk_law3_begun : (chkCode Try.prog [] 0 ir_law3_begun (Try.f26.body.getD .skip) && chkRes Try.prog rs_law3_begun Try.f26.results.toList) = true := by kernel_rfl
theorem body_law3_begun : Try.f26.body = some (Try.f26.body.getD .skip) := by kernel_rfl
/-- proclitic/procliticlaw3.begun -/
def sa_law3_begun (N : Nat)   : Option (V × List AObj) :=
  chk (decide (List.length ([34, 97, 92, 110, 34, 120] : List UInt8) ≤ 1000)) (
    let x1 : List UInt8 := (unqT ([34, 97, 92, 110, 34, 120] : List UInt8))
    let x2 : Int := (unqC ([34, 97, 92, 110, 34, 120] : List UInt8))
    let x3 : Int := (unqE ([34, 97, 92, 110, 34, 120] : List UInt8))
    let x4 : Bool := (validG ([97] : List UInt8))
    cond x4 (
      let x5 : Bool := (validG ([255] : List UInt8))
      cond (!x5) (
        chk (decide (List.length ([97, 10] : List UInt8) ≤ 1000)) (
          let x6 : List UInt8 := (quoteG ([97, 10] : List UInt8))
          let x7 : Bool := decide (x6 = ([34, 97, 92, 110, 34] : List UInt8))
          cond x7 (
            let x8 : Bool := decide (x1 = ([97, 10] : List UInt8))
            cond x8 (
              cond (x2 == 5) (
                cond (x3 == 0) (
                  let x9 : Bool := decide ((putG 228) = ([195, 164] : List UInt8))
                  some (.bool x9, [])) (
                  some (.bool false, []))) (
                some (.bool false, []))) (
              some (.bool false, []))) (
            some (.bool false, [])))) (
        some (.bool false, []))) (
      some (.bool false, [])))
def sh_law3_begun (N : Nat)  : Option (V × List AObj) := sa_law3_begun N 
theorem run_law3_begun (N : Nat)  : callF Γ_law3_begun N 34 rs_law3_begun ir_law3_begun [] [] = sh_law3_begun N  := by kernel_rfl
theorem ok_law3_begun (hΓ : SpecOK Try.prog Γ_law3_begun) (N : Nat)  {v : V} {hp : List AObj} (h : sh_law3_begun N  = some (v, hp)) : PureOK Try.prog i_law3_begun [] v := by
  have hc := chk_law3_begun
  simp only [Bool.and_eq_true] at hc
  exact ⟨hp, fnOK_of hΓ pureS_law3_begun Try.func26 body_law3_begun hc.1 hc.2 (by decide) ((run_law3_begun N ).trans h)⟩

def G_law3_GlyphAll : Nat → List V → Option (Bool × V) := fun f vs => match f, vs with
  | 26, [] => some (true, .bool true)
  | 27, [.str a0] => some (decide (List.length a0 ≤ 1000), .tup [.str (unqT a0), .int .i64 (unqC a0), .int .i64 (unqE a0)])
  | 28, [.str a0] => some (decide (List.length a0 ≤ 1000), .tup [.str (unqT a0), .int .i64 (unqC a0), .int .i64 (unqE a0)])
  | 29, [.str a0] => some (true, .bool (validG a0))
  | 30, [.str a0] => some (true, .bool (validG a0))
  | 31, [.str a0] => some (decide (List.length a0 ≤ 1000), .str (quoteG a0))
  | 32, [.str a0] => some (decide (List.length a0 ≤ 1000), .str (quoteG a0))
  | 33, [.int .u32 a0] => some (true, .str (putG a0))
  | 34, [.int .u32 a0] => some (true, .str (putG a0))
  | _, _ => none
def Γ_law3_GlyphAll : ASpec := liftG G_law3_GlyphAll
theorem pureS_law3_GlyphAll : PureS Γ_law3_GlyphAll [] := liftG_pure _ _
theorem spec_law3_GlyphAll (h_law3_begun : PureOK Try.prog i_law3_begun [] (.bool true)) (h_glyph_Unquote : ∀ (a0 : List UInt8), (decide (List.length a0 ≤ 1000)) = true → PureOK Try.prog i_glyph_Unquote [.str a0] (.tup [.str (unqT a0), .int .i64 (unqC a0), .int .i64 (unqE a0)])) (h_ref1_Unquote : ∀ (a0 : List UInt8), (decide (List.length a0 ≤ 1000)) = true → PureOK Try.prog i_ref1_Unquote [.str a0] (.tup [.str (unqT a0), .int .i64 (unqC a0), .int .i64 (unqE a0)])) (h_glyph_Valid : ∀ (a0 : List UInt8), PureOK Try.prog i_glyph_Valid [.str a0] (.bool (validG a0))) (h_ref1_Valid : ∀ (a0 : List UInt8), PureOK Try.prog i_ref1_Valid [.str a0] (.bool (validG a0))) (h_glyph_Quote : ∀ (a0 : List UInt8), (decide (List.length a0 ≤ 1000)) = true → PureOK Try.prog i_glyph_Quote [.str a0] (.str (quoteG a0))) (h_ref1_Quote : ∀ (a0 : List UInt8), (decide (List.length a0 ≤ 1000)) = true → PureOK Try.prog i_ref1_Quote [.str a0] (.str (quoteG a0))) (h_glyph_Put : ∀ (a0 : Int), PureOK Try.prog i_glyph_Put [.int .u32 a0] (.str (putG a0))) (h_ref1_Glyph : ∀ (a0 : Int), PureOK Try.prog i_ref1_Glyph [.int .u32 a0] (.str (putG a0))) : SpecOK Try.prog Γ_law3_GlyphAll := by
  intro f vs hp v hp' h0
  obtain ⟨h, he⟩ := liftG_inv h0
  subst he
  unfold G_law3_GlyphAll at h
  split at h
  · simp only [Option.some.injEq, Prod.mk.injEq] at h
    obtain ⟨hc, rfl⟩ := h
    exact (h_law3_begun ).frame rfl rfl _
  · simp only [Option.some.injEq, Prod.mk.injEq] at h
    obtain ⟨hc, rfl⟩ := h
    exact (h_glyph_Unquote _ hc).frame rfl rfl _
  · simp only [Option.some.injEq, Prod.mk.injEq] at h
    obtain ⟨hc, rfl⟩ := h
    exact (h_ref1_Unquote _ hc).frame rfl rfl _
  · simp only [Option.some.injEq, Prod.mk.injEq] at h
    obtain ⟨hc, rfl⟩ := h
    exact (h_glyph_Valid _).frame rfl rfl _
  · simp only [Option.some.injEq, Prod.mk.injEq] at h
    obtain ⟨hc, rfl⟩ := h
    exact (h_ref1_Valid _).frame rfl rfl _
  · simp only [Option.some.injEq, Prod.mk.injEq] at h
    obtain ⟨hc, rfl⟩ := h
    exact (h_glyph_Quote _ hc).frame rfl rfl _
  · simp only [Option.some.injEq, Prod.mk.injEq] at h
    obtain ⟨hc, rfl⟩ := h
    exact (h_ref1_Quote _ hc).frame rfl rfl _
  · simp only [Option.some.injEq, Prod.mk.injEq] at h
    obtain ⟨hc, rfl⟩ := h
    exact (h_glyph_Put _).frame rfl rfl _
  · simp only [Option.some.injEq, Prod.mk.injEq] at h
    obtain ⟨hc, rfl⟩ := h
    exact (h_ref1_Glyph _).frame rfl rfl _
  · simp at h
def ir_law3_GlyphAll_0 : IR := .ret
def ir_law3_GlyphAll_1 : IR := (.cond (.t 14) (.seq (.reg [⟨none, .mov 6 (.c (.bool false))⟩] []) ir_law3_GlyphAll_0) .skip)
def ir_law3_GlyphAll_2 : IR := .ret
def ir_law3_GlyphAll_3 : IR := (.cond (.t 22) (.seq (.reg [⟨none, .mov 6 (.c (.bool true))⟩] []) ir_law3_GlyphAll_2) .skip)
def ir_law3_GlyphAll_4 : IR := .ret
def ir_law3_GlyphAll_5 : IR := (.seq (.reg [⟨none, .mov 35 (.t 0)⟩,
    ⟨none, .call (some 36) 29 [(.t 35)]⟩,
    ⟨none, .mov 37 (.t 0)⟩,
    ⟨none, .call (some 38) 30 [(.t 37)]⟩,
    ⟨none, .beq 39 false (.t 36) (.t 38)⟩,
    ⟨none, .mov 40 (.t 39)⟩,
    ⟨some (40, true), .mov 41 (.t 0)⟩,
    ⟨some (40, true), .call (some 42) 31 [(.t 41)]⟩,
    ⟨some (40, true), .mov 43 (.t 0)⟩,
    ⟨some (40, true), .call (some 44) 32 [(.t 43)]⟩,
    ⟨some (40, true), .bin 45 .eql (.t 42) (.t 44)⟩,
    ⟨none, .pick 46 (.t 40) (.t 45) (.c (.bool false))⟩,
    ⟨none, .mov 47 (.t 46)⟩,
    ⟨some (47, true), .mov 48 (.t 7)⟩,
    ⟨some (47, true), .mov 49 (.t 10)⟩,
    ⟨some (47, true), .bin 50 .eql (.t 48) (.t 49)⟩,
    ⟨none, .pick 51 (.t 47) (.t 50) (.c (.bool false))⟩,
    ⟨none, .mov 52 (.t 51)⟩,
    ⟨some (52, true), .mov 53 (.t 8)⟩,
    ⟨some (52, true), .mov 54 (.t 11)⟩,
    ⟨some (52, true), .bin 55 .eql (.t 53) (.t 54)⟩,
    ⟨none, .pick 56 (.t 52) (.t 55) (.c (.bool false))⟩,
    ⟨none, .mov 57 (.t 56)⟩,
    ⟨some (57, true), .mov 58 (.t 9)⟩,
    ⟨some (57, true), .mov 59 (.t 12)⟩,
    ⟨some (57, true), .bin 60 .eql (.t 58) (.t 59)⟩,
    ⟨none, .pick 61 (.t 57) (.t 60) (.c (.bool false))⟩,
    ⟨none, .mov 62 (.t 61)⟩,
    ⟨some (62, true), .mov 63 (.t 2)⟩,
    ⟨some (62, true), .call (some 64) 33 [(.t 63)]⟩,
    ⟨some (62, true), .mov 65 (.t 2)⟩,
    ⟨some (62, true), .call (some 66) 34 [(.t 65)]⟩,
    ⟨some (62, true), .bin 67 .eql (.t 64) (.t 66)⟩,
    ⟨none, .pick 68 (.t 62) (.t 67) (.c (.bool false))⟩,
    ⟨none, .mov 6 (.t 68)⟩] []) ir_law3_GlyphAll_4)
def ir_law3_GlyphAll_6 : IR := (.seq (.reg [⟨none, .mov 30 (.t 1)⟩,
    ⟨none, .call (some 31) 28 [(.t 30)]⟩,
    ⟨none, .mov 29 (.t 31)⟩,
    ⟨none, .ext 32 0 (.t 29)⟩,
    ⟨none, .ext 33 1 (.t 29)⟩,
    ⟨none, .ext 34 2 (.t 29)⟩,
    ⟨none, .mov 10 (.t 32)⟩,
    ⟨none, .mov 11 (.t 33)⟩,
    ⟨none, .mov 12 (.t 34)⟩] []) ir_law3_GlyphAll_5)
def ir_law3_GlyphAll_7 : IR := (.seq (.reg [⟨none, .mov 24 (.t 1)⟩,
    ⟨none, .call (some 25) 27 [(.t 24)]⟩,
    ⟨none, .mov 23 (.t 25)⟩,
    ⟨none, .ext 26 0 (.t 23)⟩,
    ⟨none, .ext 27 1 (.t 23)⟩,
    ⟨none, .ext 28 2 (.t 23)⟩,
    ⟨none, .mov 7 (.t 26)⟩,
    ⟨none, .mov 8 (.t 27)⟩,
    ⟨none, .mov 9 (.t 28)⟩] []) ir_law3_GlyphAll_6)
def ir_law3_GlyphAll_8 : IR := (.seq (.seq (.reg [⟨none, .mov 15 (.t 0)⟩,
    ⟨none, .lens 16 (.t 15)⟩,
    ⟨none, .bin 17 .gtr (.t 16) (.c (.int .i64 60))⟩,
    ⟨none, .mov 18 (.t 17)⟩,
    ⟨some (18, false), .mov 19 (.t 1)⟩,
    ⟨some (18, false), .lens 20 (.t 19)⟩,
    ⟨some (18, false), .bin 21 .gtr (.t 20) (.c (.int .i64 60))⟩,
    ⟨none, .pick 22 (.t 18) (.c (.bool true)) (.t 21)⟩] []) ir_law3_GlyphAll_3) ir_law3_GlyphAll_7)
def ir_law3_GlyphAll_9 : IR := (.seq (.seq (.reg [⟨none, .call (some 13) 26 []⟩,
    ⟨none, .un 14 .not (.t 13)⟩] []) ir_law3_GlyphAll_1) ir_law3_GlyphAll_8)
def ir_law3_GlyphAll : IR := (.seq (.reg [⟨none, .mov 6 (.c (.bool false))⟩] []) ir_law3_GlyphAll_9)
def rs_law3_GlyphAll : List RV := [.t 6]
theorem chk_law3_GlyphAll : (chkCode Try.prog [] 0 ir_law3_GlyphAll (Try.f9.body.getD .skip) && chkRes Try.prog rs_law3_GlyphAll Try.f9.results.toList) = true := by kernel_rfl
theorem body_law3_GlyphAll : Try.f9.body = some (Try.f9.body.getD .skip) := by kernel_rfl
/-- proclitic/procliticlaw3.GlyphAll -/
def sa_law3_GlyphAll (N : Nat) (p0 : List UInt8) (p1 : List UInt8) (p2 : Int)  : Option (V × List AObj) :=
  let x1 : Int := (↑(List.length p0) : Int)
  cond (decide (60 < x1)) (
    some (.bool true, [])) (
    let x2 : Int := (↑(List.length p1) : Int)
    cond (decide (60 < x2)) (
      some (.bool true, [])) (
      chk (decide (List.length p1 ≤ 1000)) (
        chk (decide (List.length p1 ≤ 1000)) (
          let x3 : Bool := ((validG p0) == (validG p0))
          cond x3 (
            chk (decide (List.length p0 ≤ 1000)) (
              chk (decide (List.length p0 ≤ 1000)) (
                let x4 : Bool := decide ((quoteG p0) = (quoteG p0))
                cond x4 (
                  let x5 : Bool := decide ((unqT p1) = (unqT p1))
                  cond x5 (
                    cond ((unqC p1) == (unqC p1)) (
                      cond ((unqE p1) == (unqE p1)) (
                        let x6 : Bool := decide ((putG p2) = (putG p2))
                        some (.bool x6, [])) (
                        some (.bool false, []))) (
                      some (.bool false, []))) (
                    some (.bool false, []))) (
                  some (.bool false, []))))) (
            some (.bool false, []))))))
def sh_law3_GlyphAll (N : Nat) (p0 : List UInt8) (p1 : List UInt8) (p2 : Int) : Option (V × List AObj) := sa_law3_GlyphAll N p0 p1 p2
theorem run_law3_GlyphAll (N : Nat) (p0 : List UInt8) (p1 : List UInt8) (p2 : Int) : callF Γ_law3_GlyphAll N 69 rs_law3_GlyphAll ir_law3_GlyphAll [.str p0, .str p1, .int .u32 p2] [] = sh_law3_GlyphAll N p0 p1 p2 := by kernel_rfl
theorem ok_law3_GlyphAll (hΓ : SpecOK Try.prog Γ_law3_GlyphAll) (N : Nat) (p0 : List UInt8) (p1 : List UInt8) (p2 : Int) {v : V} {hp : List AObj} (h : sh_law3_GlyphAll N p0 p1 p2 = some (v, hp)) : PureOK Try.prog i_law3_GlyphAll [.str p0, .str p1, .int .u32 p2] v := by
  have hc := chk_law3_GlyphAll
  simp only [Bool.and_eq_true] at hc
  exact ⟨hp, fnOK_of hΓ pureS_law3_GlyphAll Try.func9 body_law3_GlyphAll hc.1 hc.2 (by decide) ((run_law3_GlyphAll N p0 p1 p2).trans h)⟩

def G_law3_GlyphBack : Nat → List V → Option (Bool × V) := fun f vs => match f, vs with
  | 26, [] => some (true, .bool true)
  | 27, [.str a0] => some (decide (List.length a0 ≤ 1000), .tup [.str (unqT a0), .int .i64 (unqC a0), .int .i64 (unqE a0)])
  | 29, [.str a0] => some (true, .bool (validG a0))
  | 31, [.str a0] => some (decide (List.length a0 ≤ 1000), .str (quoteG a0))
  | _, _ => none
def Γ_law3_GlyphBack : ASpec := liftG G_law3_GlyphBack
theorem pureS_law3_GlyphBack : PureS Γ_law3_GlyphBack [] := liftG_pure _ _
theorem spec_law3_GlyphBack (h_law3_begun : PureOK Try.prog i_law3_begun [] (.bool true)) (h_glyph_Unquote : ∀ (a0 : List UInt8), (decide (List.length a0 ≤ 1000)) = true → PureOK Try.prog i_glyph_Unquote [.str a0] (.tup [.str (unqT a0), .int .i64 (unqC a0), .int .i64 (unqE a0)])) (h_glyph_Valid : ∀ (a0 : List UInt8), PureOK Try.prog i_glyph_Valid [.str a0] (.bool (validG a0))) (h_glyph_Quote : ∀ (a0 : List UInt8), (decide (List.length a0 ≤ 1000)) = true → PureOK Try.prog i_glyph_Quote [.str a0] (.str (quoteG a0))) : SpecOK Try.prog Γ_law3_GlyphBack := by
  intro f vs hp v hp' h0
  obtain ⟨h, he⟩ := liftG_inv h0
  subst he
  unfold G_law3_GlyphBack at h
  split at h
  · simp only [Option.some.injEq, Prod.mk.injEq] at h
    obtain ⟨hc, rfl⟩ := h
    exact (h_law3_begun ).frame rfl rfl _
  · simp only [Option.some.injEq, Prod.mk.injEq] at h
    obtain ⟨hc, rfl⟩ := h
    exact (h_glyph_Unquote _ hc).frame rfl rfl _
  · simp only [Option.some.injEq, Prod.mk.injEq] at h
    obtain ⟨hc, rfl⟩ := h
    exact (h_glyph_Valid _).frame rfl rfl _
  · simp only [Option.some.injEq, Prod.mk.injEq] at h
    obtain ⟨hc, rfl⟩ := h
    exact (h_glyph_Quote _ hc).frame rfl rfl _
  · simp at h
def ir_law3_GlyphBack_0 : IR := .ret
def ir_law3_GlyphBack_1 : IR := (.cond (.t 14) (.seq (.reg [⟨none, .mov 4 (.c (.bool false))⟩] []) ir_law3_GlyphBack_0) .skip)
def ir_law3_GlyphBack_2 : IR := .ret
def ir_law3_GlyphBack_3 : IR := (.cond (.t 22) (.seq (.reg [⟨none, .mov 4 (.c (.bool true))⟩] []) ir_law3_GlyphBack_2) .skip)
def ir_law3_GlyphBack_4 : IR := .ret
def ir_law3_GlyphBack_5 : IR := (.cond (.t 27) (.seq (.reg [⟨none, .mov 4 (.c (.bool false))⟩] []) ir_law3_GlyphBack_4) .skip)
def ir_law3_GlyphBack_6 : IR := (.cond (.t 49) .skip (.exit 0))
def ir_law3_GlyphBack_7 : IR := .ret
def ir_law3_GlyphBack_8 : IR := (.cond (.t 55) (.seq (.reg [⟨none, .mov 4 (.c (.bool false))⟩] []) ir_law3_GlyphBack_7) .skip)
def ir_law3_GlyphBack_9 : IR := (.reg [⟨none, .mov 50 (.t 12)⟩,
    ⟨none, .bin 51 .add (.t 50) (.c (.int .i64 1))⟩,
    ⟨none, .mov 12 (.t 51)⟩] [])
def ir_law3_GlyphBack_10 : IR := (.seq (.block 1 (.seq (.reg [⟨none, .mov 52 (.t 5)⟩,
    ⟨none, .mov 53 (.t 12)⟩,
    ⟨none, .idx 54 (.t 52) (.t 53)⟩,
    ⟨none, .bin 55 .lss (.t 54) (.c (.int .u8 32))⟩] []) ir_law3_GlyphBack_8)) ir_law3_GlyphBack_9)
def ir_law3_GlyphBack_11 : IR := (.seq (.seq (.reg [⟨none, .mov 46 (.t 12)⟩,
    ⟨none, .mov 47 (.t 5)⟩,
    ⟨none, .lens 48 (.t 47)⟩,
    ⟨none, .bin 49 .lss (.t 46) (.t 48)⟩] []) ir_law3_GlyphBack_6) ir_law3_GlyphBack_10)
def ir_law3_GlyphBack_12 : IR := (.block 0 (.loop [0, 5, 6, 7, 8, 11, 12] 0 ir_law3_GlyphBack_11))
def ir_law3_GlyphBack_13 : IR := .ret
def ir_law3_GlyphBack_14 : IR := (.cond (.t 58) (.seq (.reg [⟨none, .mov 59 (.t 8)⟩,
    ⟨none, .bin 60 .eql (.t 59) (.c (.int .i64 2))⟩,
    ⟨none, .mov 61 (.t 60)⟩,
    ⟨some (61, true), .mov 62 (.t 7)⟩,
    ⟨some (61, true), .bin 63 .eql (.t 62) (.c (.int .i64 0))⟩,
    ⟨none, .pick 64 (.t 61) (.t 63) (.c (.bool false))⟩,
    ⟨none, .mov 4 (.t 64)⟩] []) ir_law3_GlyphBack_13) .skip)
def ir_law3_GlyphBack_15 : IR := .ret
def ir_law3_GlyphBack_16 : IR := (.seq (.reg [⟨none, .mov 65 (.t 8)⟩,
    ⟨none, .bin 66 .eql (.t 65) (.c (.int .i64 0))⟩,
    ⟨none, .mov 67 (.t 66)⟩,
    ⟨some (67, true), .mov 68 (.t 6)⟩,
    ⟨some (67, true), .mov 69 (.t 0)⟩,
    ⟨some (67, true), .bin 70 .eql (.t 68) (.t 69)⟩,
    ⟨none, .pick 71 (.t 67) (.t 70) (.c (.bool false))⟩,
    ⟨none, .mov 72 (.t 71)⟩,
    ⟨some (72, true), .mov 73 (.t 7)⟩,
    ⟨some (72, true), .mov 74 (.t 5)⟩,
    ⟨some (72, true), .lens 75 (.t 74)⟩,
    ⟨some (72, true), .bin 76 .eql (.t 73) (.t 75)⟩,
    ⟨none, .pick 77 (.t 72) (.t 76) (.c (.bool false))⟩,
    ⟨none, .mov 78 (.t 77)⟩,
    ⟨some (78, true), .mov 79 (.t 11)⟩,
    ⟨some (78, true), .bin 80 .eql (.t 79) (.c (.int .i64 2))⟩,
    ⟨none, .pick 81 (.t 78) (.t 80) (.c (.bool false))⟩,
    ⟨none, .mov 4 (.t 81)⟩] []) ir_law3_GlyphBack_15)
def ir_law3_GlyphBack_17 : IR := (.seq (.seq (.reg [⟨none, .mov 56 (.t 0)⟩,
    ⟨none, .call (some 57) 29 [(.t 56)]⟩,
    ⟨none, .un 58 .not (.t 57)⟩] []) ir_law3_GlyphBack_14) ir_law3_GlyphBack_16)
def ir_law3_GlyphBack_18 : IR := (.seq (.seq (.reg [⟨none, .mov 12 (.c (.int .i64 0))⟩] []) ir_law3_GlyphBack_12) ir_law3_GlyphBack_17)
def ir_law3_GlyphBack_19 : IR := (.seq (.reg [⟨none, .mov 37 (.t 5)⟩,
    ⟨none, .mov 38 (.t 5)⟩,
    ⟨none, .lens 39 (.t 38)⟩,
    ⟨none, .bin 40 .sub (.t 39) (.c (.int .i64 1))⟩,
    ⟨none, .subs 41 (.t 37) none (some (.t 40))⟩,
    ⟨none, .call (some 42) 27 [(.t 41)]⟩,
    ⟨none, .mov 36 (.t 42)⟩,
    ⟨none, .ext 43 0 (.t 36)⟩,
    ⟨none, .ext 44 1 (.t 36)⟩,
    ⟨none, .ext 45 2 (.t 36)⟩,
    ⟨none, .mov 9 (.t 43)⟩,
    ⟨none, .mov 10 (.t 44)⟩,
    ⟨none, .mov 11 (.t 45)⟩] []) ir_law3_GlyphBack_18)
def ir_law3_GlyphBack_20 : IR := (.seq (.reg [⟨none, .mov 29 (.t 5)⟩,
    ⟨none, .mov 30 (.t 1)⟩,
    ⟨none, .bin 31 .add (.t 29) (.t 30)⟩,
    ⟨none, .call (some 32) 27 [(.t 31)]⟩,
    ⟨none, .mov 28 (.t 32)⟩,
    ⟨none, .ext 33 0 (.t 28)⟩,
    ⟨none, .ext 34 1 (.t 28)⟩,
    ⟨none, .ext 35 2 (.t 28)⟩,
    ⟨none, .mov 6 (.t 33)⟩,
    ⟨none, .mov 7 (.t 34)⟩,
    ⟨none, .mov 8 (.t 35)⟩] []) ir_law3_GlyphBack_19)
def ir_law3_GlyphBack_21 : IR := (.seq (.seq (.reg [⟨none, .mov 25 (.t 5)⟩,
    ⟨none, .lens 26 (.t 25)⟩,
    ⟨none, .bin 27 .lss (.t 26) (.c (.int .i64 2))⟩] []) ir_law3_GlyphBack_5) ir_law3_GlyphBack_20)
def ir_law3_GlyphBack_22 : IR := (.seq (.reg [⟨none, .mov 23 (.t 0)⟩,
    ⟨none, .call (some 24) 31 [(.t 23)]⟩,
    ⟨none, .mov 5 (.t 24)⟩] []) ir_law3_GlyphBack_21)
def ir_law3_GlyphBack_23 : IR := (.seq (.seq (.reg [⟨none, .mov 15 (.t 0)⟩,
    ⟨none, .lens 16 (.t 15)⟩,
    ⟨none, .bin 17 .gtr (.t 16) (.c (.int .i64 60))⟩,
    ⟨none, .mov 18 (.t 17)⟩,
    ⟨some (18, false), .mov 19 (.t 1)⟩,
    ⟨some (18, false), .lens 20 (.t 19)⟩,
    ⟨some (18, false), .bin 21 .gtr (.t 20) (.c (.int .i64 20))⟩,
    ⟨none, .pick 22 (.t 18) (.c (.bool true)) (.t 21)⟩] []) ir_law3_GlyphBack_3) ir_law3_GlyphBack_22)
def ir_law3_GlyphBack_24 : IR := (.seq (.seq (.reg [⟨none, .call (some 13) 26 []⟩,
    ⟨none, .un 14 .not (.t 13)⟩] []) ir_law3_GlyphBack_1) ir_law3_GlyphBack_23)
def ir_law3_GlyphBack : IR := (.seq (.reg [⟨none, .mov 4 (.c (.bool false))⟩] []) ir_law3_GlyphBack_24)
def rs_law3_GlyphBack : List RV := [.t 4]
theorem chk_law3_GlyphBack : (chkCode Try.prog [] 0 ir_law3_GlyphBack (Try.f11.body.getD .skip) && chkRes Try.prog rs_law3_GlyphBack Try.f11.results.toList) = true := by kernel_rfl
theorem body_law3_GlyphBack : Try.f11.body = some (Try.f11.body.getD .skip) := by kernel_rfl
def mk_law3_GlyphBack_0 (x : (List UInt8 × List UInt8 × List UInt8 × Int × Int × Int × Int)) : St := { env := [.str x.1, .undef, .undef, .undef, .undef, .str x.2.1, .str x.2.2.1, .int .i64 x.2.2.2.1, .int .i64 x.2.2.2.2.1, .undef, .undef, .int .i64 x.2.2.2.2.2.1, .int .i64 x.2.2.2.2.2.2, .undef, .undef, .undef, .undef, .undef, .undef, .undef, .undef, .undef, .undef, .undef, .undef, .undef, .undef, .undef, .undef, .undef, .undef, .undef, .undef, .undef, .undef, .undef, .undef, .undef, .undef, .undef, .undef, .undef, .undef, .undef, .undef, .undef, .undef, .undef, .undef, .undef, .undef, .undef, .undef, .undef, .undef, .undef, .undef, .undef, .undef, .undef, .undef, .undef, .undef, .undef, .undef, .undef, .undef, .undef, .undef, .undef, .undef, .undef, .undef, .undef, .undef, .undef, .undef, .undef, .undef, .undef, .undef, .undef], hp := [] }
def F_law3_GlyphBack_0 (N : Nat) : (St → Option (V × List AObj)) → St → Option (V × List AObj) := fun again0 s => run Γ_law3_GlyphBack N ir_law3_GlyphBack_11 (kloop again0 [0, 5, 6, 7, 8, 11, 12] 0 (kblock 0 (kseq (run Γ_law3_GlyphBack N ir_law3_GlyphBack_17) (fin rs_law3_GlyphBack)))) s
def B_law3_GlyphBack_0 (N : Nat) (again0 : (List UInt8 × List UInt8 × List UInt8 × Int × Int × Int × Int) → Option (V × List AObj)) (x : (List UInt8 × List UInt8 × List UInt8 × Int × Int × Int × Int)) : Option (V × List AObj) :=
  let v0 : List UInt8 := x.1
  let v5 : List UInt8 := x.2.1
  let v6 : List UInt8 := x.2.2.1
  let v7 : Int := x.2.2.2.1
  let v8 : Int := x.2.2.2.2.1
  let v11 : Int := x.2.2.2.2.2.1
  let v12 : Int := x.2.2.2.2.2.2
  let x10 : Int := (↑(List.length v5) : Int)
  cond (decide (v12 < x10)) (
    chk ((decide (0 ≤ v12) && decide (v12 < ↑(List.length v5)))) (
      let x11 : Int := (↑(UInt8.toNat (List.getD v5 (Int.toNat v12) 0)) : Int)
      cond (decide (x11 < 32)) (
        some (.bool false, [])) (
        let x12 : Int := (IntKind.wrap .i64 (v12 + 1))
        again0 (v0, v5, v6, v7, v8, v11, x12)))) (
    cond (!(validG v0)) (
      cond (v8 == 2) (
        some (.bool (v7 == 0), [])) (
        some (.bool false, []))) (
      cond (v8 == 0) (
        cond (decide (v6 = v0)) (
          let x13 : Int := (↑(List.length v5) : Int)
          cond (v7 == x13) (
            some (.bool (v11 == 2), [])) (
            some (.bool false, []))) (
          some (.bool false, []))) (
        some (.bool false, []))))
theorem FB_law3_GlyphBack_0 (N : Nat) : ∀ (again0 : St → Option (V × List AObj)) (x : (List UInt8 × List UInt8 × List UInt8 × Int × Int × Int × Int)), F_law3_GlyphBack_0 N again0 (mk_law3_GlyphBack_0 x) = B_law3_GlyphBack_0 N (fun y => again0 (mk_law3_GlyphBack_0 y)) x := by
  intro again0 x
  kernel_rfl
/-- proclitic/procliticlaw3.GlyphBack -/
def sa_law3_GlyphBack (N : Nat) (p0 : List UInt8) (p1 : List UInt8) (q0 : (List UInt8 × List UInt8 × List UInt8 × Int × Int × Int × Int) → Option (V × List AObj)) : Option (V × List AObj) :=
  let x1 : Int := (↑(List.length p0) : Int)
  cond (decide (60 < x1)) (
    some (.bool true, [])) (
    let x2 : Int := (↑(List.length p1) : Int)
    cond (decide (20 < x2)) (
      some (.bool true, [])) (
      chk (decide (List.length p0 ≤ 1000)) (
        let x3 : Int := (↑(List.length (quoteG p0)) : Int)
        cond (decide (x3 < 2)) (
          some (.bool false, [])) (
          chk (decide (List.length (quoteG p0) + List.length p1 ≤ 9223372036854775807)) (
            chk (decide (List.length ((quoteG p0) ++ p1) ≤ 1000)) (
              let x4 : List UInt8 := (unqT ((quoteG p0) ++ p1))
              let x5 : Int := (unqC ((quoteG p0) ++ p1))
              let x6 : Int := (unqE ((quoteG p0) ++ p1))
              let x7 : Int := (↑(List.length (quoteG p0)) : Int)
              let x8 : Int := (IntKind.wrap .i64 (x7 - 1))
              chk ((decide (0 ≤ x8) && decide (x8 ≤ (↑(List.length (quoteG p0)) : Int)))) (
                let x9 : List UInt8 := (List.drop 0 (List.take (Int.toNat x8) (quoteG p0)))
                chk (decide (List.length x9 ≤ 1000)) (
                  q0 (p0, (quoteG p0), x4, x5, x6, (unqE x9), 0)))))))))
def sh_law3_GlyphBack (N : Nat) (p0 : List UInt8) (p1 : List UInt8) : Option (V × List AObj) := sa_law3_GlyphBack N p0 p1 (fun z => iterL N (B_law3_GlyphBack_0 N) z)
theorem run_law3_GlyphBack (N : Nat) (p0 : List UInt8) (p1 : List UInt8) : callF Γ_law3_GlyphBack N 82 rs_law3_GlyphBack ir_law3_GlyphBack [.str p0, .str p1] [] = sh_law3_GlyphBack N p0 p1 := by
  have h : callF Γ_law3_GlyphBack N 82 rs_law3_GlyphBack ir_law3_GlyphBack [.str p0, .str p1] [] = sa_law3_GlyphBack N p0 p1 (fun z => loopN N (F_law3_GlyphBack_0 N) (mk_law3_GlyphBack_0 z)) := by kernel_rfl
  have e0 : (fun z => loopN N (F_law3_GlyphBack_0 N) (mk_law3_GlyphBack_0 z)) = (fun z => iterL N (B_law3_GlyphBack_0 N) z) := funext fun z => loop_eq (mk_law3_GlyphBack_0) (F_law3_GlyphBack_0 N) (B_law3_GlyphBack_0 N) (FB_law3_GlyphBack_0 N) N z
  rw [h, e0]
  rfl
theorem ok_law3_GlyphBack (hΓ : SpecOK Try.prog Γ_law3_GlyphBack) (N : Nat) (p0 : List UInt8) (p1 : List UInt8) {v : V} {hp : List AObj} (h : sh_law3_GlyphBack N p0 p1 = some (v, hp)) : PureOK Try.prog i_law3_GlyphBack [.str p0, .str p1] v := by
  have hc := chk_law3_GlyphBack
  simp only [Bool.and_eq_true] at hc
  exact ⟨hp, fnOK_of hΓ pureS_law3_GlyphBack Try.func11 body_law3_GlyphBack hc.1 hc.2 (by decide) ((run_law3_GlyphBack N p0 p1).trans h)⟩

def G_law3_GlyphForms : Nat → List V → Option (Bool × V) := fun f vs => match f, vs with
  | 26, [] => some (true, .bool true)
  | 27, [.str a0] => some (decide (List.length a0 ≤ 1000), .tup [.str (unqT a0), .int .i64 (unqC a0), .int .i64 (unqE a0)])
  | 31, [.str a0] => some (decide (List.length a0 ≤ 1000), .str (quoteG a0))
  | _, _ => none
def Γ_law3_GlyphForms : ASpec := liftG G_law3_GlyphForms
theorem pureS_law3_GlyphForms : PureS Γ_law3_GlyphForms [] := liftG_pure _ _
theorem spec_law3_GlyphForms (h_law3_begun : PureOK Try.prog i_law3_begun [] (.bool true)) (h_glyph_Unquote : ∀ (a0 : List UInt8), (decide (List.length a0 ≤ 1000)) = true → PureOK Try.prog i_glyph_Unquote [.str a0] (.tup [.str (unqT a0), .int .i64 (unqC a0), .int .i64 (unqE a0)])) (h_glyph_Quote : ∀ (a0 : List UInt8), (decide (List.length a0 ≤ 1000)) = true → PureOK Try.prog i_glyph_Quote [.str a0] (.str (quoteG a0))) : SpecOK Try.prog Γ_law3_GlyphForms := by
  intro f vs hp v hp' h0
  obtain ⟨h, he⟩ := liftG_inv h0
  subst he
  unfold G_law3_GlyphForms at h
  split at h
  · simp only [Option.some.injEq, Prod.mk.injEq] at h
    obtain ⟨hc, rfl⟩ := h
    exact (h_law3_begun ).frame rfl rfl _
  · simp only [Option.some.injEq, Prod.mk.injEq] at h
    obtain ⟨hc, rfl⟩ := h
    exact (h_glyph_Unquote _ hc).frame rfl rfl _
  · simp only [Option.some.injEq, Prod.mk.injEq] at h
    obtain ⟨hc, rfl⟩ := h
    exact (h_glyph_Quote _ hc).frame rfl rfl _
  · simp at h
def ir_law3_GlyphForms_0 : IR := .ret
def ir_law3_GlyphForms_1 : IR := (.cond (.t 10) (.seq (.reg [⟨none, .mov 0 (.c (.bool false))⟩] []) ir_law3_GlyphForms_0) .skip)
def ir_law3_GlyphForms_2 : IR := (.cond (.t 15) .skip (.exit 0))
def ir_law3_GlyphForms_3 : IR := .ret
def ir_law3_GlyphForms_4 : IR := (.cond (.t 36) (.seq (.reg [⟨none, .mov 0 (.c (.bool false))⟩] []) ir_law3_GlyphForms_3) .skip)
def ir_law3_GlyphForms_5 : IR := (.seq (.reg [⟨none, .mov 27 (.t 5)⟩,
    ⟨none, .bin 28 .neq (.t 27) (.c (.int .i64 2))⟩,
    ⟨none, .mov 29 (.t 28)⟩,
    ⟨some (29, false), .mov 30 (.t 3)⟩,
    ⟨some (29, false), .bin 31 .neq (.t 30) (.c (.str ([] : List UInt8)))⟩,
    ⟨none, .pick 32 (.t 29) (.c (.bool true)) (.t 31)⟩,
    ⟨none, .mov 33 (.t 32)⟩,
    ⟨some (33, false), .mov 34 (.t 4)⟩,
    ⟨some (33, false), .bin 35 .neq (.t 34) (.c (.int .i64 0))⟩,
    ⟨none, .pick 36 (.t 33) (.c (.bool true)) (.t 35)⟩] []) ir_law3_GlyphForms_4)
def ir_law3_GlyphForms_6 : IR := (.reg [⟨none, .mov 16 (.t 2)⟩,
    ⟨none, .bin 17 .add (.t 16) (.c (.int .i64 1))⟩,
    ⟨none, .mov 2 (.t 17)⟩] [])
def ir_law3_GlyphForms_7 : IR := (.seq (.block 1 (.seq (.reg [⟨none, .mov 19 (.t 1)⟩,
    ⟨none, .mov 20 (.t 2)⟩,
    ⟨none, .ixa 21 .str (.t 19) (.t 20)⟩,
    ⟨none, .ld 22 1 false false (.t 21)⟩,
    ⟨none, .call (some 23) 27 [(.t 22)]⟩,
    ⟨none, .mov 18 (.t 23)⟩,
    ⟨none, .ext 24 0 (.t 18)⟩,
    ⟨none, .ext 25 1 (.t 18)⟩,
    ⟨none, .ext 26 2 (.t 18)⟩,
    ⟨none, .mov 3 (.t 24)⟩,
    ⟨none, .mov 4 (.t 25)⟩,
    ⟨none, .mov 5 (.t 26)⟩] []) ir_law3_GlyphForms_5)) ir_law3_GlyphForms_6)
def ir_law3_GlyphForms_8 : IR := (.seq (.seq (.reg [⟨none, .mov 12 (.t 2)⟩,
    ⟨none, .mov 13 (.t 1)⟩,
    ⟨none, .lenl 14 (.t 13)⟩,
    ⟨none, .bin 15 .lss (.t 12) (.t 14)⟩] []) ir_law3_GlyphForms_2) ir_law3_GlyphForms_7)
def ir_law3_GlyphForms_9 : IR := (.block 0 (.loop [1, 2] 0 ir_law3_GlyphForms_8))
def ir_law3_GlyphForms_10 : IR := .ret
def ir_law3_GlyphForms_11 : IR := (.seq (.reg [⟨none, .mov 42 (.t 8)⟩,
    ⟨none, .bin 43 .eql (.t 42) (.c (.int .i64 0))⟩,
    ⟨none, .mov 44 (.t 43)⟩,
    ⟨some (44, true), .mov 45 (.t 7)⟩,
    ⟨some (44, true), .bin 46 .eql (.t 45) (.c (.int .i64 25))⟩,
    ⟨none, .pick 47 (.t 44) (.t 46) (.c (.bool false))⟩,
    ⟨none, .mov 48 (.t 47)⟩,
    ⟨some (48, true), .mov 49 (.t 6)⟩,
    ⟨some (48, true), .bin 50 .eql (.t 49) (.c (.str ([47, 8, 12, 10, 13, 9, 92, 34, 195, 164, 127] : List UInt8)))⟩,
    ⟨none, .pick 51 (.t 48) (.t 50) (.c (.bool false))⟩,
    ⟨none, .mov 52 (.t 51)⟩,
    ⟨some (52, true), .call (some 53) 31 [(.c (.str ([0, 31, 47, 127] : List UInt8)))]⟩,
    ⟨some (52, true), .bin 54 .eql (.t 53) (.c (.str ([34, 92, 117, 48, 48, 48, 48, 92, 117, 48, 48, 49, 102, 47, 127, 34] : List UInt8)))⟩,
    ⟨none, .pick 55 (.t 52) (.t 54) (.c (.bool false))⟩,
    ⟨none, .mov 0 (.t 55)⟩] []) ir_law3_GlyphForms_10)
def ir_law3_GlyphForms_12 : IR := (.seq (.reg [⟨none, .call (some 38) 27 [(.c (.str ([34, 92, 47, 92, 98, 92, 102, 92, 110, 92, 114, 92, 116, 92, 92, 92, 34, 92, 117, 48, 48, 101, 52, 127, 34] : List UInt8)))]⟩,
    ⟨none, .mov 37 (.t 38)⟩,
    ⟨none, .ext 39 0 (.t 37)⟩,
    ⟨none, .ext 40 1 (.t 37)⟩,
    ⟨none, .ext 41 2 (.t 37)⟩,
    ⟨none, .mov 6 (.t 39)⟩,
    ⟨none, .mov 7 (.t 40)⟩,
    ⟨none, .mov 8 (.t 41)⟩] []) ir_law3_GlyphForms_11)
def ir_law3_GlyphForms_13 : IR := (.seq (.seq (.reg [⟨none, .mov 2 (.c (.int .i64 0))⟩] []) ir_law3_GlyphForms_9) ir_law3_GlyphForms_12)
def ir_law3_GlyphForms_14 : IR := (.seq (.reg [⟨none, .bsl 11 .str [(.c (.str ([] : List UInt8))), (.c (.str ([97] : List UInt8))), (.c (.str ([34] : List UInt8))), (.c (.str ([34, 97] : List UInt8))), (.c (.str ([34, 10, 34] : List UInt8))), (.c (.str ([34, 92] : List UInt8))), (.c (.str ([34, 92, 34] : List UInt8))), (.c (.str ([34, 92, 120, 34] : List UInt8))), (.c (.str ([34, 92, 117, 49, 50, 34] : List UInt8))), (.c (.str ([34, 92, 117, 49, 50, 103, 52, 34] : List UInt8))), (.c (.str ([34, 92, 117, 100, 56, 48, 48, 34] : List UInt8))), (.c (.str ([34, 92, 117, 100, 99, 48, 48, 34] : List UInt8))), (.c (.str ([34, 92, 117, 100, 56, 48, 48, 97, 34] : List UInt8))), (.c (.str ([34, 92, 117, 100, 56, 48, 48, 92, 117, 48, 48, 52, 49, 34] : List UInt8))), (.c (.str ([34, 255, 34] : List UInt8))), (.c (.str ([34, 31, 34] : List UInt8)))]⟩,
    ⟨none, .mov 1 (.t 11)⟩] []) ir_law3_GlyphForms_13)
def ir_law3_GlyphForms_15 : IR := (.seq (.seq (.reg [⟨none, .call (some 9) 26 []⟩,
    ⟨none, .un 10 .not (.t 9)⟩] []) ir_law3_GlyphForms_1) ir_law3_GlyphForms_14)
def ir_law3_GlyphForms : IR := (.seq (.reg [⟨none, .mov 0 (.c (.bool false))⟩] []) ir_law3_GlyphForms_15)
def rs_law3_GlyphForms : List RV := [.t 0]
theorem chk_law3_GlyphForms : (chkCode Try.prog [] 0 ir_law3_GlyphForms (Try.f13.body.getD .skip) && chkRes Try.prog rs_law3_GlyphForms Try.f13.results.toList) = true := by kernel_rfl
theorem body_law3_GlyphForms : Try.f13.body = some (Try.f13.body.getD .skip) := by kernel_rfl
def mk_law3_GlyphForms_0 (x : (List (List UInt8) × Int)) : St := { env := [.undef, .sl .str false x.1, .int .i64 x.2, .undef, .undef, .undef, .undef, .undef, .undef, .undef, .undef, .undef, .undef, .undef, .undef, .undef, .undef, .undef, .undef, .undef, .undef, .undef, .undef, .undef, .undef, .undef, .undef, .undef, .undef, .undef, .undef, .undef, .undef, .undef, .undef, .undef, .undef, .undef, .undef, .undef, .undef, .undef, .undef, .undef, .undef, .undef, .undef, .undef, .undef, .undef, .undef, .undef, .undef, .undef, .undef, .undef], hp := [] }
def F_law3_GlyphForms_0 (N : Nat) : (St → Option (V × List AObj)) → St → Option (V × List AObj) := fun again0 s => run Γ_law3_GlyphForms N ir_law3_GlyphForms_8 (kloop again0 [1, 2] 0 (kblock 0 (kseq (run Γ_law3_GlyphForms N ir_law3_GlyphForms_12) (fin rs_law3_GlyphForms)))) s
def B_law3_GlyphForms_0 (N : Nat) (again0 : (List (List UInt8) × Int) → Option (V × List AObj)) (x : (List (List UInt8) × Int)) : Option (V × List AObj) :=
  let v1 : List (List UInt8) := x.1
  let v2 : Int := x.2
  let x1 : Int := (↑(List.length v1) : Int)
  cond (decide (v2 < x1)) (
    chk ((decide (0 ≤ v2) && decide (v2 < ↑(List.length v1)))) (
      let x2 : List UInt8 := List.getD v1 (Int.toNat v2) (dflt .str)
      chk (decide (List.length x2 ≤ 1000)) (
        cond (!((unqE x2) == 2)) (
          some (.bool false, [])) (
          let x3 : Bool := (!decide ((unqT x2) = ([] : List UInt8)))
          cond x3 (
            some (.bool false, [])) (
            cond (!((unqC x2) == 0)) (
              some (.bool false, [])) (
              let x4 : Int := (IntKind.wrap .i64 (v2 + 1))
              again0 (v1, x4))))))) (
    chk (decide (List.length ([34, 92, 47, 92, 98, 92, 102, 92, 110, 92, 114, 92, 116, 92, 92, 92, 34, 92, 117, 48, 48, 101, 52, 127, 34] : List UInt8) ≤ 1000)) (
      let x5 : List UInt8 := (unqT ([34, 92, 47, 92, 98, 92, 102, 92, 110, 92, 114, 92, 116, 92, 92, 92, 34, 92, 117, 48, 48, 101, 52, 127, 34] : List UInt8))
      let x6 : Int := (unqC ([34, 92, 47, 92, 98, 92, 102, 92, 110, 92, 114, 92, 116, 92, 92, 92, 34, 92, 117, 48, 48, 101, 52, 127, 34] : List UInt8))
      let x7 : Int := (unqE ([34, 92, 47, 92, 98, 92, 102, 92, 110, 92, 114, 92, 116, 92, 92, 92, 34, 92, 117, 48, 48, 101, 52, 127, 34] : List UInt8))
      cond (x7 == 0) (
        cond (x6 == 25) (
          let x8 : Bool := decide (x5 = ([47, 8, 12, 10, 13, 9, 92, 34, 195, 164, 127] : List UInt8))
          cond x8 (
            chk (decide (List.length ([0, 31, 47, 127] : List UInt8) ≤ 1000)) (
              let x9 : List UInt8 := (quoteG ([0, 31, 47, 127] : List UInt8))
              let x10 : Bool := decide (x9 = ([34, 92, 117, 48, 48, 48, 48, 92, 117, 48, 48, 49, 102, 47, 127, 34] : List UInt8))
              some (.bool x10, []))) (
            some (.bool false, []))) (
          some (.bool false, []))) (
        some (.bool false, []))))
theorem FB_law3_GlyphForms_0 (N : Nat) : ∀ (again0 : St → Option (V × List AObj)) (x : (List (List UInt8) × Int)), F_law3_GlyphForms_0 N again0 (mk_law3_GlyphForms_0 x) = B_law3_GlyphForms_0 N (fun y => again0 (mk_law3_GlyphForms_0 y)) x := by
  intro again0 x
  kernel_rfl
/-- proclitic/procliticlaw3.GlyphForms -/
def sa_law3_GlyphForms (N : Nat)  (q0 : (List (List UInt8) × Int) → Option (V × List AObj)) : Option (V × List AObj) :=
  q0 (([([] : List UInt8), ([97] : List UInt8), ([34] : List UInt8), ([34, 97] : List UInt8), ([34, 10, 34] : List UInt8), ([34, 92] : List UInt8), ([34, 92, 34] : List UInt8), ([34, 92, 120, 34] : List UInt8), ([34, 92, 117, 49, 50, 34] : List UInt8), ([34, 92, 117, 49, 50, 103, 52, 34] : List UInt8), ([34, 92, 117, 100, 56, 48, 48, 34] : List UInt8), ([34, 92, 117, 100, 99, 48, 48, 34] : List UInt8), ([34, 92, 117, 100, 56, 48, 48, 97, 34] : List UInt8), ([34, 92, 117, 100, 56, 48, 48, 92, 117, 48, 48, 52, 49, 34] : List UInt8), ([34, 255, 34] : List UInt8), ([34, 31, 34] : List UInt8)] : List (List UInt8)), 0)
def sh_law3_GlyphForms (N : Nat)  : Option (V × List AObj) := sa_law3_GlyphForms N  (fun z => iterL N (B_law3_GlyphForms_0 N) z)
theorem run_law3_GlyphForms (N : Nat)  : callF Γ_law3_GlyphForms N 56 rs_law3_GlyphForms ir_law3_GlyphForms [] [] = sh_law3_GlyphForms N  := by
  have h : callF Γ_law3_GlyphForms N 56 rs_law3_GlyphForms ir_law3_GlyphForms [] [] = sa_law3_GlyphForms N  (fun z => loopN N (F_law3_GlyphForms_0 N) (mk_law3_GlyphForms_0 z)) := by kernel_rfl
  have e0 : (fun z => loopN N (F_law3_GlyphForms_0 N) (mk_law3_GlyphForms_0 z)) = (fun z => iterL N (B_law3_GlyphForms_0 N) z) := funext fun z => loop_eq (mk_law3_GlyphForms_0) (F_law3_GlyphForms_0 N) (B_law3_GlyphForms_0 N) (FB_law3_GlyphForms_0 N) N z
  rw [h, e0]
  rfl
theorem ok_law3_GlyphForms (hΓ : SpecOK Try.prog Γ_law3_GlyphForms) (N : Nat)  {v : V} {hp : List AObj} (h : sh_law3_GlyphForms N  = some (v, hp)) : PureOK Try.prog i_law3_GlyphForms [] v := by
  have hc := chk_law3_GlyphForms
  simp only [Bool.and_eq_true] at hc
  exact ⟨hp, fnOK_of hΓ pureS_law3_GlyphForms Try.func13 body_law3_GlyphForms hc.1 hc.2 (by decide) ((run_law3_GlyphForms N ).trans h)⟩

def G_glyph_Put (N : Nat) : Nat → List V → Option (Bool × V) := fun f vs => match f, vs with
  | 33, [.int .u32 a0] => some ((decide ((a0 : Int) = 65533) && decide (0 < N)), .str (putG a0))
  | 48, [.int .u32 a0, .int .i64 a1] => some ((decide (0 ≤ (a1 : Int)) && decide ((a1 : Int) ≤ 32)), .int .u8 (tailG a0 a1))
  | _, _ => none
def Γ_glyph_Put (N : Nat) : ASpec := liftG (G_glyph_Put N)
theorem pureS_glyph_Put (N : Nat) : PureS (Γ_glyph_Put N) [] := liftG_pure _ _
theorem spec_glyph_Put (N : Nat) (h_glyph_Put : ∀ (a0 : Int), (decide ((a0 : Int) = 65533) && decide (0 < N)) = true → PureOK Try.prog i_glyph_Put [.int .u32 a0] (.str (putG a0))) (h_glyph_tail : ∀ (a0 : Int) (a1 : Int), (decide (0 ≤ (a1 : Int)) && decide ((a1 : Int) ≤ 32)) = true → PureOK Try.prog i_glyph_tail [.int .u32 a0, .int .i64 a1] (.int .u8 (tailG a0 a1))) : SpecOK Try.prog (Γ_glyph_Put N) := by
  intro f vs hp v hp' h0
  obtain ⟨h, he⟩ := liftG_inv h0
  subst he
  unfold G_glyph_Put at h
  split at h
  · simp only [Option.some.injEq, Prod.mk.injEq] at h
    obtain ⟨hc, rfl⟩ := h
    exact (h_glyph_Put _ hc).frame rfl rfl _
  · simp only [Option.some.injEq, Prod.mk.injEq] at h
    obtain ⟨hc, rfl⟩ := h
    exact (h_glyph_tail _ _ hc).frame rfl rfl _
  · simp at h
def ir_glyph_Put_0 : IR := .ret
def ir_glyph_Put_1 : IR := .ret
def ir_glyph_Put_2 : IR := .ret
def ir_glyph_Put_3 : IR := .ret
def ir_glyph_Put_4 : IR := (.cond (.t 33) (.seq (.reg [⟨none, .mov 36 (.t 0)⟩,
    ⟨none, .bin 37 .shr (.t 36) (.c (.int .u64 12))⟩,
    ⟨none, .bin 38 .or (.c (.int .u32 224)) (.t 37)⟩,
    ⟨none, .cvi 39 .u8 (.t 38)⟩,
    ⟨none, .mov 40 (.t 0)⟩,
    ⟨none, .call (some 41) 48 [(.t 40), (.c (.int .i64 6))]⟩,
    ⟨none, .mov 42 (.t 0)⟩,
    ⟨none, .call (some 43) 48 [(.t 42), (.c (.int .i64 0))]⟩,
    ⟨none, .bsl 44 .u8 [(.t 39), (.t 41), (.t 43)]⟩,
    ⟨none, .b2s 45 (.t 44)⟩,
    ⟨none, .mov 2 (.t 45)⟩] []) ir_glyph_Put_3) .skip)
def ir_glyph_Put_5 : IR := (.cond (.t 21) (.seq (.reg [⟨none, .call (some 32) 33 [(.c (.int .u32 65533))]⟩,
    ⟨none, .mov 2 (.t 32)⟩] []) ir_glyph_Put_2) (.seq (.reg [⟨none, .mov 34 (.t 0)⟩,
    ⟨none, .bin 35 .lss (.t 34) (.c (.int .u32 65536))⟩,
    ⟨none, .mov 33 (.t 35)⟩] []) ir_glyph_Put_4))
def ir_glyph_Put_6 : IR := (.cond (.t 10) (.seq (.reg [⟨none, .mov 13 (.t 0)⟩,
    ⟨none, .bin 14 .shr (.t 13) (.c (.int .u64 6))⟩,
    ⟨none, .bin 15 .or (.c (.int .u32 192)) (.t 14)⟩,
    ⟨none, .cvi 16 .u8 (.t 15)⟩,
    ⟨none, .mov 17 (.t 0)⟩,
    ⟨none, .call (some 18) 48 [(.t 17), (.c (.int .i64 0))]⟩,
    ⟨none, .bsl 19 .u8 [(.t 16), (.t 18)]⟩,
    ⟨none, .b2s 20 (.t 19)⟩,
    ⟨none, .mov 2 (.t 20)⟩] []) ir_glyph_Put_1) (.seq (.reg [⟨none, .mov 22 (.t 0)⟩,
    ⟨none, .bin 23 .geq (.t 22) (.c (.int .u32 55296))⟩,
    ⟨none, .mov 24 (.t 23)⟩,
    ⟨some (24, true), .mov 25 (.t 0)⟩,
    ⟨some (24, true), .bin 26 .lss (.t 25) (.c (.int .u32 57344))⟩,
    ⟨none, .pick 27 (.t 24) (.t 26) (.c (.bool false))⟩,
    ⟨none, .mov 28 (.t 27)⟩,
    ⟨some (28, false), .mov 29 (.t 0)⟩,
    ⟨some (28, false), .bin 30 .gtr (.t 29) (.c (.int .u32 1114111))⟩,
    ⟨none, .pick 31 (.t 28) (.c (.bool true)) (.t 30)⟩,
    ⟨none, .mov 21 (.t 31)⟩] []) ir_glyph_Put_5))
def ir_glyph_Put_7 : IR := (.cond (.t 3) (.seq (.reg [⟨none, .mov 6 (.t 0)⟩,
    ⟨none, .cvi 7 .u8 (.t 6)⟩,
    ⟨none, .bsl 8 .u8 [(.t 7)]⟩,
    ⟨none, .b2s 9 (.t 8)⟩,
    ⟨none, .mov 2 (.t 9)⟩] []) ir_glyph_Put_0) (.seq (.reg [⟨none, .mov 11 (.t 0)⟩,
    ⟨none, .bin 12 .lss (.t 11) (.c (.int .u32 2048))⟩,
    ⟨none, .mov 10 (.t 12)⟩] []) ir_glyph_Put_6))
def ir_glyph_Put_8 : IR := .ret
def ir_glyph_Put_9 : IR := (.seq (.reg [⟨none, .mov 46 (.t 0)⟩,
    ⟨none, .bin 47 .shr (.t 46) (.c (.int .u64 18))⟩,
    ⟨none, .bin 48 .or (.c (.int .u32 240)) (.t 47)⟩,
    ⟨none, .cvi 49 .u8 (.t 48)⟩,
    ⟨none, .mov 50 (.t 0)⟩,
    ⟨none, .call (some 51) 48 [(.t 50), (.c (.int .i64 12))]⟩,
    ⟨none, .mov 52 (.t 0)⟩,
    ⟨none, .call (some 53) 48 [(.t 52), (.c (.int .i64 6))]⟩,
    ⟨none, .mov 54 (.t 0)⟩,
    ⟨none, .call (some 55) 48 [(.t 54), (.c (.int .i64 0))]⟩,
    ⟨none, .bsl 56 .u8 [(.t 49), (.t 51), (.t 53), (.t 55)]⟩,
    ⟨none, .b2s 57 (.t 56)⟩,
    ⟨none, .mov 2 (.t 57)⟩] []) ir_glyph_Put_8)
def ir_glyph_Put_10 : IR := (.seq (.block 0 (.seq (.reg [⟨none, .mov 4 (.t 0)⟩,
    ⟨none, .bin 5 .lss (.t 4) (.c (.int .u32 128))⟩,
    ⟨none, .mov 3 (.t 5)⟩] []) ir_glyph_Put_7)) ir_glyph_Put_9)
def ir_glyph_Put : IR := (.seq (.reg [⟨none, .mov 2 (.c (.str ([] : List UInt8)))⟩] []) ir_glyph_Put_10)
def rs_glyph_Put : List RV := [.t 2]
theorem chk_glyph_Put : (chkCode Try.prog [] 0 ir_glyph_Put (Try.f33.body.getD .skip) && chkRes Try.prog rs_glyph_Put Try.f33.results.toList) = true := by kernel_rfl
theorem body_glyph_Put : Try.f33.body = some (Try.f33.body.getD .skip) := by kernel_rfl
/-- proclitic/glyph.Put -/
def sa_glyph_Put (N : Nat) (p0 : Int)  : Option (V × List AObj) :=
  cond (decide (p0 < 128)) (
    some (.str ([(UInt8.ofNat (Int.toNat (IntKind.wrap .u8 p0)))] : List UInt8), [])) (
    cond (decide (p0 < 2048)) (
      let x1 : Int := (bitsI .or .u32 192 (shrI .u32 p0 6))
      chk ((decide (0 ≤ (0 : Int)) && decide ((0 : Int) ≤ 32))) (
        some (.str ([(UInt8.ofNat (Int.toNat (IntKind.wrap .u8 x1))), (UInt8.ofNat (Int.toNat (tailG p0 0)))] : List UInt8), []))) (
      cond (decide (55296 ≤ p0)) (
        cond (decide (p0 < 57344)) (
          chk ((decide ((65533 : Int) = 65533) && decide (0 < N))) (
            some (.str (putG 65533), []))) (
          cond (decide (1114111 < p0)) (
            chk ((decide ((65533 : Int) = 65533) && decide (0 < N))) (
              some (.str (putG 65533), []))) (
            cond (decide (p0 < 65536)) (
              let x2 : Int := (bitsI .or .u32 224 (shrI .u32 p0 12))
              chk ((decide (0 ≤ (6 : Int)) && decide ((6 : Int) ≤ 32))) (
                chk ((decide (0 ≤ (0 : Int)) && decide ((0 : Int) ≤ 32))) (
                  some (.str ([(UInt8.ofNat (Int.toNat (IntKind.wrap .u8 x2))), (UInt8.ofNat (Int.toNat (tailG p0 6))), (UInt8.ofNat (Int.toNat (tailG p0 0)))] : List UInt8), [])))) (
              let x3 : Int := (bitsI .or .u32 240 (shrI .u32 p0 18))
              chk ((decide (0 ≤ (12 : Int)) && decide ((12 : Int) ≤ 32))) (
                chk ((decide (0 ≤ (6 : Int)) && decide ((6 : Int) ≤ 32))) (
                  chk ((decide (0 ≤ (0 : Int)) && decide ((0 : Int) ≤ 32))) (
                    some (.str ([(UInt8.ofNat (Int.toNat (IntKind.wrap .u8 x3))), (UInt8.ofNat (Int.toNat (tailG p0 12))), (UInt8.ofNat (Int.toNat (tailG p0 6))), (UInt8.ofNat (Int.toNat (tailG p0 0)))] : List UInt8), [])))))))) (
        cond (decide (1114111 < p0)) (
          chk ((decide ((65533 : Int) = 65533) && decide (0 < N))) (
            some (.str (putG 65533), []))) (
          cond (decide (p0 < 65536)) (
            let x4 : Int := (bitsI .or .u32 224 (shrI .u32 p0 12))
            chk ((decide (0 ≤ (6 : Int)) && decide ((6 : Int) ≤ 32))) (
              chk ((decide (0 ≤ (0 : Int)) && decide ((0 : Int) ≤ 32))) (
                some (.str ([(UInt8.ofNat (Int.toNat (IntKind.wrap .u8 x4))), (UInt8.ofNat (Int.toNat (tailG p0 6))), (UInt8.ofNat (Int.toNat (tailG p0 0)))] : List UInt8), [])))) (
            let x5 : Int := (bitsI .or .u32 240 (shrI .u32 p0 18))
            chk ((decide (0 ≤ (12 : Int)) && decide ((12 : Int) ≤ 32))) (
              chk ((decide (0 ≤ (6 : Int)) && decide ((6 : Int) ≤ 32))) (
                chk ((decide (0 ≤ (0 : Int)) && decide ((0 : Int) ≤ 32))) (
                  some (.str ([(UInt8.ofNat (Int.toNat (IntKind.wrap .u8 x5))), (UInt8.ofNat (Int.toNat (tailG p0 12))), (UInt8.ofNat (Int.toNat (tailG p0 6))), (UInt8.ofNat (Int.toNat (tailG p0 0)))] : List UInt8), [])))))))))
def sh_glyph_Put (N : Nat) (p0 : Int) : Option (V × List AObj) := sa_glyph_Put N p0
theorem run_glyph_Put (N : Nat) (p0 : Int) : callF (Γ_glyph_Put N) N 58 rs_glyph_Put ir_glyph_Put [.int .u32 p0] [] = sh_glyph_Put N p0 := by kernel_rfl
theorem ok_glyph_Put (N : Nat) (hΓ : SpecOK Try.prog (Γ_glyph_Put N)) (p0 : Int) {v : V} {hp : List AObj} (h : sh_glyph_Put N p0 = some (v, hp)) : PureOK Try.prog i_glyph_Put [.int .u32 p0] v := by
  have hc := chk_glyph_Put
  simp only [Bool.and_eq_true] at hc
  exact ⟨hp, fnOK_of hΓ (pureS_glyph_Put N) Try.func33 body_glyph_Put hc.1 hc.2 (by decide) ((run_glyph_Put N p0).trans h)⟩

end Go.Proofs.Ytmiclamhiohemaa
