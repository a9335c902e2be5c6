/-
  The plain functions that runs of the code are: written by wip/gen/gen.py.
-/
import Derived.Test.YtifmekddikapeaaAmLaw
import Derived.Test.YtifmekddikapeaaAmNew
import Derived.Test.YtifmekddikapeaaAmTot
import Derived.Test.YtifmekddikapeaaAmX
import Derived.Test.YtifmekddikapeaaRcSpec
import Derived.Test.YtifmekddikapeaaLbB
import Derived.Test.YtifmekddikapeaaChecked
import Derived.KernelRfl
namespace Go.Proofs.Ytifmekddikapeaa
open Go.AM
set_option autoImplicit false
set_option linter.unusedVariables false
set_option maxRecDepth 100000
abbrev i_law1_RecJoins : FuncId := 5
abbrev i_law1_RecLengths : FuncId := 7
abbrev i_law1_RecNumbers : FuncId := 3
abbrev i_law1_RecSplits : FuncId := 4
abbrev i_law1_begun : FuncId := 10
abbrev i_ref1_Join : FuncId := 21
abbrev i_ref1_Low : FuncId := 25
abbrev i_ref1_Put : FuncId := 19
abbrev i_ref1_PutVarint : FuncId := 14
abbrev i_ref1_SameRecords : FuncId := 17
abbrev i_ref1_Split : FuncId := 16
abbrev i_ref1_Varint : FuncId := 12
abbrev i_ref1_low : FuncId := 23
abbrev i_rec_Join : FuncId := 20
abbrev i_rec_Put : FuncId := 18
abbrev i_rec_PutVarint : FuncId := 13
abbrev i_rec_Split : FuncId := 15
abbrev i_rec_Varint : FuncId := 11
abbrev i_rec_fixed : FuncId := 28
abbrev i_rec_one : FuncId := 22
abbrev i_rec_size : FuncId := 24
def G_rec_Join : Nat → List V → Option (Bool × V) := fun _ _ => none
def Γ_rec_Join : ASpec := (withB (liftG G_rec_Join))
theorem pureS_rec_Join : PureS Γ_rec_Join [26, 27] := ((withB_pure (liftG_pure _ _)).mono (by decide) (by decide))
theorem spec_rec_Join  : SpecOK Try.prog Γ_rec_Join := by
  refine withB_ok ?_
  intro f vs hp v hp' h
  obtain ⟨h, -⟩ := liftG_inv h
  simp [G_rec_Join] at h
def ir_rec_Join_0 : IR := (.reg [Fa 12 4 5, Ld 13 1 false 12, Pp (.call (some 14) 26 [(.t 3), (.t 13)])] [])
def ir_rec_Join_1 : IR := (.reg [Bc 15 .add 8 1, Mv 8 15] [])
def ir_rec_Join_2 : IR := (.seq (.block 1 (.seq (.reg [Pp (.ixa 10 .record (.t 6) (.t 8)), Ld 11 5 true 10, Pp (.alr 5 5), Pp (.frz none 5 5 (.t 11))] []) ir_rec_Join_0)) ir_rec_Join_1)
def ir_rec_Join_3 : IR := (.seq (.cond (.t 9) .skip (.exit 0)) ir_rec_Join_2)
def ir_rec_Join_4 : IR := (.seq (.reg [Bi 9 .lss 8 7] []) ir_rec_Join_3)
def ir_rec_Join_5 : IR := (.block 0 (.loop [3, 6, 7, 8, 1000000] 1 ir_rec_Join_4))
def ir_rec_Join_6 : IR := .ret
def ir_rec_Join_7 : IR := (.seq (.reg [Pp (.call (some 16) 27 [(.t 3)]), Mv 2 16] []) ir_rec_Join_6)
def ir_rec_Join_8 : IR := (.seq (.seq (.reg [Mv 6 0, Pp (.lenl 7 (.t 6)), Pp (.mov 8 (.c (.int .i64 0)))] []) ir_rec_Join_5) ir_rec_Join_7)
def ir_rec_Join_9 : IR := (.seq (.reg [Pp (.newb 3 [.bn 54 2, .sl .u8 .own ([] : Bs)])] []) ir_rec_Join_8)
def ir_rec_Join : IR := (.seq (.reg [Pp (.mov 2 (.c (.str ([] : Bs))))] []) ir_rec_Join_9)
def rs_rec_Join : List RV := [.t 2]
theorem chk_rec_Join : (chkCode Try.prog [26, 27] 0 ir_rec_Join (Try.f20.body.getD .skip) && chkRes Try.prog rs_rec_Join Try.f20.results.toList) = true := by kernel_rfl
theorem body_rec_Join : Try.f20.body = some (Try.f20.body.getD .skip) := by kernel_rfl
def K_rec_Join_0 (R : IR → (Ex → St → Ro) → St → Ro) (again0 : St → Ro) : Ex → St → Ro := (kloop again0 [3, 6, 7, 8, 1000000] 1 (kblock 0 (kseq (R ir_rec_Join_7) (fin rs_rec_Join))))
abbrev α_rec_Join_0 : Type := (List Record × Int × Int × Bs)
def mk_rec_Join_0 (x : α_rec_Join_0) : St := { env := (U 3 (.ptr 0 0 :: .undef :: .undef :: .sl .record (.may false) x.1 :: .int .i64 x.2.1 :: .int .i64 x.2.2.1 :: (U 8 []))), hp := [some [.bn 54 2, .sl .u8 .own x.2.2.2]] }
def F_rec_Join_0 (N : Nat) : (St → Ro) → St → Ro := fun again0 s => run Γ_rec_Join N ir_rec_Join_4 (K_rec_Join_0 (run Γ_rec_Join N) again0) s
def B_rec_Join_0 (N : Nat) (again0 : α_rec_Join_0 → Ro) (x : α_rec_Join_0) : Ro :=
  let v6 : List Record := x.1
  let v7 : Int := x.2.1
  let v8 : Int := x.2.2.1
  let o0_1 : Bs := x.2.2.2
  cond (decide (v8 < v7)) (
    chk ((decide (0 ≤ v8) && decide (v8 < ↑(List.length v6)))) (
      let x2 : Int := (List.getD v6 (Int.toNat v8) (dflt .record)).num
      let x3 : Int := (List.getD v6 (Int.toNat v8) (dflt .record)).wire
      let x4 : Int := (List.getD v6 (Int.toNat v8) (dflt .record)).n
      let x5 : Bs := (List.getD v6 (Int.toNat v8) (dflt .record)).s
      let x6 : Bs := (List.getD v6 (Int.toNat v8) (dflt .record)).raw
      chk (decide (List.length o0_1 + List.length x6 ≤ 140737488355328)) (
        let x7 : Int := (↑(List.length x6) : Int)
        let x8 : Int := (IntKind.wrap .i64 (v8 + 1))
        again0 (v6, v7, x8, (o0_1 ++ x6))))) (
    some (.str o0_1, [some [.bn 54 2, .sl .u8 (.may false) o0_1]]))
theorem FB_rec_Join_0 (N : Nat) : ∀ (again0 : St → Ro) (x : α_rec_Join_0), F_rec_Join_0 N again0 (mk_rec_Join_0 x) = B_rec_Join_0 N (fun y => again0 (mk_rec_Join_0 y)) x := by
  intro again0 x
  kernel_rfl
/-- proclitic/rec.Join -/
def sa_rec_Join (N : Nat) (p0 : List Record) (q0 : α_rec_Join_0 → Ro) : Ro :=
  let x1 : Int := (↑(List.length p0) : Int)
  q0 (p0, x1, 0, ([] : Bs))
def sh_rec_Join (N : Nat) (p0 : List Record) : Ro := sa_rec_Join N p0 (fun z => iterL N (B_rec_Join_0 N) z)
def X_rec_Join (N : Nat) : List (Nat × (St → Ro)) := cuts Γ_rec_Join N ir_rec_Join (fin rs_rec_Join) ++ []
theorem run_rec_Join (N : Nat) (p0 : List Record) : callF Γ_rec_Join N 17 rs_rec_Join ir_rec_Join [.sl .record (.may false) p0] [] = sh_rec_Join N p0 :=
  (run_of (X_rec_Join N) (by kernel_rfl) rfl (fun C => sa_rec_Join N p0 (fun z => C 1000000 (mk_rec_Join_0 z))) (fun C => by kernel_rfl)).trans (Eq.trans (b := sa_rec_Join N p0 (fun z => loopN N (F_rec_Join_0 N) (mk_rec_Join_0 z))) (by kernel_rfl) (congrArg (sa_rec_Join N p0) (funext fun z => loop_eq (mk_rec_Join_0) (F_rec_Join_0 N) (B_rec_Join_0 N) (FB_rec_Join_0 N) N z)))
theorem ok_rec_Join (hΓ : SpecOK Try.prog Γ_rec_Join) (N : Nat) (p0 : List Record) {v : V} {hp : List AObj} (h : sh_rec_Join N p0 = some (v, hp)) : PureOK Try.prog i_rec_Join [.sl .record (.may false) p0] v := by
  have hc := chk_rec_Join
  simp only [Bool.and_eq_true] at hc
  exact ⟨hp, fnOK_of hΓ pureS_rec_Join Try.func20 body_rec_Join hc.1 hc.2 (by decide) ((run_rec_Join N p0).trans h)⟩

def G_law1_RecJoins : Nat → List V → Option (Bool × V) := fun f vs => match f, vs with
  | 10, [] => some (true, .bool true)
  | 15, [.str a0] => some (true, .tup [.sl .record (.may false) ((splitR a0).1), .int .i64 ((splitR a0).2)])
  | 20, [.sl .record (.may _) a0] => some (decide (List.length (joinR a0) ≤ 140737488355328), .str (joinR a0))
  | _, _ => none
def Γ_law1_RecJoins : ASpec := (liftG G_law1_RecJoins)
theorem pureS_law1_RecJoins : PureS Γ_law1_RecJoins [] := (liftG_pure _ _)
theorem spec_law1_RecJoins (h_law1_begun : PureOK Try.prog i_law1_begun [] (.bool true)) (h_rec_Split : ∀ (a0 : Bs), PureOK Try.prog i_rec_Split [.str a0] (.tup [.sl .record (.may false) ((splitR a0).1), .int .i64 ((splitR a0).2)])) (h_rec_Join : ∀ (a0 : List Record), (decide (List.length (joinR a0) ≤ 140737488355328)) = true → PureOK Try.prog i_rec_Join [.sl .record (.may false) a0] (.str (joinR a0))) : SpecOK Try.prog Γ_law1_RecJoins := by
  intro f vs hp v hp' h0
  obtain ⟨h, he⟩ := liftG_inv h0
  subst he
  unfold G_law1_RecJoins at h
  split at h
  · simp only [Option.some.injEq, Prod.mk.injEq] at h
    obtain ⟨hc, rfl⟩ := h
    exact ((h_law1_begun ).dim rfl).frame rfl rfl _
  · simp only [Option.some.injEq, Prod.mk.injEq] at h
    obtain ⟨hc, rfl⟩ := h
    exact ((h_rec_Split _).dim rfl).frame rfl rfl _
  · simp only [Option.some.injEq, Prod.mk.injEq] at h
    obtain ⟨hc, rfl⟩ := h
    exact ((h_rec_Join _ hc).dim rfl).frame rfl rfl _
  · simp at h
def ir_law1_RecJoins_0 : IR := .ret
def ir_law1_RecJoins_1 : IR := (.cond (.t 16) (.seq (.reg [Pp (.mov 4 (.c (.bool false)))] []) ir_law1_RecJoins_0) .skip)
def ir_law1_RecJoins_2 : IR := .ret
def ir_law1_RecJoins_3 : IR := (.cond (.t 24) (.seq (.reg [Pp (.mov 4 (.c (.bool true)))] []) ir_law1_RecJoins_2) .skip)
def ir_law1_RecJoins_4 : IR := .ret
def ir_law1_RecJoins_5 : IR := (.cond (.t 40) (.seq (.reg [Mv 41 6, Bc 42 .eql 41 0, Mv 43 42, Pg (43, false) (.mov 44 (.t 5)), Pg (43, false) (.lenl 45 (.t 44)), Pg (43, false) (.bin 46 .eql (.t 45) (.c (.int .i64 0))), Po 47 43 46, Mv 48 47, Pg (48, true) (.mov 49 (.t 8)), Pg (48, true) (.bin 50 .eql (.t 49) (.c (.int .i64 0))), Pg (48, true) (.mov 51 (.t 50)), Pg (51, false) (.mov 52 (.t 7)), Pg (51, false) (.lenl 53 (.t 52)), Pg (51, false) (.bin 54 .eql (.t 53) (.c (.int .i64 0))), Pg (48, true) (.pick 55 (.t 51) (.c (.bool true)) (.t 54)), Pa 56 48 55, Mv 4 56] []) ir_law1_RecJoins_4) .skip)
def ir_law1_RecJoins_6 : IR := .ret
def ir_law1_RecJoins_7 : IR := (.cond (.t 81) (.seq (.reg [Pp (.mov 4 (.c (.bool false)))] []) ir_law1_RecJoins_6) .skip)
def ir_law1_RecJoins_8 : IR := (.cond (.t 85) .skip (.exit 0))
def ir_law1_RecJoins_9 : IR := (.cond (.t 92) (.reg [Mv 93 5, Mv 94 11, Pp (.ixa 95 .record (.t 93) (.t 94)), Ld 96 5 true 95, Pp (.st none 5 (.t 12) (.t 96))] []) (.reg [Mv 97 7, Mv 98 11, Mv 99 5, Pp (.lenl 100 (.t 99)), Bi 101 .sub 98 100, Pp (.ixa 102 .record (.t 97) (.t 101)), Ld 103 5 true 102, Pp (.st none 5 (.t 12) (.t 103))] []))
def ir_law1_RecJoins_10 : IR := .ret
def ir_law1_RecJoins_11 : IR := (.cond (.t 134) (.seq (.reg [Pp (.mov 4 (.c (.bool false)))] []) ir_law1_RecJoins_10) .skip)
def ir_law1_RecJoins_12 : IR := (.seq (.reg [Mv 113 9, Mv 114 11, Pp (.ixa 115 .record (.t 113) (.t 114)), Ld 116 5 true 115, ⟨none, .ld 117 5 true false (.t 12), some ([0], [])⟩, Pp (.eqs 118 true [0, 0, 0, 1, 1] (.t 116) (.t 117)), Mv 119 118, Pg (119, false) (.mov 120 (.t 14)), Pg (119, false) (.bin 121 .neq (.t 120) (.c (.int .i64 0))), Po 122 119 121, Mv 123 122, Pg (123, false) (.mov 124 (.t 13)), Pg (123, false) (.lenl 125 (.t 124)), Pg (123, false) (.bin 126 .neq (.t 125) (.c (.int .i64 1))), Po 127 123 126, Mv 128 127, Pg (128, false) (.mov 129 (.t 13)), Pg (128, false) (.ixa 130 .record (.t 129) (.c (.int .i64 0))), Pg (128, false) (.lde 131 5 true (.t 130)), ⟨some (128, false), .ld 132 5 true false (.t 12), some ([0], [])⟩, Pg (128, false) (.eqs 133 true [0, 0, 0, 1, 1] (.t 131) (.t 132)), Po 134 128 133] [[], [], [0, 1], [0, 1, 2], [], [0, 1, 2, 3, 4], [0, 1, 2, 3, 4, 5], [0, 1, 2, 3, 4, 5, 6], [0, 1, 2, 3, 4, 5, 6, 7], [0, 1, 2, 3, 4, 5, 6, 7, 8], [0, 1, 2, 3, 4, 5, 6, 7, 8, 9], [0, 1, 2, 3, 4, 5, 6, 7, 8, 9, 10], [0, 1, 2, 3, 4, 5, 6, 7, 8, 9, 10, 11], [0, 1, 2, 3, 4, 5, 6, 7, 8, 9, 10, 11, 12], [0, 1, 2, 3, 4, 5, 6, 7, 8, 9, 10, 11, 12, 13], [0, 1, 2, 3, 4, 5, 6, 7, 8, 9, 10, 11, 12, 13, 14], [0, 1, 2, 3, 4, 5, 6, 7, 8, 9, 10, 11, 12, 13, 14, 15], [0, 1, 2, 3, 4, 5, 6, 7, 8, 9, 10, 11, 12, 13, 14, 15, 16], [0, 1, 2, 3, 4, 5, 6, 7, 8, 9, 10, 11, 12, 13, 14, 15, 16, 17], [0, 1, 2, 3, 4, 5, 6, 7, 8, 9, 10, 11, 12, 13, 14, 15], [0, 1, 2, 3, 4, 5, 6, 7, 8, 9, 10, 11, 12, 13, 14, 15, 16, 17, 18, 19], [0, 1, 2, 3, 4, 5, 6, 7, 8, 9, 10, 11, 12, 13, 14, 15, 16, 17, 18, 19, 20]]) ir_law1_RecJoins_11)
def ir_law1_RecJoins_13 : IR := (.seq (.reg [Mv 105 9, Mv 106 11, Pp (.ixa 107 .record (.t 105) (.t 106)), Fa 108 4 107, Pp (.ld 109 1 false false (.t 108)), Pp (.call (some 110) 15 [(.t 109)]), Mv 104 110, Ex_ 111 0 104, Ex_ 112 1 104, Mv 13 111, Mv 14 112] []) ir_law1_RecJoins_12)
def ir_law1_RecJoins_14 : IR := (.seq (.seq (.reg [Mv 89 11, Mv 90 5, Pp (.lenl 91 (.t 90)), Bi 92 .lss 89 91] []) ir_law1_RecJoins_9) ir_law1_RecJoins_13)
def ir_law1_RecJoins_15 : IR := (.reg [Mv 86 11, Bc 87 .add 86 1, Mv 11 87] [])
def ir_law1_RecJoins_16 : IR := (.seq (.block 1 (.seq (.reg [Pp (.bld 88 [.int .i64 0, .int .i64 0, .int .u64 0, .str ([] : Bs), .str ([] : Bs)] []), Pp (.new 12 [.int .i64 0, .int .i64 0, .int .u64 0, .str ([] : Bs), .str ([] : Bs)]), Pp (.st none 5 (.t 12) (.t 88))] []) ir_law1_RecJoins_14)) ir_law1_RecJoins_15)
def ir_law1_RecJoins_17 : IR := (.seq (.seq (.reg [Mv 82 11, Mv 83 9, Pp (.lenl 84 (.t 83)), Bi 85 .lss 82 84] []) ir_law1_RecJoins_8) ir_law1_RecJoins_16)
def ir_law1_RecJoins_18 : IR := (.block 0 (.loop [5, 7, 9, 11, 1000000] 0 ir_law1_RecJoins_17))
def ir_law1_RecJoins_19 : IR := .ret
def ir_law1_RecJoins_20 : IR := (.seq (.reg [Pp (.mov 4 (.c (.bool true)))] []) ir_law1_RecJoins_19)
def ir_law1_RecJoins_21 : IR := (.seq (.seq (.reg [Pp (.mov 11 (.c (.int .i64 0)))] []) ir_law1_RecJoins_18) ir_law1_RecJoins_20)
def ir_law1_RecJoins_22 : IR := (.seq (.seq (.reg [Mv 64 10, Bc 65 .neq 64 0, Mv 66 65, Pg (66, false) (.mov 67 (.t 5)), Pg (66, false) (.call (some 68) 20 [(.t 67)]), Pg (66, false) (.mov 69 (.t 0)), Pg (66, false) (.bin 70 .neq (.t 68) (.t 69)), Po 71 66 70, Mv 72 71, Pg (72, false) (.mov 73 (.t 9)), Pg (72, false) (.lenl 74 (.t 73)), Pg (72, false) (.mov 75 (.t 5)), Pg (72, false) (.lenl 76 (.t 75)), Pg (72, false) (.mov 77 (.t 7)), Pg (72, false) (.lenl 78 (.t 77)), Pg (72, false) (.bin 79 .add (.t 76) (.t 78)), Pg (72, false) (.bin 80 .neq (.t 74) (.t 79)), Po 81 72 80] []) ir_law1_RecJoins_7) ir_law1_RecJoins_21)
def ir_law1_RecJoins_23 : IR := (.seq (.reg [Mv 58 0, Mv 59 1, Bi 60 .add 58 59, Pp (.call (some 61) 15 [(.t 60)]), Mv 57 61, Ex_ 62 0 57, Ex_ 63 1 57, Mv 9 62, Mv 10 63] []) ir_law1_RecJoins_22)
def ir_law1_RecJoins_24 : IR := (.seq (.seq (.reg [Mv 35 6, Bc 36 .neq 35 0, Mv 37 36, Pg (37, false) (.mov 38 (.t 8)), Pg (37, false) (.bin 39 .neq (.t 38) (.c (.int .i64 0))), Po 40 37 39] []) ir_law1_RecJoins_5) ir_law1_RecJoins_23)
def ir_law1_RecJoins_25 : IR := (.seq (.reg [Mv 31 1, Pp (.call (some 32) 15 [(.t 31)]), Mv 30 32, Ex_ 33 0 30, Ex_ 34 1 30, Mv 7 33, Mv 8 34] []) ir_law1_RecJoins_24)
def ir_law1_RecJoins_26 : IR := (.seq (.reg [Mv 26 0, Pp (.call (some 27) 15 [(.t 26)]), Mv 25 27, Ex_ 28 0 25, Ex_ 29 1 25, Mv 5 28, Mv 6 29] []) ir_law1_RecJoins_25)
def ir_law1_RecJoins_27 : IR := (.seq (.seq (.reg [Mv 17 0, Pp (.lens 18 (.t 17)), Bc 19 .gtr 18 100, Mv 20 19, Pg (20, false) (.mov 21 (.t 1)), Pg (20, false) (.lens 22 (.t 21)), Pg (20, false) (.bin 23 .gtr (.t 22) (.c (.int .i64 100))), Po 24 20 23] []) ir_law1_RecJoins_3) ir_law1_RecJoins_26)
def ir_law1_RecJoins_28 : IR := (.seq (.seq (.reg [Pp (.call (some 15) 10 []), Pp (.un 16 .not (.t 15))] []) ir_law1_RecJoins_1) ir_law1_RecJoins_27)
def ir_law1_RecJoins : IR := (.seq (.reg [Pp (.mov 4 (.c (.bool false)))] []) ir_law1_RecJoins_28)
def rs_law1_RecJoins : List RV := [.t 4]
theorem chk_law1_RecJoins : (chkCode Try.prog [] 0 ir_law1_RecJoins (Try.f5.body.getD .skip) && chkRes Try.prog rs_law1_RecJoins Try.f5.results.toList) = true := by kernel_rfl
theorem body_law1_RecJoins : Try.f5.body = some (Try.f5.body.getD .skip) := by kernel_rfl
def K_law1_RecJoins_0 (R : IR → (Ex → St → Ro) → St → Ro) (again0 : St → Ro) : Ex → St → Ro := (kloop again0 [5, 7, 9, 11, 1000000] 0 (kblock 0 (kseq (R ir_law1_RecJoins_20) (fin rs_law1_RecJoins))))
abbrev α_law1_RecJoins_0 : Type := (List Record × List Record × List Record × Int)
def mk_law1_RecJoins_0 (x : α_law1_RecJoins_0) : St := { env := (U 5 (.sl .record (.may false) x.1 :: .undef :: .sl .record (.may false) x.2.1 :: .undef :: .sl .record (.may false) x.2.2.1 :: .undef :: .int .i64 x.2.2.2 :: (U 123 []))), hp := [] }
def F_law1_RecJoins_0 (N : Nat) : (St → Ro) → St → Ro := fun again0 s => run Γ_law1_RecJoins N ir_law1_RecJoins_17 (K_law1_RecJoins_0 (run Γ_law1_RecJoins N) again0) s
def B_law1_RecJoins_0 (N : Nat) (again0 : α_law1_RecJoins_0 → Ro) (x : α_law1_RecJoins_0) : Ro :=
  let v5 : List Record := x.1
  let v7 : List Record := x.2.1
  let v9 : List Record := x.2.2.1
  let v11 : Int := x.2.2.2
  let x17 : Int := (↑(List.length v9) : Int)
  cond (decide (v11 < x17)) (
    let x18 : Int := (↑(List.length v5) : Int)
    cond (decide (v11 < x18)) (
      chk ((decide (0 ≤ v11) && decide (v11 < ↑(List.length v5)))) (
        let x19 : Int := (List.getD v5 (Int.toNat v11) (dflt .record)).num
        let x20 : Int := (List.getD v5 (Int.toNat v11) (dflt .record)).wire
        let x21 : Int := (List.getD v5 (Int.toNat v11) (dflt .record)).n
        let x22 : Bs := (List.getD v5 (Int.toNat v11) (dflt .record)).s
        let x23 : Bs := (List.getD v5 (Int.toNat v11) (dflt .record)).raw
        chk ((decide (0 ≤ v11) && decide (v11 < ↑(List.length v9)))) (
          let x24 : Int := (List.getD v9 (Int.toNat v11) (dflt .record)).num
          let x25 : Int := (List.getD v9 (Int.toNat v11) (dflt .record)).wire
          let x26 : Int := (List.getD v9 (Int.toNat v11) (dflt .record)).n
          let x27 : Bs := (List.getD v9 (Int.toNat v11) (dflt .record)).s
          let x28 : Bs := (List.getD v9 (Int.toNat v11) (dflt .record)).raw
          chk ((decide (0 ≤ v11) && decide (v11 < ↑(List.length v9)))) (
            let x29 : Int := (List.getD v9 (Int.toNat v11) (dflt .record)).num
            let x30 : Int := (List.getD v9 (Int.toNat v11) (dflt .record)).wire
            let x31 : Int := (List.getD v9 (Int.toNat v11) (dflt .record)).n
            let x32 : Bs := (List.getD v9 (Int.toNat v11) (dflt .record)).s
            let x33 : Bs := (List.getD v9 (Int.toNat v11) (dflt .record)).raw
            let x34 : Bool := (!((x29 == x19) && ((x30 == x20) && ((x31 == x21) && (decide (x32 = x22) && (decide (x33 = x23) && true))))))
            cond x34 (
              some (.bool false, [some [.int .i64 x19, .int .i64 x20, .int .u64 x21, .str x22, .str x23]])) (
              let x35 : Bool := (!(((splitR x28).2) == 0))
              cond x35 (
                some (.bool false, [some [.int .i64 x19, .int .i64 x20, .int .u64 x21, .str x22, .str x23]])) (
                let x36 : Int := (↑(List.length ((splitR x28).1)) : Int)
                cond (!(x36 == 1)) (
                  some (.bool false, [some [.int .i64 x19, .int .i64 x20, .int .u64 x21, .str x22, .str x23]])) (
                  chk (decide ((0 : Int) < ↑(List.length ((splitR x28).1)))) (
                    let x37 : Int := (List.getD ((splitR x28).1) (Int.toNat 0) (dflt .record)).num
                    let x38 : Int := (List.getD ((splitR x28).1) (Int.toNat 0) (dflt .record)).wire
                    let x39 : Int := (List.getD ((splitR x28).1) (Int.toNat 0) (dflt .record)).n
                    let x40 : Bs := (List.getD ((splitR x28).1) (Int.toNat 0) (dflt .record)).s
                    let x41 : Bs := (List.getD ((splitR x28).1) (Int.toNat 0) (dflt .record)).raw
                    let x42 : Bool := (!((x37 == x19) && ((x38 == x20) && ((x39 == x21) && (decide (x40 = x22) && (decide (x41 = x23) && true))))))
                    cond x42 (
                      some (.bool false, [some [.int .i64 x19, .int .i64 x20, .int .u64 x21, .str x22, .str x23]])) (
                      let x43 : Int := (IntKind.wrap .i64 (v11 + 1))
                      again0 (v5, v7, v9, x43)))))))))) (
      let x44 : Int := (↑(List.length v5) : Int)
      let x45 : Int := (IntKind.wrap .i64 (v11 - x44))
      chk ((decide (0 ≤ x45) && decide (x45 < ↑(List.length v7)))) (
        let x46 : Int := (List.getD v7 (Int.toNat x45) (dflt .record)).num
        let x47 : Int := (List.getD v7 (Int.toNat x45) (dflt .record)).wire
        let x48 : Int := (List.getD v7 (Int.toNat x45) (dflt .record)).n
        let x49 : Bs := (List.getD v7 (Int.toNat x45) (dflt .record)).s
        let x50 : Bs := (List.getD v7 (Int.toNat x45) (dflt .record)).raw
        chk ((decide (0 ≤ v11) && decide (v11 < ↑(List.length v9)))) (
          let x51 : Int := (List.getD v9 (Int.toNat v11) (dflt .record)).num
          let x52 : Int := (List.getD v9 (Int.toNat v11) (dflt .record)).wire
          let x53 : Int := (List.getD v9 (Int.toNat v11) (dflt .record)).n
          let x54 : Bs := (List.getD v9 (Int.toNat v11) (dflt .record)).s
          let x55 : Bs := (List.getD v9 (Int.toNat v11) (dflt .record)).raw
          chk ((decide (0 ≤ v11) && decide (v11 < ↑(List.length v9)))) (
            let x56 : Int := (List.getD v9 (Int.toNat v11) (dflt .record)).num
            let x57 : Int := (List.getD v9 (Int.toNat v11) (dflt .record)).wire
            let x58 : Int := (List.getD v9 (Int.toNat v11) (dflt .record)).n
            let x59 : Bs := (List.getD v9 (Int.toNat v11) (dflt .record)).s
            let x60 : Bs := (List.getD v9 (Int.toNat v11) (dflt .record)).raw
            let x61 : Bool := (!((x56 == x46) && ((x57 == x47) && ((x58 == x48) && (decide (x59 = x49) && (decide (x60 = x50) && true))))))
            cond x61 (
              some (.bool false, [some [.int .i64 x46, .int .i64 x47, .int .u64 x48, .str x49, .str x50]])) (
              let x62 : Bool := (!(((splitR x55).2) == 0))
              cond x62 (
                some (.bool false, [some [.int .i64 x46, .int .i64 x47, .int .u64 x48, .str x49, .str x50]])) (
                let x63 : Int := (↑(List.length ((splitR x55).1)) : Int)
                cond (!(x63 == 1)) (
                  some (.bool false, [some [.int .i64 x46, .int .i64 x47, .int .u64 x48, .str x49, .str x50]])) (
                  chk (decide ((0 : Int) < ↑(List.length ((splitR x55).1)))) (
                    let x64 : Int := (List.getD ((splitR x55).1) (Int.toNat 0) (dflt .record)).num
                    let x65 : Int := (List.getD ((splitR x55).1) (Int.toNat 0) (dflt .record)).wire
                    let x66 : Int := (List.getD ((splitR x55).1) (Int.toNat 0) (dflt .record)).n
                    let x67 : Bs := (List.getD ((splitR x55).1) (Int.toNat 0) (dflt .record)).s
                    let x68 : Bs := (List.getD ((splitR x55).1) (Int.toNat 0) (dflt .record)).raw
                    let x69 : Bool := (!((x64 == x46) && ((x65 == x47) && ((x66 == x48) && (decide (x67 = x49) && (decide (x68 = x50) && true))))))
                    cond x69 (
                      some (.bool false, [some [.int .i64 x46, .int .i64 x47, .int .u64 x48, .str x49, .str x50]])) (
                      let x70 : Int := (IntKind.wrap .i64 (v11 + 1))
                      again0 (v5, v7, v9, x70))))))))))) (
    some (.bool true, []))
theorem FB_law1_RecJoins_0 (N : Nat) : ∀ (again0 : St → Ro) (x : α_law1_RecJoins_0), F_law1_RecJoins_0 N again0 (mk_law1_RecJoins_0 x) = B_law1_RecJoins_0 N (fun y => again0 (mk_law1_RecJoins_0 y)) x := by
  intro again0 x
  kernel_rfl
/-- proclitic/procliticlaw1.RecJoins -/
def sa_law1_RecJoins (N : Nat) (p0 : Bs) (p1 : Bs) (q0 : α_law1_RecJoins_0 → Ro) : Ro :=
  let x1 : Int := (↑(List.length p0) : Int)
  cond (decide (100 < x1)) (
    some (.bool true, [])) (
    let x2 : Int := (↑(List.length p1) : Int)
    cond (decide (100 < x2)) (
      some (.bool true, [])) (
      let x3 : Bool := (!(((splitR p0).2) == 0))
      cond x3 (
        cond (((splitR p0).2) == 0) (
          cond (((splitR p1).2) == 0) (
            some (.bool true, [])) (
            let x4 : Int := (↑(List.length ((splitR p1).1)) : Int)
            some (.bool (x4 == 0), []))) (
          let x5 : Int := (↑(List.length ((splitR p0).1)) : Int)
          cond (x5 == 0) (
            cond (((splitR p1).2) == 0) (
              some (.bool true, [])) (
              let x6 : Int := (↑(List.length ((splitR p1).1)) : Int)
              some (.bool (x6 == 0), []))) (
            some (.bool false, [])))) (
        let x7 : Bool := (!(((splitR p1).2) == 0))
        cond x7 (
          cond (((splitR p0).2) == 0) (
            cond (((splitR p1).2) == 0) (
              some (.bool true, [])) (
              let x8 : Int := (↑(List.length ((splitR p1).1)) : Int)
              some (.bool (x8 == 0), []))) (
            let x9 : Int := (↑(List.length ((splitR p0).1)) : Int)
            cond (x9 == 0) (
              cond (((splitR p1).2) == 0) (
                some (.bool true, [])) (
                let x10 : Int := (↑(List.length ((splitR p1).1)) : Int)
                some (.bool (x10 == 0), []))) (
              some (.bool false, [])))) (
          chk (decide (List.length p0 + List.length p1 ≤ 9223372036854775807)) (
            let x11 : Bool := (!(((splitR (p0 ++ p1)).2) == 0))
            cond x11 (
              some (.bool false, [])) (
              chk (decide (List.length (joinR ((splitR p0).1)) ≤ 140737488355328)) (
                let x12 : Bool := (!decide ((joinR ((splitR p0).1)) = p0))
                cond x12 (
                  some (.bool false, [])) (
                  let x13 : Int := (↑(List.length ((splitR (p0 ++ p1)).1)) : Int)
                  let x14 : Int := (↑(List.length ((splitR p0).1)) : Int)
                  let x15 : Int := (↑(List.length ((splitR p1).1)) : Int)
                  let x16 : Int := (IntKind.wrap .i64 (x14 + x15))
                  cond (!(x13 == x16)) (
                    some (.bool false, [])) (
                    q0 ((splitR p0).1, (splitR p1).1, (splitR (p0 ++ p1)).1, 0))))))))))
def sh_law1_RecJoins (N : Nat) (p0 : Bs) (p1 : Bs) : Ro := sa_law1_RecJoins N p0 p1 (fun z => iterL N (B_law1_RecJoins_0 N) z)
def X_law1_RecJoins (N : Nat) : List (Nat × (St → Ro)) := cuts Γ_law1_RecJoins N ir_law1_RecJoins (fin rs_law1_RecJoins) ++ []
theorem run_law1_RecJoins (N : Nat) (p0 : Bs) (p1 : Bs) : callF Γ_law1_RecJoins N 135 rs_law1_RecJoins ir_law1_RecJoins [.str p0, .str p1] [] = sh_law1_RecJoins N p0 p1 :=
  (run_of (X_law1_RecJoins N) (by kernel_rfl) rfl (fun C => sa_law1_RecJoins N p0 p1 (fun z => C 1000000 (mk_law1_RecJoins_0 z))) (fun C => by kernel_rfl)).trans (Eq.trans (b := sa_law1_RecJoins N p0 p1 (fun z => loopN N (F_law1_RecJoins_0 N) (mk_law1_RecJoins_0 z))) (by kernel_rfl) (congrArg (sa_law1_RecJoins N p0 p1) (funext fun z => loop_eq (mk_law1_RecJoins_0) (F_law1_RecJoins_0 N) (B_law1_RecJoins_0 N) (FB_law1_RecJoins_0 N) N z)))
theorem ok_law1_RecJoins (hΓ : SpecOK Try.prog Γ_law1_RecJoins) (N : Nat) (p0 : Bs) (p1 : Bs) {v : V} {hp : List AObj} (h : sh_law1_RecJoins N p0 p1 = some (v, hp)) : PureOK Try.prog i_law1_RecJoins [.str p0, .str p1] v := by
  have hc := chk_law1_RecJoins
  simp only [Bool.and_eq_true] at hc
  exact ⟨hp, fnOK_of hΓ pureS_law1_RecJoins Try.func5 body_law1_RecJoins hc.1 hc.2 (by decide) ((run_law1_RecJoins N p0 p1).trans h)⟩

def G_rec_Varint : Nat → List V → Option (Bool × V) := fun _ _ => none
def Γ_rec_Varint : ASpec := (liftG G_rec_Varint)
theorem pureS_rec_Varint : PureS Γ_rec_Varint [] := (liftG_pure _ _)
theorem spec_rec_Varint  : SpecOK Try.prog Γ_rec_Varint := by
  intro f vs hp v hp' h
  obtain ⟨h, -⟩ := liftG_inv h
  simp [G_rec_Varint] at h
def ir_rec_Varint_0 : IR := (.cond (.t 13) .skip (.exit 0))
def ir_rec_Varint_1 : IR := .ret
def ir_rec_Varint_2 : IR := (.cond (.t 23) (.seq (.reg [Pp (.mov 2 (.c (.int .u64 0))), Pp (.mov 3 (.c (.int .i64 0))), Pp (.mov 4 (.c (.int .i64 2)))] []) ir_rec_Varint_1) .skip)
def ir_rec_Varint_3 : IR := .ret
def ir_rec_Varint_4 : IR := (.cond (.t 34) (.seq (.reg [Mv 35 2, Mv 36 3, Mv 2 35, Mv 3 36, Pp (.mov 4 (.c (.int .i64 0)))] []) ir_rec_Varint_3) .skip)
def ir_rec_Varint_5 : IR := (.seq (.reg [Mv 33 5, Pp (.bin 34 .lss (.t 33) (.c (.int .u64 128)))] []) ir_rec_Varint_4)
def ir_rec_Varint_6 : IR := (.seq (.reg [Mv 31 3, Bc 32 .add 31 1, Mv 3 32] []) ir_rec_Varint_5)
def ir_rec_Varint_7 : IR := (.seq (.reg [Mv 24 2, Mv 25 5, Pp (.bin 26 .rem (.t 25) (.c (.int .u64 128))), Mv 27 3, Pp (.bin 28 .mul (.c (.int .i64 7)) (.t 27)), Bi 29 .shl 26 28, Bi 30 .or 24 29, Mv 2 30] []) ir_rec_Varint_6)
def ir_rec_Varint_8 : IR := (.seq (.seq (.reg [Mv 18 3, Bc 19 .eql 18 9, Mv 20 19, Pg (20, true) (.mov 21 (.t 5)), Pg (20, true) (.bin 22 .gtr (.t 21) (.c (.int .u64 1))), Pa 23 20 22] []) ir_rec_Varint_2) ir_rec_Varint_7)
def ir_rec_Varint_9 : IR := (.block 1 (.seq (.reg [Mv 14 0, Mv 15 3, Pp (.idx 16 (.t 14) (.t 15)), Pp (.cvi 17 .u64 (.t 16)), Mv 5 17] []) ir_rec_Varint_8))
def ir_rec_Varint_10 : IR := (.seq (.seq (.reg [Mv 6 3, Mv 7 0, Pp (.lens 8 (.t 7)), Bi 9 .lss 6 8, Mv 10 9, Pg (10, true) (.mov 11 (.t 3)), Pg (10, true) (.bin 12 .lss (.t 11) (.c (.int .i64 10))), Pa 13 10 12] []) ir_rec_Varint_0) ir_rec_Varint_9)
def ir_rec_Varint_11 : IR := .ret
def ir_rec_Varint_12 : IR := (.seq (.reg [Pp (.mov 2 (.c (.int .u64 0))), Pp (.mov 3 (.c (.int .i64 0))), Pp (.mov 4 (.c (.int .i64 2)))] []) ir_rec_Varint_11)
def ir_rec_Varint_13 : IR := (.seq (.block 0 (.loop [0, 2, 3, 1000000] 0 ir_rec_Varint_10)) ir_rec_Varint_12)
def ir_rec_Varint : IR := (.seq (.reg [Pp (.mov 2 (.c (.int .u64 0))), Pp (.mov 3 (.c (.int .i64 0))), Pp (.mov 4 (.c (.int .i64 0)))] []) ir_rec_Varint_13)
def rs_rec_Varint : List RV := [.t 2, .t 3, .t 4]
theorem chk_rec_Varint : (chkCode Try.prog [] 0 ir_rec_Varint (Try.f11.body.getD .skip) && chkRes Try.prog rs_rec_Varint Try.f11.results.toList) = true := by kernel_rfl
theorem body_rec_Varint : Try.f11.body = some (Try.f11.body.getD .skip) := by kernel_rfl
def K_rec_Varint_0 (R : IR → (Ex → St → Ro) → St → Ro) (again0 : St → Ro) : Ex → St → Ro := (kloop again0 [0, 2, 3, 1000000] 0 (kblock 0 (kseq (R ir_rec_Varint_12) (fin rs_rec_Varint))))
abbrev α_rec_Varint_0 : Type := (Bs × Int × Int)
def mk_rec_Varint_0 (x : α_rec_Varint_0) : St := { env := (.str x.1 :: .undef :: .int .u64 x.2.1 :: .int .i64 x.2.2 :: (U 33 [])), hp := [] }
def F_rec_Varint_0 (N : Nat) : (St → Ro) → St → Ro := fun again0 s => run Γ_rec_Varint N ir_rec_Varint_10 (K_rec_Varint_0 (run Γ_rec_Varint N) again0) s
def B_rec_Varint_0 (N : Nat) (again0 : α_rec_Varint_0 → Ro) (x : α_rec_Varint_0) : Ro :=
  let v0 : Bs := x.1
  let v2 : Int := x.2.1
  let v3 : Int := x.2.2
  let x1 : Int := (↑(List.length v0) : Int)
  cond (decide (v3 < x1)) (
    cond (decide (v3 < 10)) (
      chk ((decide (0 ≤ v3) && decide (v3 < ↑(List.length v0)))) (
        let x2 : Int := (↑(UInt8.toNat (List.getD v0 (Int.toNat v3) 0)) : Int)
        cond (v3 == 9) (
          let x3 : Bool := decide (1 < (IntKind.wrap .u64 x2))
          cond x3 (
            some (.tup [.int .u64 0, .int .i64 0, .int .i64 2], [])) (
            let x4 : Int := (Int.tmod (IntKind.wrap .u64 x2) 128)
            let x5 : Int := (IntKind.wrap .i64 (7 * v3))
            chk (decide (0 ≤ x5)) (
              let x6 : Int := (bitsI .or .u64 v2 (shlI .u64 x4 x5))
              let x7 : Int := (IntKind.wrap .i64 (v3 + 1))
              let x8 : Bool := decide ((IntKind.wrap .u64 x2) < 128)
              cond x8 (
                some (.tup [.int .u64 x6, .int .i64 x7, .int .i64 0], [])) (
                again0 (v0, x6, x7))))) (
          let x9 : Int := (Int.tmod (IntKind.wrap .u64 x2) 128)
          let x10 : Int := (IntKind.wrap .i64 (7 * v3))
          chk (decide (0 ≤ x10)) (
            let x11 : Int := (bitsI .or .u64 v2 (shlI .u64 x9 x10))
            let x12 : Int := (IntKind.wrap .i64 (v3 + 1))
            let x13 : Bool := decide ((IntKind.wrap .u64 x2) < 128)
            cond x13 (
              some (.tup [.int .u64 x11, .int .i64 x12, .int .i64 0], [])) (
              again0 (v0, x11, x12)))))) (
      some (.tup [.int .u64 0, .int .i64 0, .int .i64 2], []))) (
    some (.tup [.int .u64 0, .int .i64 0, .int .i64 2], []))
theorem FB_rec_Varint_0 (N : Nat) : ∀ (again0 : St → Ro) (x : α_rec_Varint_0), F_rec_Varint_0 N again0 (mk_rec_Varint_0 x) = B_rec_Varint_0 N (fun y => again0 (mk_rec_Varint_0 y)) x := by
  intro again0 x
  kernel_rfl
/-- proclitic/rec.Varint -/
def sa_rec_Varint (N : Nat) (p0 : Bs) (q0 : α_rec_Varint_0 → Ro) : Ro :=
  q0 (p0, 0, 0)
def sh_rec_Varint (N : Nat) (p0 : Bs) : Ro := sa_rec_Varint N p0 (fun z => iterL N (B_rec_Varint_0 N) z)
def X_rec_Varint (N : Nat) : List (Nat × (St → Ro)) := cuts Γ_rec_Varint N ir_rec_Varint (fin rs_rec_Varint) ++ []
theorem run_rec_Varint (N : Nat) (p0 : Bs) : callF Γ_rec_Varint N 37 rs_rec_Varint ir_rec_Varint [.str p0] [] = sh_rec_Varint N p0 :=
  (run_of (X_rec_Varint N) (by kernel_rfl) rfl (fun C => sa_rec_Varint N p0 (fun z => C 1000000 (mk_rec_Varint_0 z))) (fun C => by kernel_rfl)).trans (Eq.trans (b := sa_rec_Varint N p0 (fun z => loopN N (F_rec_Varint_0 N) (mk_rec_Varint_0 z))) (by kernel_rfl) (congrArg (sa_rec_Varint N p0) (funext fun z => loop_eq (mk_rec_Varint_0) (F_rec_Varint_0 N) (B_rec_Varint_0 N) (FB_rec_Varint_0 N) N z)))
theorem ok_rec_Varint (hΓ : SpecOK Try.prog Γ_rec_Varint) (N : Nat) (p0 : Bs) {v : V} {hp : List AObj} (h : sh_rec_Varint N p0 = some (v, hp)) : PureOK Try.prog i_rec_Varint [.str p0] v := by
  have hc := chk_rec_Varint
  simp only [Bool.and_eq_true] at hc
  exact ⟨hp, fnOK_of hΓ pureS_rec_Varint Try.func11 body_rec_Varint hc.1 hc.2 (by decide) ((run_rec_Varint N p0).trans h)⟩

def G_ref1_Varint : Nat → List V → Option (Bool × V) := fun _ _ => none
def Γ_ref1_Varint : ASpec := (liftG G_ref1_Varint)
theorem pureS_ref1_Varint : PureS Γ_ref1_Varint [] := (liftG_pure _ _)
theorem spec_ref1_Varint  : SpecOK Try.prog Γ_ref1_Varint := by
  intro f vs hp v hp' h
  obtain ⟨h, -⟩ := liftG_inv h
  simp [G_ref1_Varint] at h
def ir_ref1_Varint_0 : IR := (.cond (.t 9) .skip (.exit 0))
def ir_ref1_Varint_1 : IR := (.cond (.t 15) (.exit 0) .skip)
def ir_ref1_Varint_2 : IR := (.cond (.t 25) (.exit 0) .skip)
def ir_ref1_Varint_3 : IR := .ret
def ir_ref1_Varint_4 : IR := (.cond (.t 34) (.seq (.reg [Mv 35 5, Mv 36 6, Bc 37 .add 36 1, Mv 2 35, Mv 3 37, Pp (.mov 4 (.c (.int .i64 0)))] []) ir_ref1_Varint_3) .skip)
def ir_ref1_Varint_5 : IR := (.seq (.reg [Mv 33 7, Pp (.bin 34 .lss (.t 33) (.c (.int .u64 128)))] []) ir_ref1_Varint_4)
def ir_ref1_Varint_6 : IR := (.seq (.reg [Mv 26 5, Mv 27 7, Pp (.bin 28 .rem (.t 27) (.c (.int .u64 128))), Mv 29 6, Pp (.bin 30 .mul (.c (.int .i64 7)) (.t 29)), Bi 31 .shl 28 30, Bi 32 .or 26 31, Mv 5 32] []) ir_ref1_Varint_5)
def ir_ref1_Varint_7 : IR := (.seq (.seq (.reg [Mv 20 6, Bc 21 .eql 20 9, Mv 22 21, Pg (22, true) (.mov 23 (.t 7)), Pg (22, true) (.bin 24 .gtr (.t 23) (.c (.int .u64 1))), Pa 25 22 24] []) ir_ref1_Varint_2) ir_ref1_Varint_6)
def ir_ref1_Varint_8 : IR := (.seq (.reg [Mv 16 0, Mv 17 6, Pp (.idx 18 (.t 16) (.t 17)), Pp (.cvi 19 .u64 (.t 18)), Mv 7 19] []) ir_ref1_Varint_7)
def ir_ref1_Varint_9 : IR := (.reg [Mv 10 6, Bc 11 .add 10 1, Mv 6 11] [])
def ir_ref1_Varint_10 : IR := (.seq (.block 1 (.seq (.seq (.reg [Mv 12 6, Mv 13 0, Pp (.lens 14 (.t 13)), Bi 15 .eql 12 14] []) ir_ref1_Varint_1) ir_ref1_Varint_8)) ir_ref1_Varint_9)
def ir_ref1_Varint_11 : IR := (.seq (.seq (.reg [Mv 8 6, Bc 9 .lss 8 10] []) ir_ref1_Varint_0) ir_ref1_Varint_10)
def ir_ref1_Varint_12 : IR := (.block 0 (.loop [0, 5, 6, 1000000] 0 ir_ref1_Varint_11))
def ir_ref1_Varint_13 : IR := .ret
def ir_ref1_Varint_14 : IR := (.seq (.reg [Pp (.mov 2 (.c (.int .u64 0))), Pp (.mov 3 (.c (.int .i64 0))), Pp (.mov 4 (.c (.int .i64 2)))] []) ir_ref1_Varint_13)
def ir_ref1_Varint_15 : IR := (.seq (.seq (.reg [Pp (.mov 6 (.c (.int .i64 0)))] []) ir_ref1_Varint_12) ir_ref1_Varint_14)
def ir_ref1_Varint_16 : IR := (.seq (.reg [Pp (.mov 5 (.c (.int .u64 0)))] []) ir_ref1_Varint_15)
def ir_ref1_Varint : IR := (.seq (.reg [Pp (.mov 2 (.c (.int .u64 0))), Pp (.mov 3 (.c (.int .i64 0))), Pp (.mov 4 (.c (.int .i64 0)))] []) ir_ref1_Varint_16)
def rs_ref1_Varint : List RV := [.t 2, .t 3, .t 4]
theorem chk_ref1_Varint : (chkCode Try.prog [] 0 ir_ref1_Varint (Try.f12.body.getD .skip) && chkRes Try.prog rs_ref1_Varint Try.f12.results.toList) = true := by kernel_rfl
theorem body_ref1_Varint : Try.f12.body = some (Try.f12.body.getD .skip) := by kernel_rfl
def K_ref1_Varint_0 (R : IR → (Ex → St → Ro) → St → Ro) (again0 : St → Ro) : Ex → St → Ro := (kloop again0 [0, 5, 6, 1000000] 0 (kblock 0 (kseq (R ir_ref1_Varint_14) (fin rs_ref1_Varint))))
abbrev α_ref1_Varint_0 : Type := (Bs × Int × Int)
def mk_ref1_Varint_0 (x : α_ref1_Varint_0) : St := { env := (.str x.1 :: (U 4 (.int .u64 x.2.1 :: .int .i64 x.2.2 :: (U 31 [])))), hp := [] }
def F_ref1_Varint_0 (N : Nat) : (St → Ro) → St → Ro := fun again0 s => run Γ_ref1_Varint N ir_ref1_Varint_11 (K_ref1_Varint_0 (run Γ_ref1_Varint N) again0) s
def B_ref1_Varint_0 (N : Nat) (again0 : α_ref1_Varint_0 → Ro) (x : α_ref1_Varint_0) : Ro :=
  let v0 : Bs := x.1
  let v5 : Int := x.2.1
  let v6 : Int := x.2.2
  cond (decide (v6 < 10)) (
    let x1 : Int := (↑(List.length v0) : Int)
    cond (v6 == x1) (
      some (.tup [.int .u64 0, .int .i64 0, .int .i64 2], [])) (
      chk ((decide (0 ≤ v6) && decide (v6 < ↑(List.length v0)))) (
        let x2 : Int := (↑(UInt8.toNat (List.getD v0 (Int.toNat v6) 0)) : Int)
        cond (v6 == 9) (
          let x3 : Bool := decide (1 < (IntKind.wrap .u64 x2))
          cond x3 (
            some (.tup [.int .u64 0, .int .i64 0, .int .i64 2], [])) (
            let x4 : Int := (Int.tmod (IntKind.wrap .u64 x2) 128)
            let x5 : Int := (IntKind.wrap .i64 (7 * v6))
            chk (decide (0 ≤ x5)) (
              let x6 : Int := (bitsI .or .u64 v5 (shlI .u64 x4 x5))
              let x7 : Bool := decide ((IntKind.wrap .u64 x2) < 128)
              cond x7 (
                let x8 : Int := (IntKind.wrap .i64 (v6 + 1))
                some (.tup [.int .u64 x6, .int .i64 x8, .int .i64 0], [])) (
                let x9 : Int := (IntKind.wrap .i64 (v6 + 1))
                again0 (v0, x6, x9))))) (
          let x10 : Int := (Int.tmod (IntKind.wrap .u64 x2) 128)
          let x11 : Int := (IntKind.wrap .i64 (7 * v6))
          chk (decide (0 ≤ x11)) (
            let x12 : Int := (bitsI .or .u64 v5 (shlI .u64 x10 x11))
            let x13 : Bool := decide ((IntKind.wrap .u64 x2) < 128)
            cond x13 (
              let x14 : Int := (IntKind.wrap .i64 (v6 + 1))
              some (.tup [.int .u64 x12, .int .i64 x14, .int .i64 0], [])) (
              let x15 : Int := (IntKind.wrap .i64 (v6 + 1))
              again0 (v0, x12, x15))))))) (
    some (.tup [.int .u64 0, .int .i64 0, .int .i64 2], []))
theorem FB_ref1_Varint_0 (N : Nat) : ∀ (again0 : St → Ro) (x : α_ref1_Varint_0), F_ref1_Varint_0 N again0 (mk_ref1_Varint_0 x) = B_ref1_Varint_0 N (fun y => again0 (mk_ref1_Varint_0 y)) x := by
  intro again0 x
  kernel_rfl
/-- proclitic/procliticref1.Varint -/
def sa_ref1_Varint (N : Nat) (p0 : Bs) (q0 : α_ref1_Varint_0 → Ro) : Ro :=
  q0 (p0, 0, 0)
def sh_ref1_Varint (N : Nat) (p0 : Bs) : Ro := sa_ref1_Varint N p0 (fun z => iterL N (B_ref1_Varint_0 N) z)
def X_ref1_Varint (N : Nat) : List (Nat × (St → Ro)) := cuts Γ_ref1_Varint N ir_ref1_Varint (fin rs_ref1_Varint) ++ []
theorem run_ref1_Varint (N : Nat) (p0 : Bs) : callF Γ_ref1_Varint N 38 rs_ref1_Varint ir_ref1_Varint [.str p0] [] = sh_ref1_Varint N p0 :=
  (run_of (X_ref1_Varint N) (by kernel_rfl) rfl (fun C => sa_ref1_Varint N p0 (fun z => C 1000000 (mk_ref1_Varint_0 z))) (fun C => by kernel_rfl)).trans (Eq.trans (b := sa_ref1_Varint N p0 (fun z => loopN N (F_ref1_Varint_0 N) (mk_ref1_Varint_0 z))) (by kernel_rfl) (congrArg (sa_ref1_Varint N p0) (funext fun z => loop_eq (mk_ref1_Varint_0) (F_ref1_Varint_0 N) (B_ref1_Varint_0 N) (FB_ref1_Varint_0 N) N z)))
theorem ok_ref1_Varint (hΓ : SpecOK Try.prog Γ_ref1_Varint) (N : Nat) (p0 : Bs) {v : V} {hp : List AObj} (h : sh_ref1_Varint N p0 = some (v, hp)) : PureOK Try.prog i_ref1_Varint [.str p0] v := by
  have hc := chk_ref1_Varint
  simp only [Bool.and_eq_true] at hc
  exact ⟨hp, fnOK_of hΓ pureS_ref1_Varint Try.func12 body_ref1_Varint hc.1 hc.2 (by decide) ((run_ref1_Varint N p0).trans h)⟩

def G_rec_PutVarint : Nat → List V → Option (Bool × V) := fun _ _ => none
def Γ_rec_PutVarint : ASpec := (liftG G_rec_PutVarint)
theorem pureS_rec_PutVarint : PureS Γ_rec_PutVarint [] := (liftG_pure _ _)
theorem spec_rec_PutVarint  : SpecOK Try.prog Γ_rec_PutVarint := by
  intro f vs hp v hp' h
  obtain ⟨h, -⟩ := liftG_inv h
  simp [G_rec_PutVarint] at h
def ir_rec_PutVarint_0 : IR := (.cond (.t 5) .skip (.exit 0))
def ir_rec_PutVarint_1 : IR := (.reg [Mv 13 0, Pp (.bin 14 .shr (.t 13) (.c (.int .u64 7))), Mv 0 14] [])
def ir_rec_PutVarint_2 : IR := (.block 1 (.seq (.reg [Pp (.mov 6 (.tk 3)), Mv 7 0, Pp (.bin 8 .rem (.t 7) (.c (.int .u64 128))), Pp (.bin 9 .add (.t 8) (.c (.int .u64 128))), Pp (.cvi 10 .u8 (.t 9)), Pp (.bsl 11 .u8 [(.t 10)] false), Pp (.app 12 .u8 (.tk 6) (.t 11)), Pp (.mov 3 (.tk 12))] []) ir_rec_PutVarint_1))
def ir_rec_PutVarint_3 : IR := (.seq (.seq (.reg [Mv 4 0, Pp (.bin 5 .geq (.t 4) (.c (.int .u64 128)))] []) ir_rec_PutVarint_0) ir_rec_PutVarint_2)
def ir_rec_PutVarint_4 : IR := .ret
def ir_rec_PutVarint_5 : IR := (.seq (.reg [Pp (.mov 15 (.tk 3)), Mv 16 0, Pp (.cvi 17 .u8 (.t 16)), Pp (.bsl 18 .u8 [(.t 17)] false), Pp (.app 19 .u8 (.tk 15) (.t 18)), Pp (.b2s 20 (.t 19)), Mv 2 20] []) ir_rec_PutVarint_4)
def ir_rec_PutVarint_6 : IR := (.seq (.block 0 (.loop [0, 3, 1000000] 0 ir_rec_PutVarint_3)) ir_rec_PutVarint_5)
def ir_rec_PutVarint_7 : IR := (.seq (.reg [Pp (.mov 3 (.c (.sl .u8 .own ([] : Bs))))] []) ir_rec_PutVarint_6)
def ir_rec_PutVarint : IR := (.seq (.reg [Pp (.mov 2 (.c (.str ([] : Bs))))] []) ir_rec_PutVarint_7)
def rs_rec_PutVarint : List RV := [.t 2]
theorem chk_rec_PutVarint : (chkCode Try.prog [] 0 ir_rec_PutVarint (Try.f13.body.getD .skip) && chkRes Try.prog rs_rec_PutVarint Try.f13.results.toList) = true := by kernel_rfl
theorem body_rec_PutVarint : Try.f13.body = some (Try.f13.body.getD .skip) := by kernel_rfl
def K_rec_PutVarint_0 (R : IR → (Ex → St → Ro) → St → Ro) (again0 : St → Ro) : Ex → St → Ro := (kloop again0 [0, 3, 1000000] 0 (kblock 0 (kseq (R ir_rec_PutVarint_5) (fin rs_rec_PutVarint))))
abbrev α_rec_PutVarint_0 : Type := (Int × Bs)
def mk_rec_PutVarint_0 (x : α_rec_PutVarint_0) : St := { env := (.int .u64 x.1 :: .undef :: .undef :: .sl .u8 .own x.2 :: (U 17 [])), hp := [] }
def F_rec_PutVarint_0 (N : Nat) : (St → Ro) → St → Ro := fun again0 s => run Γ_rec_PutVarint N ir_rec_PutVarint_3 (K_rec_PutVarint_0 (run Γ_rec_PutVarint N) again0) s
def B_rec_PutVarint_0 (N : Nat) (again0 : α_rec_PutVarint_0 → Ro) (x : α_rec_PutVarint_0) : Ro :=
  let v0 : Int := x.1
  let v3 : Bs := x.2
  cond (decide (128 ≤ v0)) (
    let x1 : Int := (IntKind.wrap .u64 ((Int.tmod v0 128) + 128))
    chk (decide ((List.length v3 + List.length ([(UInt8.ofNat (Int.toNat (IntKind.wrap .u8 x1)))] : Bs)) * 1 ≤ 140737488355328)) (
      let x2 : Bs := (v3 ++ ([(UInt8.ofNat (Int.toNat (IntKind.wrap .u8 x1)))] : Bs))
      again0 ((shrI .u64 v0 7), x2))) (
    chk (decide ((List.length v3 + List.length ([(UInt8.ofNat (Int.toNat (IntKind.wrap .u8 v0)))] : Bs)) * 1 ≤ 140737488355328)) (
      let x3 : Bs := (v3 ++ ([(UInt8.ofNat (Int.toNat (IntKind.wrap .u8 v0)))] : Bs))
      some (.str x3, [])))
theorem FB_rec_PutVarint_0 (N : Nat) : ∀ (again0 : St → Ro) (x : α_rec_PutVarint_0), F_rec_PutVarint_0 N again0 (mk_rec_PutVarint_0 x) = B_rec_PutVarint_0 N (fun y => again0 (mk_rec_PutVarint_0 y)) x := by
  intro again0 x
  kernel_rfl
/-- proclitic/rec.PutVarint -/
def sa_rec_PutVarint (N : Nat) (p0 : Int) (q0 : α_rec_PutVarint_0 → Ro) : Ro :=
  q0 (p0, ([] : Bs))
def sh_rec_PutVarint (N : Nat) (p0 : Int) : Ro := sa_rec_PutVarint N p0 (fun z => iterL N (B_rec_PutVarint_0 N) z)
def X_rec_PutVarint (N : Nat) : List (Nat × (St → Ro)) := cuts Γ_rec_PutVarint N ir_rec_PutVarint (fin rs_rec_PutVarint) ++ []
theorem run_rec_PutVarint (N : Nat) (p0 : Int) : callF Γ_rec_PutVarint N 21 rs_rec_PutVarint ir_rec_PutVarint [.int .u64 p0] [] = sh_rec_PutVarint N p0 :=
  (run_of (X_rec_PutVarint N) (by kernel_rfl) rfl (fun C => sa_rec_PutVarint N p0 (fun z => C 1000000 (mk_rec_PutVarint_0 z))) (fun C => by kernel_rfl)).trans (Eq.trans (b := sa_rec_PutVarint N p0 (fun z => loopN N (F_rec_PutVarint_0 N) (mk_rec_PutVarint_0 z))) (by kernel_rfl) (congrArg (sa_rec_PutVarint N p0) (funext fun z => loop_eq (mk_rec_PutVarint_0) (F_rec_PutVarint_0 N) (B_rec_PutVarint_0 N) (FB_rec_PutVarint_0 N) N z)))
theorem ok_rec_PutVarint (hΓ : SpecOK Try.prog Γ_rec_PutVarint) (N : Nat) (p0 : Int) {v : V} {hp : List AObj} (h : sh_rec_PutVarint N p0 = some (v, hp)) : PureOK Try.prog i_rec_PutVarint [.int .u64 p0] v := by
  have hc := chk_rec_PutVarint
  simp only [Bool.and_eq_true] at hc
  exact ⟨hp, fnOK_of hΓ pureS_rec_PutVarint Try.func13 body_rec_PutVarint hc.1 hc.2 (by decide) ((run_rec_PutVarint N p0).trans h)⟩

def G_rec_size : Nat → List V → Option (Bool × V) := fun _ _ => none
def Γ_rec_size : ASpec := (liftG G_rec_size)
theorem pureS_rec_size : PureS Γ_rec_size [] := (liftG_pure _ _)
theorem spec_rec_size  : SpecOK Try.prog Γ_rec_size := by
  intro f vs hp v hp' h
  obtain ⟨h, -⟩ := liftG_inv h
  simp [G_rec_size] at h
def ir_rec_size_0 : IR := .ret
def ir_rec_size_1 : IR := (.cond (.t 4) (.seq (.reg [Pp (.mov 2 (.c (.int .i64 8)))] []) ir_rec_size_0) .skip)
def ir_rec_size_2 : IR := .ret
def ir_rec_size_3 : IR := (.seq (.reg [Pp (.mov 2 (.c (.int .i64 4)))] []) ir_rec_size_2)
def ir_rec_size_4 : IR := (.seq (.seq (.reg [Mv 3 0, Bc 4 .eql 3 1] []) ir_rec_size_1) ir_rec_size_3)
def ir_rec_size : IR := (.seq (.reg [Pp (.mov 2 (.c (.int .i64 0)))] []) ir_rec_size_4)
def rs_rec_size : List RV := [.t 2]
theorem chk_rec_size : (chkCode Try.prog [] 0 ir_rec_size (Try.f24.body.getD .skip) && chkRes Try.prog rs_rec_size Try.f24.results.toList) = true := by kernel_rfl
theorem body_rec_size : Try.f24.body = some (Try.f24.body.getD .skip) := by kernel_rfl
/-- proclitic/rec.size -/
def sa_rec_size (N : Nat) (p0 : Int)  : Ro :=
  cond (p0 == 1) (
    some (.int .i64 8, [])) (
    some (.int .i64 4, []))
def sh_rec_size (N : Nat) (p0 : Int) : Ro := sa_rec_size N p0
theorem run_rec_size (N : Nat) (p0 : Int) : callF Γ_rec_size N 5 rs_rec_size ir_rec_size [.int .i64 p0] [] = sh_rec_size N p0 := by kernel_rfl
theorem ok_rec_size (hΓ : SpecOK Try.prog Γ_rec_size) (N : Nat) (p0 : Int) {v : V} {hp : List AObj} (h : sh_rec_size N p0 = some (v, hp)) : PureOK Try.prog i_rec_size [.int .i64 p0] v := by
  have hc := chk_rec_size
  simp only [Bool.and_eq_true] at hc
  exact ⟨hp, fnOK_of hΓ pureS_rec_size Try.func24 body_rec_size hc.1 hc.2 (by decide) ((run_rec_size N p0).trans h)⟩

def G_rec_fixed : Nat → List V → Option (Bool × V) := fun _ _ => none
def Γ_rec_fixed : ASpec := (liftG G_rec_fixed)
theorem pureS_rec_fixed : PureS Γ_rec_fixed [] := (liftG_pure _ _)
theorem spec_rec_fixed  : SpecOK Try.prog Γ_rec_fixed := by
  intro f vs hp v hp' h
  obtain ⟨h, -⟩ := liftG_inv h
  simp [G_rec_fixed] at h
def ir_rec_fixed_0 : IR := (.cond (.t 8) .skip (.exit 0))
def ir_rec_fixed_1 : IR := (.reg [Mv 9 3, Bc 10 .sub 9 1, Mv 3 10] [])
def ir_rec_fixed_2 : IR := (.seq (.block 1 (.reg [Mv 11 2, Pp (.bin 12 .shl (.t 11) (.c (.int .u64 8))), Mv 13 0, Mv 14 3, Pp (.idx 15 (.t 13) (.t 14)), Pp (.cvi 16 .u64 (.t 15)), Bi 17 .or 12 16, Mv 2 17] [])) ir_rec_fixed_1)
def ir_rec_fixed_3 : IR := (.seq (.seq (.reg [Mv 7 3, Bc 8 .geq 7 0] []) ir_rec_fixed_0) ir_rec_fixed_2)
def ir_rec_fixed_4 : IR := (.block 0 (.loop [0, 2, 3, 1000000] 0 ir_rec_fixed_3))
def ir_rec_fixed_5 : IR := .ret
def ir_rec_fixed_6 : IR := (.seq (.reg [Mv 18 2, Mv 2 18] []) ir_rec_fixed_5)
def ir_rec_fixed_7 : IR := (.seq (.seq (.reg [Mv 4 0, Pp (.lens 5 (.t 4)), Bc 6 .sub 5 1, Mv 3 6] []) ir_rec_fixed_4) ir_rec_fixed_6)
def ir_rec_fixed : IR := (.seq (.reg [Pp (.mov 2 (.c (.int .u64 0)))] []) ir_rec_fixed_7)
def rs_rec_fixed : List RV := [.t 2]
theorem chk_rec_fixed : (chkCode Try.prog [] 0 ir_rec_fixed (Try.f28.body.getD .skip) && chkRes Try.prog rs_rec_fixed Try.f28.results.toList) = true := by kernel_rfl
theorem body_rec_fixed : Try.f28.body = some (Try.f28.body.getD .skip) := by kernel_rfl
def K_rec_fixed_0 (R : IR → (Ex → St → Ro) → St → Ro) (again0 : St → Ro) : Ex → St → Ro := (kloop again0 [0, 2, 3, 1000000] 0 (kblock 0 (kseq (R ir_rec_fixed_6) (fin rs_rec_fixed))))
abbrev α_rec_fixed_0 : Type := (Bs × Int × Int)
def mk_rec_fixed_0 (x : α_rec_fixed_0) : St := { env := (.str x.1 :: .undef :: .int .u64 x.2.1 :: .int .i64 x.2.2 :: (U 15 [])), hp := [] }
def F_rec_fixed_0 (N : Nat) : (St → Ro) → St → Ro := fun again0 s => run Γ_rec_fixed N ir_rec_fixed_3 (K_rec_fixed_0 (run Γ_rec_fixed N) again0) s
def B_rec_fixed_0 (N : Nat) (again0 : α_rec_fixed_0 → Ro) (x : α_rec_fixed_0) : Ro :=
  let v0 : Bs := x.1
  let v2 : Int := x.2.1
  let v3 : Int := x.2.2
  cond (decide (0 ≤ v3)) (
    chk ((decide (0 ≤ v3) && decide (v3 < ↑(List.length v0)))) (
      let x3 : Int := (↑(UInt8.toNat (List.getD v0 (Int.toNat v3) 0)) : Int)
      let x4 : Int := (bitsI .or .u64 (shlI .u64 v2 8) (IntKind.wrap .u64 x3))
      let x5 : Int := (IntKind.wrap .i64 (v3 - 1))
      again0 (v0, x4, x5))) (
    some (.int .u64 v2, []))
theorem FB_rec_fixed_0 (N : Nat) : ∀ (again0 : St → Ro) (x : α_rec_fixed_0), F_rec_fixed_0 N again0 (mk_rec_fixed_0 x) = B_rec_fixed_0 N (fun y => again0 (mk_rec_fixed_0 y)) x := by
  intro again0 x
  kernel_rfl
/-- proclitic/rec.fixed -/
def sa_rec_fixed (N : Nat) (p0 : Bs) (q0 : α_rec_fixed_0 → Ro) : Ro :=
  let x1 : Int := (↑(List.length p0) : Int)
  let x2 : Int := (IntKind.wrap .i64 (x1 - 1))
  q0 (p0, 0, x2)
def sh_rec_fixed (N : Nat) (p0 : Bs) : Ro := sa_rec_fixed N p0 (fun z => iterL N (B_rec_fixed_0 N) z)
def X_rec_fixed (N : Nat) : List (Nat × (St → Ro)) := cuts Γ_rec_fixed N ir_rec_fixed (fin rs_rec_fixed) ++ []
theorem run_rec_fixed (N : Nat) (p0 : Bs) : callF Γ_rec_fixed N 19 rs_rec_fixed ir_rec_fixed [.str p0] [] = sh_rec_fixed N p0 :=
  (run_of (X_rec_fixed N) (by kernel_rfl) rfl (fun C => sa_rec_fixed N p0 (fun z => C 1000000 (mk_rec_fixed_0 z))) (fun C => by kernel_rfl)).trans (Eq.trans (b := sa_rec_fixed N p0 (fun z => loopN N (F_rec_fixed_0 N) (mk_rec_fixed_0 z))) (by kernel_rfl) (congrArg (sa_rec_fixed N p0) (funext fun z => loop_eq (mk_rec_fixed_0) (F_rec_fixed_0 N) (B_rec_fixed_0 N) (FB_rec_fixed_0 N) N z)))
theorem ok_rec_fixed (hΓ : SpecOK Try.prog Γ_rec_fixed) (N : Nat) (p0 : Bs) {v : V} {hp : List AObj} (h : sh_rec_fixed N p0 = some (v, hp)) : PureOK Try.prog i_rec_fixed [.str p0] v := by
  have hc := chk_rec_fixed
  simp only [Bool.and_eq_true] at hc
  exact ⟨hp, fnOK_of hΓ pureS_rec_fixed Try.func28 body_rec_fixed hc.1 hc.2 (by decide) ((run_rec_fixed N p0).trans h)⟩

def G_ref1_low : Nat → List V → Option (Bool × V) := fun _ _ => none
def Γ_ref1_low : ASpec := (liftG G_ref1_low)
theorem pureS_ref1_low : PureS Γ_ref1_low [] := (liftG_pure _ _)
theorem spec_ref1_low  : SpecOK Try.prog Γ_ref1_low := by
  intro f vs hp v hp' h
  obtain ⟨h, -⟩ := liftG_inv h
  simp [G_ref1_low] at h
def ir_ref1_low_0 : IR := (.cond (.t 9) .skip (.exit 0))
def ir_ref1_low_1 : IR := (.reg [Mv 10 4, Bc 11 .sub 10 1, Mv 4 11] [])
def ir_ref1_low_2 : IR := (.seq (.block 1 (.reg [Mv 12 3, Pp (.bin 13 .mul (.t 12) (.c (.int .u64 256))), Mv 14 0, Mv 15 4, Pp (.idx 16 (.t 14) (.t 15)), Pp (.cvi 17 .u64 (.t 16)), Bi 18 .add 13 17, Mv 3 18] [])) ir_ref1_low_1)
def ir_ref1_low_3 : IR := (.seq (.seq (.reg [Mv 8 4, Bc 9 .geq 8 0] []) ir_ref1_low_0) ir_ref1_low_2)
def ir_ref1_low_4 : IR := (.block 0 (.loop [0, 3, 4, 1000000] 0 ir_ref1_low_3))
def ir_ref1_low_5 : IR := .ret
def ir_ref1_low_6 : IR := (.seq (.reg [Mv 19 3, Mv 2 19] []) ir_ref1_low_5)
def ir_ref1_low_7 : IR := (.seq (.seq (.reg [Mv 5 0, Pp (.lens 6 (.t 5)), Bc 7 .sub 6 1, Mv 4 7] []) ir_ref1_low_4) ir_ref1_low_6)
def ir_ref1_low_8 : IR := (.seq (.reg [Pp (.mov 3 (.c (.int .u64 0)))] []) ir_ref1_low_7)
def ir_ref1_low : IR := (.seq (.reg [Pp (.mov 2 (.c (.int .u64 0)))] []) ir_ref1_low_8)
def rs_ref1_low : List RV := [.t 2]
theorem chk_ref1_low : (chkCode Try.prog [] 0 ir_ref1_low (Try.f23.body.getD .skip) && chkRes Try.prog rs_ref1_low Try.f23.results.toList) = true := by kernel_rfl
theorem body_ref1_low : Try.f23.body = some (Try.f23.body.getD .skip) := by kernel_rfl
def K_ref1_low_0 (R : IR → (Ex → St → Ro) → St → Ro) (again0 : St → Ro) : Ex → St → Ro := (kloop again0 [0, 3, 4, 1000000] 0 (kblock 0 (kseq (R ir_ref1_low_6) (fin rs_ref1_low))))
abbrev α_ref1_low_0 : Type := (Bs × Int × Int)
def mk_ref1_low_0 (x : α_ref1_low_0) : St := { env := (.str x.1 :: .undef :: .undef :: .int .u64 x.2.1 :: .int .i64 x.2.2 :: (U 15 [])), hp := [] }
def F_ref1_low_0 (N : Nat) : (St → Ro) → St → Ro := fun again0 s => run Γ_ref1_low N ir_ref1_low_3 (K_ref1_low_0 (run Γ_ref1_low N) again0) s
def B_ref1_low_0 (N : Nat) (again0 : α_ref1_low_0 → Ro) (x : α_ref1_low_0) : Ro :=
  let v0 : Bs := x.1
  let v3 : Int := x.2.1
  let v4 : Int := x.2.2
  cond (decide (0 ≤ v4)) (
    let x3 : Int := (IntKind.wrap .u64 (v3 * 256))
    chk ((decide (0 ≤ v4) && decide (v4 < ↑(List.length v0)))) (
      let x4 : Int := (↑(UInt8.toNat (List.getD v0 (Int.toNat v4) 0)) : Int)
      let x5 : Int := (IntKind.wrap .u64 (x3 + (IntKind.wrap .u64 x4)))
      let x6 : Int := (IntKind.wrap .i64 (v4 - 1))
      again0 (v0, x5, x6))) (
    some (.int .u64 v3, []))
theorem FB_ref1_low_0 (N : Nat) : ∀ (again0 : St → Ro) (x : α_ref1_low_0), F_ref1_low_0 N again0 (mk_ref1_low_0 x) = B_ref1_low_0 N (fun y => again0 (mk_ref1_low_0 y)) x := by
  intro again0 x
  kernel_rfl
/-- proclitic/procliticref1.low -/
def sa_ref1_low (N : Nat) (p0 : Bs) (q0 : α_ref1_low_0 → Ro) : Ro :=
  let x1 : Int := (↑(List.length p0) : Int)
  let x2 : Int := (IntKind.wrap .i64 (x1 - 1))
  q0 (p0, 0, x2)
def sh_ref1_low (N : Nat) (p0 : Bs) : Ro := sa_ref1_low N p0 (fun z => iterL N (B_ref1_low_0 N) z)
def X_ref1_low (N : Nat) : List (Nat × (St → Ro)) := cuts Γ_ref1_low N ir_ref1_low (fin rs_ref1_low) ++ []
theorem run_ref1_low (N : Nat) (p0 : Bs) : callF Γ_ref1_low N 20 rs_ref1_low ir_ref1_low [.str p0] [] = sh_ref1_low N p0 :=
  (run_of (X_ref1_low N) (by kernel_rfl) rfl (fun C => sa_ref1_low N p0 (fun z => C 1000000 (mk_ref1_low_0 z))) (fun C => by kernel_rfl)).trans (Eq.trans (b := sa_ref1_low N p0 (fun z => loopN N (F_ref1_low_0 N) (mk_ref1_low_0 z))) (by kernel_rfl) (congrArg (sa_ref1_low N p0) (funext fun z => loop_eq (mk_ref1_low_0) (F_ref1_low_0 N) (B_ref1_low_0 N) (FB_ref1_low_0 N) N z)))
theorem ok_ref1_low (hΓ : SpecOK Try.prog Γ_ref1_low) (N : Nat) (p0 : Bs) {v : V} {hp : List AObj} (h : sh_ref1_low N p0 = some (v, hp)) : PureOK Try.prog i_ref1_low [.str p0] v := by
  have hc := chk_ref1_low
  simp only [Bool.and_eq_true] at hc
  exact ⟨hp, fnOK_of hΓ pureS_ref1_low Try.func23 body_ref1_low hc.1 hc.2 (by decide) ((run_ref1_low N p0).trans h)⟩

def G_ref1_Low : Nat → List V → Option (Bool × V) := fun _ _ => none
def Γ_ref1_Low : ASpec := (liftG G_ref1_Low)
theorem pureS_ref1_Low : PureS Γ_ref1_Low [] := (liftG_pure _ _)
theorem spec_ref1_Low  : SpecOK Try.prog Γ_ref1_Low := by
  intro f vs hp v hp' h
  obtain ⟨h, -⟩ := liftG_inv h
  simp [G_ref1_Low] at h
def ir_ref1_Low_0 : IR := (.cond (.t 9) .skip (.exit 0))
def ir_ref1_Low_1 : IR := (.reg [Mv 19 0, Pp (.bin 20 .quo (.t 19) (.c (.int .u64 256))), Mv 0 20] [])
def ir_ref1_Low_2 : IR := (.reg [Mv 10 6, Bc 11 .add 10 1, Mv 6 11] [])
def ir_ref1_Low_3 : IR := (.seq (.block 1 (.seq (.reg [Mv 12 5, Mv 13 0, Pp (.bin 14 .rem (.t 13) (.c (.int .u64 256))), Pp (.cvi 15 .u8 (.t 14)), Pp (.bsl 16 .u8 [(.t 15)] false), Pp (.b2s 17 (.t 16)), Bi 18 .add 12 17, Mv 5 18] []) ir_ref1_Low_1)) ir_ref1_Low_2)
def ir_ref1_Low_4 : IR := (.seq (.seq (.reg [Mv 7 6, Mv 8 1, Bi 9 .lss 7 8] []) ir_ref1_Low_0) ir_ref1_Low_3)
def ir_ref1_Low_5 : IR := (.block 0 (.loop [0, 1, 5, 6, 1000000] 0 ir_ref1_Low_4))
def ir_ref1_Low_6 : IR := .ret
def ir_ref1_Low_7 : IR := (.seq (.reg [Mv 21 5, Mv 4 21] []) ir_ref1_Low_6)
def ir_ref1_Low_8 : IR := (.seq (.seq (.reg [Pp (.mov 6 (.c (.int .i64 0)))] []) ir_ref1_Low_5) ir_ref1_Low_7)
def ir_ref1_Low_9 : IR := (.seq (.reg [Pp (.mov 5 (.c (.str ([] : Bs))))] []) ir_ref1_Low_8)
def ir_ref1_Low : IR := (.seq (.reg [Pp (.mov 4 (.c (.str ([] : Bs))))] []) ir_ref1_Low_9)
def rs_ref1_Low : List RV := [.t 4]
theorem chk_ref1_Low : (chkCode Try.prog [] 0 ir_ref1_Low (Try.f25.body.getD .skip) && chkRes Try.prog rs_ref1_Low Try.f25.results.toList) = true := by kernel_rfl
theorem body_ref1_Low : Try.f25.body = some (Try.f25.body.getD .skip) := by kernel_rfl
def K_ref1_Low_0 (R : IR → (Ex → St → Ro) → St → Ro) (again0 : St → Ro) : Ex → St → Ro := (kloop again0 [0, 1, 5, 6, 1000000] 0 (kblock 0 (kseq (R ir_ref1_Low_7) (fin rs_ref1_Low))))
abbrev α_ref1_Low_0 : Type := (Int × Int × Bs × Int)
def mk_ref1_Low_0 (x : α_ref1_Low_0) : St := { env := (.int .u64 x.1 :: .int .i64 x.2.1 :: (U 3 (.str x.2.2.1 :: .int .i64 x.2.2.2 :: (U 15 [])))), hp := [] }
def F_ref1_Low_0 (N : Nat) : (St → Ro) → St → Ro := fun again0 s => run Γ_ref1_Low N ir_ref1_Low_4 (K_ref1_Low_0 (run Γ_ref1_Low N) again0) s
def B_ref1_Low_0 (N : Nat) (again0 : α_ref1_Low_0 → Ro) (x : α_ref1_Low_0) : Ro :=
  let v0 : Int := x.1
  let v1 : Int := x.2.1
  let v5 : Bs := x.2.2.1
  let v6 : Int := x.2.2.2
  cond (decide (v6 < v1)) (
    let x1 : Int := (IntKind.wrap .u8 (Int.tmod v0 256))
    chk (decide (List.length v5 + List.length ([(UInt8.ofNat (Int.toNat x1))] : Bs) ≤ 9223372036854775807)) (
      let x2 : Bs := (v5 ++ ([(UInt8.ofNat (Int.toNat x1))] : Bs))
      let x3 : Int := (IntKind.wrap .u64 (Int.tdiv v0 256))
      let x4 : Int := (IntKind.wrap .i64 (v6 + 1))
      again0 (x3, v1, x2, x4))) (
    some (.str v5, []))
theorem FB_ref1_Low_0 (N : Nat) : ∀ (again0 : St → Ro) (x : α_ref1_Low_0), F_ref1_Low_0 N again0 (mk_ref1_Low_0 x) = B_ref1_Low_0 N (fun y => again0 (mk_ref1_Low_0 y)) x := by
  intro again0 x
  kernel_rfl
/-- proclitic/procliticref1.Low -/
def sa_ref1_Low (N : Nat) (p0 : Int) (p1 : Int) (q0 : α_ref1_Low_0 → Ro) : Ro :=
  q0 (p0, p1, ([] : Bs), 0)
def sh_ref1_Low (N : Nat) (p0 : Int) (p1 : Int) : Ro := sa_ref1_Low N p0 p1 (fun z => iterL N (B_ref1_Low_0 N) z)
def X_ref1_Low (N : Nat) : List (Nat × (St → Ro)) := cuts Γ_ref1_Low N ir_ref1_Low (fin rs_ref1_Low) ++ []
theorem run_ref1_Low (N : Nat) (p0 : Int) (p1 : Int) : callF Γ_ref1_Low N 22 rs_ref1_Low ir_ref1_Low [.int .u64 p0, .int .i64 p1] [] = sh_ref1_Low N p0 p1 :=
  (run_of (X_ref1_Low N) (by kernel_rfl) rfl (fun C => sa_ref1_Low N p0 p1 (fun z => C 1000000 (mk_ref1_Low_0 z))) (fun C => by kernel_rfl)).trans (Eq.trans (b := sa_ref1_Low N p0 p1 (fun z => loopN N (F_ref1_Low_0 N) (mk_ref1_Low_0 z))) (by kernel_rfl) (congrArg (sa_ref1_Low N p0 p1) (funext fun z => loop_eq (mk_ref1_Low_0) (F_ref1_Low_0 N) (B_ref1_Low_0 N) (FB_ref1_Low_0 N) N z)))
theorem ok_ref1_Low (hΓ : SpecOK Try.prog Γ_ref1_Low) (N : Nat) (p0 : Int) (p1 : Int) {v : V} {hp : List AObj} (h : sh_ref1_Low N p0 p1 = some (v, hp)) : PureOK Try.prog i_ref1_Low [.int .u64 p0, .int .i64 p1] v := by
  have hc := chk_ref1_Low
  simp only [Bool.and_eq_true] at hc
  exact ⟨hp, fnOK_of hΓ pureS_ref1_Low Try.func25 body_ref1_Low hc.1 hc.2 (by decide) ((run_ref1_Low N p0 p1).trans h)⟩

def G_rec_one : Nat → List V → Option (Bool × V) := fun f vs => match f, vs with
  | 11, [.str a0] => some (true, .tup [.int .u64 ((vintR a0).1), .int .i64 ((vintR a0).2.1), .int .i64 ((vintR a0).2.2)])
  | 24, [.int .i64 a0] => some (true, .int .i64 (sizeR a0))
  | 28, [.str a0] => some (true, .int .u64 (lowR a0))
  | _, _ => none
def Γ_rec_one : ASpec := (liftG G_rec_one)
theorem pureS_rec_one : PureS Γ_rec_one [] := (liftG_pure _ _)
theorem spec_rec_one (h_rec_Varint : ∀ (a0 : Bs), PureOK Try.prog i_rec_Varint [.str a0] (.tup [.int .u64 ((vintR a0).1), .int .i64 ((vintR a0).2.1), .int .i64 ((vintR a0).2.2)])) (h_rec_size : ∀ (a0 : Int), PureOK Try.prog i_rec_size [.int .i64 a0] (.int .i64 (sizeR a0))) (h_rec_fixed : ∀ (a0 : Bs), PureOK Try.prog i_rec_fixed [.str a0] (.int .u64 (lowR a0))) : SpecOK Try.prog Γ_rec_one := by
  intro f vs hp v hp' h0
  obtain ⟨h, he⟩ := liftG_inv h0
  subst he
  unfold G_rec_one at h
  split at h
  · simp only [Option.some.injEq, Prod.mk.injEq] at h
    obtain ⟨hc, rfl⟩ := h
    exact ((h_rec_Varint _).dim rfl).frame rfl rfl _
  · simp only [Option.some.injEq, Prod.mk.injEq] at h
    obtain ⟨hc, rfl⟩ := h
    exact ((h_rec_size _).dim rfl).frame rfl rfl _
  · simp only [Option.some.injEq, Prod.mk.injEq] at h
    obtain ⟨hc, rfl⟩ := h
    exact ((h_rec_fixed _).dim rfl).frame rfl rfl _
  · simp at h
def ir_rec_one_0 : IR := .ret
def ir_rec_one_1 : IR := (.cond (.t 28) (.seq (.reg [Pp (.ld 29 5 true false (.t 2)), Pp (.st none 5 (.t 2) (.t 29)), Pp (.mov 3 (.c (.int .i64 2)))] []) ir_rec_one_0) .skip)
def ir_rec_one_2 : IR := (.cond (.t 44) .skip (.reg [Bc 46 .eql 42 2, Mv 44 46] []))
def ir_rec_one_3 : IR := .ret
def ir_rec_one_4 : IR := (.cond (.t 54) (.seq (.reg [Pp (.bld 55 [.int .i64 0, .int .i64 0, .int .u64 0, .str ([] : Bs), .str ([] : Bs)] []), Mv 56 9, Pp (.st none 5 (.t 2) (.t 55)), Mv 3 56] []) ir_rec_one_3) .skip)
def ir_rec_one_5 : IR := (.exit 0)
def ir_rec_one_6 : IR := (.cond (.t 65) (.seq (.reg [Mv 66 7, Fa 67 2 2, Pp (.st none 1 (.t 67) (.t 66))] []) ir_rec_one_5) .skip)
def ir_rec_one_7 : IR := .ret
def ir_rec_one_8 : IR := (.cond (.t 72) (.seq (.reg [Pp (.bld 73 [.int .i64 0, .int .i64 0, .int .u64 0, .str ([] : Bs), .str ([] : Bs)] []), Pp (.st none 5 (.t 2) (.t 73)), Pp (.mov 3 (.c (.int .i64 2)))] []) ir_rec_one_7) .skip)
def ir_rec_one_9 : IR := (.reg [Mv 78 5, Fa 79 3 2, Pp (.ld 80 1 false false (.t 79)), Pp (.lens 81 (.t 80)), Bi 82 .add 78 81, Mv 5 82] [])
def ir_rec_one_10 : IR := (.seq (.reg [Mv 74 6, Mv 75 7, Pp (.subs 76 (.t 74) none (some (.t 75))), Fa 77 3 2, Pp (.st none 1 (.t 77) (.t 76))] []) ir_rec_one_9)
def ir_rec_one_11 : IR := (.seq (.seq (.reg [Mv 68 7, Mv 69 6, Pp (.lens 70 (.t 69)), Pp (.cvi 71 .u64 (.t 70)), Bi 72 .gtr 68 71] []) ir_rec_one_8) ir_rec_one_10)
def ir_rec_one_12 : IR := (.seq (.seq (.reg [Fa 63 1 2, Pp (.ld 64 1 false false (.t 63)), Bc 65 .eql 64 0] []) ir_rec_one_6) ir_rec_one_11)
def ir_rec_one_13 : IR := (.seq (.reg [Mv 57 5, Mv 58 8, Bi 59 .add 57 58, Mv 60 6, Mv 61 8, Pp (.subs 62 (.t 60) (some (.t 61)) none), Mv 5 59, Mv 6 62] [[], [], [0, 1], [], [], [3, 4], [0, 1, 2], [0, 1, 2, 3, 4, 5, 6]]) ir_rec_one_12)
def ir_rec_one_14 : IR := (.seq (.seq (.reg [Mv 53 9, Bc 54 .neq 53 0] []) ir_rec_one_4) ir_rec_one_13)
def ir_rec_one_15 : IR := (.cond (.t 83) .skip (.reg [Bc 85 .eql 42 5, Mv 83 85] []))
def ir_rec_one_16 : IR := .ret
def ir_rec_one_17 : IR := (.cond (.t 92) (.seq (.reg [Pp (.bld 93 [.int .i64 0, .int .i64 0, .int .u64 0, .str ([] : Bs), .str ([] : Bs)] []), Pp (.st none 5 (.t 2) (.t 93)), Pp (.mov 3 (.c (.int .i64 2)))] []) ir_rec_one_16) .skip)
def ir_rec_one_18 : IR := (.reg [Mv 99 5, Mv 100 10, Bi 101 .add 99 100, Mv 5 101] [])
def ir_rec_one_19 : IR := (.seq (.reg [Mv 94 6, Mv 95 10, Pp (.subs 96 (.t 94) none (some (.t 95))), Pp (.call (some 97) 28 [(.t 96)]), Fa 98 2 2, Pp (.st none 1 (.t 98) (.t 97))] []) ir_rec_one_18)
def ir_rec_one_20 : IR := (.seq (.seq (.reg [Mv 89 6, Pp (.lens 90 (.t 89)), Mv 91 10, Bi 92 .lss 90 91] []) ir_rec_one_17) ir_rec_one_19)
def ir_rec_one_21 : IR := .ret
def ir_rec_one_22 : IR := (.cond (.t 83) (.seq (.reg [Fa 86 1 2, Pp (.ld 87 1 false false (.t 86)), Pp (.call (some 88) 24 [(.t 87)]), Mv 10 88] []) ir_rec_one_20) (.seq (.reg [Pp (.bld 43 [.int .i64 0, .int .i64 0, .int .u64 0, .str ([] : Bs), .str ([] : Bs)] []), Pp (.st none 5 (.t 2) (.t 43)), Pp (.mov 3 (.c (.int .i64 2)))] []) ir_rec_one_21))
def ir_rec_one_23 : IR := (.cond (.t 44) (.seq (.reg [Mv 48 6, Pp (.call (some 49) 11 [(.t 48)]), Mv 47 49, Ex_ 50 0 47, Ex_ 51 1 47, Ex_ 52 2 47, Mv 7 50, Mv 8 51, Mv 9 52] []) ir_rec_one_14) (.seq (.seq (.reg [Bc 84 .eql 42 1, Mv 83 84] []) ir_rec_one_15) ir_rec_one_22))
def ir_rec_one_24 : IR := (.block 0 (.seq (.seq (.reg [Bc 45 .eql 42 0, Mv 44 45] []) ir_rec_one_2) ir_rec_one_23))
def ir_rec_one_25 : IR := .ret
def ir_rec_one_26 : IR := (.seq (.reg [Pp (.ld 106 5 true false (.t 2)), Pp (.st none 5 (.t 2) (.t 106)), Pp (.mov 3 (.c (.int .i64 0)))] []) ir_rec_one_25)
def ir_rec_one_27 : IR := (.seq (.reg [Mv 102 0, Mv 103 5, Pp (.subs 104 (.t 102) none (some (.t 103))), Fa 105 4 2, Pp (.st none 1 (.t 105) (.t 104))] []) ir_rec_one_26)
def ir_rec_one_28 : IR := (.seq (.seq (.reg [Fa 41 1 2, Pp (.ld 42 1 false false (.t 41))] []) ir_rec_one_24) ir_rec_one_27)
def ir_rec_one_29 : IR := (.seq (.reg [Mv 38 0, Mv 39 5, Pp (.subs 40 (.t 38) (some (.t 39)) none), Mv 6 40] []) ir_rec_one_28)
def ir_rec_one_30 : IR := (.seq (.reg [Mv 30 4, Pp (.bin 31 .quo (.t 30) (.c (.int .u64 8))), Pp (.cvi 32 .i64 (.t 31)), Mv 33 4, Pp (.bin 34 .rem (.t 33) (.c (.int .u64 8))), Pp (.cvi 35 .i64 (.t 34)), Fa 36 0 2, Pp (.st none 1 (.t 36) (.t 32)), Fa 37 1 2, Pp (.st none 1 (.t 37) (.t 35))] []) ir_rec_one_29)
def ir_rec_one_31 : IR := (.seq (.seq (.reg [Mv 17 3, Bc 18 .neq 17 0, Mv 19 18, Pg (19, false) (.mov 20 (.t 4)), Pg (19, false) (.bin 21 .quo (.t 20) (.c (.int .u64 8))), Pg (19, false) (.bin 22 .lss (.t 21) (.c (.int .u64 1))), Po 23 19 22, Mv 24 23, Pg (24, false) (.mov 25 (.t 4)), Pg (24, false) (.bin 26 .quo (.t 25) (.c (.int .u64 8))), Pg (24, false) (.bin 27 .gtr (.t 26) (.c (.int .u64 536870911))), Po 28 24 27] []) ir_rec_one_1) ir_rec_one_30)
def ir_rec_one_32 : IR := (.seq (.reg [Mv 12 0, Pp (.call (some 13) 11 [(.t 12)]), Mv 11 13, Ex_ 14 0 11, Ex_ 15 1 11, Ex_ 16 2 11, Mv 4 14, Mv 5 15, Mv 3 16] []) ir_rec_one_31)
def ir_rec_one : IR := (.seq (.reg [Pp (.new 2 [.int .i64 0, .int .i64 0, .int .u64 0, .str ([] : Bs), .str ([] : Bs)]), Pp (.mov 3 (.c (.int .i64 0)))] []) ir_rec_one_32)
def rs_rec_one : List RV := [.cell 2 5 true, .t 3]
theorem chk_rec_one : (chkCode Try.prog [] 0 ir_rec_one (Try.f22.body.getD .skip) && chkRes Try.prog rs_rec_one Try.f22.results.toList) = true := by kernel_rfl
theorem body_rec_one : Try.f22.body = some (Try.f22.body.getD .skip) := by kernel_rfl
/-- proclitic/rec.one -/
def sa_rec_one (N : Nat) (p0 : Bs)  : Ro :=
  let x1 : Bool := (!(((vintR p0).2.2) == 0))
  cond x1 (
    some (.tup [.agg [.int .i64 0, .int .i64 0, .int .u64 0, .str ([] : Bs), .str ([] : Bs)], .int .i64 2], [some [.int .i64 0, .int .i64 0, .int .u64 0, .str ([] : Bs), .str ([] : Bs)]])) (
    let x2 : Int := (IntKind.wrap .u64 (Int.tdiv ((vintR p0).1) 8))
    cond (decide (x2 < 1)) (
      some (.tup [.agg [.int .i64 0, .int .i64 0, .int .u64 0, .str ([] : Bs), .str ([] : Bs)], .int .i64 2], [some [.int .i64 0, .int .i64 0, .int .u64 0, .str ([] : Bs), .str ([] : Bs)]])) (
      let x3 : Int := (IntKind.wrap .u64 (Int.tdiv ((vintR p0).1) 8))
      cond (decide (536870911 < x3)) (
        some (.tup [.agg [.int .i64 0, .int .i64 0, .int .u64 0, .str ([] : Bs), .str ([] : Bs)], .int .i64 2], [some [.int .i64 0, .int .i64 0, .int .u64 0, .str ([] : Bs), .str ([] : Bs)]])) (
        let x4 : Int := (IntKind.wrap .u64 (Int.tdiv ((vintR p0).1) 8))
        let x5 : Int := (Int.tmod ((vintR p0).1) 8)
        chk ((decide (0 ≤ ((vintR p0).2.1)) && decide (((vintR p0).2.1) ≤ (↑(List.length p0) : Int)))) (
          let x6 : Bs := (List.drop (Int.toNat ((vintR p0).2.1)) (List.take (List.length p0) p0))
          let x7 : Bool := ((IntKind.wrap .i64 x5) == 0)
          cond x7 (
            let x8 : Bool := (!(((vintR x6).2.2) == 0))
            cond x8 (
              some (.tup [.agg [.int .i64 0, .int .i64 0, .int .u64 0, .str ([] : Bs), .str ([] : Bs)], .int .i64 ((vintR x6).2.2)], [some [.int .i64 0, .int .i64 0, .int .u64 0, .str ([] : Bs), .str ([] : Bs)]])) (
              let x9 : Int := (IntKind.wrap .i64 (((vintR p0).2.1) + ((vintR x6).2.1)))
              chk ((decide (0 ≤ ((vintR x6).2.1)) && decide (((vintR x6).2.1) ≤ (↑(List.length x6) : Int)))) (
                let x10 : Bs := (List.drop (Int.toNat ((vintR x6).2.1)) (List.take (List.length x6) x6))
                let x11 : Bool := ((IntKind.wrap .i64 x5) == 0)
                cond x11 (
                  chk ((decide (0 ≤ x9) && decide (x9 ≤ (↑(List.length p0) : Int)))) (
                    let x12 : Bs := (List.drop 0 (List.take (Int.toNat x9) p0))
                    some (.tup [.agg [.int .i64 (IntKind.wrap .i64 x4), .int .i64 (IntKind.wrap .i64 x5), .int .u64 ((vintR x6).1), .str ([] : Bs), .str x12], .int .i64 0], [some [.int .i64 (IntKind.wrap .i64 x4), .int .i64 (IntKind.wrap .i64 x5), .int .u64 ((vintR x6).1), .str ([] : Bs), .str x12]]))) (
                  let x13 : Int := (↑(List.length x10) : Int)
                  let x14 : Bool := decide ((IntKind.wrap .u64 x13) < ((vintR x6).1))
                  cond x14 (
                    some (.tup [.agg [.int .i64 0, .int .i64 0, .int .u64 0, .str ([] : Bs), .str ([] : Bs)], .int .i64 2], [some [.int .i64 0, .int .i64 0, .int .u64 0, .str ([] : Bs), .str ([] : Bs)]])) (
                    chk ((decide (0 ≤ ((vintR x6).1)) && decide (((vintR x6).1) ≤ (↑(List.length x10) : Int)))) (
                      let x15 : Bs := (List.drop 0 (List.take (Int.toNat ((vintR x6).1)) x10))
                      let x16 : Int := (↑(List.length x15) : Int)
                      let x17 : Int := (IntKind.wrap .i64 (x9 + x16))
                      chk ((decide (0 ≤ x17) && decide (x17 ≤ (↑(List.length p0) : Int)))) (
                        let x18 : Bs := (List.drop 0 (List.take (Int.toNat x17) p0))
                        some (.tup [.agg [.int .i64 (IntKind.wrap .i64 x4), .int .i64 (IntKind.wrap .i64 x5), .int .u64 0, .str x15, .str x18], .int .i64 0], [some [.int .i64 (IntKind.wrap .i64 x4), .int .i64 (IntKind.wrap .i64 x5), .int .u64 0, .str x15, .str x18]])))))))) (
            let x19 : Bool := ((IntKind.wrap .i64 x5) == 2)
            cond x19 (
              let x20 : Bool := (!(((vintR x6).2.2) == 0))
              cond x20 (
                some (.tup [.agg [.int .i64 0, .int .i64 0, .int .u64 0, .str ([] : Bs), .str ([] : Bs)], .int .i64 ((vintR x6).2.2)], [some [.int .i64 0, .int .i64 0, .int .u64 0, .str ([] : Bs), .str ([] : Bs)]])) (
                let x21 : Int := (IntKind.wrap .i64 (((vintR p0).2.1) + ((vintR x6).2.1)))
                chk ((decide (0 ≤ ((vintR x6).2.1)) && decide (((vintR x6).2.1) ≤ (↑(List.length x6) : Int)))) (
                  let x22 : Bs := (List.drop (Int.toNat ((vintR x6).2.1)) (List.take (List.length x6) x6))
                  let x23 : Bool := ((IntKind.wrap .i64 x5) == 0)
                  cond x23 (
                    chk ((decide (0 ≤ x21) && decide (x21 ≤ (↑(List.length p0) : Int)))) (
                      let x24 : Bs := (List.drop 0 (List.take (Int.toNat x21) p0))
                      some (.tup [.agg [.int .i64 (IntKind.wrap .i64 x4), .int .i64 (IntKind.wrap .i64 x5), .int .u64 ((vintR x6).1), .str ([] : Bs), .str x24], .int .i64 0], [some [.int .i64 (IntKind.wrap .i64 x4), .int .i64 (IntKind.wrap .i64 x5), .int .u64 ((vintR x6).1), .str ([] : Bs), .str x24]]))) (
                    let x25 : Int := (↑(List.length x22) : Int)
                    let x26 : Bool := decide ((IntKind.wrap .u64 x25) < ((vintR x6).1))
                    cond x26 (
                      some (.tup [.agg [.int .i64 0, .int .i64 0, .int .u64 0, .str ([] : Bs), .str ([] : Bs)], .int .i64 2], [some [.int .i64 0, .int .i64 0, .int .u64 0, .str ([] : Bs), .str ([] : Bs)]])) (
                      chk ((decide (0 ≤ ((vintR x6).1)) && decide (((vintR x6).1) ≤ (↑(List.length x22) : Int)))) (
                        let x27 : Bs := (List.drop 0 (List.take (Int.toNat ((vintR x6).1)) x22))
                        let x28 : Int := (↑(List.length x27) : Int)
                        let x29 : Int := (IntKind.wrap .i64 (x21 + x28))
                        chk ((decide (0 ≤ x29) && decide (x29 ≤ (↑(List.length p0) : Int)))) (
                          let x30 : Bs := (List.drop 0 (List.take (Int.toNat x29) p0))
                          some (.tup [.agg [.int .i64 (IntKind.wrap .i64 x4), .int .i64 (IntKind.wrap .i64 x5), .int .u64 0, .str x27, .str x30], .int .i64 0], [some [.int .i64 (IntKind.wrap .i64 x4), .int .i64 (IntKind.wrap .i64 x5), .int .u64 0, .str x27, .str x30]])))))))) (
              let x31 : Bool := ((IntKind.wrap .i64 x5) == 1)
              cond x31 (
                let x32 : Int := (sizeR (IntKind.wrap .i64 x5))
                let x33 : Int := (↑(List.length x6) : Int)
                cond (decide (x33 < x32)) (
                  some (.tup [.agg [.int .i64 0, .int .i64 0, .int .u64 0, .str ([] : Bs), .str ([] : Bs)], .int .i64 2], [some [.int .i64 0, .int .i64 0, .int .u64 0, .str ([] : Bs), .str ([] : Bs)]])) (
                  chk ((decide (0 ≤ x32) && decide (x32 ≤ (↑(List.length x6) : Int)))) (
                    let x34 : Bs := (List.drop 0 (List.take (Int.toNat x32) x6))
                    let x35 : Int := (IntKind.wrap .i64 (((vintR p0).2.1) + x32))
                    chk ((decide (0 ≤ x35) && decide (x35 ≤ (↑(List.length p0) : Int)))) (
                      let x36 : Bs := (List.drop 0 (List.take (Int.toNat x35) p0))
                      some (.tup [.agg [.int .i64 (IntKind.wrap .i64 x4), .int .i64 (IntKind.wrap .i64 x5), .int .u64 (lowR x34), .str ([] : Bs), .str x36], .int .i64 0], [some [.int .i64 (IntKind.wrap .i64 x4), .int .i64 (IntKind.wrap .i64 x5), .int .u64 (lowR x34), .str ([] : Bs), .str x36]]))))) (
                let x37 : Bool := ((IntKind.wrap .i64 x5) == 5)
                cond x37 (
                  let x38 : Int := (sizeR (IntKind.wrap .i64 x5))
                  let x39 : Int := (↑(List.length x6) : Int)
                  cond (decide (x39 < x38)) (
                    some (.tup [.agg [.int .i64 0, .int .i64 0, .int .u64 0, .str ([] : Bs), .str ([] : Bs)], .int .i64 2], [some [.int .i64 0, .int .i64 0, .int .u64 0, .str ([] : Bs), .str ([] : Bs)]])) (
                    chk ((decide (0 ≤ x38) && decide (x38 ≤ (↑(List.length x6) : Int)))) (
                      let x40 : Bs := (List.drop 0 (List.take (Int.toNat x38) x6))
                      let x41 : Int := (IntKind.wrap .i64 (((vintR p0).2.1) + x38))
                      chk ((decide (0 ≤ x41) && decide (x41 ≤ (↑(List.length p0) : Int)))) (
                        let x42 : Bs := (List.drop 0 (List.take (Int.toNat x41) p0))
                        some (.tup [.agg [.int .i64 (IntKind.wrap .i64 x4), .int .i64 (IntKind.wrap .i64 x5), .int .u64 (lowR x40), .str ([] : Bs), .str x42], .int .i64 0], [some [.int .i64 (IntKind.wrap .i64 x4), .int .i64 (IntKind.wrap .i64 x5), .int .u64 (lowR x40), .str ([] : Bs), .str x42]]))))) (
                  some (.tup [.agg [.int .i64 0, .int .i64 0, .int .u64 0, .str ([] : Bs), .str ([] : Bs)], .int .i64 2], [some [.int .i64 0, .int .i64 0, .int .u64 0, .str ([] : Bs), .str ([] : Bs)]])))))))))
def sh_rec_one (N : Nat) (p0 : Bs) : Ro := sa_rec_one N p0
theorem run_rec_one (N : Nat) (p0 : Bs) : callF Γ_rec_one N 107 rs_rec_one ir_rec_one [.str p0] [] = sh_rec_one N p0 := by kernel_rfl
theorem ok_rec_one (hΓ : SpecOK Try.prog Γ_rec_one) (N : Nat) (p0 : Bs) {v : V} {hp : List AObj} (h : sh_rec_one N p0 = some (v, hp)) : PureOK Try.prog i_rec_one [.str p0] v := by
  have hc := chk_rec_one
  simp only [Bool.and_eq_true] at hc
  exact ⟨hp, fnOK_of hΓ pureS_rec_one Try.func22 body_rec_one hc.1 hc.2 (by decide) ((run_rec_one N p0).trans h)⟩

def G_rec_Split : Nat → List V → Option (Bool × V) := fun f vs => match f, vs with
  | 22, [.str a0] => some (true, .tup [.agg [.int .i64 (((oneR a0).1).num), .int .i64 (((oneR a0).1).wire), .int .u64 (((oneR a0).1).n), .str (((oneR a0).1).s), .str (((oneR a0).1).raw)], .int .i64 ((oneR a0).2)])
  | _, _ => none
def Γ_rec_Split : ASpec := (liftG G_rec_Split)
theorem pureS_rec_Split : PureS Γ_rec_Split [] := (liftG_pure _ _)
theorem spec_rec_Split (h_rec_one : ∀ (a0 : Bs), PureOK Try.prog i_rec_one [.str a0] (.tup [.agg [.int .i64 (((oneR a0).1).num), .int .i64 (((oneR a0).1).wire), .int .u64 (((oneR a0).1).n), .str (((oneR a0).1).s), .str (((oneR a0).1).raw)], .int .i64 ((oneR a0).2)])) : SpecOK Try.prog Γ_rec_Split := by
  intro f vs hp v hp' h0
  obtain ⟨h, he⟩ := liftG_inv h0
  subst he
  unfold G_rec_Split at h
  split at h
  · simp only [Option.some.injEq, Prod.mk.injEq] at h
    obtain ⟨hc, rfl⟩ := h
    exact ((h_rec_one _).dim rfl).frame rfl rfl _
  · simp at h
def ir_rec_Split_0 : IR := .ret
def ir_rec_Split_1 : IR := (.cond (.t 9) (.seq (.reg [Pp (.mov 2 (.c (.sl .record .own ([] : List Record)))), Pp (.mov 3 (.c (.int .i64 3)))] []) ir_rec_Split_0) .skip)
def ir_rec_Split_2 : IR := (.cond (.t 11) .skip (.exit 0))
def ir_rec_Split_3 : IR := .ret
def ir_rec_Split_4 : IR := (.cond (.t 18) (.seq (.reg [Mv 19 6, Pp (.mov 2 (.c (.sl .record .own ([] : List Record)))), Mv 3 19] []) ir_rec_Split_3) .skip)
def ir_rec_Split_5 : IR := (.reg [Pp (.mov 20 (.tk 4)), Ld 21 5 true 5, Pp (.bsl 22 .record [(.t 21)] false), Pp (.app 23 .record (.tk 20) (.t 22)), Mv 24 0, Fa 25 4 5, Ld 26 1 false 25, Pp (.lens 27 (.t 26)), Pp (.subs 28 (.t 24) (some (.t 27)) none), Pp (.mov 4 (.tk 23)), Mv 0 28] [[], [], [1], [0, 1, 2], [], [], [5], [5, 6], [4, 5, 6, 7], [0, 1, 2, 3], [0, 1, 2, 3, 4, 5, 6, 7, 8, 9]])
def ir_rec_Split_6 : IR := (.seq (.seq (.reg [Mv 17 6, Bc 18 .neq 17 0] []) ir_rec_Split_4) ir_rec_Split_5)
def ir_rec_Split_7 : IR := (.block 1 (.seq (.reg [Mv 13 0, Pp (.call (some 14) 22 [(.t 13)]), Mv 12 14, Ex_ 15 0 12, Ex_ 16 1 12, Pp (.alr 5 5), Pp (.frz none 5 5 (.t 15)), Mv 6 16] []) ir_rec_Split_6))
def ir_rec_Split_8 : IR := (.seq (.seq (.reg [Mv 10 0, Pp (.bin 11 .neq (.t 10) (.c (.str ([] : Bs))))] []) ir_rec_Split_2) ir_rec_Split_7)
def ir_rec_Split_9 : IR := .ret
def ir_rec_Split_10 : IR := (.seq (.reg [Mv 29 4, Mv 2 29, Pp (.mov 3 (.c (.int .i64 0)))] []) ir_rec_Split_9)
def ir_rec_Split_11 : IR := (.seq (.block 0 (.loop [0, 4, 1000000] 0 ir_rec_Split_8)) ir_rec_Split_10)
def ir_rec_Split_12 : IR := (.seq (.reg [Pp (.mov 4 (.c (.sl .record .own ([] : List Record))))] []) ir_rec_Split_11)
def ir_rec_Split_13 : IR := (.seq (.seq (.reg [Mv 7 0, Pp (.lens 8 (.t 7)), Bc 9 .gtr 8 5000] []) ir_rec_Split_1) ir_rec_Split_12)
def ir_rec_Split : IR := (.seq (.reg [Pp (.mov 2 (.c (.sl .record .own ([] : List Record)))), Pp (.mov 3 (.c (.int .i64 0)))] []) ir_rec_Split_13)
def rs_rec_Split : List RV := [.t 2, .t 3]
theorem chk_rec_Split : (chkCode Try.prog [] 0 ir_rec_Split (Try.f15.body.getD .skip) && chkRes Try.prog rs_rec_Split Try.f15.results.toList) = true := by kernel_rfl
theorem body_rec_Split : Try.f15.body = some (Try.f15.body.getD .skip) := by kernel_rfl
def K_rec_Split_0 (R : IR → (Ex → St → Ro) → St → Ro) (again0 : St → Ro) : Ex → St → Ro := (kloop again0 [0, 4, 1000000] 0 (kblock 0 (kseq (R ir_rec_Split_10) (fin rs_rec_Split))))
abbrev α_rec_Split_0 : Type := (Bs × List Record)
def mk_rec_Split_0 (x : α_rec_Split_0) : St := { env := (.str x.1 :: (U 3 (.sl .record .own x.2 :: (U 25 [])))), hp := [] }
def F_rec_Split_0 (N : Nat) : (St → Ro) → St → Ro := fun again0 s => run Γ_rec_Split N ir_rec_Split_8 (K_rec_Split_0 (run Γ_rec_Split N) again0) s
def B_rec_Split_0 (N : Nat) (again0 : α_rec_Split_0 → Ro) (x : α_rec_Split_0) : Ro :=
  let v0 : Bs := x.1
  let v4 : List Record := x.2
  let x2 : Bool := (!decide (v0 = ([] : Bs)))
  cond x2 (
    cond (!(((oneR v0).2) == 0)) (
      some (.tup [.sl .record (.may false) ([] : List Record), .int .i64 ((oneR v0).2)], [])) (
      chk (decide ((List.length v4 + List.length ([⟨((oneR v0).1).num, ((oneR v0).1).wire, ((oneR v0).1).n, ((oneR v0).1).s, ((oneR v0).1).raw⟩] : List Record)) * 56 ≤ 140737488355328)) (
        let x3 : List Record := (v4 ++ ([⟨((oneR v0).1).num, ((oneR v0).1).wire, ((oneR v0).1).n, ((oneR v0).1).s, ((oneR v0).1).raw⟩] : List Record))
        let x4 : Int := (↑(List.length (((oneR v0).1).raw)) : Int)
        chk ((decide (0 ≤ x4) && decide (x4 ≤ (↑(List.length v0) : Int)))) (
          let x5 : Bs := (List.drop (Int.toNat x4) (List.take (List.length v0) v0))
          again0 (x5, x3))))) (
    some (.tup [.sl .record (.may false) v4, .int .i64 0], []))
theorem FB_rec_Split_0 (N : Nat) : ∀ (again0 : St → Ro) (x : α_rec_Split_0), F_rec_Split_0 N again0 (mk_rec_Split_0 x) = B_rec_Split_0 N (fun y => again0 (mk_rec_Split_0 y)) x := by
  intro again0 x
  kernel_rfl
/-- proclitic/rec.Split -/
def sa_rec_Split (N : Nat) (p0 : Bs) (q0 : α_rec_Split_0 → Ro) : Ro :=
  let x1 : Int := (↑(List.length p0) : Int)
  cond (decide (5000 < x1)) (
    some (.tup [.sl .record (.may false) ([] : List Record), .int .i64 3], [])) (
    q0 (p0, ([] : List Record)))
def sh_rec_Split (N : Nat) (p0 : Bs) : Ro := sa_rec_Split N p0 (fun z => iterL N (B_rec_Split_0 N) z)
def X_rec_Split (N : Nat) : List (Nat × (St → Ro)) := cuts Γ_rec_Split N ir_rec_Split (fin rs_rec_Split) ++ []
theorem run_rec_Split (N : Nat) (p0 : Bs) : callF Γ_rec_Split N 30 rs_rec_Split ir_rec_Split [.str p0] [] = sh_rec_Split N p0 :=
  (run_of (X_rec_Split N) (by kernel_rfl) rfl (fun C => sa_rec_Split N p0 (fun z => C 1000000 (mk_rec_Split_0 z))) (fun C => by kernel_rfl)).trans (Eq.trans (b := sa_rec_Split N p0 (fun z => loopN N (F_rec_Split_0 N) (mk_rec_Split_0 z))) (by kernel_rfl) (congrArg (sa_rec_Split N p0) (funext fun z => loop_eq (mk_rec_Split_0) (F_rec_Split_0 N) (B_rec_Split_0 N) (FB_rec_Split_0 N) N z)))
theorem ok_rec_Split (hΓ : SpecOK Try.prog Γ_rec_Split) (N : Nat) (p0 : Bs) {v : V} {hp : List AObj} (h : sh_rec_Split N p0 = some (v, hp)) : PureOK Try.prog i_rec_Split [.str p0] v := by
  have hc := chk_rec_Split
  simp only [Bool.and_eq_true] at hc
  exact ⟨hp, fnOK_of hΓ pureS_rec_Split Try.func15 body_rec_Split hc.1 hc.2 (by decide) ((run_rec_Split N p0).trans h)⟩

def G_ref1_Split : Nat → List V → Option (Bool × V) := fun f vs => match f, vs with
  | 12, [.str a0] => some (true, .tup [.int .u64 ((vintR a0).1), .int .i64 ((vintR a0).2.1), .int .i64 ((vintR a0).2.2)])
  | 23, [.str a0] => some (true, .int .u64 (lowR a0))
  | _, _ => none
def Γ_ref1_Split : ASpec := (liftG G_ref1_Split)
theorem pureS_ref1_Split : PureS Γ_ref1_Split [] := (liftG_pure _ _)
theorem spec_ref1_Split (h_ref1_Varint : ∀ (a0 : Bs), PureOK Try.prog i_ref1_Varint [.str a0] (.tup [.int .u64 ((vintR a0).1), .int .i64 ((vintR a0).2.1), .int .i64 ((vintR a0).2.2)])) (h_ref1_low : ∀ (a0 : Bs), PureOK Try.prog i_ref1_low [.str a0] (.int .u64 (lowR a0))) : SpecOK Try.prog Γ_ref1_Split := by
  intro f vs hp v hp' h0
  obtain ⟨h, he⟩ := liftG_inv h0
  subst he
  unfold G_ref1_Split at h
  split at h
  · simp only [Option.some.injEq, Prod.mk.injEq] at h
    obtain ⟨hc, rfl⟩ := h
    exact ((h_ref1_Varint _).dim rfl).frame rfl rfl _
  · simp only [Option.some.injEq, Prod.mk.injEq] at h
    obtain ⟨hc, rfl⟩ := h
    exact ((h_ref1_low _).dim rfl).frame rfl rfl _
  · simp at h
def ir_ref1_Split_0 : IR := .ret
def ir_ref1_Split_1 : IR := (.cond (.t 19) (.seq (.reg [Pp (.mov 2 (.c (.sl .record .own ([] : List Record)))), Pp (.mov 3 (.c (.int .i64 3)))] []) ir_ref1_Split_0) .skip)
def ir_ref1_Split_2 : IR := (.cond (.t 22) .skip (.exit 0))
def ir_ref1_Split_3 : IR := .ret
def ir_ref1_Split_4 : IR := (.cond (.t 40) (.seq (.reg [Pp (.mov 2 (.c (.sl .record .own ([] : List Record)))), Pp (.mov 3 (.c (.int .i64 2)))] []) ir_ref1_Split_3) .skip)
def ir_ref1_Split_5 : IR := .ret
def ir_ref1_Split_6 : IR := (.cond (.t 62) (.seq (.reg [Mv 63 12, Pp (.mov 2 (.c (.sl .record .own ([] : List Record)))), Mv 3 63] []) ir_ref1_Split_5) .skip)
def ir_ref1_Split_7 : IR := (.reg [Mv 64 10, Mv 65 6, Mv 66 11, Bi 67 .add 65 66, Fa 68 2 8, Pp (.st none 1 (.t 68) (.t 64)), Mv 9 67] [])
def ir_ref1_Split_8 : IR := (.seq (.seq (.reg [Mv 61 12, Bc 62 .neq 61 0] []) ir_ref1_Split_6) ir_ref1_Split_7)
def ir_ref1_Split_9 : IR := (.cond (.t 69) .skip (.reg [Bc 71 .eql 50 5, Mv 69 71] []))
def ir_ref1_Split_10 : IR := (.cond (.t 74) (.reg [Pp (.mov 13 (.c (.int .i64 8)))] []) .skip)
def ir_ref1_Split_11 : IR := .ret
def ir_ref1_Split_12 : IR := (.cond (.t 80) (.seq (.reg [Pp (.mov 2 (.c (.sl .record .own ([] : List Record)))), Pp (.mov 3 (.c (.int .i64 2)))] []) ir_ref1_Split_11) .skip)
def ir_ref1_Split_13 : IR := (.reg [Mv 81 0, Mv 82 6, Mv 83 6, Mv 84 13, Bi 85 .add 83 84, Pp (.subs 86 (.t 81) (some (.t 82)) (some (.t 85))), Pp (.call (some 87) 23 [(.t 86)]), Mv 88 6, Mv 89 13, Bi 90 .add 88 89, Fa 91 2 8, Pp (.st none 1 (.t 91) (.t 87)), Mv 9 90] [])
def ir_ref1_Split_14 : IR := (.seq (.seq (.reg [Mv 75 0, Pp (.lens 76 (.t 75)), Mv 77 6, Bi 78 .sub 76 77, Mv 79 13, Bi 80 .lss 78 79] []) ir_ref1_Split_12) ir_ref1_Split_13)
def ir_ref1_Split_15 : IR := (.seq (.seq (.reg [Fa 72 1 8, Pp (.ld 73 1 false false (.t 72)), Bc 74 .eql 73 1] []) ir_ref1_Split_10) ir_ref1_Split_14)
def ir_ref1_Split_16 : IR := .ret
def ir_ref1_Split_17 : IR := (.cond (.t 114) (.seq (.reg [Pp (.mov 2 (.c (.sl .record .own ([] : List Record)))), Pp (.mov 3 (.c (.int .i64 2)))] []) ir_ref1_Split_16) .skip)
def ir_ref1_Split_18 : IR := (.reg [Mv 121 0, Mv 122 6, Mv 123 15, Bi 124 .add 122 123, Mv 125 9, Pp (.subs 126 (.t 121) (some (.t 124)) (some (.t 125))), Fa 127 3 8, Pp (.st none 1 (.t 127) (.t 126))] [])
def ir_ref1_Split_19 : IR := (.seq (.reg [Mv 115 6, Mv 116 15, Bi 117 .add 115 116, Mv 118 14, Pp (.cvi 119 .i64 (.t 118)), Bi 120 .add 117 119, Mv 9 120] []) ir_ref1_Split_18)
def ir_ref1_Split_20 : IR := (.seq (.seq (.reg [Mv 102 16, Bc 103 .neq 102 0, Mv 104 103, Pg (104, false) (.mov 105 (.t 14)), Pg (104, false) (.mov 106 (.t 0)), Pg (104, false) (.lens 107 (.t 106)), Pg (104, false) (.mov 108 (.t 6)), Pg (104, false) (.bin 109 .sub (.t 107) (.t 108)), Pg (104, false) (.mov 110 (.t 15)), Pg (104, false) (.bin 111 .sub (.t 109) (.t 110)), Pg (104, false) (.cvi 112 .u64 (.t 111)), Pg (104, false) (.bin 113 .gtr (.t 105) (.t 112)), Po 114 104 113] []) ir_ref1_Split_17) ir_ref1_Split_19)
def ir_ref1_Split_21 : IR := .ret
def ir_ref1_Split_22 : IR := (.cond (.t 92) (.seq (.reg [Mv 95 0, Mv 96 6, Pp (.subs 97 (.t 95) (some (.t 96)) none), Pp (.call (some 98) 12 [(.t 97)]), Mv 94 98, Ex_ 99 0 94, Ex_ 100 1 94, Ex_ 101 2 94, Mv 14 99, Mv 15 100, Mv 16 101] []) ir_ref1_Split_20) (.seq (.reg [Pp (.mov 2 (.c (.sl .record .own ([] : List Record)))), Pp (.mov 3 (.c (.int .i64 2)))] []) ir_ref1_Split_21))
def ir_ref1_Split_23 : IR := (.cond (.t 69) (.seq (.reg [Pp (.mov 13 (.c (.int .i64 4)))] []) ir_ref1_Split_15) (.seq (.reg [Bc 93 .eql 50 2, Mv 92 93] []) ir_ref1_Split_22))
def ir_ref1_Split_24 : IR := (.cond (.t 51) (.seq (.reg [Mv 54 0, Mv 55 6, Pp (.subs 56 (.t 54) (some (.t 55)) none), Pp (.call (some 57) 12 [(.t 56)]), Mv 53 57, Ex_ 58 0 53, Ex_ 59 1 53, Ex_ 60 2 53, Mv 10 58, Mv 11 59, Mv 12 60] []) ir_ref1_Split_8) (.seq (.seq (.reg [Bc 70 .eql 50 1, Mv 69 70] []) ir_ref1_Split_9) ir_ref1_Split_23))
def ir_ref1_Split_25 : IR := (.block 2 (.seq (.reg [Bc 52 .eql 50 0, Mv 51 52] []) ir_ref1_Split_24))
def ir_ref1_Split_26 : IR := (.reg [Pp (.mov 135 (.tk 4)), Pp (.ld 136 5 true false (.t 8)), Pp (.bsl 137 .record [(.t 136)] false), Pp (.app 138 .record (.tk 135) (.t 137)), Pp (.mov 4 (.tk 138))] [])
def ir_ref1_Split_27 : IR := (.seq (.reg [Mv 132 0, Mv 133 9, Pp (.subs 134 (.t 132) (some (.t 133)) none), Mv 0 134] []) ir_ref1_Split_26)
def ir_ref1_Split_28 : IR := (.seq (.reg [Mv 128 0, Mv 129 9, Pp (.subs 130 (.t 128) none (some (.t 129))), Fa 131 4 8, Pp (.st none 1 (.t 131) (.t 130))] []) ir_ref1_Split_27)
def ir_ref1_Split_29 : IR := (.seq (.seq (.reg [Fa 49 1 8, Pp (.ld 50 1 false false (.t 49))] []) ir_ref1_Split_25) ir_ref1_Split_28)
def ir_ref1_Split_30 : IR := (.seq (.reg [Mv 48 6, Mv 9 48] []) ir_ref1_Split_29)
def ir_ref1_Split_31 : IR := (.seq (.reg [Mv 41 5, Pp (.bin 42 .quo (.t 41) (.c (.int .u64 8))), Pp (.cvi 43 .i64 (.t 42)), Mv 44 5, Pp (.bin 45 .rem (.t 44) (.c (.int .u64 8))), Pp (.cvi 46 .i64 (.t 45)), Pp (.bld 47 [.int .i64 0, .int .i64 0, .int .u64 0, .str ([] : Bs), .str ([] : Bs)] [(0, 1, (.t 43)), (1, 1, (.t 46))]), Pp (.new 8 [.int .i64 0, .int .i64 0, .int .u64 0, .str ([] : Bs), .str ([] : Bs)]), Pp (.st none 5 (.t 8) (.t 47))] []) ir_ref1_Split_30)
def ir_ref1_Split_32 : IR := (.seq (.seq (.reg [Mv 29 7, Bc 30 .neq 29 0, Mv 31 30, Pg (31, false) (.mov 32 (.t 5)), Pg (31, false) (.bin 33 .quo (.t 32) (.c (.int .u64 8))), Pg (31, false) (.bin 34 .lss (.t 33) (.c (.int .u64 1))), Po 35 31 34, Mv 36 35, Pg (36, false) (.mov 37 (.t 5)), Pg (36, false) (.bin 38 .quo (.t 37) (.c (.int .u64 8))), Pg (36, false) (.bin 39 .gtr (.t 38) (.c (.int .u64 536870911))), Po 40 36 39] []) ir_ref1_Split_4) ir_ref1_Split_31)
def ir_ref1_Split_33 : IR := (.block 1 (.seq (.reg [Mv 24 0, Pp (.call (some 25) 12 [(.t 24)]), Mv 23 25, Ex_ 26 0 23, Ex_ 27 1 23, Ex_ 28 2 23, Mv 5 26, Mv 6 27, Mv 7 28] []) ir_ref1_Split_32))
def ir_ref1_Split_34 : IR := (.seq (.seq (.reg [Mv 20 0, Pp (.lens 21 (.t 20)), Bc 22 .gtr 21 0] []) ir_ref1_Split_2) ir_ref1_Split_33)
def ir_ref1_Split_35 : IR := .ret
def ir_ref1_Split_36 : IR := (.seq (.reg [Mv 139 4, Mv 2 139, Pp (.mov 3 (.c (.int .i64 0)))] []) ir_ref1_Split_35)
def ir_ref1_Split_37 : IR := (.seq (.block 0 (.loop [0, 4, 1000000] 0 ir_ref1_Split_34)) ir_ref1_Split_36)
def ir_ref1_Split_38 : IR := (.seq (.reg [Pp (.mov 4 (.c (.sl .record .own ([] : List Record))))] []) ir_ref1_Split_37)
def ir_ref1_Split_39 : IR := (.seq (.seq (.reg [Mv 17 0, Pp (.lens 18 (.t 17)), Bc 19 .gtr 18 5000] []) ir_ref1_Split_1) ir_ref1_Split_38)
def ir_ref1_Split : IR := (.seq (.reg [Pp (.mov 2 (.c (.sl .record .own ([] : List Record)))), Pp (.mov 3 (.c (.int .i64 0)))] []) ir_ref1_Split_39)
def rs_ref1_Split : List RV := [.t 2, .t 3]
theorem chk_ref1_Split : (chkCode Try.prog [] 0 ir_ref1_Split (Try.f16.body.getD .skip) && chkRes Try.prog rs_ref1_Split Try.f16.results.toList) = true := by kernel_rfl
theorem body_ref1_Split : Try.f16.body = some (Try.f16.body.getD .skip) := by kernel_rfl
def K_ref1_Split_0 (R : IR → (Ex → St → Ro) → St → Ro) (again0 : St → Ro) : Ex → St → Ro := (kloop again0 [0, 4, 1000000] 0 (kblock 0 (kseq (R ir_ref1_Split_36) (fin rs_ref1_Split))))
abbrev α_ref1_Split_0 : Type := (Bs × List Record)
def mk_ref1_Split_0 (x : α_ref1_Split_0) : St := { env := (.str x.1 :: (U 3 (.sl .record .own x.2 :: (U 135 [])))), hp := [] }
def F_ref1_Split_0 (N : Nat) : (St → Ro) → St → Ro := fun again0 s => run Γ_ref1_Split N ir_ref1_Split_34 (K_ref1_Split_0 (run Γ_ref1_Split N) again0) s
def B_ref1_Split_0 (N : Nat) (again0 : α_ref1_Split_0 → Ro) (x : α_ref1_Split_0) : Ro :=
  let v0 : Bs := x.1
  let v4 : List Record := x.2
  let x2 : Int := (↑(List.length v0) : Int)
  cond (decide (0 < x2)) (
    let x3 : Bool := (!(((vintR v0).2.2) == 0))
    cond x3 (
      some (.tup [.sl .record (.may false) ([] : List Record), .int .i64 2], [])) (
      let x4 : Int := (IntKind.wrap .u64 (Int.tdiv ((vintR v0).1) 8))
      cond (decide (x4 < 1)) (
        some (.tup [.sl .record (.may false) ([] : List Record), .int .i64 2], [])) (
        let x5 : Int := (IntKind.wrap .u64 (Int.tdiv ((vintR v0).1) 8))
        cond (decide (536870911 < x5)) (
          some (.tup [.sl .record (.may false) ([] : List Record), .int .i64 2], [])) (
          let x6 : Int := (IntKind.wrap .u64 (Int.tdiv ((vintR v0).1) 8))
          let x7 : Int := (Int.tmod ((vintR v0).1) 8)
          let x8 : Bool := ((IntKind.wrap .i64 x7) == 0)
          cond x8 (
            chk ((decide (0 ≤ ((vintR v0).2.1)) && decide (((vintR v0).2.1) ≤ (↑(List.length v0) : Int)))) (
              let x9 : Bs := (List.drop (Int.toNat ((vintR v0).2.1)) (List.take (List.length v0) v0))
              let x10 : Bool := (!(((vintR x9).2.2) == 0))
              cond x10 (
                some (.tup [.sl .record (.may false) ([] : List Record), .int .i64 ((vintR x9).2.2)], [some [.int .i64 (IntKind.wrap .i64 x6), .int .i64 (IntKind.wrap .i64 x7), .int .u64 0, .str ([] : Bs), .str ([] : Bs)]])) (
                let x11 : Int := (IntKind.wrap .i64 (((vintR v0).2.1) + ((vintR x9).2.1)))
                chk ((decide (0 ≤ x11) && decide (x11 ≤ (↑(List.length v0) : Int)))) (
                  let x12 : Bs := (List.drop 0 (List.take (Int.toNat x11) v0))
                  chk ((decide (0 ≤ x11) && decide (x11 ≤ (↑(List.length v0) : Int)))) (
                    let x13 : Bs := (List.drop (Int.toNat x11) (List.take (List.length v0) v0))
                    chk (decide ((List.length v4 + List.length ([⟨(IntKind.wrap .i64 x6), (IntKind.wrap .i64 x7), (vintR x9).1, ([] : Bs), x12⟩] : List Record)) * 56 ≤ 140737488355328)) (
                      let x14 : List Record := (v4 ++ ([⟨(IntKind.wrap .i64 x6), (IntKind.wrap .i64 x7), (vintR x9).1, ([] : Bs), x12⟩] : List Record))
                      again0 (x13, x14))))))) (
            let x15 : Bool := ((IntKind.wrap .i64 x7) == 1)
            cond x15 (
              let x16 : Bool := ((IntKind.wrap .i64 x7) == 1)
              cond x16 (
                let x17 : Int := (↑(List.length v0) : Int)
                let x18 : Int := (IntKind.wrap .i64 (x17 - ((vintR v0).2.1)))
                cond (decide (x18 < 8)) (
                  some (.tup [.sl .record (.may false) ([] : List Record), .int .i64 2], [some [.int .i64 (IntKind.wrap .i64 x6), .int .i64 (IntKind.wrap .i64 x7), .int .u64 0, .str ([] : Bs), .str ([] : Bs)]])) (
                  let x19 : Int := (IntKind.wrap .i64 (((vintR v0).2.1) + 8))
                  chk ((decide (0 ≤ x19) && decide (x19 ≤ (↑(List.length v0) : Int)) && (decide (0 ≤ ((vintR v0).2.1)) && decide (((vintR v0).2.1) ≤ x19)))) (
                    let x20 : Bs := (List.drop (Int.toNat ((vintR v0).2.1)) (List.take (Int.toNat x19) v0))
                    let x21 : Int := (IntKind.wrap .i64 (((vintR v0).2.1) + 8))
                    chk ((decide (0 ≤ x21) && decide (x21 ≤ (↑(List.length v0) : Int)))) (
                      let x22 : Bs := (List.drop 0 (List.take (Int.toNat x21) v0))
                      chk ((decide (0 ≤ x21) && decide (x21 ≤ (↑(List.length v0) : Int)))) (
                        let x23 : Bs := (List.drop (Int.toNat x21) (List.take (List.length v0) v0))
                        chk (decide ((List.length v4 + List.length ([⟨(IntKind.wrap .i64 x6), (IntKind.wrap .i64 x7), (lowR x20), ([] : Bs), x22⟩] : List Record)) * 56 ≤ 140737488355328)) (
                          let x24 : List Record := (v4 ++ ([⟨(IntKind.wrap .i64 x6), (IntKind.wrap .i64 x7), (lowR x20), ([] : Bs), x22⟩] : List Record))
                          again0 (x23, x24))))))) (
                let x25 : Int := (↑(List.length v0) : Int)
                let x26 : Int := (IntKind.wrap .i64 (x25 - ((vintR v0).2.1)))
                cond (decide (x26 < 4)) (
                  some (.tup [.sl .record (.may false) ([] : List Record), .int .i64 2], [some [.int .i64 (IntKind.wrap .i64 x6), .int .i64 (IntKind.wrap .i64 x7), .int .u64 0, .str ([] : Bs), .str ([] : Bs)]])) (
                  let x27 : Int := (IntKind.wrap .i64 (((vintR v0).2.1) + 4))
                  chk ((decide (0 ≤ x27) && decide (x27 ≤ (↑(List.length v0) : Int)) && (decide (0 ≤ ((vintR v0).2.1)) && decide (((vintR v0).2.1) ≤ x27)))) (
                    let x28 : Bs := (List.drop (Int.toNat ((vintR v0).2.1)) (List.take (Int.toNat x27) v0))
                    let x29 : Int := (IntKind.wrap .i64 (((vintR v0).2.1) + 4))
                    chk ((decide (0 ≤ x29) && decide (x29 ≤ (↑(List.length v0) : Int)))) (
                      let x30 : Bs := (List.drop 0 (List.take (Int.toNat x29) v0))
                      chk ((decide (0 ≤ x29) && decide (x29 ≤ (↑(List.length v0) : Int)))) (
                        let x31 : Bs := (List.drop (Int.toNat x29) (List.take (List.length v0) v0))
                        chk (decide ((List.length v4 + List.length ([⟨(IntKind.wrap .i64 x6), (IntKind.wrap .i64 x7), (lowR x28), ([] : Bs), x30⟩] : List Record)) * 56 ≤ 140737488355328)) (
                          let x32 : List Record := (v4 ++ ([⟨(IntKind.wrap .i64 x6), (IntKind.wrap .i64 x7), (lowR x28), ([] : Bs), x30⟩] : List Record))
                          again0 (x31, x32)))))))) (
              let x33 : Bool := ((IntKind.wrap .i64 x7) == 5)
              cond x33 (
                let x34 : Bool := ((IntKind.wrap .i64 x7) == 1)
                cond x34 (
                  let x35 : Int := (↑(List.length v0) : Int)
                  let x36 : Int := (IntKind.wrap .i64 (x35 - ((vintR v0).2.1)))
                  cond (decide (x36 < 8)) (
                    some (.tup [.sl .record (.may false) ([] : List Record), .int .i64 2], [some [.int .i64 (IntKind.wrap .i64 x6), .int .i64 (IntKind.wrap .i64 x7), .int .u64 0, .str ([] : Bs), .str ([] : Bs)]])) (
                    let x37 : Int := (IntKind.wrap .i64 (((vintR v0).2.1) + 8))
                    chk ((decide (0 ≤ x37) && decide (x37 ≤ (↑(List.length v0) : Int)) && (decide (0 ≤ ((vintR v0).2.1)) && decide (((vintR v0).2.1) ≤ x37)))) (
                      let x38 : Bs := (List.drop (Int.toNat ((vintR v0).2.1)) (List.take (Int.toNat x37) v0))
                      let x39 : Int := (IntKind.wrap .i64 (((vintR v0).2.1) + 8))
                      chk ((decide (0 ≤ x39) && decide (x39 ≤ (↑(List.length v0) : Int)))) (
                        let x40 : Bs := (List.drop 0 (List.take (Int.toNat x39) v0))
                        chk ((decide (0 ≤ x39) && decide (x39 ≤ (↑(List.length v0) : Int)))) (
                          let x41 : Bs := (List.drop (Int.toNat x39) (List.take (List.length v0) v0))
                          chk (decide ((List.length v4 + List.length ([⟨(IntKind.wrap .i64 x6), (IntKind.wrap .i64 x7), (lowR x38), ([] : Bs), x40⟩] : List Record)) * 56 ≤ 140737488355328)) (
                            let x42 : List Record := (v4 ++ ([⟨(IntKind.wrap .i64 x6), (IntKind.wrap .i64 x7), (lowR x38), ([] : Bs), x40⟩] : List Record))
                            again0 (x41, x42))))))) (
                  let x43 : Int := (↑(List.length v0) : Int)
                  let x44 : Int := (IntKind.wrap .i64 (x43 - ((vintR v0).2.1)))
                  cond (decide (x44 < 4)) (
                    some (.tup [.sl .record (.may false) ([] : List Record), .int .i64 2], [some [.int .i64 (IntKind.wrap .i64 x6), .int .i64 (IntKind.wrap .i64 x7), .int .u64 0, .str ([] : Bs), .str ([] : Bs)]])) (
                    let x45 : Int := (IntKind.wrap .i64 (((vintR v0).2.1) + 4))
                    chk ((decide (0 ≤ x45) && decide (x45 ≤ (↑(List.length v0) : Int)) && (decide (0 ≤ ((vintR v0).2.1)) && decide (((vintR v0).2.1) ≤ x45)))) (
                      let x46 : Bs := (List.drop (Int.toNat ((vintR v0).2.1)) (List.take (Int.toNat x45) v0))
                      let x47 : Int := (IntKind.wrap .i64 (((vintR v0).2.1) + 4))
                      chk ((decide (0 ≤ x47) && decide (x47 ≤ (↑(List.length v0) : Int)))) (
                        let x48 : Bs := (List.drop 0 (List.take (Int.toNat x47) v0))
                        chk ((decide (0 ≤ x47) && decide (x47 ≤ (↑(List.length v0) : Int)))) (
                          let x49 : Bs := (List.drop (Int.toNat x47) (List.take (List.length v0) v0))
                          chk (decide ((List.length v4 + List.length ([⟨(IntKind.wrap .i64 x6), (IntKind.wrap .i64 x7), (lowR x46), ([] : Bs), x48⟩] : List Record)) * 56 ≤ 140737488355328)) (
                            let x50 : List Record := (v4 ++ ([⟨(IntKind.wrap .i64 x6), (IntKind.wrap .i64 x7), (lowR x46), ([] : Bs), x48⟩] : List Record))
                            again0 (x49, x50)))))))) (
                let x51 : Bool := ((IntKind.wrap .i64 x7) == 2)
                cond x51 (
                  chk ((decide (0 ≤ ((vintR v0).2.1)) && decide (((vintR v0).2.1) ≤ (↑(List.length v0) : Int)))) (
                    let x52 : Bs := (List.drop (Int.toNat ((vintR v0).2.1)) (List.take (List.length v0) v0))
                    let x53 : Bool := (!(((vintR x52).2.2) == 0))
                    cond x53 (
                      some (.tup [.sl .record (.may false) ([] : List Record), .int .i64 2], [some [.int .i64 (IntKind.wrap .i64 x6), .int .i64 (IntKind.wrap .i64 x7), .int .u64 0, .str ([] : Bs), .str ([] : Bs)]])) (
                      let x54 : Int := (↑(List.length v0) : Int)
                      let x55 : Int := (IntKind.wrap .i64 (x54 - ((vintR v0).2.1)))
                      let x56 : Int := (IntKind.wrap .i64 (x55 - ((vintR x52).2.1)))
                      let x57 : Bool := decide ((IntKind.wrap .u64 x56) < ((vintR x52).1))
                      cond x57 (
                        some (.tup [.sl .record (.may false) ([] : List Record), .int .i64 2], [some [.int .i64 (IntKind.wrap .i64 x6), .int .i64 (IntKind.wrap .i64 x7), .int .u64 0, .str ([] : Bs), .str ([] : Bs)]])) (
                        let x58 : Int := (IntKind.wrap .i64 (((vintR v0).2.1) + ((vintR x52).2.1)))
                        let x59 : Int := (IntKind.wrap .i64 ((vintR x52).1))
                        let x60 : Int := (IntKind.wrap .i64 (x58 + x59))
                        let x61 : Int := (IntKind.wrap .i64 (((vintR v0).2.1) + ((vintR x52).2.1)))
                        chk ((decide (0 ≤ x60) && decide (x60 ≤ (↑(List.length v0) : Int)) && (decide (0 ≤ x61) && decide (x61 ≤ x60)))) (
                          let x62 : Bs := (List.drop (Int.toNat x61) (List.take (Int.toNat x60) v0))
                          chk ((decide (0 ≤ x60) && decide (x60 ≤ (↑(List.length v0) : Int)))) (
                            let x63 : Bs := (List.drop 0 (List.take (Int.toNat x60) v0))
                            chk ((decide (0 ≤ x60) && decide (x60 ≤ (↑(List.length v0) : Int)))) (
                              let x64 : Bs := (List.drop (Int.toNat x60) (List.take (List.length v0) v0))
                              chk (decide ((List.length v4 + List.length ([⟨(IntKind.wrap .i64 x6), (IntKind.wrap .i64 x7), 0, x62, x63⟩] : List Record)) * 56 ≤ 140737488355328)) (
                                let x65 : List Record := (v4 ++ ([⟨(IntKind.wrap .i64 x6), (IntKind.wrap .i64 x7), 0, x62, x63⟩] : List Record))
                                again0 (x64, x65))))))))) (
                  some (.tup [.sl .record (.may false) ([] : List Record), .int .i64 2], [some [.int .i64 (IntKind.wrap .i64 x6), .int .i64 (IntKind.wrap .i64 x7), .int .u64 0, .str ([] : Bs), .str ([] : Bs)]]))))))))) (
    some (.tup [.sl .record (.may false) v4, .int .i64 0], []))
theorem FB_ref1_Split_0 (N : Nat) : ∀ (again0 : St → Ro) (x : α_ref1_Split_0), F_ref1_Split_0 N again0 (mk_ref1_Split_0 x) = B_ref1_Split_0 N (fun y => again0 (mk_ref1_Split_0 y)) x := by
  intro again0 x
  kernel_rfl
/-- proclitic/procliticref1.Split -/
def sa_ref1_Split (N : Nat) (p0 : Bs) (q0 : α_ref1_Split_0 → Ro) : Ro :=
  let x1 : Int := (↑(List.length p0) : Int)
  cond (decide (5000 < x1)) (
    some (.tup [.sl .record (.may false) ([] : List Record), .int .i64 3], [])) (
    q0 (p0, ([] : List Record)))
def sh_ref1_Split (N : Nat) (p0 : Bs) : Ro := sa_ref1_Split N p0 (fun z => iterL N (B_ref1_Split_0 N) z)
def X_ref1_Split (N : Nat) : List (Nat × (St → Ro)) := cuts Γ_ref1_Split N ir_ref1_Split (fin rs_ref1_Split) ++ []
theorem run_ref1_Split (N : Nat) (p0 : Bs) : callF Γ_ref1_Split N 140 rs_ref1_Split ir_ref1_Split [.str p0] [] = sh_ref1_Split N p0 :=
  (run_of (X_ref1_Split N) (by kernel_rfl) rfl (fun C => sa_ref1_Split N p0 (fun z => C 1000000 (mk_ref1_Split_0 z))) (fun C => by kernel_rfl)).trans (Eq.trans (b := sa_ref1_Split N p0 (fun z => loopN N (F_ref1_Split_0 N) (mk_ref1_Split_0 z))) (by kernel_rfl) (congrArg (sa_ref1_Split N p0) (funext fun z => loop_eq (mk_ref1_Split_0) (F_ref1_Split_0 N) (B_ref1_Split_0 N) (FB_ref1_Split_0 N) N z)))
theorem ok_ref1_Split (hΓ : SpecOK Try.prog Γ_ref1_Split) (N : Nat) (p0 : Bs) {v : V} {hp : List AObj} (h : sh_ref1_Split N p0 = some (v, hp)) : PureOK Try.prog i_ref1_Split [.str p0] v := by
  have hc := chk_ref1_Split
  simp only [Bool.and_eq_true] at hc
  exact ⟨hp, fnOK_of hΓ pureS_ref1_Split Try.func16 body_ref1_Split hc.1 hc.2 (by decide) ((run_ref1_Split N p0).trans h)⟩

def G_ref1_PutVarint (N : Nat) : Nat → List V → Option (Bool × V) := fun f vs => match f, vs with
  | 14, [.int .u64 a0] => some (decide (1000000 ≤ N - Int.toNat a0), .str (putV a0))
  | _, _ => none
def Γ_ref1_PutVarint (N : Nat) : ASpec := (liftG (G_ref1_PutVarint N))
theorem pureS_ref1_PutVarint (N : Nat) : PureS (Γ_ref1_PutVarint N) [] := (liftG_pure _ _)
theorem spec_ref1_PutVarint (N : Nat) (h_ref1_PutVarint : ∀ (a0 : Int), (decide (1000000 ≤ N - Int.toNat a0)) = true → PureOK Try.prog i_ref1_PutVarint [.int .u64 a0] (.str (putV a0))) : SpecOK Try.prog (Γ_ref1_PutVarint N) := by
  intro f vs hp v hp' h0
  obtain ⟨h, he⟩ := liftG_inv h0
  subst he
  unfold G_ref1_PutVarint at h
  split at h
  · simp only [Option.some.injEq, Prod.mk.injEq] at h
    obtain ⟨hc, rfl⟩ := h
    exact ((h_ref1_PutVarint _ hc).dim rfl).frame rfl rfl _
  · simp at h
def ir_ref1_PutVarint_0 : IR := .ret
def ir_ref1_PutVarint_1 : IR := (.cond (.t 4) (.seq (.reg [Mv 5 0, Pp (.cvi 6 .u8 (.t 5)), Pp (.bsl 7 .u8 [(.t 6)] false), Pp (.b2s 8 (.t 7)), Mv 2 8] []) ir_ref1_PutVarint_0) .skip)
def ir_ref1_PutVarint_2 : IR := .ret
def ir_ref1_PutVarint_3 : IR := (.seq (.reg [Mv 9 0, Pp (.bin 10 .rem (.t 9) (.c (.int .u64 128))), Pp (.cvi 11 .u8 (.t 10)), Pp (.bin 12 .add (.t 11) (.c (.int .u8 128))), Pp (.bsl 13 .u8 [(.t 12)] false), Pp (.b2s 14 (.t 13)), Mv 15 0, Pp (.bin 16 .quo (.t 15) (.c (.int .u64 128))), Pp (.call (some 17) 14 [(.t 16)]), Bi 18 .add 14 17, Mv 2 18] [[], [0], [0, 1], [0, 1, 2], [0, 1, 2, 3], [0, 1, 2, 3, 4], [], [6], [6, 7], [0, 1, 2, 3, 4, 5, 6, 7, 8], [0, 1, 2, 3, 4, 5, 6, 7, 8, 9]]) ir_ref1_PutVarint_2)
def ir_ref1_PutVarint_4 : IR := (.seq (.seq (.reg [Mv 3 0, Pp (.bin 4 .lss (.t 3) (.c (.int .u64 128)))] []) ir_ref1_PutVarint_1) ir_ref1_PutVarint_3)
def ir_ref1_PutVarint : IR := (.seq (.reg [Pp (.mov 2 (.c (.str ([] : Bs))))] []) ir_ref1_PutVarint_4)
def rs_ref1_PutVarint : List RV := [.t 2]
theorem chk_ref1_PutVarint : (chkCode Try.prog [] 0 ir_ref1_PutVarint (Try.f14.body.getD .skip) && chkRes Try.prog rs_ref1_PutVarint Try.f14.results.toList) = true := by kernel_rfl
theorem body_ref1_PutVarint : Try.f14.body = some (Try.f14.body.getD .skip) := by kernel_rfl
/-- proclitic/procliticref1.PutVarint -/
def sa_ref1_PutVarint (N : Nat) (p0 : Int)  : Ro :=
  cond (decide (p0 < 128)) (
    some (.str ([(UInt8.ofNat (Int.toNat (IntKind.wrap .u8 p0)))] : Bs), [])) (
    let x1 : Int := (IntKind.wrap .u8 (Int.tmod p0 128))
    let x2 : Int := (IntKind.wrap .u8 (x1 + 128))
    let x3 : Int := (IntKind.wrap .u64 (Int.tdiv p0 128))
    chk (decide (1000000 ≤ N - Int.toNat x3)) (
      chk (decide (List.length ([(UInt8.ofNat (Int.toNat x2))] : Bs) + List.length (putV x3) ≤ 9223372036854775807)) (
        let x4 : Bs := (([(UInt8.ofNat (Int.toNat x2))] : Bs) ++ (putV x3))
        some (.str x4, []))))
def sh_ref1_PutVarint (N : Nat) (p0 : Int) : Ro := sa_ref1_PutVarint N p0
theorem run_ref1_PutVarint (N : Nat) (p0 : Int) : callF (Γ_ref1_PutVarint N) N 19 rs_ref1_PutVarint ir_ref1_PutVarint [.int .u64 p0] [] = sh_ref1_PutVarint N p0 := by kernel_rfl
theorem ok_ref1_PutVarint (N : Nat) (hΓ : SpecOK Try.prog (Γ_ref1_PutVarint N)) (p0 : Int) {v : V} {hp : List AObj} (h : sh_ref1_PutVarint N p0 = some (v, hp)) : PureOK Try.prog i_ref1_PutVarint [.int .u64 p0] v := by
  have hc := chk_ref1_PutVarint
  simp only [Bool.and_eq_true] at hc
  exact ⟨hp, fnOK_of hΓ (pureS_ref1_PutVarint N) Try.func14 body_ref1_PutVarint hc.1 hc.2 (by decide) ((run_ref1_PutVarint N p0).trans h)⟩

def G_rec_Put : Nat → List V → Option (Bool × V) := fun f vs => match f, vs with
  | 13, [.int .u64 a0] => some (true, .str (putV a0))
  | 24, [.int .i64 a0] => some (true, .int .i64 (sizeR a0))
  | _, _ => none
def Γ_rec_Put : ASpec := (liftG G_rec_Put)
theorem pureS_rec_Put : PureS Γ_rec_Put [] := (liftG_pure _ _)
theorem spec_rec_Put (h_rec_PutVarint : ∀ (a0 : Int), PureOK Try.prog i_rec_PutVarint [.int .u64 a0] (.str (putV a0))) (h_rec_size : ∀ (a0 : Int), PureOK Try.prog i_rec_size [.int .i64 a0] (.int .i64 (sizeR a0))) : SpecOK Try.prog Γ_rec_Put := by
  intro f vs hp v hp' h0
  obtain ⟨h, he⟩ := liftG_inv h0
  subst he
  unfold G_rec_Put at h
  split at h
  · simp only [Option.some.injEq, Prod.mk.injEq] at h
    obtain ⟨hc, rfl⟩ := h
    exact ((h_rec_PutVarint _).dim rfl).frame rfl rfl _
  · simp only [Option.some.injEq, Prod.mk.injEq] at h
    obtain ⟨hc, rfl⟩ := h
    exact ((h_rec_size _).dim rfl).frame rfl rfl _
  · simp at h
def ir_rec_Put_0 : IR := .ret
def ir_rec_Put_1 : IR := (.cond (.t 13) (.seq (.reg [Pp (.mov 2 (.c (.str ([] : Bs))))] []) ir_rec_Put_0) .skip)
def ir_rec_Put_2 : IR := .ret
def ir_rec_Put_3 : IR := .ret
def ir_rec_Put_4 : IR := (.cond (.t 45) .skip (.reg [Bc 47 .eql 25 5, Mv 45 47] []))
def ir_rec_Put_5 : IR := (.reg [Pp (.mov 54 (.tk 4)), Fa 55 2 1, Ld 56 1 false 55, Mv 57 5, Pp (.bin 58 .mul (.c (.int .i64 8)) (.t 57)), Bi 59 .shr 56 58, Pp (.cvi 60 .u8 (.t 59)), Pp (.bsl 61 .u8 [(.t 60)] false), Pp (.app 62 .u8 (.tk 54) (.t 61)), Pp (.mov 4 (.tk 62))] [])
def ir_rec_Put_6 : IR := (.reg [Bc 63 .add 51 1, Mv 51 63] [])
def ir_rec_Put_7 : IR := (.seq (.block 2 (.seq (.reg [Mv 53 51, Mv 5 53] []) ir_rec_Put_5)) ir_rec_Put_6)
def ir_rec_Put_8 : IR := (.seq (.cond (.t 52) .skip (.exit 1)) ir_rec_Put_7)
def ir_rec_Put_9 : IR := (.seq (.reg [Bi 52 .lss 51 50] []) ir_rec_Put_8)
def ir_rec_Put_10 : IR := (.block 1 (.loop [1, 3, 4, 50, 51, 1000000] 0 ir_rec_Put_9))
def ir_rec_Put_11 : IR := .ret
def ir_rec_Put_12 : IR := (.seq (.reg [Mv 64 3, Mv 65 4, Pp (.b2s 66 (.t 65)), Bi 67 .add 64 66, Mv 2 67] []) ir_rec_Put_11)
def ir_rec_Put_13 : IR := (.seq (.seq (.reg [Fa 48 1 1, Ld 49 1 false 48, Pp (.call (some 50) 24 [(.t 49)]), Pp (.mov 51 (.c (.int .i64 0)))] []) ir_rec_Put_10) ir_rec_Put_12)
def ir_rec_Put_14 : IR := (.cond (.t 45) (.seq (.reg [Pp (.mov 4 (.c (.sl .u8 .own ([] : Bs))))] []) ir_rec_Put_13) .skip)
def ir_rec_Put_15 : IR := (.cond (.t 33) (.seq (.reg [Mv 35 3, Fa 36 3 1, Ld 37 1 false 36, Pp (.lens 38 (.t 37)), Pp (.cvi 39 .u64 (.t 38)), Pp (.call (some 40) 13 [(.t 39)]), Bi 41 .add 35 40, Fa 42 3 1, Ld 43 1 false 42, Bi 44 .add 41 43, Mv 2 44] [[], [], [1], [1, 2], [1, 2, 3], [1, 2, 3, 4], [0, 1, 2, 3, 4, 5], [], [7], [0, 1, 2, 3, 4, 5, 6, 7, 8], [0, 1, 2, 3, 4, 5, 6, 7, 8, 9]]) ir_rec_Put_3) (.seq (.seq (.reg [Bc 46 .eql 25 1, Mv 45 46] []) ir_rec_Put_4) ir_rec_Put_14))
def ir_rec_Put_16 : IR := (.cond (.t 26) (.seq (.reg [Mv 28 3, Fa 29 2 1, Ld 30 1 false 29, Pp (.call (some 31) 13 [(.t 30)]), Bi 32 .add 28 31, Mv 2 32] []) ir_rec_Put_2) (.seq (.reg [Bc 34 .eql 25 2, Mv 33 34] []) ir_rec_Put_15))
def ir_rec_Put_17 : IR := (.block 0 (.seq (.reg [Bc 27 .eql 25 0, Mv 26 27] []) ir_rec_Put_16))
def ir_rec_Put_18 : IR := .ret
def ir_rec_Put_19 : IR := (.seq (.reg [Pp (.mov 2 (.c (.str ([] : Bs))))] []) ir_rec_Put_18)
def ir_rec_Put_20 : IR := (.seq (.seq (.reg [Fa 24 1 1, Ld 25 1 false 24] []) ir_rec_Put_17) ir_rec_Put_19)
def ir_rec_Put_21 : IR := (.seq (.reg [Fa 14 0 1, Ld 15 1 false 14, Pp (.cvi 16 .u64 (.t 15)), Pp (.bin 17 .mul (.t 16) (.c (.int .u64 8))), Fa 18 1 1, Ld 19 1 false 18, Bc 20 .and 19 7, Pp (.cvi 21 .u64 (.t 20)), Bi 22 .add 17 21, Pp (.call (some 23) 13 [(.t 22)]), Mv 3 23] []) ir_rec_Put_20)
def ir_rec_Put_22 : IR := (.seq (.seq (.reg [Fa 6 0 1, Ld 7 1 false 6, Bc 8 .lss 7 1, Mv 9 8, Pg (9, false) (.fad 10 0 (.t 1)), Pg (9, false) (.lde 11 1 false (.t 10)), Pg (9, false) (.bin 12 .gtr (.t 11) (.c (.int .i64 536870911))), Po 13 9 12] []) ir_rec_Put_1) ir_rec_Put_21)
def ir_rec_Put : IR := (.seq (.reg [Pp (.boxe 1 (.t 0)), Pp (.mov 2 (.c (.str ([] : Bs))))] []) ir_rec_Put_22)
def rs_rec_Put : List RV := [.t 2]
theorem chk_rec_Put : (chkCode Try.prog [] 0 ir_rec_Put (Try.f18.body.getD .skip) && chkRes Try.prog rs_rec_Put Try.f18.results.toList) = true := by kernel_rfl
theorem body_rec_Put : Try.f18.body = some (Try.f18.body.getD .skip) := by kernel_rfl
def K_rec_Put_0 (R : IR → (Ex → St → Ro) → St → Ro) (again0 : St → Ro) : Ex → St → Ro := (kloop again0 [1, 3, 4, 50, 51, 1000000] 0 (kblock 1 (kseq (R ir_rec_Put_12) (kblock 0 (kseq (R ir_rec_Put_19) (fin rs_rec_Put))))))
abbrev α_rec_Put_0 : Type := (Int × Int × Int × Bs × Bs × Bs × Bs × Int × Int)
def mk_rec_Put_0 (x : α_rec_Put_0) : St := { env := (.undef :: .ea [.int .i64 x.1, .int .i64 x.2.1, .int .u64 x.2.2.1, .str x.2.2.2.1, .str x.2.2.2.2.1] :: .undef :: .str x.2.2.2.2.2.1 :: .sl .u8 .own x.2.2.2.2.2.2.1 :: (U 45 (.int .i64 x.2.2.2.2.2.2.2.1 :: .int .i64 x.2.2.2.2.2.2.2.2 :: (U 16 [])))), hp := [] }
def F_rec_Put_0 (N : Nat) : (St → Ro) → St → Ro := fun again0 s => run Γ_rec_Put N ir_rec_Put_9 (K_rec_Put_0 (run Γ_rec_Put N) again0) s
def B_rec_Put_0 (N : Nat) (again0 : α_rec_Put_0 → Ro) (x : α_rec_Put_0) : Ro :=
  let v1_0 : Int := x.1
  let v1_1 : Int := x.2.1
  let v1_2 : Int := x.2.2.1
  let v1_3 : Bs := x.2.2.2.1
  let v1_4 : Bs := x.2.2.2.2.1
  let v3 : Bs := x.2.2.2.2.2.1
  let v4 : Bs := x.2.2.2.2.2.2.1
  let v50 : Int := x.2.2.2.2.2.2.2.1
  let v51 : Int := x.2.2.2.2.2.2.2.2
  cond (decide (v51 < v50)) (
    let x9 : Int := (IntKind.wrap .i64 (8 * v51))
    chk (decide (0 ≤ x9)) (
      let x10 : Int := (IntKind.wrap .u8 (shrI .u64 v1_2 x9))
      chk (decide ((List.length v4 + List.length ([(UInt8.ofNat (Int.toNat x10))] : Bs)) * 1 ≤ 140737488355328)) (
        let x11 : Bs := (v4 ++ ([(UInt8.ofNat (Int.toNat x10))] : Bs))
        let x12 : Int := (IntKind.wrap .i64 (v51 + 1))
        again0 (v1_0, v1_1, v1_2, v1_3, v1_4, v3, x11, v50, x12)))) (
    chk (decide (List.length v3 + List.length v4 ≤ 9223372036854775807)) (
      some (.str (v3 ++ v4), [])))
theorem FB_rec_Put_0 (N : Nat) : ∀ (again0 : St → Ro) (x : α_rec_Put_0), F_rec_Put_0 N again0 (mk_rec_Put_0 x) = B_rec_Put_0 N (fun y => again0 (mk_rec_Put_0 y)) x := by
  intro again0 x
  kernel_rfl
/-- proclitic/rec.Put -/
def sa_rec_Put (N : Nat) (p0_0 : Int) (p0_1 : Int) (p0_2 : Int) (p0_3 : Bs) (p0_4 : Bs) (q0 : α_rec_Put_0 → Ro) : Ro :=
  cond (decide (p0_0 < 1)) (
    some (.str ([] : Bs), [])) (
    let x1 : Bool := decide (536870911 < p0_0)
    cond x1 (
      some (.str ([] : Bs), [])) (
      let x2 : Int := (IntKind.wrap .u64 ((IntKind.wrap .u64 p0_0) * 8))
      let x3 : Int := (IntKind.wrap .u64 (bitsI .and .i64 p0_1 7))
      let x4 : Int := (IntKind.wrap .u64 (x2 + x3))
      cond (p0_1 == 0) (
        chk (decide (List.length (putV x4) + List.length (putV p0_2) ≤ 9223372036854775807)) (
          let x5 : Bs := ((putV x4) ++ (putV p0_2))
          some (.str x5, []))) (
        cond (p0_1 == 2) (
          let x6 : Int := (↑(List.length p0_3) : Int)
          let x7 : Bs := (putV (IntKind.wrap .u64 x6))
          chk (decide (List.length (putV x4) + List.length x7 ≤ 9223372036854775807)) (
            chk (decide (List.length ((putV x4) ++ x7) + List.length p0_3 ≤ 9223372036854775807)) (
              let x8 : Bs := (((putV x4) ++ x7) ++ p0_3)
              some (.str x8, [])))) (
          cond (p0_1 == 1) (
            q0 (p0_0, p0_1, p0_2, p0_3, p0_4, (putV x4), ([] : Bs), (sizeR p0_1), 0)) (
            cond (p0_1 == 5) (
              q0 (p0_0, p0_1, p0_2, p0_3, p0_4, (putV x4), ([] : Bs), (sizeR p0_1), 0)) (
              some (.str ([] : Bs), [])))))))
def sh_rec_Put (N : Nat) (p0_0 : Int) (p0_1 : Int) (p0_2 : Int) (p0_3 : Bs) (p0_4 : Bs) : Ro := sa_rec_Put N p0_0 p0_1 p0_2 p0_3 p0_4 (fun z => iterL N (B_rec_Put_0 N) z)
def X_rec_Put (N : Nat) : List (Nat × (St → Ro)) := cuts Γ_rec_Put N ir_rec_Put (fin rs_rec_Put) ++ []
theorem run_rec_Put (N : Nat) (p0_0 : Int) (p0_1 : Int) (p0_2 : Int) (p0_3 : Bs) (p0_4 : Bs) : callF Γ_rec_Put N 68 rs_rec_Put ir_rec_Put [.agg [.int .i64 p0_0, .int .i64 p0_1, .int .u64 p0_2, .str p0_3, .str p0_4]] [] = sh_rec_Put N p0_0 p0_1 p0_2 p0_3 p0_4 :=
  (run_of (X_rec_Put N) (by kernel_rfl) rfl (fun C => sa_rec_Put N p0_0 p0_1 p0_2 p0_3 p0_4 (fun z => C 1000000 (mk_rec_Put_0 z))) (fun C => by kernel_rfl)).trans (Eq.trans (b := sa_rec_Put N p0_0 p0_1 p0_2 p0_3 p0_4 (fun z => loopN N (F_rec_Put_0 N) (mk_rec_Put_0 z))) (by kernel_rfl) (congrArg (sa_rec_Put N p0_0 p0_1 p0_2 p0_3 p0_4) (funext fun z => loop_eq (mk_rec_Put_0) (F_rec_Put_0 N) (B_rec_Put_0 N) (FB_rec_Put_0 N) N z)))
theorem ok_rec_Put (hΓ : SpecOK Try.prog Γ_rec_Put) (N : Nat) (p0_0 : Int) (p0_1 : Int) (p0_2 : Int) (p0_3 : Bs) (p0_4 : Bs) {v : V} {hp : List AObj} (h : sh_rec_Put N p0_0 p0_1 p0_2 p0_3 p0_4 = some (v, hp)) : PureOK Try.prog i_rec_Put [.agg [.int .i64 p0_0, .int .i64 p0_1, .int .u64 p0_2, .str p0_3, .str p0_4]] v := by
  have hc := chk_rec_Put
  simp only [Bool.and_eq_true] at hc
  exact ⟨hp, fnOK_of hΓ pureS_rec_Put Try.func18 body_rec_Put hc.1 hc.2 (by decide) ((run_rec_Put N p0_0 p0_1 p0_2 p0_3 p0_4).trans h)⟩

def G_ref1_Put : Nat → List V → Option (Bool × V) := fun f vs => match f, vs with
  | 14, [.int .u64 a0] => some (true, .str (putV a0))
  | 25, [.int .u64 a0, .int .i64 a1] => some (decide ((a1 : Int) ≤ 1000), .str (lowsR a0 a1))
  | _, _ => none
def Γ_ref1_Put : ASpec := (liftG G_ref1_Put)
theorem pureS_ref1_Put : PureS Γ_ref1_Put [] := (liftG_pure _ _)
theorem spec_ref1_Put (h_ref1_PutVarint : ∀ (a0 : Int), PureOK Try.prog i_ref1_PutVarint [.int .u64 a0] (.str (putV a0))) (h_ref1_Low : ∀ (a0 : Int) (a1 : Int), (decide ((a1 : Int) ≤ 1000)) = true → PureOK Try.prog i_ref1_Low [.int .u64 a0, .int .i64 a1] (.str (lowsR a0 a1))) : SpecOK Try.prog Γ_ref1_Put := by
  intro f vs hp v hp' h0
  obtain ⟨h, he⟩ := liftG_inv h0
  subst he
  unfold G_ref1_Put at h
  split at h
  · simp only [Option.some.injEq, Prod.mk.injEq] at h
    obtain ⟨hc, rfl⟩ := h
    exact ((h_ref1_PutVarint _).dim rfl).frame rfl rfl _
  · simp only [Option.some.injEq, Prod.mk.injEq] at h
    obtain ⟨hc, rfl⟩ := h
    exact ((h_ref1_Low _ _ hc).dim rfl).frame rfl rfl _
  · simp at h
def ir_ref1_Put_0 : IR := .ret
def ir_ref1_Put_1 : IR := (.cond (.t 11) (.seq (.reg [Pp (.mov 2 (.c (.str ([] : Bs))))] []) ir_ref1_Put_0) .skip)
def ir_ref1_Put_2 : IR := .ret
def ir_ref1_Put_3 : IR := .ret
def ir_ref1_Put_4 : IR := .ret
def ir_ref1_Put_5 : IR := .ret
def ir_ref1_Put_6 : IR := (.cond (.t 44) (.seq (.reg [Mv 46 3, Fa 47 3 1, Ld 48 1 false 47, Pp (.lens 49 (.t 48)), Pp (.cvi 50 .u64 (.t 49)), Pp (.call (some 51) 14 [(.t 50)]), Bi 52 .add 46 51, Fa 53 3 1, Ld 54 1 false 53, Bi 55 .add 52 54, Mv 2 55] [[], [], [1], [1, 2], [1, 2, 3], [1, 2, 3, 4], [0, 1, 2, 3, 4, 5], [], [7], [0, 1, 2, 3, 4, 5, 6, 7, 8], [0, 1, 2, 3, 4, 5, 6, 7, 8, 9]]) ir_ref1_Put_5) .skip)
def ir_ref1_Put_7 : IR := (.cond (.t 37) (.seq (.reg [Mv 39 3, Fa 40 2 1, Ld 41 1 false 40, Pp (.call (some 42) 25 [(.t 41), (.c (.int .i64 4))]), Bi 43 .add 39 42, Mv 2 43] []) ir_ref1_Put_4) (.seq (.reg [Bc 45 .eql 22 2, Mv 44 45] []) ir_ref1_Put_6))
def ir_ref1_Put_8 : IR := (.cond (.t 30) (.seq (.reg [Mv 32 3, Fa 33 2 1, Ld 34 1 false 33, Pp (.call (some 35) 25 [(.t 34), (.c (.int .i64 8))]), Bi 36 .add 32 35, Mv 2 36] []) ir_ref1_Put_3) (.seq (.reg [Bc 38 .eql 22 5, Mv 37 38] []) ir_ref1_Put_7))
def ir_ref1_Put_9 : IR := (.cond (.t 23) (.seq (.reg [Mv 25 3, Fa 26 2 1, Ld 27 1 false 26, Pp (.call (some 28) 14 [(.t 27)]), Bi 29 .add 25 28, Mv 2 29] []) ir_ref1_Put_2) (.seq (.reg [Bc 31 .eql 22 1, Mv 30 31] []) ir_ref1_Put_8))
def ir_ref1_Put_10 : IR := (.block 0 (.seq (.reg [Bc 24 .eql 22 0, Mv 23 24] []) ir_ref1_Put_9))
def ir_ref1_Put_11 : IR := .ret
def ir_ref1_Put_12 : IR := (.seq (.reg [Pp (.mov 2 (.c (.str ([] : Bs))))] []) ir_ref1_Put_11)
def ir_ref1_Put_13 : IR := (.seq (.seq (.reg [Fa 21 1 1, Ld 22 1 false 21] []) ir_ref1_Put_10) ir_ref1_Put_12)
def ir_ref1_Put_14 : IR := (.seq (.reg [Fa 12 0 1, Ld 13 1 false 12, Pp (.cvi 14 .u64 (.t 13)), Pp (.bin 15 .mul (.t 14) (.c (.int .u64 8))), Fa 16 1 1, Ld 17 1 false 16, Pp (.cvi 18 .u64 (.t 17)), Bi 19 .add 15 18, Pp (.call (some 20) 14 [(.t 19)]), Mv 3 20] []) ir_ref1_Put_13)
def ir_ref1_Put_15 : IR := (.seq (.seq (.reg [Fa 4 0 1, Ld 5 1 false 4, Bc 6 .lss 5 1, Mv 7 6, Pg (7, false) (.fad 8 0 (.t 1)), Pg (7, false) (.lde 9 1 false (.t 8)), Pg (7, false) (.bin 10 .gtr (.t 9) (.c (.int .i64 536870911))), Po 11 7 10] []) ir_ref1_Put_1) ir_ref1_Put_14)
def ir_ref1_Put : IR := (.seq (.reg [Pp (.boxe 1 (.t 0)), Pp (.mov 2 (.c (.str ([] : Bs))))] []) ir_ref1_Put_15)
def rs_ref1_Put : List RV := [.t 2]
theorem chk_ref1_Put : (chkCode Try.prog [] 0 ir_ref1_Put (Try.f19.body.getD .skip) && chkRes Try.prog rs_ref1_Put Try.f19.results.toList) = true := by kernel_rfl
theorem body_ref1_Put : Try.f19.body = some (Try.f19.body.getD .skip) := by kernel_rfl
/-- proclitic/procliticref1.Put -/
def sa_ref1_Put (N : Nat) (p0_0 : Int) (p0_1 : Int) (p0_2 : Int) (p0_3 : Bs) (p0_4 : Bs)  : Ro :=
  cond (decide (p0_0 < 1)) (
    some (.str ([] : Bs), [])) (
    let x1 : Bool := decide (536870911 < p0_0)
    cond x1 (
      some (.str ([] : Bs), [])) (
      let x2 : Int := (IntKind.wrap .u64 ((IntKind.wrap .u64 p0_0) * 8))
      let x3 : Int := (IntKind.wrap .u64 (x2 + (IntKind.wrap .u64 p0_1)))
      cond (p0_1 == 0) (
        chk (decide (List.length (putV x3) + List.length (putV p0_2) ≤ 9223372036854775807)) (
          let x4 : Bs := ((putV x3) ++ (putV p0_2))
          some (.str x4, []))) (
        cond (p0_1 == 1) (
          chk (decide ((8 : Int) ≤ 1000)) (
            chk (decide (List.length (putV x3) + List.length (lowsR p0_2 8) ≤ 9223372036854775807)) (
              let x5 : Bs := ((putV x3) ++ (lowsR p0_2 8))
              some (.str x5, [])))) (
          cond (p0_1 == 5) (
            chk (decide ((4 : Int) ≤ 1000)) (
              chk (decide (List.length (putV x3) + List.length (lowsR p0_2 4) ≤ 9223372036854775807)) (
                let x6 : Bs := ((putV x3) ++ (lowsR p0_2 4))
                some (.str x6, [])))) (
            cond (p0_1 == 2) (
              let x7 : Int := (↑(List.length p0_3) : Int)
              let x8 : Bs := (putV (IntKind.wrap .u64 x7))
              chk (decide (List.length (putV x3) + List.length x8 ≤ 9223372036854775807)) (
                chk (decide (List.length ((putV x3) ++ x8) + List.length p0_3 ≤ 9223372036854775807)) (
                  let x9 : Bs := (((putV x3) ++ x8) ++ p0_3)
                  some (.str x9, [])))) (
              some (.str ([] : Bs), [])))))))
def sh_ref1_Put (N : Nat) (p0_0 : Int) (p0_1 : Int) (p0_2 : Int) (p0_3 : Bs) (p0_4 : Bs) : Ro := sa_ref1_Put N p0_0 p0_1 p0_2 p0_3 p0_4
theorem run_ref1_Put (N : Nat) (p0_0 : Int) (p0_1 : Int) (p0_2 : Int) (p0_3 : Bs) (p0_4 : Bs) : callF Γ_ref1_Put N 56 rs_ref1_Put ir_ref1_Put [.agg [.int .i64 p0_0, .int .i64 p0_1, .int .u64 p0_2, .str p0_3, .str p0_4]] [] = sh_ref1_Put N p0_0 p0_1 p0_2 p0_3 p0_4 := by kernel_rfl
theorem ok_ref1_Put (hΓ : SpecOK Try.prog Γ_ref1_Put) (N : Nat) (p0_0 : Int) (p0_1 : Int) (p0_2 : Int) (p0_3 : Bs) (p0_4 : Bs) {v : V} {hp : List AObj} (h : sh_ref1_Put N p0_0 p0_1 p0_2 p0_3 p0_4 = some (v, hp)) : PureOK Try.prog i_ref1_Put [.agg [.int .i64 p0_0, .int .i64 p0_1, .int .u64 p0_2, .str p0_3, .str p0_4]] v := by
  have hc := chk_ref1_Put
  simp only [Bool.and_eq_true] at hc
  exact ⟨hp, fnOK_of hΓ pureS_ref1_Put Try.func19 body_ref1_Put hc.1 hc.2 (by decide) ((run_ref1_Put N p0_0 p0_1 p0_2 p0_3 p0_4).trans h)⟩

def G_ref1_Join : Nat → List V → Option (Bool × V) := fun _ _ => none
def Γ_ref1_Join : ASpec := (liftG G_ref1_Join)
theorem pureS_ref1_Join : PureS Γ_ref1_Join [] := (liftG_pure _ _)
theorem spec_ref1_Join  : SpecOK Try.prog Γ_ref1_Join := by
  intro f vs hp v hp' h
  obtain ⟨h, -⟩ := liftG_inv h
  simp [G_ref1_Join] at h
def ir_ref1_Join_0 : IR := (.cond (.t 8) .skip (.exit 0))
def ir_ref1_Join_1 : IR := (.reg [Mv 9 4, Bc 10 .add 9 1, Mv 4 10] [])
def ir_ref1_Join_2 : IR := (.seq (.block 1 (.reg [Mv 11 3, Mv 12 0, Mv 13 4, Pp (.ixa 14 .record (.t 12) (.t 13)), Fa 15 4 14, Pp (.ld 16 1 false false (.t 15)), Bi 17 .add 11 16, Mv 3 17] [])) ir_ref1_Join_1)
def ir_ref1_Join_3 : IR := (.seq (.seq (.reg [Mv 5 4, Mv 6 0, Pp (.lenl 7 (.t 6)), Bi 8 .lss 5 7] []) ir_ref1_Join_0) ir_ref1_Join_2)
def ir_ref1_Join_4 : IR := (.block 0 (.loop [0, 3, 4, 1000000] 0 ir_ref1_Join_3))
def ir_ref1_Join_5 : IR := .ret
def ir_ref1_Join_6 : IR := (.seq (.reg [Mv 18 3, Mv 2 18] []) ir_ref1_Join_5)
def ir_ref1_Join_7 : IR := (.seq (.seq (.reg [Pp (.mov 4 (.c (.int .i64 0)))] []) ir_ref1_Join_4) ir_ref1_Join_6)
def ir_ref1_Join_8 : IR := (.seq (.reg [Pp (.mov 3 (.c (.str ([] : Bs))))] []) ir_ref1_Join_7)
def ir_ref1_Join : IR := (.seq (.reg [Pp (.mov 2 (.c (.str ([] : Bs))))] []) ir_ref1_Join_8)
def rs_ref1_Join : List RV := [.t 2]
theorem chk_ref1_Join : (chkCode Try.prog [] 0 ir_ref1_Join (Try.f21.body.getD .skip) && chkRes Try.prog rs_ref1_Join Try.f21.results.toList) = true := by kernel_rfl
theorem body_ref1_Join : Try.f21.body = some (Try.f21.body.getD .skip) := by kernel_rfl
def K_ref1_Join_0 (R : IR → (Ex → St → Ro) → St → Ro) (again0 : St → Ro) : Ex → St → Ro := (kloop again0 [0, 3, 4, 1000000] 0 (kblock 0 (kseq (R ir_ref1_Join_6) (fin rs_ref1_Join))))
abbrev α_ref1_Join_0 : Type := (List Record × Bs × Int)
def mk_ref1_Join_0 (x : α_ref1_Join_0) : St := { env := (.sl .record (.may false) x.1 :: .undef :: .undef :: .str x.2.1 :: .int .i64 x.2.2 :: (U 14 [])), hp := [] }
def F_ref1_Join_0 (N : Nat) : (St → Ro) → St → Ro := fun again0 s => run Γ_ref1_Join N ir_ref1_Join_3 (K_ref1_Join_0 (run Γ_ref1_Join N) again0) s
def B_ref1_Join_0 (N : Nat) (again0 : α_ref1_Join_0 → Ro) (x : α_ref1_Join_0) : Ro :=
  let v0 : List Record := x.1
  let v3 : Bs := x.2.1
  let v4 : Int := x.2.2
  let x1 : Int := (↑(List.length v0) : Int)
  cond (decide (v4 < x1)) (
    chk ((decide (0 ≤ v4) && decide (v4 < ↑(List.length v0)))) (
      let x2 : Int := (List.getD v0 (Int.toNat v4) (dflt .record)).num
      let x3 : Int := (List.getD v0 (Int.toNat v4) (dflt .record)).wire
      let x4 : Int := (List.getD v0 (Int.toNat v4) (dflt .record)).n
      let x5 : Bs := (List.getD v0 (Int.toNat v4) (dflt .record)).s
      let x6 : Bs := (List.getD v0 (Int.toNat v4) (dflt .record)).raw
      chk (decide (List.length v3 + List.length x6 ≤ 9223372036854775807)) (
        let x7 : Int := (IntKind.wrap .i64 (v4 + 1))
        again0 (v0, (v3 ++ x6), x7)))) (
    some (.str v3, []))
theorem FB_ref1_Join_0 (N : Nat) : ∀ (again0 : St → Ro) (x : α_ref1_Join_0), F_ref1_Join_0 N again0 (mk_ref1_Join_0 x) = B_ref1_Join_0 N (fun y => again0 (mk_ref1_Join_0 y)) x := by
  intro again0 x
  kernel_rfl
/-- proclitic/procliticref1.Join -/
def sa_ref1_Join (N : Nat) (p0 : List Record) (q0 : α_ref1_Join_0 → Ro) : Ro :=
  q0 (p0, ([] : Bs), 0)
def sh_ref1_Join (N : Nat) (p0 : List Record) : Ro := sa_ref1_Join N p0 (fun z => iterL N (B_ref1_Join_0 N) z)
def X_ref1_Join (N : Nat) : List (Nat × (St → Ro)) := cuts Γ_ref1_Join N ir_ref1_Join (fin rs_ref1_Join) ++ []
theorem run_ref1_Join (N : Nat) (p0 : List Record) : callF Γ_ref1_Join N 19 rs_ref1_Join ir_ref1_Join [.sl .record (.may false) p0] [] = sh_ref1_Join N p0 :=
  (run_of (X_ref1_Join N) (by kernel_rfl) rfl (fun C => sa_ref1_Join N p0 (fun z => C 1000000 (mk_ref1_Join_0 z))) (fun C => by kernel_rfl)).trans (Eq.trans (b := sa_ref1_Join N p0 (fun z => loopN N (F_ref1_Join_0 N) (mk_ref1_Join_0 z))) (by kernel_rfl) (congrArg (sa_ref1_Join N p0) (funext fun z => loop_eq (mk_ref1_Join_0) (F_ref1_Join_0 N) (B_ref1_Join_0 N) (FB_ref1_Join_0 N) N z)))
theorem ok_ref1_Join (hΓ : SpecOK Try.prog Γ_ref1_Join) (N : Nat) (p0 : List Record) {v : V} {hp : List AObj} (h : sh_ref1_Join N p0 = some (v, hp)) : PureOK Try.prog i_ref1_Join [.sl .record (.may false) p0] v := by
  have hc := chk_ref1_Join
  simp only [Bool.and_eq_true] at hc
  exact ⟨hp, fnOK_of hΓ pureS_ref1_Join Try.func21 body_ref1_Join hc.1 hc.2 (by decide) ((run_ref1_Join N p0).trans h)⟩

def G_ref1_SameRecords : Nat → List V → Option (Bool × V) := fun _ _ => none
def Γ_ref1_SameRecords : ASpec := (liftG G_ref1_SameRecords)
theorem pureS_ref1_SameRecords : PureS Γ_ref1_SameRecords [] := (liftG_pure _ _)
theorem spec_ref1_SameRecords  : SpecOK Try.prog Γ_ref1_SameRecords := by
  intro f vs hp v hp' h
  obtain ⟨h, -⟩ := liftG_inv h
  simp [G_ref1_SameRecords] at h
def ir_ref1_SameRecords_0 : IR := .ret
def ir_ref1_SameRecords_1 : IR := (.cond (.t 10) (.seq (.reg [Pp (.mov 4 (.c (.bool false)))] []) ir_ref1_SameRecords_0) .skip)
def ir_ref1_SameRecords_2 : IR := (.cond (.t 14) .skip (.exit 0))
def ir_ref1_SameRecords_3 : IR := .ret
def ir_ref1_SameRecords_4 : IR := (.cond (.t 25) (.seq (.reg [Pp (.mov 4 (.c (.bool false)))] []) ir_ref1_SameRecords_3) .skip)
def ir_ref1_SameRecords_5 : IR := (.reg [Mv 15 5, Bc 16 .add 15 1, Mv 5 16] [])
def ir_ref1_SameRecords_6 : IR := (.seq (.block 1 (.seq (.reg [Mv 17 0, Mv 18 5, Pp (.ixa 19 .record (.t 17) (.t 18)), Ld 20 5 true 19, Mv 21 1, Mv 22 5, Pp (.ixa 23 .record (.t 21) (.t 22)), Ld 24 5 true 23, Pp (.eqs 25 true [0, 0, 0, 1, 1] (.t 20) (.t 24))] [[], [], [0, 1], [0, 1, 2], [], [], [4, 5], [4, 5, 6], [0, 1, 2, 3, 4, 5, 6, 7]]) ir_ref1_SameRecords_4)) ir_ref1_SameRecords_5)
def ir_ref1_SameRecords_7 : IR := (.seq (.seq (.reg [Mv 11 5, Mv 12 0, Pp (.lenl 13 (.t 12)), Bi 14 .lss 11 13] []) ir_ref1_SameRecords_2) ir_ref1_SameRecords_6)
def ir_ref1_SameRecords_8 : IR := (.block 0 (.loop [0, 1, 5, 1000000] 0 ir_ref1_SameRecords_7))
def ir_ref1_SameRecords_9 : IR := .ret
def ir_ref1_SameRecords_10 : IR := (.seq (.reg [Pp (.mov 4 (.c (.bool true)))] []) ir_ref1_SameRecords_9)
def ir_ref1_SameRecords_11 : IR := (.seq (.seq (.reg [Pp (.mov 5 (.c (.int .i64 0)))] []) ir_ref1_SameRecords_8) ir_ref1_SameRecords_10)
def ir_ref1_SameRecords_12 : IR := (.seq (.seq (.reg [Mv 6 0, Pp (.lenl 7 (.t 6)), Mv 8 1, Pp (.lenl 9 (.t 8)), Bi 10 .neq 7 9] []) ir_ref1_SameRecords_1) ir_ref1_SameRecords_11)
def ir_ref1_SameRecords : IR := (.seq (.reg [Pp (.mov 4 (.c (.bool false)))] []) ir_ref1_SameRecords_12)
def rs_ref1_SameRecords : List RV := [.t 4]
theorem chk_ref1_SameRecords : (chkCode Try.prog [] 0 ir_ref1_SameRecords (Try.f17.body.getD .skip) && chkRes Try.prog rs_ref1_SameRecords Try.f17.results.toList) = true := by kernel_rfl
theorem body_ref1_SameRecords : Try.f17.body = some (Try.f17.body.getD .skip) := by kernel_rfl
def K_ref1_SameRecords_0 (R : IR → (Ex → St → Ro) → St → Ro) (again0 : St → Ro) : Ex → St → Ro := (kloop again0 [0, 1, 5, 1000000] 0 (kblock 0 (kseq (R ir_ref1_SameRecords_10) (fin rs_ref1_SameRecords))))
abbrev α_ref1_SameRecords_0 : Type := (List Record × List Record × Int)
def mk_ref1_SameRecords_0 (x : α_ref1_SameRecords_0) : St := { env := (.sl .record (.may false) x.1 :: .sl .record (.may false) x.2.1 :: (U 3 (.int .i64 x.2.2 :: (U 20 [])))), hp := [] }
def F_ref1_SameRecords_0 (N : Nat) : (St → Ro) → St → Ro := fun again0 s => run Γ_ref1_SameRecords N ir_ref1_SameRecords_7 (K_ref1_SameRecords_0 (run Γ_ref1_SameRecords N) again0) s
def B_ref1_SameRecords_0 (N : Nat) (again0 : α_ref1_SameRecords_0 → Ro) (x : α_ref1_SameRecords_0) : Ro :=
  let v0 : List Record := x.1
  let v1 : List Record := x.2.1
  let v5 : Int := x.2.2
  let x3 : Int := (↑(List.length v0) : Int)
  cond (decide (v5 < x3)) (
    chk ((decide (0 ≤ v5) && decide (v5 < ↑(List.length v0)))) (
      let x4 : Int := (List.getD v0 (Int.toNat v5) (dflt .record)).num
      let x5 : Int := (List.getD v0 (Int.toNat v5) (dflt .record)).wire
      let x6 : Int := (List.getD v0 (Int.toNat v5) (dflt .record)).n
      let x7 : Bs := (List.getD v0 (Int.toNat v5) (dflt .record)).s
      let x8 : Bs := (List.getD v0 (Int.toNat v5) (dflt .record)).raw
      chk ((decide (0 ≤ v5) && decide (v5 < ↑(List.length v1)))) (
        let x9 : Int := (List.getD v1 (Int.toNat v5) (dflt .record)).num
        let x10 : Int := (List.getD v1 (Int.toNat v5) (dflt .record)).wire
        let x11 : Int := (List.getD v1 (Int.toNat v5) (dflt .record)).n
        let x12 : Bs := (List.getD v1 (Int.toNat v5) (dflt .record)).s
        let x13 : Bs := (List.getD v1 (Int.toNat v5) (dflt .record)).raw
        let x14 : Bool := (!((x4 == x9) && ((x5 == x10) && ((x6 == x11) && (decide (x7 = x12) && (decide (x8 = x13) && true))))))
        cond x14 (
          some (.bool false, [])) (
          let x15 : Int := (IntKind.wrap .i64 (v5 + 1))
          again0 (v0, v1, x15))))) (
    some (.bool true, []))
theorem FB_ref1_SameRecords_0 (N : Nat) : ∀ (again0 : St → Ro) (x : α_ref1_SameRecords_0), F_ref1_SameRecords_0 N again0 (mk_ref1_SameRecords_0 x) = B_ref1_SameRecords_0 N (fun y => again0 (mk_ref1_SameRecords_0 y)) x := by
  intro again0 x
  kernel_rfl
/-- proclitic/procliticref1.SameRecords -/
def sa_ref1_SameRecords (N : Nat) (p0 : List Record) (p1 : List Record) (q0 : α_ref1_SameRecords_0 → Ro) : Ro :=
  let x1 : Int := (↑(List.length p0) : Int)
  let x2 : Int := (↑(List.length p1) : Int)
  cond (!(x1 == x2)) (
    some (.bool false, [])) (
    q0 (p0, p1, 0))
def sh_ref1_SameRecords (N : Nat) (p0 : List Record) (p1 : List Record) : Ro := sa_ref1_SameRecords N p0 p1 (fun z => iterL N (B_ref1_SameRecords_0 N) z)
def X_ref1_SameRecords (N : Nat) : List (Nat × (St → Ro)) := cuts Γ_ref1_SameRecords N ir_ref1_SameRecords (fin rs_ref1_SameRecords) ++ []
theorem run_ref1_SameRecords (N : Nat) (p0 : List Record) (p1 : List Record) : callF Γ_ref1_SameRecords N 26 rs_ref1_SameRecords ir_ref1_SameRecords [.sl .record (.may false) p0, .sl .record (.may false) p1] [] = sh_ref1_SameRecords N p0 p1 :=
  (run_of (X_ref1_SameRecords N) (by kernel_rfl) rfl (fun C => sa_ref1_SameRecords N p0 p1 (fun z => C 1000000 (mk_ref1_SameRecords_0 z))) (fun C => by kernel_rfl)).trans (Eq.trans (b := sa_ref1_SameRecords N p0 p1 (fun z => loopN N (F_ref1_SameRecords_0 N) (mk_ref1_SameRecords_0 z))) (by kernel_rfl) (congrArg (sa_ref1_SameRecords N p0 p1) (funext fun z => loop_eq (mk_ref1_SameRecords_0) (F_ref1_SameRecords_0 N) (B_ref1_SameRecords_0 N) (FB_ref1_SameRecords_0 N) N z)))
theorem ok_ref1_SameRecords (hΓ : SpecOK Try.prog Γ_ref1_SameRecords) (N : Nat) (p0 : List Record) (p1 : List Record) {v : V} {hp : List AObj} (h : sh_ref1_SameRecords N p0 p1 = some (v, hp)) : PureOK Try.prog i_ref1_SameRecords [.sl .record (.may false) p0, .sl .record (.may false) p1] v := by
  have hc := chk_ref1_SameRecords
  simp only [Bool.and_eq_true] at hc
  exact ⟨hp, fnOK_of hΓ pureS_ref1_SameRecords Try.func17 body_ref1_SameRecords hc.1 hc.2 (by decide) ((run_ref1_SameRecords N p0 p1).trans h)⟩

def G_law1_begun : Nat → List V → Option (Bool × V) := fun f vs => match f, vs with
  | 11, [.str a0] => some (true, .tup [.int .u64 ((vintR a0).1), .int .i64 ((vintR a0).2.1), .int .i64 ((vintR a0).2.2)])
  | 13, [.int .u64 a0] => some (true, .str (putV a0))
  | 15, [.str a0] => some (true, .tup [.sl .record (.may false) ((splitR a0).1), .int .i64 ((splitR a0).2)])
  | 18, [.agg [.int .i64 a0_0, .int .i64 a0_1, .int .u64 a0_2, .str a0_3, .str a0_4]] => some (decide (List.length a0_3 ≤ 9223372036854000000), .str (putR ⟨a0_0, a0_1, a0_2, a0_3, a0_4⟩))
  | 20, [.sl .record (.may _) a0] => some (decide (List.length (joinR a0) ≤ 140737488355328), .str (joinR a0))
  | _, _ => none
def Γ_law1_begun : ASpec := (liftG G_law1_begun)
theorem pureS_law1_begun : PureS Γ_law1_begun [] := (liftG_pure _ _)
theorem spec_law1_begun (h_rec_Varint : ∀ (a0 : Bs), PureOK Try.prog i_rec_Varint [.str a0] (.tup [.int .u64 ((vintR a0).1), .int .i64 ((vintR a0).2.1), .int .i64 ((vintR a0).2.2)])) (h_rec_PutVarint : ∀ (a0 : Int), PureOK Try.prog i_rec_PutVarint [.int .u64 a0] (.str (putV a0))) (h_rec_Split : ∀ (a0 : Bs), PureOK Try.prog i_rec_Split [.str a0] (.tup [.sl .record (.may false) ((splitR a0).1), .int .i64 ((splitR a0).2)])) (h_rec_Put : ∀ (a0_0 : Int) (a0_1 : Int) (a0_2 : Int) (a0_3 : Bs) (a0_4 : Bs), (decide (List.length a0_3 ≤ 9223372036854000000)) = true → PureOK Try.prog i_rec_Put [.agg [.int .i64 a0_0, .int .i64 a0_1, .int .u64 a0_2, .str a0_3, .str a0_4]] (.str (putR ⟨a0_0, a0_1, a0_2, a0_3, a0_4⟩))) (h_rec_Join : ∀ (a0 : List Record), (decide (List.length (joinR a0) ≤ 140737488355328)) = true → PureOK Try.prog i_rec_Join [.sl .record (.may false) a0] (.str (joinR a0))) : SpecOK Try.prog Γ_law1_begun := by
  intro f vs hp v hp' h0
  obtain ⟨h, he⟩ := liftG_inv h0
  subst he
  unfold G_law1_begun at h
  split at h
  · simp only [Option.some.injEq, Prod.mk.injEq] at h
    obtain ⟨hc, rfl⟩ := h
    exact ((h_rec_Varint _).dim rfl).frame rfl rfl _
  · simp only [Option.some.injEq, Prod.mk.injEq] at h
    obtain ⟨hc, rfl⟩ := h
    exact ((h_rec_PutVarint _).dim rfl).frame rfl rfl _
  · simp only [Option.some.injEq, Prod.mk.injEq] at h
    obtain ⟨hc, rfl⟩ := h
    exact ((h_rec_Split _).dim rfl).frame rfl rfl _
  · simp only [Option.some.injEq, Prod.mk.injEq] at h
    obtain ⟨hc, rfl⟩ := h
    exact ((h_rec_Put _ _ _ _ _ hc).dim rfl).frame rfl rfl _
  · simp only [Option.some.injEq, Prod.mk.injEq] at h
    obtain ⟨hc, rfl⟩ := h
    exact ((h_rec_Join _ hc).dim rfl).frame rfl rfl _
  · simp at h
def ir_law1_begun_0 : IR := .ret
def ir_law1_begun_1 : IR := (.seq (.reg [Mv 21 1, Pp (.bin 22 .eql (.t 21) (.c (.int .u64 150))), Mv 23 22, Pg (23, true) (.mov 24 (.t 2)), Pg (23, true) (.bin 25 .eql (.t 24) (.c (.int .i64 2))), Pa 26 23 25, Mv 27 26, Pg (27, true) (.mov 28 (.t 3)), Pg (27, true) (.bin 29 .eql (.t 28) (.c (.int .i64 0))), Pa 30 27 29, Mv 31 30, Pg (31, true) (.mov 32 (.t 5)), Pg (31, true) (.bin 33 .eql (.t 32) (.c (.int .i64 0))), Pa 34 31 33, Mv 35 34, Pg (35, true) (.mov 36 (.t 4)), Pg (35, true) (.lenl 37 (.t 36)), Pg (35, true) (.bin 38 .eql (.t 37) (.c (.int .i64 1))), Pa 39 35 38, Mv 40 39, Pg (40, true) (.mov 41 (.t 4)), Pg (40, true) (.ixa 42 .record (.t 41) (.c (.int .i64 0))), Pg (40, true) (.fad 43 0 (.t 42)), Pg (40, true) (.ld 44 1 false false (.t 43)), Pg (40, true) (.bin 45 .eql (.t 44) (.c (.int .i64 1))), Pa 46 40 45, Mv 47 46, Pg (47, true) (.mov 48 (.t 4)), Pg (47, true) (.ixa 49 .record (.t 48) (.c (.int .i64 0))), Pg (47, true) (.fad 50 2 (.t 49)), Pg (47, true) (.ld 51 1 false false (.t 50)), Pg (47, true) (.bin 52 .eql (.t 51) (.c (.int .u64 150))), Pa 53 47 52, Mv 54 53, Pg (54, true) (.mov 55 (.t 7)), Pg (54, true) (.bin 56 .eql (.t 55) (.c (.int .i64 2))), Pa 57 54 56, Mv 58 57, Pg (58, true) (.call (some 59) 13 [(.c (.int .u64 150))]), Pg (58, true) (.bin 60 .eql (.t 59) (.c (.str ([150, 1] : Bs)))), Pa 61 58 60, Mv 62 61, Pg (62, true) (.mov 63 (.t 4)), Pg (62, true) (.ixa 64 .record (.t 63) (.c (.int .i64 0))), Pg (62, true) (.lde 65 5 true (.t 64)), Pg (62, true) (.call (some 66) 18 [(.t 65)]), Pg (62, true) (.bin 67 .eql (.t 66) (.c (.str ([8, 150, 1] : Bs)))), Pa 68 62 67, Mv 69 68, Pg (69, true) (.mov 70 (.t 4)), Pg (69, true) (.call (some 71) 20 [(.t 70)]), Pg (69, true) (.bin 72 .eql (.t 71) (.c (.str ([8, 150, 1] : Bs)))), Pa 73 69 72, Mv 0 73] []) ir_law1_begun_0)
def ir_law1_begun_2 : IR := (.seq (.reg [Pp (.call (some 18) 15 [(.c (.str ([3] : Bs)))]), Mv 17 18, Ex_ 19 0 17, Ex_ 20 1 17, Mv 6 19, Mv 7 20] []) ir_law1_begun_1)
def ir_law1_begun_3 : IR := (.seq (.reg [Pp (.call (some 14) 15 [(.c (.str ([8, 150, 1] : Bs)))]), Mv 13 14, Ex_ 15 0 13, Ex_ 16 1 13, Mv 4 15, Mv 5 16] []) ir_law1_begun_2)
def ir_law1_begun_4 : IR := (.seq (.reg [Pp (.call (some 9) 11 [(.c (.str ([150, 1] : Bs)))]), Mv 8 9, Ex_ 10 0 8, Ex_ 11 1 8, Ex_ 12 2 8, Mv 1 10, Mv 2 11, Mv 3 12] []) ir_law1_begun_3)
def ir_law1_begun : IR := (.seq (.reg [Pp (.mov 0 (.c (.bool false)))] []) ir_law1_begun_4)
def rs_law1_begun : List RV := [.t 0]
theorem chk_law1_begun : (chkCode Try.prog [] 0 ir_law1_begun (Try.f10.body.getD .skip) && chkRes Try.prog rs_law1_begun Try.f10.results.toList) = true := by kernel_rfl
theorem body_law1_begun : Try.f10.body = some (Try.f10.body.getD .skip) := by kernel_rfl
/-- proclitic/procliticlaw1.begun -/
def sa_law1_begun (N : Nat)   : Ro :=
  let x1 : Int := (vintR ([150, 1] : Bs)).1
  let x2 : Int := (vintR ([150, 1] : Bs)).2.1
  let x3 : Int := (vintR ([150, 1] : Bs)).2.2
  let x4 : List Record := (splitR ([8, 150, 1] : Bs)).1
  let x5 : Int := (splitR ([8, 150, 1] : Bs)).2
  let x6 : List Record := (splitR ([3] : Bs)).1
  let x7 : Int := (splitR ([3] : Bs)).2
  cond (x1 == 150) (
    cond (x2 == 2) (
      cond (x3 == 0) (
        cond (x5 == 0) (
          let x8 : Int := (↑(List.length x4) : Int)
          cond (x8 == 1) (
            chk (decide ((0 : Int) < ↑(List.length x4))) (
              let x9 : Int := (List.getD x4 (Int.toNat 0) (dflt .record)).num
              let x10 : Int := (List.getD x4 (Int.toNat 0) (dflt .record)).wire
              let x11 : Int := (List.getD x4 (Int.toNat 0) (dflt .record)).n
              let x12 : Bs := (List.getD x4 (Int.toNat 0) (dflt .record)).s
              let x13 : Bs := (List.getD x4 (Int.toNat 0) (dflt .record)).raw
              cond (x9 == 1) (
                chk (decide ((0 : Int) < ↑(List.length x4))) (
                  let x14 : Int := (List.getD x4 (Int.toNat 0) (dflt .record)).num
                  let x15 : Int := (List.getD x4 (Int.toNat 0) (dflt .record)).wire
                  let x16 : Int := (List.getD x4 (Int.toNat 0) (dflt .record)).n
                  let x17 : Bs := (List.getD x4 (Int.toNat 0) (dflt .record)).s
                  let x18 : Bs := (List.getD x4 (Int.toNat 0) (dflt .record)).raw
                  cond (x16 == 150) (
                    cond (x7 == 2) (
                      let x19 : Bool := decide ((putV 150) = ([150, 1] : Bs))
                      cond x19 (
                        chk (decide ((0 : Int) < ↑(List.length x4))) (
                          let x20 : Int := (List.getD x4 (Int.toNat 0) (dflt .record)).num
                          let x21 : Int := (List.getD x4 (Int.toNat 0) (dflt .record)).wire
                          let x22 : Int := (List.getD x4 (Int.toNat 0) (dflt .record)).n
                          let x23 : Bs := (List.getD x4 (Int.toNat 0) (dflt .record)).s
                          let x24 : Bs := (List.getD x4 (Int.toNat 0) (dflt .record)).raw
                          chk (decide (List.length x23 ≤ 9223372036854000000)) (
                            let x25 : Bs := (putR ⟨x20, x21, x22, x23, x24⟩)
                            let x26 : Bool := decide (x25 = ([8, 150, 1] : Bs))
                            cond x26 (
                              chk (decide (List.length (joinR x4) ≤ 140737488355328)) (
                                let x27 : Bool := decide ((joinR x4) = ([8, 150, 1] : Bs))
                                some (.bool x27, []))) (
                              some (.bool false, []))))) (
                        some (.bool false, []))) (
                      some (.bool false, []))) (
                    some (.bool false, [])))) (
                some (.bool false, [])))) (
            some (.bool false, []))) (
          some (.bool false, []))) (
        some (.bool false, []))) (
      some (.bool false, []))) (
    some (.bool false, []))
def sh_law1_begun (N : Nat)  : Ro := sa_law1_begun N 
theorem run_law1_begun (N : Nat)  : callF Γ_law1_begun N 74 rs_law1_begun ir_law1_begun [] [] = sh_law1_begun N  := by kernel_rfl
theorem ok_law1_begun (hΓ : SpecOK Try.prog Γ_law1_begun) (N : Nat)  {v : V} {hp : List AObj} (h : sh_law1_begun N  = some (v, hp)) : PureOK Try.prog i_law1_begun [] v := by
  have hc := chk_law1_begun
  simp only [Bool.and_eq_true] at hc
  exact ⟨hp, fnOK_of hΓ pureS_law1_begun Try.func10 body_law1_begun hc.1 hc.2 (by decide) ((run_law1_begun N ).trans h)⟩

def G_law1_RecNumbers : Nat → List V → Option (Bool × V) := fun f vs => match f, vs with
  | 10, [] => some (true, .bool true)
  | 11, [.str a0] => some (true, .tup [.int .u64 ((vintR a0).1), .int .i64 ((vintR a0).2.1), .int .i64 ((vintR a0).2.2)])
  | 12, [.str a0] => some (true, .tup [.int .u64 ((vintR a0).1), .int .i64 ((vintR a0).2.1), .int .i64 ((vintR a0).2.2)])
  | 13, [.int .u64 a0] => some (true, .str (putV a0))
  | 14, [.int .u64 a0] => some (true, .str (putV a0))
  | _, _ => none
def Γ_law1_RecNumbers : ASpec := (liftG G_law1_RecNumbers)
theorem pureS_law1_RecNumbers : PureS Γ_law1_RecNumbers [] := (liftG_pure _ _)
theorem spec_law1_RecNumbers (h_law1_begun : PureOK Try.prog i_law1_begun [] (.bool true)) (h_rec_Varint : ∀ (a0 : Bs), PureOK Try.prog i_rec_Varint [.str a0] (.tup [.int .u64 ((vintR a0).1), .int .i64 ((vintR a0).2.1), .int .i64 ((vintR a0).2.2)])) (h_ref1_Varint : ∀ (a0 : Bs), PureOK Try.prog i_ref1_Varint [.str a0] (.tup [.int .u64 ((vintR a0).1), .int .i64 ((vintR a0).2.1), .int .i64 ((vintR a0).2.2)])) (h_rec_PutVarint : ∀ (a0 : Int), PureOK Try.prog i_rec_PutVarint [.int .u64 a0] (.str (putV a0))) (h_ref1_PutVarint : ∀ (a0 : Int), PureOK Try.prog i_ref1_PutVarint [.int .u64 a0] (.str (putV a0))) : SpecOK Try.prog Γ_law1_RecNumbers := by
  intro f vs hp v hp' h0
  obtain ⟨h, he⟩ := liftG_inv h0
  subst he
  unfold G_law1_RecNumbers at h
  split at h
  · simp only [Option.some.injEq, Prod.mk.injEq] at h
    obtain ⟨hc, rfl⟩ := h
    exact ((h_law1_begun ).dim rfl).frame rfl rfl _
  · simp only [Option.some.injEq, Prod.mk.injEq] at h
    obtain ⟨hc, rfl⟩ := h
    exact ((h_rec_Varint _).dim rfl).frame rfl rfl _
  · simp only [Option.some.injEq, Prod.mk.injEq] at h
    obtain ⟨hc, rfl⟩ := h
    exact ((h_ref1_Varint _).dim rfl).frame rfl rfl _
  · simp only [Option.some.injEq, Prod.mk.injEq] at h
    obtain ⟨hc, rfl⟩ := h
    exact ((h_rec_PutVarint _).dim rfl).frame rfl rfl _
  · simp only [Option.some.injEq, Prod.mk.injEq] at h
    obtain ⟨hc, rfl⟩ := h
    exact ((h_ref1_PutVarint _).dim rfl).frame rfl rfl _
  · simp at h
def ir_law1_RecNumbers_0 : IR := .ret
def ir_law1_RecNumbers_1 : IR := (.cond (.t 12) (.seq (.reg [Pp (.mov 4 (.c (.bool false)))] []) ir_law1_RecNumbers_0) .skip)
def ir_law1_RecNumbers_2 : IR := .ret
def ir_law1_RecNumbers_3 : IR := (.cond (.t 15) (.seq (.reg [Pp (.mov 4 (.c (.bool true)))] []) ir_law1_RecNumbers_2) .skip)
def ir_law1_RecNumbers_4 : IR := .ret
def ir_law1_RecNumbers_5 : IR := (.seq (.reg [Mv 28 5, Mv 29 8, Bi 30 .eql 28 29, Mv 31 30, Pg (31, true) (.mov 32 (.t 6)), Pg (31, true) (.mov 33 (.t 9)), Pg (31, true) (.bin 34 .eql (.t 32) (.t 33)), Pa 35 31 34, Mv 36 35, Pg (36, true) (.mov 37 (.t 7)), Pg (36, true) (.mov 38 (.t 10)), Pg (36, true) (.bin 39 .eql (.t 37) (.t 38)), Pa 40 36 39, Mv 41 40, Pg (41, true) (.mov 42 (.t 1)), Pg (41, true) (.call (some 43) 13 [(.t 42)]), Pg (41, true) (.mov 44 (.t 1)), Pg (41, true) (.call (some 45) 14 [(.t 44)]), Pg (41, true) (.bin 46 .eql (.t 43) (.t 45)), Pa 47 41 46, Mv 4 47] []) ir_law1_RecNumbers_4)
def ir_law1_RecNumbers_6 : IR := (.seq (.reg [Mv 23 0, Pp (.call (some 24) 12 [(.t 23)]), Mv 22 24, Ex_ 25 0 22, Ex_ 26 1 22, Ex_ 27 2 22, Mv 8 25, Mv 9 26, Mv 10 27] []) ir_law1_RecNumbers_5)
def ir_law1_RecNumbers_7 : IR := (.seq (.reg [Mv 17 0, Pp (.call (some 18) 11 [(.t 17)]), Mv 16 18, Ex_ 19 0 16, Ex_ 20 1 16, Ex_ 21 2 16, Mv 5 19, Mv 6 20, Mv 7 21] []) ir_law1_RecNumbers_6)
def ir_law1_RecNumbers_8 : IR := (.seq (.seq (.reg [Mv 13 0, Pp (.lens 14 (.t 13)), Bc 15 .gtr 14 30] []) ir_law1_RecNumbers_3) ir_law1_RecNumbers_7)
def ir_law1_RecNumbers_9 : IR := (.seq (.seq (.reg [Pp (.call (some 11) 10 []), Pp (.un 12 .not (.t 11))] []) ir_law1_RecNumbers_1) ir_law1_RecNumbers_8)
def ir_law1_RecNumbers : IR := (.seq (.reg [Pp (.mov 4 (.c (.bool false)))] []) ir_law1_RecNumbers_9)
def rs_law1_RecNumbers : List RV := [.t 4]
theorem chk_law1_RecNumbers : (chkCode Try.prog [] 0 ir_law1_RecNumbers (Try.f3.body.getD .skip) && chkRes Try.prog rs_law1_RecNumbers Try.f3.results.toList) = true := by kernel_rfl
theorem body_law1_RecNumbers : Try.f3.body = some (Try.f3.body.getD .skip) := by kernel_rfl
/-- proclitic/procliticlaw1.RecNumbers -/
def sa_law1_RecNumbers (N : Nat) (p0 : Bs) (p1 : Int)  : Ro :=
  let x1 : Int := (↑(List.length p0) : Int)
  cond (decide (30 < x1)) (
    some (.bool true, [])) (
    let x2 : Bool := (((vintR p0).1) == ((vintR p0).1))
    cond x2 (
      let x3 : Bool := (((vintR p0).2.1) == ((vintR p0).2.1))
      cond x3 (
        let x4 : Bool := (((vintR p0).2.2) == ((vintR p0).2.2))
        cond x4 (
          let x5 : Bool := decide ((putV p1) = (putV p1))
          some (.bool x5, [])) (
          some (.bool false, []))) (
        some (.bool false, []))) (
      some (.bool false, [])))
def sh_law1_RecNumbers (N : Nat) (p0 : Bs) (p1 : Int) : Ro := sa_law1_RecNumbers N p0 p1
theorem run_law1_RecNumbers (N : Nat) (p0 : Bs) (p1 : Int) : callF Γ_law1_RecNumbers N 48 rs_law1_RecNumbers ir_law1_RecNumbers [.str p0, .int .u64 p1] [] = sh_law1_RecNumbers N p0 p1 := by kernel_rfl
theorem ok_law1_RecNumbers (hΓ : SpecOK Try.prog Γ_law1_RecNumbers) (N : Nat) (p0 : Bs) (p1 : Int) {v : V} {hp : List AObj} (h : sh_law1_RecNumbers N p0 p1 = some (v, hp)) : PureOK Try.prog i_law1_RecNumbers [.str p0, .int .u64 p1] v := by
  have hc := chk_law1_RecNumbers
  simp only [Bool.and_eq_true] at hc
  exact ⟨hp, fnOK_of hΓ pureS_law1_RecNumbers Try.func3 body_law1_RecNumbers hc.1 hc.2 (by decide) ((run_law1_RecNumbers N p0 p1).trans h)⟩

def G_law1_RecSplits : Nat → List V → Option (Bool × V) := fun f vs => match f, vs with
  | 10, [] => some (true, .bool true)
  | 15, [.str a0] => some (true, .tup [.sl .record (.may false) ((splitR a0).1), .int .i64 ((splitR a0).2)])
  | 16, [.str a0] => some (true, .tup [.sl .record (.may false) ((splitR a0).1), .int .i64 ((splitR a0).2)])
  | 17, [.sl .record (.may _) a0, .sl .record (.may _) a1] => some (decide (a0 = a1), .bool true)
  | 18, [.agg [.int .i64 a0_0, .int .i64 a0_1, .int .u64 a0_2, .str a0_3, .str a0_4]] => some (decide (List.length a0_3 ≤ 9223372036854000000), .str (putR ⟨a0_0, a0_1, a0_2, a0_3, a0_4⟩))
  | 19, [.agg [.int .i64 a0_0, .int .i64 a0_1, .int .u64 a0_2, .str a0_3, .str a0_4]] => some (decide (List.length a0_3 ≤ 9223372036854000000), .str (putR ⟨a0_0, a0_1, a0_2, a0_3, a0_4⟩))
  | 20, [.sl .record (.may _) a0] => some (decide (List.length (joinR a0) ≤ 140737488355328), .str (joinR a0))
  | 21, [.sl .record (.may _) a0] => some (decide (List.length (joinR a0) ≤ 140737488355328), .str (joinR a0))
  | _, _ => none
def Γ_law1_RecSplits : ASpec := (liftG G_law1_RecSplits)
theorem pureS_law1_RecSplits : PureS Γ_law1_RecSplits [] := (liftG_pure _ _)
theorem spec_law1_RecSplits (h_law1_begun : PureOK Try.prog i_law1_begun [] (.bool true)) (h_rec_Split : ∀ (a0 : Bs), PureOK Try.prog i_rec_Split [.str a0] (.tup [.sl .record (.may false) ((splitR a0).1), .int .i64 ((splitR a0).2)])) (h_ref1_Split : ∀ (a0 : Bs), PureOK Try.prog i_ref1_Split [.str a0] (.tup [.sl .record (.may false) ((splitR a0).1), .int .i64 ((splitR a0).2)])) (h_ref1_SameRecords : ∀ (a0 : List Record) (a1 : List Record), (decide (a0 = a1)) = true → PureOK Try.prog i_ref1_SameRecords [.sl .record (.may false) a0, .sl .record (.may false) a1] (.bool true)) (h_rec_Put : ∀ (a0_0 : Int) (a0_1 : Int) (a0_2 : Int) (a0_3 : Bs) (a0_4 : Bs), (decide (List.length a0_3 ≤ 9223372036854000000)) = true → PureOK Try.prog i_rec_Put [.agg [.int .i64 a0_0, .int .i64 a0_1, .int .u64 a0_2, .str a0_3, .str a0_4]] (.str (putR ⟨a0_0, a0_1, a0_2, a0_3, a0_4⟩))) (h_ref1_Put : ∀ (a0_0 : Int) (a0_1 : Int) (a0_2 : Int) (a0_3 : Bs) (a0_4 : Bs), (decide (List.length a0_3 ≤ 9223372036854000000)) = true → PureOK Try.prog i_ref1_Put [.agg [.int .i64 a0_0, .int .i64 a0_1, .int .u64 a0_2, .str a0_3, .str a0_4]] (.str (putR ⟨a0_0, a0_1, a0_2, a0_3, a0_4⟩))) (h_rec_Join : ∀ (a0 : List Record), (decide (List.length (joinR a0) ≤ 140737488355328)) = true → PureOK Try.prog i_rec_Join [.sl .record (.may false) a0] (.str (joinR a0))) (h_ref1_Join : ∀ (a0 : List Record), (decide (List.length (joinR a0) ≤ 140737488355328)) = true → PureOK Try.prog i_ref1_Join [.sl .record (.may false) a0] (.str (joinR a0))) : SpecOK Try.prog Γ_law1_RecSplits := by
  intro f vs hp v hp' h0
  obtain ⟨h, he⟩ := liftG_inv h0
  subst he
  unfold G_law1_RecSplits at h
  split at h
  · simp only [Option.some.injEq, Prod.mk.injEq] at h
    obtain ⟨hc, rfl⟩ := h
    exact ((h_law1_begun ).dim rfl).frame rfl rfl _
  · simp only [Option.some.injEq, Prod.mk.injEq] at h
    obtain ⟨hc, rfl⟩ := h
    exact ((h_rec_Split _).dim rfl).frame rfl rfl _
  · simp only [Option.some.injEq, Prod.mk.injEq] at h
    obtain ⟨hc, rfl⟩ := h
    exact ((h_ref1_Split _).dim rfl).frame rfl rfl _
  · simp only [Option.some.injEq, Prod.mk.injEq] at h
    obtain ⟨hc, rfl⟩ := h
    exact ((h_ref1_SameRecords _ _ hc).dim rfl).frame rfl rfl _
  · simp only [Option.some.injEq, Prod.mk.injEq] at h
    obtain ⟨hc, rfl⟩ := h
    exact ((h_rec_Put _ _ _ _ _ hc).dim rfl).frame rfl rfl _
  · simp only [Option.some.injEq, Prod.mk.injEq] at h
    obtain ⟨hc, rfl⟩ := h
    exact ((h_ref1_Put _ _ _ _ _ hc).dim rfl).frame rfl rfl _
  · simp only [Option.some.injEq, Prod.mk.injEq] at h
    obtain ⟨hc, rfl⟩ := h
    exact ((h_rec_Join _ hc).dim rfl).frame rfl rfl _
  · simp only [Option.some.injEq, Prod.mk.injEq] at h
    obtain ⟨hc, rfl⟩ := h
    exact ((h_ref1_Join _ hc).dim rfl).frame rfl rfl _
  · simp at h
def ir_law1_RecSplits_0 : IR := .ret
def ir_law1_RecSplits_1 : IR := (.cond (.t 10) (.seq (.reg [Pp (.mov 4 (.c (.bool false)))] []) ir_law1_RecSplits_0) .skip)
def ir_law1_RecSplits_2 : IR := .ret
def ir_law1_RecSplits_3 : IR := (.cond (.t 19) (.seq (.reg [Pp (.mov 4 (.c (.bool true)))] []) ir_law1_RecSplits_2) .skip)
def ir_law1_RecSplits_4 : IR := .ret
def ir_law1_RecSplits_5 : IR := (.seq (.reg [Mv 30 6, Mv 31 8, Bi 32 .eql 30 31, Mv 33 32, Pg (33, true) (.mov 34 (.t 5)), Pg (33, true) (.mov 35 (.t 7)), Pg (33, true) (.call (some 36) 17 [(.t 34), (.t 35)]), Pa 37 33 36, Mv 38 37, Pg (38, true) (.lde 39 5 true (.t 3)), Pg (38, true) (.call (some 40) 18 [(.t 39)]), Pg (38, true) (.lde 41 5 true (.t 3)), Pg (38, true) (.call (some 42) 19 [(.t 41)]), Pg (38, true) (.bin 43 .eql (.t 40) (.t 42)), Pa 44 38 43, Mv 45 44, Pg (45, true) (.mov 46 (.t 7)), Pg (45, true) (.call (some 47) 20 [(.t 46)]), Pg (45, true) (.mov 48 (.t 7)), Pg (45, true) (.call (some 49) 21 [(.t 48)]), Pg (45, true) (.bin 50 .eql (.t 47) (.t 49)), Pa 51 45 50, Mv 4 51] [[], [], [0, 1], [0, 1, 2], [0, 1, 2, 3], [0, 1, 2, 3], [0, 1, 2, 3, 4, 5], [0, 1, 2, 3, 4, 5, 6], [0, 1, 2, 3, 4, 5, 6, 7], [0, 1, 2, 3, 4, 5, 6, 7, 8], [0, 1, 2, 3, 4, 5, 6, 7, 8, 9], [0, 1, 2, 3, 4, 5, 6, 7, 8], [0, 1, 2, 3, 4, 5, 6, 7, 8, 9, 10, 11], [0, 1, 2, 3, 4, 5, 6, 7, 8, 9, 10, 11, 12], [0, 1, 2, 3, 4, 5, 6, 7, 8, 9, 10, 11, 12, 13], [0, 1, 2, 3, 4, 5, 6, 7, 8, 9, 10, 11, 12, 13, 14], [0, 1, 2, 3, 4, 5, 6, 7, 8, 9, 10, 11, 12, 13, 14, 15], [0, 1, 2, 3, 4, 5, 6, 7, 8, 9, 10, 11, 12, 13, 14, 15, 16], [0, 1, 2, 3, 4, 5, 6, 7, 8, 9, 10, 11, 12, 13, 14, 15], [0, 1, 2, 3, 4, 5, 6, 7, 8, 9, 10, 11, 12, 13, 14, 15, 16, 17, 18], [0, 1, 2, 3, 4, 5, 6, 7, 8, 9, 10, 11, 12, 13, 14, 15, 16, 17, 18, 19], [0, 1, 2, 3, 4, 5, 6, 7, 8, 9, 10, 11, 12, 13, 14, 15, 16, 17, 18, 19, 20], [0, 1, 2, 3, 4, 5, 6, 7, 8, 9, 10, 11, 12, 13, 14, 15, 16, 17, 18, 19, 20, 21]]) ir_law1_RecSplits_4)
def ir_law1_RecSplits_6 : IR := (.seq (.reg [Mv 26 0, Pp (.call (some 27) 16 [(.t 26)]), Mv 25 27, Ex_ 28 0 25, Ex_ 29 1 25, Mv 7 28, Mv 8 29] []) ir_law1_RecSplits_5)
def ir_law1_RecSplits_7 : IR := (.seq (.reg [Mv 21 0, Pp (.call (some 22) 15 [(.t 21)]), Mv 20 22, Ex_ 23 0 20, Ex_ 24 1 20, Mv 5 23, Mv 6 24] []) ir_law1_RecSplits_6)
def ir_law1_RecSplits_8 : IR := (.seq (.seq (.reg [Mv 11 0, Pp (.lens 12 (.t 11)), Bc 13 .gtr 12 200, Mv 14 13, Pg (14, false) (.fad 15 3 (.t 3)), Pg (14, false) (.lde 16 1 false (.t 15)), Pg (14, false) (.lens 17 (.t 16)), Pg (14, false) (.bin 18 .gtr (.t 17) (.c (.int .i64 50))), Po 19 14 18] []) ir_law1_RecSplits_3) ir_law1_RecSplits_7)
def ir_law1_RecSplits_9 : IR := (.seq (.seq (.reg [Pp (.call (some 9) 10 []), Pp (.un 10 .not (.t 9))] []) ir_law1_RecSplits_1) ir_law1_RecSplits_8)
def ir_law1_RecSplits : IR := (.seq (.reg [Pp (.boxe 3 (.t 1)), Pp (.mov 4 (.c (.bool false)))] []) ir_law1_RecSplits_9)
def rs_law1_RecSplits : List RV := [.t 4]
theorem chk_law1_RecSplits : (chkCode Try.prog [] 0 ir_law1_RecSplits (Try.f4.body.getD .skip) && chkRes Try.prog rs_law1_RecSplits Try.f4.results.toList) = true := by kernel_rfl
theorem body_law1_RecSplits : Try.f4.body = some (Try.f4.body.getD .skip) := by kernel_rfl
/-- proclitic/procliticlaw1.RecSplits -/
def sa_law1_RecSplits (N : Nat) (p0 : Bs) (p1_0 : Int) (p1_1 : Int) (p1_2 : Int) (p1_3 : Bs) (p1_4 : Bs)  : Ro :=
  let x1 : Int := (↑(List.length p0) : Int)
  cond (decide (200 < x1)) (
    some (.bool true, [])) (
    let x2 : Int := (↑(List.length p1_3) : Int)
    cond (decide (50 < x2)) (
      some (.bool true, [])) (
      let x3 : Bool := (((splitR p0).2) == ((splitR p0).2))
      cond x3 (
        chk (decide (((splitR p0).1) = ((splitR p0).1))) (
          chk (decide (List.length p1_3 ≤ 9223372036854000000)) (
            let x4 : Bs := (putR ⟨p1_0, p1_1, p1_2, p1_3, p1_4⟩)
            chk (decide (List.length p1_3 ≤ 9223372036854000000)) (
              let x5 : Bs := (putR ⟨p1_0, p1_1, p1_2, p1_3, p1_4⟩)
              cond (decide (x4 = x5)) (
                chk (decide (List.length (joinR ((splitR p0).1)) ≤ 140737488355328)) (
                  chk (decide (List.length (joinR ((splitR p0).1)) ≤ 140737488355328)) (
                    let x6 : Bool := decide ((joinR ((splitR p0).1)) = (joinR ((splitR p0).1)))
                    some (.bool x6, [])))) (
                some (.bool false, [])))))) (
        some (.bool false, []))))
def sh_law1_RecSplits (N : Nat) (p0 : Bs) (p1_0 : Int) (p1_1 : Int) (p1_2 : Int) (p1_3 : Bs) (p1_4 : Bs) : Ro := sa_law1_RecSplits N p0 p1_0 p1_1 p1_2 p1_3 p1_4
theorem run_law1_RecSplits (N : Nat) (p0 : Bs) (p1_0 : Int) (p1_1 : Int) (p1_2 : Int) (p1_3 : Bs) (p1_4 : Bs) : callF Γ_law1_RecSplits N 52 rs_law1_RecSplits ir_law1_RecSplits [.str p0, .agg [.int .i64 p1_0, .int .i64 p1_1, .int .u64 p1_2, .str p1_3, .str p1_4]] [] = sh_law1_RecSplits N p0 p1_0 p1_1 p1_2 p1_3 p1_4 := by kernel_rfl
theorem ok_law1_RecSplits (hΓ : SpecOK Try.prog Γ_law1_RecSplits) (N : Nat) (p0 : Bs) (p1_0 : Int) (p1_1 : Int) (p1_2 : Int) (p1_3 : Bs) (p1_4 : Bs) {v : V} {hp : List AObj} (h : sh_law1_RecSplits N p0 p1_0 p1_1 p1_2 p1_3 p1_4 = some (v, hp)) : PureOK Try.prog i_law1_RecSplits [.str p0, .agg [.int .i64 p1_0, .int .i64 p1_1, .int .u64 p1_2, .str p1_3, .str p1_4]] v := by
  have hc := chk_law1_RecSplits
  simp only [Bool.and_eq_true] at hc
  exact ⟨hp, fnOK_of hΓ pureS_law1_RecSplits Try.func4 body_law1_RecSplits hc.1 hc.2 (by decide) ((run_law1_RecSplits N p0 p1_0 p1_1 p1_2 p1_3 p1_4).trans h)⟩

def G_law1_RecLengths : Nat → List V → Option (Bool × V) := fun f vs => match f, vs with
  | 10, [] => some (true, .bool true)
  | 11, [.str a0] => some (true, .tup [.int .u64 ((vintR a0).1), .int .i64 ((vintR a0).2.1), .int .i64 ((vintR a0).2.2)])
  | 13, [.int .u64 a0] => some (true, .str (putV a0))
  | _, _ => none
def Γ_law1_RecLengths : ASpec := (liftG G_law1_RecLengths)
theorem pureS_law1_RecLengths : PureS Γ_law1_RecLengths [] := (liftG_pure _ _)
theorem spec_law1_RecLengths (h_law1_begun : PureOK Try.prog i_law1_begun [] (.bool true)) (h_rec_Varint : ∀ (a0 : Bs), PureOK Try.prog i_rec_Varint [.str a0] (.tup [.int .u64 ((vintR a0).1), .int .i64 ((vintR a0).2.1), .int .i64 ((vintR a0).2.2)])) (h_rec_PutVarint : ∀ (a0 : Int), PureOK Try.prog i_rec_PutVarint [.int .u64 a0] (.str (putV a0))) : SpecOK Try.prog Γ_law1_RecLengths := by
  intro f vs hp v hp' h0
  obtain ⟨h, he⟩ := liftG_inv h0
  subst he
  unfold G_law1_RecLengths at h
  split at h
  · simp only [Option.some.injEq, Prod.mk.injEq] at h
    obtain ⟨hc, rfl⟩ := h
    exact ((h_law1_begun ).dim rfl).frame rfl rfl _
  · simp only [Option.some.injEq, Prod.mk.injEq] at h
    obtain ⟨hc, rfl⟩ := h
    exact ((h_rec_Varint _).dim rfl).frame rfl rfl _
  · simp only [Option.some.injEq, Prod.mk.injEq] at h
    obtain ⟨hc, rfl⟩ := h
    exact ((h_rec_PutVarint _).dim rfl).frame rfl rfl _
  · simp at h
def ir_law1_RecLengths_0 : IR := .ret
def ir_law1_RecLengths_1 : IR := (.cond (.t 15) (.seq (.reg [Pp (.mov 4 (.c (.bool false)))] []) ir_law1_RecLengths_0) .skip)
def ir_law1_RecLengths_2 : IR := .ret
def ir_law1_RecLengths_3 : IR := (.cond (.t 18) (.seq (.reg [Pp (.mov 4 (.c (.bool true)))] []) ir_law1_RecLengths_2) .skip)
def ir_law1_RecLengths_4 : IR := (.cond (.t 23) .skip (.exit 0))
def ir_law1_RecLengths_5 : IR := (.reg [Mv 24 7, Pp (.bin 25 .quo (.t 24) (.c (.int .u64 128))), Mv 7 25] [])
def ir_law1_RecLengths_6 : IR := (.seq (.block 1 (.reg [Mv 26 6, Bc 27 .add 26 1, Mv 6 27] [])) ir_law1_RecLengths_5)
def ir_law1_RecLengths_7 : IR := (.seq (.seq (.reg [Mv 22 7, Pp (.bin 23 .geq (.t 22) (.c (.int .u64 128)))] []) ir_law1_RecLengths_4) ir_law1_RecLengths_6)
def ir_law1_RecLengths_8 : IR := (.block 0 (.loop [0, 1, 5, 6, 7, 1000000] 0 ir_law1_RecLengths_7))
def ir_law1_RecLengths_9 : IR := .ret
def ir_law1_RecLengths_10 : IR := (.cond (.t 31) (.seq (.reg [Pp (.mov 4 (.c (.bool false)))] []) ir_law1_RecLengths_9) .skip)
def ir_law1_RecLengths_11 : IR := .ret
def ir_law1_RecLengths_12 : IR := (.seq (.reg [Mv 50 10, Bc 51 .eql 50 0, Mv 52 51, Pg (52, true) (.mov 53 (.t 8)), Pg (52, true) (.mov 54 (.t 0)), Pg (52, true) (.bin 55 .eql (.t 53) (.t 54)), Pa 56 52 55, Mv 57 56, Pg (57, true) (.mov 58 (.t 9)), Pg (57, true) (.mov 59 (.t 6)), Pg (57, true) (.bin 60 .eql (.t 58) (.t 59)), Pa 61 57 60, Mv 62 61, Pg (62, true) (.mov 63 (.t 13)), Pg (62, true) (.bin 64 .eql (.t 63) (.c (.int .i64 2))), Pa 65 62 64, Mv 4 65] []) ir_law1_RecLengths_11)
def ir_law1_RecLengths_13 : IR := (.seq (.reg [Mv 41 5, Mv 42 5, Pp (.lens 43 (.t 42)), Bc 44 .sub 43 1, Pp (.subs 45 (.t 41) none (some (.t 44))), Pp (.call (some 46) 11 [(.t 45)]), Mv 40 46, Ex_ 47 0 40, Ex_ 48 1 40, Ex_ 49 2 40, Mv 11 47, Mv 12 48, Mv 13 49] []) ir_law1_RecLengths_12)
def ir_law1_RecLengths_14 : IR := (.seq (.reg [Mv 33 5, Mv 34 1, Bi 35 .add 33 34, Pp (.call (some 36) 11 [(.t 35)]), Mv 32 36, Ex_ 37 0 32, Ex_ 38 1 32, Ex_ 39 2 32, Mv 8 37, Mv 9 38, Mv 10 39] []) ir_law1_RecLengths_13)
def ir_law1_RecLengths_15 : IR := (.seq (.seq (.reg [Mv 28 5, Pp (.lens 29 (.t 28)), Mv 30 6, Bi 31 .neq 29 30] []) ir_law1_RecLengths_10) ir_law1_RecLengths_14)
def ir_law1_RecLengths_16 : IR := (.seq (.seq (.reg [Mv 21 0, Mv 7 21] []) ir_law1_RecLengths_8) ir_law1_RecLengths_15)
def ir_law1_RecLengths_17 : IR := (.seq (.reg [Pp (.mov 6 (.c (.int .i64 1)))] []) ir_law1_RecLengths_16)
def ir_law1_RecLengths_18 : IR := (.seq (.reg [Mv 19 0, Pp (.call (some 20) 13 [(.t 19)]), Mv 5 20] []) ir_law1_RecLengths_17)
def ir_law1_RecLengths_19 : IR := (.seq (.seq (.reg [Mv 16 1, Pp (.lens 17 (.t 16)), Bc 18 .gtr 17 20] []) ir_law1_RecLengths_3) ir_law1_RecLengths_18)
def ir_law1_RecLengths_20 : IR := (.seq (.seq (.reg [Pp (.call (some 14) 10 []), Pp (.un 15 .not (.t 14))] []) ir_law1_RecLengths_1) ir_law1_RecLengths_19)
def ir_law1_RecLengths : IR := (.seq (.reg [Pp (.mov 4 (.c (.bool false)))] []) ir_law1_RecLengths_20)
def rs_law1_RecLengths : List RV := [.t 4]
theorem chk_law1_RecLengths : (chkCode Try.prog [] 0 ir_law1_RecLengths (Try.f7.body.getD .skip) && chkRes Try.prog rs_law1_RecLengths Try.f7.results.toList) = true := by kernel_rfl
theorem body_law1_RecLengths : Try.f7.body = some (Try.f7.body.getD .skip) := by kernel_rfl
def K_law1_RecLengths_0 (R : IR → (Ex → St → Ro) → St → Ro) (again0 : St → Ro) : Ex → St → Ro := (kloop again0 [0, 1, 5, 6, 7, 1000000] 0 (kblock 0 (kseq (R ir_law1_RecLengths_15) (fin rs_law1_RecLengths))))
abbrev α_law1_RecLengths_0 : Type := (Int × Bs × Bs × Int × Int)
def mk_law1_RecLengths_0 (x : α_law1_RecLengths_0) : St := { env := (.int .u64 x.1 :: .str x.2.1 :: (U 3 (.str x.2.2.1 :: .int .i64 x.2.2.2.1 :: .int .u64 x.2.2.2.2 :: (U 58 [])))), hp := [] }
def F_law1_RecLengths_0 (N : Nat) : (St → Ro) → St → Ro := fun again0 s => run Γ_law1_RecLengths N ir_law1_RecLengths_7 (K_law1_RecLengths_0 (run Γ_law1_RecLengths N) again0) s
def B_law1_RecLengths_0 (N : Nat) (again0 : α_law1_RecLengths_0 → Ro) (x : α_law1_RecLengths_0) : Ro :=
  let v0 : Int := x.1
  let v1 : Bs := x.2.1
  let v5 : Bs := x.2.2.1
  let v6 : Int := x.2.2.2.1
  let v7 : Int := x.2.2.2.2
  cond (decide (128 ≤ v7)) (
    let x2 : Int := (IntKind.wrap .i64 (v6 + 1))
    let x3 : Int := (IntKind.wrap .u64 (Int.tdiv v7 128))
    again0 (v0, v1, v5, x2, x3)) (
    let x4 : Int := (↑(List.length v5) : Int)
    cond (!(x4 == v6)) (
      some (.bool false, [])) (
      chk (decide (List.length v5 + List.length v1 ≤ 9223372036854775807)) (
        let x5 : Int := (↑(List.length v5) : Int)
        let x6 : Int := (IntKind.wrap .i64 (x5 - 1))
        chk ((decide (0 ≤ x6) && decide (x6 ≤ (↑(List.length v5) : Int)))) (
          let x7 : Bs := (List.drop 0 (List.take (Int.toNat x6) v5))
          let x8 : Bool := (((vintR (v5 ++ v1)).2.2) == 0)
          cond x8 (
            let x9 : Bool := (((vintR (v5 ++ v1)).1) == v0)
            cond x9 (
              let x10 : Bool := (((vintR (v5 ++ v1)).2.1) == v6)
              cond x10 (
                some (.bool (((vintR x7).2.2) == 2), [])) (
                some (.bool false, []))) (
              some (.bool false, []))) (
            some (.bool false, []))))))
theorem FB_law1_RecLengths_0 (N : Nat) : ∀ (again0 : St → Ro) (x : α_law1_RecLengths_0), F_law1_RecLengths_0 N again0 (mk_law1_RecLengths_0 x) = B_law1_RecLengths_0 N (fun y => again0 (mk_law1_RecLengths_0 y)) x := by
  intro again0 x
  kernel_rfl
/-- proclitic/procliticlaw1.RecLengths -/
def sa_law1_RecLengths (N : Nat) (p0 : Int) (p1 : Bs) (q0 : α_law1_RecLengths_0 → Ro) : Ro :=
  let x1 : Int := (↑(List.length p1) : Int)
  cond (decide (20 < x1)) (
    some (.bool true, [])) (
    q0 (p0, p1, (putV p0), 1, p0))
def sh_law1_RecLengths (N : Nat) (p0 : Int) (p1 : Bs) : Ro := sa_law1_RecLengths N p0 p1 (fun z => iterL N (B_law1_RecLengths_0 N) z)
def X_law1_RecLengths (N : Nat) : List (Nat × (St → Ro)) := cuts Γ_law1_RecLengths N ir_law1_RecLengths (fin rs_law1_RecLengths) ++ []
theorem run_law1_RecLengths (N : Nat) (p0 : Int) (p1 : Bs) : callF Γ_law1_RecLengths N 66 rs_law1_RecLengths ir_law1_RecLengths [.int .u64 p0, .str p1] [] = sh_law1_RecLengths N p0 p1 :=
  (run_of (X_law1_RecLengths N) (by kernel_rfl) rfl (fun C => sa_law1_RecLengths N p0 p1 (fun z => C 1000000 (mk_law1_RecLengths_0 z))) (fun C => by kernel_rfl)).trans (Eq.trans (b := sa_law1_RecLengths N p0 p1 (fun z => loopN N (F_law1_RecLengths_0 N) (mk_law1_RecLengths_0 z))) (by kernel_rfl) (congrArg (sa_law1_RecLengths N p0 p1) (funext fun z => loop_eq (mk_law1_RecLengths_0) (F_law1_RecLengths_0 N) (B_law1_RecLengths_0 N) (FB_law1_RecLengths_0 N) N z)))
theorem ok_law1_RecLengths (hΓ : SpecOK Try.prog Γ_law1_RecLengths) (N : Nat) (p0 : Int) (p1 : Bs) {v : V} {hp : List AObj} (h : sh_law1_RecLengths N p0 p1 = some (v, hp)) : PureOK Try.prog i_law1_RecLengths [.int .u64 p0, .str p1] v := by
  have hc := chk_law1_RecLengths
  simp only [Bool.and_eq_true] at hc
  exact ⟨hp, fnOK_of hΓ pureS_law1_RecLengths Try.func7 body_law1_RecLengths hc.1 hc.2 (by decide) ((run_law1_RecLengths N p0 p1).trans h)⟩

end Go.Proofs.Ytifmekddikapeaa
