/-
  The plain functions that runs of the code are: written by wip/gen/gen.py.
-/
import Derived.Test.YtifmekddikapeaaRcOk
import Derived.KernelRfl
namespace Go.Proofs.Ytifmekddikapeaa
open Go.AM
set_option autoImplicit false
set_option linter.unusedVariables false
set_option maxRecDepth 100000
abbrev i_law1_RecPads : FuncId := 9
def G_law1_RecPads : Nat → List V → Option (Bool × V) := fun f vs => match f, vs with
  | 10, [] => some (true, .bool true)
  | 11, [.str a0] => some (true, .tup [.int .u64 ((vintR a0).1), .int .i64 ((vintR a0).2.1), .int .i64 ((vintR a0).2.2)])
  | 13, [.int .u64 a0] => some (true, .str (putV a0))
  | _, _ => none
def Γ_law1_RecPads : ASpec := (liftG G_law1_RecPads)
theorem pureS_law1_RecPads : PureS Γ_law1_RecPads [] := (liftG_pure _ _)
theorem spec_law1_RecPads (h_law1_begun : PureOK Try.prog i_law1_begun [] (.bool true)) (h_rec_Varint : ∀ (a0 : Bs), PureOK Try.prog i_rec_Varint [.str a0] (.tup [.int .u64 ((vintR a0).1), .int .i64 ((vintR a0).2.1), .int .i64 ((vintR a0).2.2)])) (h_rec_PutVarint : ∀ (a0 : Int), PureOK Try.prog i_rec_PutVarint [.int .u64 a0] (.str (putV a0))) : SpecOK Try.prog Γ_law1_RecPads := by
  intro f vs hp v hp' h0
  obtain ⟨h, he⟩ := liftG_inv h0
  subst he
  unfold G_law1_RecPads at h
  split at h
  · simp only [Option.some.injEq, Prod.mk.injEq] at h
    obtain ⟨hc, rfl⟩ := h
    exact ((h_law1_begun ).dim rfl).frame rfl rfl _
  · simp only [Option.some.injEq, Prod.mk.injEq] at h
    obtain ⟨hc, rfl⟩ := h
    exact ((h_rec_Varint _).dim rfl).frame rfl rfl _
  · simp only [Option.some.injEq, Prod.mk.injEq] at h
    obtain ⟨hc, rfl⟩ := h
    exact ((h_rec_PutVarint _).dim rfl).frame rfl rfl _
  · simp at h
def ir_law1_RecPads_0 : IR := .ret
def ir_law1_RecPads_1 : IR := (.cond (.t 13) (.seq (.reg [Pp (.mov 4 (.c (.bool false)))] []) ir_law1_RecPads_0) .skip)
def ir_law1_RecPads_2 : IR := .ret
def ir_law1_RecPads_3 : IR := (.cond (.t 18) (.seq (.reg [Pp (.mov 4 (.c (.bool false)))] []) ir_law1_RecPads_2) .skip)
def ir_law1_RecPads_4 : IR := (.cond (.t 26) .skip (.exit 0))
def ir_law1_RecPads_5 : IR := (.reg [Pp (.mov 41 (.tk 6)), Pp (.bsl 42 .u8 [(.c (.int .u8 0))] false), Pp (.apu 43 .u8 (.tk 41) (.t 42)), Pp (.mov 6 (.tk 43))] [])
def ir_law1_RecPads_6 : IR := (.reg [Mv 27 8, Bc 28 .add 27 1, Mv 8 28] [])
def ir_law1_RecPads_7 : IR := (.seq (.block 1 (.seq (.gh (.opn (.slot 6)) (.ghp (.cls (.slot 6)) (.reg [Mv 29 6, Mv 30 6, Pp (.lnw 31 (.t 30)), Bc 32 .sub 31 1, Mv 33 6, Mv 34 6, Pp (.lnw 35 (.t 34)), Bc 36 .sub 35 1, Pp (.ixw 37 .u8 (.t 33) (.t 36)), Pp (.ldw 38 1 false (.t 37)), Pp (.bin 39 .or (.t 38) (.c (.int .u8 128))), Pp (.ixw 40 .u8 (.t 29) (.t 32)), Pp (.stw none 1 (.t 40) (.t 39))] []))) ir_law1_RecPads_5)) ir_law1_RecPads_6)
def ir_law1_RecPads_8 : IR := (.seq (.seq (.reg [Mv 24 8, Mv 25 7, Bi 26 .lss 24 25] []) ir_law1_RecPads_4) ir_law1_RecPads_7)
def ir_law1_RecPads_9 : IR := (.block 0 (.loop [0, 6, 7, 8, 1000000] 0 ir_law1_RecPads_8))
def ir_law1_RecPads_10 : IR := .ret
def ir_law1_RecPads_11 : IR := (.cond (.t 53) (.seq (.reg [Mv 54 11, Bc 55 .eql 54 2, Mv 56 55, Pg (56, true) (.mov 57 (.t 10)), Pg (56, true) (.bin 58 .eql (.t 57) (.c (.int .i64 0))), Pa 59 56 58, Mv 4 59] []) ir_law1_RecPads_10) .skip)
def ir_law1_RecPads_12 : IR := .ret
def ir_law1_RecPads_13 : IR := (.seq (.reg [Mv 60 11, Bc 61 .eql 60 0, Mv 62 61, Pg (62, true) (.mov 63 (.t 9)), Pg (62, true) (.mov 64 (.t 0)), Pg (62, true) (.bin 65 .eql (.t 63) (.t 64)), Pa 66 62 65, Mv 67 66, Pg (67, true) (.mov 68 (.t 10)), Pg (67, true) (.mov 69 (.t 6)), Pg (67, true) (.lenl 70 (.t 69)), Pg (67, true) (.bin 71 .eql (.t 68) (.t 70)), Pa 72 67 71, Mv 4 72] []) ir_law1_RecPads_12)
def ir_law1_RecPads_14 : IR := (.seq (.seq (.reg [Mv 51 6, Pp (.lenl 52 (.t 51)), Bc 53 .gtr 52 10] []) ir_law1_RecPads_11) ir_law1_RecPads_13)
def ir_law1_RecPads_15 : IR := (.seq (.gh (.fz (.slot 6)) (.reg [Mv 45 6, Pp (.b2s 46 (.t 45)), Pp (.call (some 47) 11 [(.t 46)]), Mv 44 47, Ex_ 48 0 44, Ex_ 49 1 44, Ex_ 50 2 44, Mv 9 48, Mv 10 49, Mv 11 50] [])) ir_law1_RecPads_14)
def ir_law1_RecPads_16 : IR := (.seq (.seq (.reg [Pp (.mov 8 (.c (.int .i64 0)))] []) ir_law1_RecPads_9) ir_law1_RecPads_15)
def ir_law1_RecPads_17 : IR := (.seq (.reg [Mv 21 1, Pp (.bin 22 .rem (.t 21) (.c (.int .u8 12))), Pp (.cvi 23 .i64 (.t 22)), Mv 7 23] []) ir_law1_RecPads_16)
def ir_law1_RecPads_18 : IR := (.seq (.reg [Mv 19 5, Pp (.s2u 20 (.t 19)), Pp (.mov 6 (.tk 20))] []) ir_law1_RecPads_17)
def ir_law1_RecPads_19 : IR := (.seq (.seq (.reg [Mv 16 5, Pp (.lens 17 (.t 16)), Bc 18 .eql 17 0] []) ir_law1_RecPads_3) ir_law1_RecPads_18)
def ir_law1_RecPads_20 : IR := (.seq (.reg [Mv 14 0, Pp (.call (some 15) 13 [(.t 14)]), Mv 5 15] []) ir_law1_RecPads_19)
def ir_law1_RecPads_21 : IR := (.seq (.seq (.reg [Pp (.call (some 12) 10 []), Pp (.un 13 .not (.t 12))] []) ir_law1_RecPads_1) ir_law1_RecPads_20)
def ir_law1_RecPads : IR := (.seq (.reg [Pp (.mov 4 (.c (.bool false)))] []) ir_law1_RecPads_21)
def rs_law1_RecPads : List RV := [.t 4]
theorem chk_law1_RecPads : (chkCode Try.prog [] 0 ir_law1_RecPads (Try.f9.body.getD .skip) && chkRes Try.prog rs_law1_RecPads Try.f9.results.toList) = true := by kernel_rfl
theorem body_law1_RecPads : Try.f9.body = some (Try.f9.body.getD .skip) := by kernel_rfl
def K_law1_RecPads_0 (R : IR → (Ex → St → Ro) → St → Ro) (again0 : St → Ro) : Ex → St → Ro := (kloop again0 [0, 6, 7, 8, 1000000] 0 (kblock 0 (kseq (R ir_law1_RecPads_15) (fin rs_law1_RecPads))))
abbrev α_law1_RecPads_0 : Type := (Int × Bs × Int × Int)
def mk_law1_RecPads_0 (x : α_law1_RecPads_0) : St := { env := (.int .u64 x.1 :: (U 5 (.ul .u8 x.2.1 :: .int .i64 x.2.2.1 :: .int .i64 x.2.2.2 :: (U 64 [])))), hp := [] }
def F_law1_RecPads_0 (N : Nat) : (St → Ro) → St → Ro := fun again0 s => run Γ_law1_RecPads N ir_law1_RecPads_8 (K_law1_RecPads_0 (run Γ_law1_RecPads N) again0) s
def B_law1_RecPads_0 (N : Nat) (again0 : α_law1_RecPads_0 → Ro) (x : α_law1_RecPads_0) : Ro :=
  let v0 : Int := x.1
  let v6 : Bs := x.2.1
  let v7 : Int := x.2.2.1
  let v8 : Int := x.2.2.2
  cond (decide (v8 < v7)) (
    chk (decide (0 < List.length v6)) (
      let x3 : Int := (↑(List.length v6) : Int)
      let x4 : Int := (IntKind.wrap .i64 (x3 - 1))
      let x5 : Int := (↑(List.length v6) : Int)
      let x6 : Int := (IntKind.wrap .i64 (x5 - 1))
      chk ((decide (0 ≤ x6) && decide (x6 < ↑(List.length v6)))) (
        chk (decide ((Int.toNat x6) < List.length v6)) (
          let x7 : Int := (List.getD v6 (Int.toNat x6) (dflt .u8)).toNat
          chk ((decide (0 ≤ x4) && decide (x4 < ↑(List.length v6)))) (
            chk (decide ((Int.toNat x4) < List.length v6)) (
              let x8 : Bs := (List.set v6 (Int.toNat x4) (UInt8.ofNat (Int.toNat (bitsI .or .u8 x7 128))))
              chk (Nat.beq (List.length v6) (List.length x8)) (
                chk (decide ((List.length x8 + List.length ([(UInt8.ofNat (Int.toNat 0))] : Bs)) * 1 ≤ 140737488355328)) (
                  let x9 : Bs := (x8 ++ ([(UInt8.ofNat (Int.toNat 0))] : Bs))
                  let x10 : Int := (IntKind.wrap .i64 (v8 + 1))
                  again0 (v0, x9, v7, x10))))))))) (
    let x11 : Int := (↑(List.length v6) : Int)
    cond (decide (10 < x11)) (
      cond (((vintR v6).2.2) == 2) (
        some (.bool (((vintR v6).2.1) == 0), [])) (
        some (.bool false, []))) (
      cond (((vintR v6).2.2) == 0) (
        cond (((vintR v6).1) == v0) (
          let x12 : Int := (↑(List.length v6) : Int)
          let x13 : Bool := (((vintR v6).2.1) == x12)
          some (.bool x13, [])) (
          some (.bool false, []))) (
        some (.bool false, []))))
theorem FB_law1_RecPads_0 (N : Nat) : ∀ (again0 : St → Ro) (x : α_law1_RecPads_0), F_law1_RecPads_0 N again0 (mk_law1_RecPads_0 x) = B_law1_RecPads_0 N (fun y => again0 (mk_law1_RecPads_0 y)) x := by
  intro again0 x
  kernel_rfl
/-- proclitic/procliticlaw1.RecPads -/
def sa_law1_RecPads (N : Nat) (p0 : Int) (p1 : Int) (q0 : α_law1_RecPads_0 → Ro) : Ro :=
  let x1 : Int := (↑(List.length (putV p0)) : Int)
  cond (x1 == 0) (
    some (.bool false, [])) (
    let x2 : Int := (IntKind.wrap .i64 (Int.tmod p1 12))
    q0 (p0, (putV p0), x2, 0))
def sh_law1_RecPads (N : Nat) (p0 : Int) (p1 : Int) : Ro := sa_law1_RecPads N p0 p1 (fun z => iterL N (B_law1_RecPads_0 N) z)
def X_law1_RecPads (N : Nat) : List (Nat × (St → Ro)) := cuts Γ_law1_RecPads N ir_law1_RecPads (fin rs_law1_RecPads) ++ []
theorem run_law1_RecPads (N : Nat) (p0 : Int) (p1 : Int) : callF Γ_law1_RecPads N 73 rs_law1_RecPads ir_law1_RecPads [.int .u64 p0, .int .u8 p1] [] = sh_law1_RecPads N p0 p1 :=
  (run_of (X_law1_RecPads N) (by kernel_rfl) rfl (fun C => sa_law1_RecPads N p0 p1 (fun z => C 1000000 (mk_law1_RecPads_0 z))) (fun C => by kernel_rfl)).trans (Eq.trans (b := sa_law1_RecPads N p0 p1 (fun z => loopN N (F_law1_RecPads_0 N) (mk_law1_RecPads_0 z))) (by kernel_rfl) (congrArg (sa_law1_RecPads N p0 p1) (funext fun z => loop_eq (mk_law1_RecPads_0) (F_law1_RecPads_0 N) (B_law1_RecPads_0 N) (FB_law1_RecPads_0 N) N z)))
theorem ok_law1_RecPads (hΓ : SpecOK Try.prog Γ_law1_RecPads) (N : Nat) (p0 : Int) (p1 : Int) {v : V} {hp : List AObj} (h : sh_law1_RecPads N p0 p1 = some (v, hp)) : PureOK Try.prog i_law1_RecPads [.int .u64 p0, .int .u8 p1] v := by
  have hc := chk_law1_RecPads
  simp only [Bool.and_eq_true] at hc
  exact ⟨hp, fnOK_of hΓ pureS_law1_RecPads Try.func9 body_law1_RecPads hc.1 hc.2 (by decide) ((run_law1_RecPads N p0 p1).trans h)⟩
end Go.Proofs.Ytifmekddikapeaa
