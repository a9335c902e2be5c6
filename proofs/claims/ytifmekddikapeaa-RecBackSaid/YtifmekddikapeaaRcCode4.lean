/-
  The plain functions that runs of the code are: written by wip/gen/gen.py.
-/
import Derived.Test.YtifmekddikapeaaRcOk
import Derived.Test.YtifmekddikapeaaAmRow
import Derived.KernelRfl
namespace Go.Proofs.Ytifmekddikapeaa
open Go.AM
set_option autoImplicit false
set_option linter.unusedVariables false
set_option maxRecDepth 100000
abbrev i_law1_RecBack : FuncId := 6
def G_rec_Split_r : Nat → List V → Option (Bool × V) := fun f vs => match f, vs with
  | 22, [.str a0] => some (true, .tup [.agg [.int .i64 (((oneR a0).1).num), .int .i64 (((oneR a0).1).wire), .int .u64 (((oneR a0).1).n), .str (((oneR a0).1).s), .str (((oneR a0).1).raw)], .int .i64 ((oneR a0).2)])
  | _, _ => none
def Γ_rec_Split_r : ASpec := (liftG G_rec_Split_r)
theorem pureS_rec_Split_r : PureS Γ_rec_Split_r [] := (liftG_pure _ _)
theorem spec_rec_Split_r (h_rec_one : ∀ (a0 : Bs), PureOK Try.prog i_rec_one [.str a0] (.tup [.agg [.int .i64 (((oneR a0).1).num), .int .i64 (((oneR a0).1).wire), .int .u64 (((oneR a0).1).n), .str (((oneR a0).1).s), .str (((oneR a0).1).raw)], .int .i64 ((oneR a0).2)])) : SpecOK Try.prog Γ_rec_Split_r := by
  intro f vs hp v hp' h0
  obtain ⟨h, he⟩ := liftG_inv h0
  subst he
  unfold G_rec_Split_r at h
  split at h
  · simp only [Option.some.injEq, Prod.mk.injEq] at h
    obtain ⟨hc, rfl⟩ := h
    exact ((h_rec_one _).dim rfl).frame rfl rfl _
  · simp at h
def ir_rec_Split_r_0 : IR := (.gh (.opn (.slot 2)) .ret)
def ir_rec_Split_r_1 : IR := (.cond (.t 9) (.seq (.reg [Pp (.mov 2 (.c (.ul .record ([] : List Record)))), Pp (.mov 3 (.c (.int .i64 3)))] []) ir_rec_Split_r_0) .skip)
def ir_rec_Split_r_2 : IR := (.cond (.t 11) .skip (.exit 0))
def ir_rec_Split_r_3 : IR := (.gh (.opn (.slot 2)) .ret)
def ir_rec_Split_r_4 : IR := (.cond (.t 18) (.seq (.reg [Mv 19 6, Pp (.mov 2 (.c (.ul .record ([] : List Record)))), Mv 3 19] []) ir_rec_Split_r_3) .skip)
def ir_rec_Split_r_5 : IR := (.reg [Pp (.mov 20 (.tk 4)), Ld 21 5 true 5, Pp (.bsl 22 .record [(.t 21)] false), Pp (.apu 23 .record (.tk 20) (.t 22)), Mv 24 0, Fa 25 4 5, Ld 26 1 false 25, Pp (.lens 27 (.t 26)), Pp (.subs 28 (.t 24) (some (.t 27)) none), Pp (.mov 4 (.tk 23)), Mv 0 28] [[], [], [1], [0, 1, 2], [], [], [5], [5, 6], [4, 5, 6, 7], [0, 1, 2, 3], [0, 1, 2, 3, 4, 5, 6, 7, 8, 9]])
def ir_rec_Split_r_6 : IR := (.seq (.seq (.reg [Mv 17 6, Bc 18 .neq 17 0] []) ir_rec_Split_r_4) ir_rec_Split_r_5)
def ir_rec_Split_r_7 : IR := (.block 1 (.seq (.reg [Mv 13 0, Pp (.call (some 14) 22 [(.t 13)]), Mv 12 14, Ex_ 15 0 12, Ex_ 16 1 12, Pp (.alr 5 5), Pp (.frz none 5 5 (.t 15)), Mv 6 16] []) ir_rec_Split_r_6))
def ir_rec_Split_r_8 : IR := (.seq (.seq (.reg [Mv 10 0, Pp (.bin 11 .neq (.t 10) (.c (.str ([] : Bs))))] []) ir_rec_Split_r_2) ir_rec_Split_r_7)
def ir_rec_Split_r_9 : IR := (.gh (.opn (.slot 2)) .ret)
def ir_rec_Split_r_10 : IR := (.seq (.reg [Pp (.mov 29 (.tk 4)), Pp (.mov 2 (.tk 29)), Pp (.mov 3 (.c (.int .i64 0)))] []) ir_rec_Split_r_9)
def ir_rec_Split_r_11 : IR := (.seq (.block 0 (.loop [0, 4, 1000000] 0 ir_rec_Split_r_8)) ir_rec_Split_r_10)
def ir_rec_Split_r_12 : IR := (.seq (.reg [Pp (.mov 4 (.c (.ul .record ([] : List Record))))] []) ir_rec_Split_r_11)
def ir_rec_Split_r_13 : IR := (.seq (.seq (.reg [Mv 7 0, Pp (.lens 8 (.t 7)), Bc 9 .gtr 8 5000] []) ir_rec_Split_r_1) ir_rec_Split_r_12)
def ir_rec_Split_r : IR := (.seq (.reg [Pp (.mov 2 (.c (.ul .record ([] : List Record)))), Pp (.mov 3 (.c (.int .i64 0)))] []) ir_rec_Split_r_13)
def rs_rec_Split_r : List RV := [.t 2, .t 3]
theorem chk_rec_Split_r : (chkCode Try.prog [] 0 ir_rec_Split_r (Try.f15.body.getD .skip) && chkRes Try.prog rs_rec_Split_r Try.f15.results.toList) = true := by kernel_rfl
theorem body_rec_Split_r : Try.f15.body = some (Try.f15.body.getD .skip) := by kernel_rfl
def K_rec_Split_r_0 (R : IR → (Ex → St → Ro) → St → Ro) (again0 : St → Ro) : Ex → St → Ro := (kloop again0 [0, 4, 1000000] 0 (kblock 0 (kseq (R ir_rec_Split_r_10) (fin rs_rec_Split_r))))
abbrev α_rec_Split_r_0 : Type := (Bs × List Record)
def mk_rec_Split_r_0 (x : α_rec_Split_r_0) : St := { env := (.str x.1 :: (U 3 (.ul .record x.2 :: (U 25 [])))), hp := [] }
def F_rec_Split_r_0 (N : Nat) : (St → Ro) → St → Ro := fun again0 s => run Γ_rec_Split_r N ir_rec_Split_r_8 (K_rec_Split_r_0 (run Γ_rec_Split_r N) again0) s
def B_rec_Split_r_0 (N : Nat) (again0 : α_rec_Split_r_0 → Ro) (x : α_rec_Split_r_0) : Ro :=
  let v0 : Bs := x.1
  let v4 : List Record := x.2
  let x2 : Bool := (!decide (v0 = ([] : Bs)))
  cond x2 (
    cond (!(((oneR v0).2) == 0)) (
      chk (decide (0 < List.length ([] : List Record))) (
        some (.tup [.sw .record 0 (List.length ([] : List Record)), .int .i64 ((oneR v0).2)], [some [.rw .record ([] : List Record)], none]))) (
      chk (decide ((List.length v4 + List.length ([⟨((oneR v0).1).num, ((oneR v0).1).wire, ((oneR v0).1).n, ((oneR v0).1).s, ((oneR v0).1).raw⟩] : List Record)) * 56 ≤ 140737488355328)) (
        let x3 : List Record := (v4 ++ ([⟨((oneR v0).1).num, ((oneR v0).1).wire, ((oneR v0).1).n, ((oneR v0).1).s, ((oneR v0).1).raw⟩] : List Record))
        let x4 : Int := (↑(List.length (((oneR v0).1).raw)) : Int)
        chk ((decide (0 ≤ x4) && decide (x4 ≤ (↑(List.length v0) : Int)))) (
          let x5 : Bs := (List.drop (Int.toNat x4) (List.take (List.length v0) v0))
          again0 (x5, x3))))) (
    chk (decide (0 < List.length v4)) (
      some (.tup [.sw .record 0 (List.length v4), .int .i64 0], [some [.rw .record v4], none])))
theorem FB_rec_Split_r_0 (N : Nat) : ∀ (again0 : St → Ro) (x : α_rec_Split_r_0), F_rec_Split_r_0 N again0 (mk_rec_Split_r_0 x) = B_rec_Split_r_0 N (fun y => again0 (mk_rec_Split_r_0 y)) x := by
  intro again0 x
  kernel_rfl
/-- proclitic/rec.Split -/
def sa_rec_Split_r (N : Nat) (p0 : Bs) (q0 : α_rec_Split_r_0 → Ro) : Ro :=
  let x1 : Int := (↑(List.length p0) : Int)
  cond (decide (5000 < x1)) (
    chk (decide (0 < List.length ([] : List Record))) (
      some (.tup [.sw .record 0 (List.length ([] : List Record)), .int .i64 3], [some [.rw .record ([] : List Record)], none]))) (
    q0 (p0, ([] : List Record)))
def sh_rec_Split_r (N : Nat) (p0 : Bs) : Ro := sa_rec_Split_r N p0 (fun z => iterL N (B_rec_Split_r_0 N) z)
def X_rec_Split_r (N : Nat) : List (Nat × (St → Ro)) := cuts Γ_rec_Split_r N ir_rec_Split_r (fin rs_rec_Split_r) ++ []
theorem run_rec_Split_r (N : Nat) (p0 : Bs) : callF Γ_rec_Split_r N 30 rs_rec_Split_r ir_rec_Split_r [.str p0] [] = sh_rec_Split_r N p0 :=
  (run_of (X_rec_Split_r N) (by kernel_rfl) rfl (fun C => sa_rec_Split_r N p0 (fun z => C 1000000 (mk_rec_Split_r_0 z))) (fun C => by kernel_rfl)).trans (Eq.trans (b := sa_rec_Split_r N p0 (fun z => loopN N (F_rec_Split_r_0 N) (mk_rec_Split_r_0 z))) (by kernel_rfl) (congrArg (sa_rec_Split_r N p0) (funext fun z => loop_eq (mk_rec_Split_r_0) (F_rec_Split_r_0 N) (B_rec_Split_r_0 N) (FB_rec_Split_r_0 N) N z)))
theorem ok_rec_Split_r (hΓ : SpecOK Try.prog Γ_rec_Split_r) (N : Nat) (p0 : Bs) {o : Option (List V × List V)} {k : EK} {xs : List (Ty k)} (h : sh_rec_Split_r N p0 = some (wrapR o (.sw k 0 xs.length), [some [.rw k xs], none])) : RowFn Try.prog i_rec_Split [.str p0] o k xs := by
  have hc := chk_rec_Split_r
  simp only [Bool.and_eq_true] at hc
  exact fnOK_of hΓ pureS_rec_Split_r Try.func15 body_rec_Split_r hc.1 hc.2 (by decide) ((run_rec_Split_r N p0).trans h)

def G_law1_RecBack : Nat → List V → Option (Bool × V) := fun f vs => match f, vs with
  | 10, [] => some (true, .bool true)
  | 18, [.agg [.int .i64 a0_0, .int .i64 a0_1, .int .u64 a0_2, .str a0_3, .str a0_4]] => some (decide (List.length a0_3 ≤ 9223372036854000000), .str (putR ⟨a0_0, a0_1, a0_2, a0_3, a0_4⟩))
  | _, _ => none
def RR_law1_RecBack : RSpec := fun f us => match f, us with
  | 15, [.str a0] => some (decide (0 < List.length (splitR a0).1), (some ([], [.int .i64 ((splitR a0).2)])), ⟨.record, (splitR a0).1⟩)
  | _, _ => none
def Γ_law1_RecBack : ASpec := (withR RR_law1_RecBack (liftG G_law1_RecBack))
theorem pureS_law1_RecBack : PureS Γ_law1_RecBack [15] := (withR_pure (by
  intro f us hf
  unfold RR_law1_RecBack
  split <;> first | rfl | (simp at hf)) (by
  intro f us hf
  unfold RR_law1_RecBack
  split <;> first | rfl | (simp at hf)) (liftG_pure _ _))
theorem spec_law1_RecBack (hr_rec_Split : ∀ (a0 : Bs), (decide (0 < List.length (splitR a0).1)) = true → RowFn Try.prog i_rec_Split [.str a0] (some ([], [.int .i64 ((splitR a0).2)])) .record ((splitR a0).1)) (h_law1_begun : PureOK Try.prog i_law1_begun [] (.bool true)) (h_rec_Put : ∀ (a0_0 : Int) (a0_1 : Int) (a0_2 : Int) (a0_3 : Bs) (a0_4 : Bs), (decide (List.length a0_3 ≤ 9223372036854000000)) = true → PureOK Try.prog i_rec_Put [.agg [.int .i64 a0_0, .int .i64 a0_1, .int .u64 a0_2, .str a0_3, .str a0_4]] (.str (putR ⟨a0_0, a0_1, a0_2, a0_3, a0_4⟩))) : SpecOK Try.prog Γ_law1_RecBack := by
  refine withR_ok ?_ ?_
  · intro f us o k xs h
    unfold RR_law1_RecBack at h
    split at h
    · simp only [Option.some.injEq, Prod.mk.injEq] at h
      obtain ⟨hc, rfl, h2⟩ := h
      cases h2
      exact (hr_rec_Split _ hc).dim rfl
    · simp at h
  intro f vs hp v hp' h0
  obtain ⟨h, he⟩ := liftG_inv h0
  subst he
  unfold G_law1_RecBack at h
  split at h
  · simp only [Option.some.injEq, Prod.mk.injEq] at h
    obtain ⟨hc, rfl⟩ := h
    exact ((h_law1_begun ).dim rfl).frame rfl rfl _
  · simp only [Option.some.injEq, Prod.mk.injEq] at h
    obtain ⟨hc, rfl⟩ := h
    exact ((h_rec_Put _ _ _ _ _ hc).dim rfl).frame rfl rfl _
  · simp at h
def ir_law1_RecBack_0 : IR := .ret
def ir_law1_RecBack_1 : IR := (.cond (.t 14) (.seq (.reg [Pp (.mov 8 (.c (.bool false)))] []) ir_law1_RecBack_0) .skip)
def ir_law1_RecBack_2 : IR := .ret
def ir_law1_RecBack_3 : IR := (.cond (.t 17) (.seq (.reg [Pp (.mov 8 (.c (.bool true)))] []) ir_law1_RecBack_2) .skip)
def ir_law1_RecBack_4 : IR := (.cond (.t 36) (.reg [Mv 38 2, Pp (.bin 39 .rem (.t 38) (.c (.int .u64 4294967296))), Fa 40 2 9, Pp (.st none 1 (.t 40) (.t 39))] []) (.reg [Mv 30 2, Fa 31 2 9, Pp (.st none 1 (.t 31) (.t 30))] []))
def ir_law1_RecBack_5 : IR := (.cond (.t 32) (.reg [Mv 34 3, Fa 35 3 9, Pp (.st none 1 (.t 35) (.t 34))] []) (.seq (.reg [Bc 37 .eql 29 5, Mv 36 37] []) ir_law1_RecBack_4))
def ir_law1_RecBack_6 : IR := (.block 0 (.seq (.reg [Bc 33 .eql 29 2, Mv 32 33] []) ir_law1_RecBack_5))
def ir_law1_RecBack_7 : IR := .ret
def ir_law1_RecBack_8 : IR := (.cond (.t 62) (.seq (.reg [Pp (.mov 8 (.c (.bool false)))] []) ir_law1_RecBack_7) .skip)
def ir_law1_RecBack_9 : IR := .ret
def ir_law1_RecBack_10 : IR := (.seq (.reg [Mv 66 11, Pp (.ixw 67 .record (.t 66) (.c (.int .i64 0))), ⟨none, .ldw 68 5 true (.t 67), some ([1], [])⟩, ⟨none, .ld 69 5 true false (.t 9), some ([0], [])⟩, Pp (.eqs 70 false [0, 0, 0, 1, 1] (.t 68) (.t 69)), Mv 71 70, Pg (71, true) (.mov 72 (.t 11)), Pg (71, true) (.ixw 73 .record (.t 72) (.c (.int .i64 0))), ⟨some (71, true), .ldw 74 5 true (.t 73), some ([1], [])⟩, Pg (71, true) (.call (some 75) 18 [(.t 74)]), Pg (71, true) (.mov 76 (.t 10)), Pg (71, true) (.bin 77 .eql (.t 75) (.t 76)), Pa 78 71 77, Mv 8 78] [[], [0], [0, 1], [], [0, 1, 2, 3], [0, 1, 2, 3, 4], [0, 1, 2, 3, 4, 5], [0, 1, 2, 3, 4, 5, 6], [0, 1, 2, 3, 4, 5, 6, 7], [0, 1, 2, 3, 4, 5, 6, 7, 8], [0, 1, 2, 3, 4, 5], [0, 1, 2, 3, 4, 5, 6, 7, 8, 9, 10], [0, 1, 2, 3, 4, 5, 6, 7, 8, 9, 10, 11], [0, 1, 2, 3, 4, 5, 6, 7, 8, 9, 10, 11, 12]]) ir_law1_RecBack_9)
def ir_law1_RecBack_11 : IR := (.seq (.reg [Mv 63 11, Pp (.ixw 64 .record (.t 63) (.c (.int .i64 0))), Pp (.fdw 65 4 (.t 64)), Pp (.stw none 1 (.t 65) (.c (.str ([] : Bs))))] []) ir_law1_RecBack_10)
def ir_law1_RecBack_12 : IR := (.seq (.seq (.reg [Mv 48 12, Bc 49 .neq 48 0, Mv 50 49, Pg (50, false) (.mov 51 (.t 11)), Pg (50, false) (.lnw 52 (.t 51)), Pg (50, false) (.bin 53 .neq (.t 52) (.c (.int .i64 1))), Po 54 50 53, Mv 55 54, Pg (55, false) (.mov 56 (.t 11)), Pg (55, false) (.ixw 57 .record (.t 56) (.c (.int .i64 0))), Pg (55, false) (.fdw 58 4 (.t 57)), Pg (55, false) (.ldw 59 1 false (.t 58)), Pg (55, false) (.mov 60 (.t 10)), Pg (55, false) (.bin 61 .neq (.t 59) (.t 60)), Po 62 55 61] []) ir_law1_RecBack_8) ir_law1_RecBack_11)
def ir_law1_RecBack_13 : IR := (.seq (.reg [Mv 44 10, Pp (.call (some 45) 15 [(.t 44)]), Mv 43 45, Ex_ 46 0 43, Ex_ 47 1 43, Pp (.mov 11 (.tk 46)), Mv 12 47] []) ir_law1_RecBack_12)
def ir_law1_RecBack_14 : IR := (.seq (.reg [Pp (.ld 41 5 true false (.t 9)), Pp (.call (some 42) 18 [(.t 41)]), Mv 10 42] []) ir_law1_RecBack_13)
def ir_law1_RecBack_15 : IR := (.seq (.seq (.reg [Fa 28 1 9, Pp (.ld 29 1 false false (.t 28))] []) ir_law1_RecBack_6) ir_law1_RecBack_14)
def ir_law1_RecBack_16 : IR := (.seq (.reg [Mv 18 0, Pp (.cvi 19 .i64 (.t 18)), Bc 20 .rem 19 536870911, Pp (.bin 21 .add (.c (.int .i64 1)) (.t 20)), Pp (.bsl 22 (.num .i64) [(.c (.int .i64 0)), (.c (.int .i64 1)), (.c (.int .i64 2)), (.c (.int .i64 5))] false), Mv 23 1, Pp (.bin 24 .rem (.t 23) (.c (.int .u8 4))), Pp (.ixa 25 (.num .i64) (.t 22) (.t 24)), Ld 26 1 false 25, Pp (.bld 27 [.int .i64 0, .int .i64 0, .int .u64 0, .str ([] : Bs), .str ([] : Bs)] [(0, 1, (.t 21)), (1, 1, (.t 26))]), Pp (.new 9 [.int .i64 0, .int .i64 0, .int .u64 0, .str ([] : Bs), .str ([] : Bs)]), Pp (.st none 5 (.t 9) (.t 27))] []) ir_law1_RecBack_15)
def ir_law1_RecBack_17 : IR := (.seq (.seq (.reg [Mv 15 3, Pp (.lens 16 (.t 15)), Bc 17 .gtr 16 100] []) ir_law1_RecBack_3) ir_law1_RecBack_16)
def ir_law1_RecBack_18 : IR := (.seq (.seq (.reg [Pp (.call (some 13) 10 []), Pp (.un 14 .not (.t 13))] []) ir_law1_RecBack_1) ir_law1_RecBack_17)
def ir_law1_RecBack : IR := (.seq (.reg [Pp (.mov 8 (.c (.bool false)))] []) ir_law1_RecBack_18)
def rs_law1_RecBack : List RV := [.t 8]
theorem chk_law1_RecBack : (chkCode Try.prog [15] 0 ir_law1_RecBack (Try.f6.body.getD .skip) && chkRes Try.prog rs_law1_RecBack Try.f6.results.toList) = true := by kernel_rfl
theorem body_law1_RecBack : Try.f6.body = some (Try.f6.body.getD .skip) := by kernel_rfl
/-- proclitic/procliticlaw1.RecBack -/
def sa_law1_RecBack (N : Nat) (p0 : Int) (p1 : Int) (p2 : Int) (p3 : Bs)  : Ro :=
  let x1 : Int := (↑(List.length p3) : Int)
  cond (decide (100 < x1)) (
    some (.bool true, [])) (
    let x2 : Int := (Int.tmod (IntKind.wrap .i64 p0) 536870911)
    let x3 : Int := (IntKind.wrap .i64 (1 + x2))
    chk ((decide (0 ≤ (Int.tmod p1 4)) && decide ((Int.tmod p1 4) < ↑(List.length ([0, 1, 2, 5] : List Int))))) (
      let x4 : Int := List.getD ([0, 1, 2, 5] : List Int) (Int.toNat (Int.tmod p1 4)) (dflt (.num .i64))
      cond (x4 == 2) (
        chk (decide (List.length p3 ≤ 9223372036854000000)) (
          let x5 : Bs := (putR ⟨x3, x4, 0, p3, ([] : Bs)⟩)
          chk (decide (0 < List.length (splitR x5).1)) (
            let x6 : Nat := (List.length ((splitR x5).1))
            let x7 : Bool := (!(((splitR x5).2) == 0))
            cond x7 (
              some (.bool false, [some [.int .i64 x3, .int .i64 x4, .int .u64 0, .str p3, .str ([] : Bs)], some [.rw .record ((splitR x5).1)], none])) (
              cond (!((↑x6 : Int) == 1)) (
                some (.bool false, [some [.int .i64 x3, .int .i64 x4, .int .u64 0, .str p3, .str ([] : Bs)], some [.rw .record ((splitR x5).1)], none])) (
                chk (decide ((0 : Int) < ↑x6)) (
                  chk (decide ((Int.toNat 0) < List.length ((splitR x5).1))) (
                    let x8 : Bs := (List.getD ((splitR x5).1) (Int.toNat 0) (dflt .record)).raw
                    cond (!decide (x8 = x5)) (
                      some (.bool false, [some [.int .i64 x3, .int .i64 x4, .int .u64 0, .str p3, .str ([] : Bs)], some [.rw .record ((splitR x5).1)], none])) (
                      chk (decide ((0 : Int) < ↑x6)) (
                        chk (decide ((Int.toNat 0) < List.length ((splitR x5).1))) (
                          let x9 : List Record := (List.set ((splitR x5).1) (Int.toNat 0) (let e_ := List.getD ((splitR x5).1) (Int.toNat 0) (dflt .record); ⟨e_.num, e_.wire, e_.n, e_.s, ([] : Bs)⟩))
                          chk (decide ((0 : Int) < ↑x6)) (
                            chk (decide ((Int.toNat 0) < List.length x9)) (
                              let x10 : Int := (List.getD x9 (Int.toNat 0) (dflt .record)).num
                              let x11 : Int := (List.getD x9 (Int.toNat 0) (dflt .record)).wire
                              let x12 : Int := (List.getD x9 (Int.toNat 0) (dflt .record)).n
                              let x13 : Bs := (List.getD x9 (Int.toNat 0) (dflt .record)).s
                              let x14 : Bs := (List.getD x9 (Int.toNat 0) (dflt .record)).raw
                              let x15 : Bool := ((x10 == x3) && ((x11 == x4) && ((x12 == 0) && (decide (x13 = p3) && (decide (x14 = ([] : Bs)) && true)))))
                              cond x15 (
                                chk (decide ((0 : Int) < ↑x6)) (
                                  chk (decide ((Int.toNat 0) < List.length x9)) (
                                    let x16 : Int := (List.getD x9 (Int.toNat 0) (dflt .record)).num
                                    let x17 : Int := (List.getD x9 (Int.toNat 0) (dflt .record)).wire
                                    let x18 : Int := (List.getD x9 (Int.toNat 0) (dflt .record)).n
                                    let x19 : Bs := (List.getD x9 (Int.toNat 0) (dflt .record)).s
                                    let x20 : Bs := (List.getD x9 (Int.toNat 0) (dflt .record)).raw
                                    chk (decide (List.length x19 ≤ 9223372036854000000)) (
                                      let x21 : Bs := (putR ⟨x16, x17, x18, x19, x20⟩)
                                      some (.bool (decide (x21 = x5)), [some [.int .i64 x3, .int .i64 x4, .int .u64 0, .str p3, .str ([] : Bs)], some [.rw .record x9], none]))))) (
                                some (.bool false, [some [.int .i64 x3, .int .i64 x4, .int .u64 0, .str p3, .str ([] : Bs)], some [.rw .record x9], none])))))))))))))) (
        cond (x4 == 5) (
          chk (decide (List.length ([] : Bs) ≤ 9223372036854000000)) (
            let x22 : Bs := (putR ⟨x3, x4, (Int.tmod p2 4294967296), ([] : Bs), ([] : Bs)⟩)
            chk (decide (0 < List.length (splitR x22).1)) (
              let x23 : Nat := (List.length ((splitR x22).1))
              let x24 : Bool := (!(((splitR x22).2) == 0))
              cond x24 (
                some (.bool false, [some [.int .i64 x3, .int .i64 x4, .int .u64 (Int.tmod p2 4294967296), .str ([] : Bs), .str ([] : Bs)], some [.rw .record ((splitR x22).1)], none])) (
                cond (!((↑x23 : Int) == 1)) (
                  some (.bool false, [some [.int .i64 x3, .int .i64 x4, .int .u64 (Int.tmod p2 4294967296), .str ([] : Bs), .str ([] : Bs)], some [.rw .record ((splitR x22).1)], none])) (
                  chk (decide ((0 : Int) < ↑x23)) (
                    chk (decide ((Int.toNat 0) < List.length ((splitR x22).1))) (
                      let x25 : Bs := (List.getD ((splitR x22).1) (Int.toNat 0) (dflt .record)).raw
                      cond (!decide (x25 = x22)) (
                        some (.bool false, [some [.int .i64 x3, .int .i64 x4, .int .u64 (Int.tmod p2 4294967296), .str ([] : Bs), .str ([] : Bs)], some [.rw .record ((splitR x22).1)], none])) (
                        chk (decide ((0 : Int) < ↑x23)) (
                          chk (decide ((Int.toNat 0) < List.length ((splitR x22).1))) (
                            let x26 : List Record := (List.set ((splitR x22).1) (Int.toNat 0) (let e_ := List.getD ((splitR x22).1) (Int.toNat 0) (dflt .record); ⟨e_.num, e_.wire, e_.n, e_.s, ([] : Bs)⟩))
                            chk (decide ((0 : Int) < ↑x23)) (
                              chk (decide ((Int.toNat 0) < List.length x26)) (
                                let x27 : Int := (List.getD x26 (Int.toNat 0) (dflt .record)).num
                                let x28 : Int := (List.getD x26 (Int.toNat 0) (dflt .record)).wire
                                let x29 : Int := (List.getD x26 (Int.toNat 0) (dflt .record)).n
                                let x30 : Bs := (List.getD x26 (Int.toNat 0) (dflt .record)).s
                                let x31 : Bs := (List.getD x26 (Int.toNat 0) (dflt .record)).raw
                                let x32 : Bool := ((x27 == x3) && ((x28 == x4) && ((x29 == (Int.tmod p2 4294967296)) && (decide (x30 = ([] : Bs)) && (decide (x31 = ([] : Bs)) && true)))))
                                cond x32 (
                                  chk (decide ((0 : Int) < ↑x23)) (
                                    chk (decide ((Int.toNat 0) < List.length x26)) (
                                      let x33 : Int := (List.getD x26 (Int.toNat 0) (dflt .record)).num
                                      let x34 : Int := (List.getD x26 (Int.toNat 0) (dflt .record)).wire
                                      let x35 : Int := (List.getD x26 (Int.toNat 0) (dflt .record)).n
                                      let x36 : Bs := (List.getD x26 (Int.toNat 0) (dflt .record)).s
                                      let x37 : Bs := (List.getD x26 (Int.toNat 0) (dflt .record)).raw
                                      chk (decide (List.length x36 ≤ 9223372036854000000)) (
                                        let x38 : Bs := (putR ⟨x33, x34, x35, x36, x37⟩)
                                        some (.bool (decide (x38 = x22)), [some [.int .i64 x3, .int .i64 x4, .int .u64 (Int.tmod p2 4294967296), .str ([] : Bs), .str ([] : Bs)], some [.rw .record x26], none]))))) (
                                  some (.bool false, [some [.int .i64 x3, .int .i64 x4, .int .u64 (Int.tmod p2 4294967296), .str ([] : Bs), .str ([] : Bs)], some [.rw .record x26], none])))))))))))))) (
          chk (decide (List.length ([] : Bs) ≤ 9223372036854000000)) (
            let x39 : Bs := (putR ⟨x3, x4, p2, ([] : Bs), ([] : Bs)⟩)
            chk (decide (0 < List.length (splitR x39).1)) (
              let x40 : Nat := (List.length ((splitR x39).1))
              let x41 : Bool := (!(((splitR x39).2) == 0))
              cond x41 (
                some (.bool false, [some [.int .i64 x3, .int .i64 x4, .int .u64 p2, .str ([] : Bs), .str ([] : Bs)], some [.rw .record ((splitR x39).1)], none])) (
                cond (!((↑x40 : Int) == 1)) (
                  some (.bool false, [some [.int .i64 x3, .int .i64 x4, .int .u64 p2, .str ([] : Bs), .str ([] : Bs)], some [.rw .record ((splitR x39).1)], none])) (
                  chk (decide ((0 : Int) < ↑x40)) (
                    chk (decide ((Int.toNat 0) < List.length ((splitR x39).1))) (
                      let x42 : Bs := (List.getD ((splitR x39).1) (Int.toNat 0) (dflt .record)).raw
                      cond (!decide (x42 = x39)) (
                        some (.bool false, [some [.int .i64 x3, .int .i64 x4, .int .u64 p2, .str ([] : Bs), .str ([] : Bs)], some [.rw .record ((splitR x39).1)], none])) (
                        chk (decide ((0 : Int) < ↑x40)) (
                          chk (decide ((Int.toNat 0) < List.length ((splitR x39).1))) (
                            let x43 : List Record := (List.set ((splitR x39).1) (Int.toNat 0) (let e_ := List.getD ((splitR x39).1) (Int.toNat 0) (dflt .record); ⟨e_.num, e_.wire, e_.n, e_.s, ([] : Bs)⟩))
                            chk (decide ((0 : Int) < ↑x40)) (
                              chk (decide ((Int.toNat 0) < List.length x43)) (
                                let x44 : Int := (List.getD x43 (Int.toNat 0) (dflt .record)).num
                                let x45 : Int := (List.getD x43 (Int.toNat 0) (dflt .record)).wire
                                let x46 : Int := (List.getD x43 (Int.toNat 0) (dflt .record)).n
                                let x47 : Bs := (List.getD x43 (Int.toNat 0) (dflt .record)).s
                                let x48 : Bs := (List.getD x43 (Int.toNat 0) (dflt .record)).raw
                                let x49 : Bool := ((x44 == x3) && ((x45 == x4) && ((x46 == p2) && (decide (x47 = ([] : Bs)) && (decide (x48 = ([] : Bs)) && true)))))
                                cond x49 (
                                  chk (decide ((0 : Int) < ↑x40)) (
                                    chk (decide ((Int.toNat 0) < List.length x43)) (
                                      let x50 : Int := (List.getD x43 (Int.toNat 0) (dflt .record)).num
                                      let x51 : Int := (List.getD x43 (Int.toNat 0) (dflt .record)).wire
                                      let x52 : Int := (List.getD x43 (Int.toNat 0) (dflt .record)).n
                                      let x53 : Bs := (List.getD x43 (Int.toNat 0) (dflt .record)).s
                                      let x54 : Bs := (List.getD x43 (Int.toNat 0) (dflt .record)).raw
                                      chk (decide (List.length x53 ≤ 9223372036854000000)) (
                                        let x55 : Bs := (putR ⟨x50, x51, x52, x53, x54⟩)
                                        some (.bool (decide (x55 = x39)), [some [.int .i64 x3, .int .i64 x4, .int .u64 p2, .str ([] : Bs), .str ([] : Bs)], some [.rw .record x43], none]))))) (
                                  some (.bool false, [some [.int .i64 x3, .int .i64 x4, .int .u64 p2, .str ([] : Bs), .str ([] : Bs)], some [.rw .record x43], none])))))))))))))))))
def sh_law1_RecBack (N : Nat) (p0 : Int) (p1 : Int) (p2 : Int) (p3 : Bs) : Ro := sa_law1_RecBack N p0 p1 p2 p3
theorem run_law1_RecBack (N : Nat) (p0 : Int) (p1 : Int) (p2 : Int) (p3 : Bs) : callF Γ_law1_RecBack N 79 rs_law1_RecBack ir_law1_RecBack [.int .u32 p0, .int .u8 p1, .int .u64 p2, .str p3] [] = sh_law1_RecBack N p0 p1 p2 p3 := by kernel_rfl
theorem ok_law1_RecBack (hΓ : SpecOK Try.prog Γ_law1_RecBack) (N : Nat) (p0 : Int) (p1 : Int) (p2 : Int) (p3 : Bs) {v : V} {hp : List AObj} (h : sh_law1_RecBack N p0 p1 p2 p3 = some (v, hp)) : PureOK Try.prog i_law1_RecBack [.int .u32 p0, .int .u8 p1, .int .u64 p2, .str p3] v := by
  have hc := chk_law1_RecBack
  simp only [Bool.and_eq_true] at hc
  exact ⟨hp, fnOK_of hΓ pureS_law1_RecBack Try.func6 body_law1_RecBack hc.1 hc.2 (by decide) ((run_law1_RecBack N p0 p1 p2 p3).trans h)⟩
end Go.Proofs.Ytifmekddikapeaa
