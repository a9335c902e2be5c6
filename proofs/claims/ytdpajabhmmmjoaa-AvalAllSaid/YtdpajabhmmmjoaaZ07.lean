import Derived.KernelRfl
import Derived.Test.YtdpajabhmmmjoaaZ02
import Derived.Test.YtdpajabhmmmjoaaZ04
import Derived.Test.YtdpajabhmmmjoaaZ06
section
namespace Go.Proofs.Ytdpajabhmmmjoaa
open Go.AM
set_option autoImplicit false
set_option linter.unusedVariables false
set_option maxRecDepth 100000
noncomputable def gL : au := tab (P := Try.prog) [] [ko] [] [aBA]
noncomputable def acA : IR := (.cond (.t 19) .skip (.exit 0))
noncomputable def acB : IR := .ret
noncomputable def acC : IR := (.cond (.t 37) (.seq (.reg [Pp (.bld 38 [.int .u64 0, .str ([] : Bs), .sl .aval .own ([] : List ab), .sl .str .own ([] : Bss), .int .i64 0] []), Mv 39 13, Pp (.st none 5 (.t 8) (.t 38)), Mv 9 39] []) acB) .skip)
noncomputable def acD : IR := (.cond (.t 42) (.reg [Fa 43 2 10, Pp (.ld 44 1 false true (.t 43)), Ld 45 5 true 12, Pp (.bsl 46 .aval [(.t 45)] true), Pp (.app 47 .aval (.tk 44) (.t 46)), Fa 48 2 10, Pp (.st none 1 (.t 48) (.tk 47))] []) (.reg [⟨none, .ld 49 5 true false (.t 10), some ([2], [])⟩, Fa 50 4 6, Ld 51 1 false 50, Mv 52 11, Pp (.ixa 53 .str (.t 51) (.t 52)), Ld 54 1 false 53, Ld 55 5 true 12, Pp (.call (some 56) 61 [(.t 49), (.t 54), (.t 55)]), ⟨none, .st none 5 (.t 10) (.t 56), some ([], [2])⟩] [[], [], [1], [], [1, 2, 3], [1, 2, 3, 4], [], [0, 1, 2, 3, 4, 5, 6], [0, 1, 2, 3, 4, 5, 6, 7]]))
noncomputable def acE : IR := (.seq (.reg [Fa 40 0 5, Ld 41 1 false 40, Bc 42 .eql 41 12] []) acD)
noncomputable def acF : IR := (.seq (.seq (.reg [Mv 36 13, Bc 37 .neq 36 0] []) acC) acE)
noncomputable def acG : IR := (.reg [Mv 20 11, Bc 21 .add 20 1, Mv 11 21] [])
noncomputable def acH : IR := (.seq (.block 1 (.seq (.reg [Mv 23 0, Fa 24 3 5, Ld 25 1 false 24, Fa 26 3 6, Ld 27 1 false 26, Mv 28 11, Pp (.ixa 29 .jnode (.t 27) (.t 28)), Ld 30 5 true 29, Mv 31 3, Bc 32 .add 31 1, ⟨none, .call (some 33) 120 [(.t 23), (.t 25), (.t 30), (.t 32)], some ([], [0])⟩, Mv 22 33, Ex_ 34 0 22, Ex_ 35 1 22, Pp (.alr 12 5), Pp (.frz none 12 5 (.t 34)), Mv 13 35] [[], [], [1], [], [3], [], [3, 4, 5], [3, 4, 5, 6], [], [8], [0, 1, 2, 3, 4, 5, 6, 7, 8, 9], [0, 1, 2, 3, 4, 5, 6, 7, 8, 9, 10], [0, 1, 2, 3, 4, 5, 6, 7, 8, 9, 10, 11], [0, 1, 2, 3, 4, 5, 6, 7, 8, 9, 10, 11], [], [0, 1, 2, 3, 4, 5, 6, 7, 8, 9, 10, 11, 12, 14], [0, 1, 2, 3, 4, 5, 6, 7, 8, 9, 10, 11, 12, 13, 14, 15]]) acF)) acG)
noncomputable def rF : IR := (.seq (.seq (.reg [Mv 15 11, Fa 16 3 6, Ld 17 1 false 16, Pp (.lenl 18 (.t 17)), Bi 19 .lss 15 18] []) acA) acH)
noncomputable def acI : IR := (.block 0 (.loop [0, 3, 5, 6, 8, 10, 11, 1000000] 3 rF))
noncomputable def aal : IR := .ret
noncomputable def qE : IR := (.seq (.reg [Pp (.ld 57 5 true false (.t 10)), Pp (.st none 5 (.t 8) (.t 57)), Pp (.mov 9 (.c (.int .i64 0)))] []) aal)
noncomputable def aam : IR := (.seq (.seq (.reg [Pp (.mov 11 (.c (.int .i64 0)))] []) acI) qE)
noncomputable def aan : IR := (.seq (.reg [Pp (.bld 14 [.int .u64 0, .str ([] : Bs), .sl .aval .own ([] : List ab), .sl .str .own ([] : Bss), .int .i64 0] []), Pp (.new 10 [.int .u64 0, .str ([] : Bs), .sl .aval .own ([] : List ab), .sl .str .own ([] : Bss), .int .i64 0]), Pp (.st none 5 (.t 10) (.t 14))] []) aam)
noncomputable def nx : IR := (.seq (.reg [Pp (.boxe 5 (.t 1)), Pp (.boxe 6 (.t 2)), Pp (.new 8 [.int .u64 0, .str ([] : Bs), .sl .aval .own ([] : List ab), .sl .str .own ([] : Bss), .int .i64 0]), Pp (.mov 9 (.c (.int .i64 0)))] []) aan)
noncomputable def jM : List RV := [.cell 8 5 true, .t 9]
theorem ahA : FnC Try.prog gL [120, 2000120] 1 uG Try.f148 nx jM := fnC (by kernel_rfl) Try.func148 (by kernel_rfl) (by kernel_rfl) (by decide)
noncomputable def afp (R : IR → (Ex → St → Ro) → St → Ro) (again0 : St → Ro) : Ex → St → Ro := (br again0 [0, 3, 5, 6, 8, 10, 11, 1000000] 3 (aD 0 (bo (R qE) (fin jM))))
abbrev ft : Type := (Int × Int × Bs × Bss × Int × Bss × Bool × Bs × Int × List ao × List Int × Int × Int × Bs × List ae × Bss × Int × List ac × Int × Int × Bs × List ab × Bss × Int × Int × Bs × List ab × Bss × Int) ⊕ (Int × Int × Bs × Bss × Int × Bss × Bool × Bs × Int × List ao × List Int × Int × Int × Bs × List ae × Bss × Int × List ac × Int × Int × Bs × List ab × Bss × Int × Int × Bs × List ab × Bss × Int)
noncomputable def yw (x : (Int × Int × Bs × Bss × Int × Bss × Bool × Bs × Int × List ao × List Int × Int × Int × Bs × List ae × Bss × Int × List ac × Int × Int × Bs × List ab × Bss × Int × Int × Bs × List ab × Bss × Int)) : St := { env := (.ptr 0 0 :: .undef :: .undef :: .int .i64 x.1 :: .undef :: .ea [.int .i64 x.2.1, .str x.2.2.1, .sl .str (.may false) x.2.2.2.1, .int .i64 x.2.2.2.2.1, .sl .str (.may false) x.2.2.2.2.2.1, .bool x.2.2.2.2.2.2.1, .str x.2.2.2.2.2.2.2.1, .int .i64 x.2.2.2.2.2.2.2.2.1, .sl .afield (.may false) x.2.2.2.2.2.2.2.2.2.1, .sl (.num .i64) (.may false) x.2.2.2.2.2.2.2.2.2.2.1] :: .ea [.int .i64 x.2.2.2.2.2.2.2.2.2.2.2.1, .int .i64 x.2.2.2.2.2.2.2.2.2.2.2.2.1, .str x.2.2.2.2.2.2.2.2.2.2.2.2.2.1, .sl .jnode (.may false) x.2.2.2.2.2.2.2.2.2.2.2.2.2.2.1, .sl .str (.may false) x.2.2.2.2.2.2.2.2.2.2.2.2.2.2.2.1] :: .undef :: .ptr 1 0 :: .undef :: .ptr 2 0 :: .int .i64 x.2.2.2.2.2.2.2.2.2.2.2.2.2.2.2.2.1 :: (U 46 [])), hp := [some [.sl .atype (.may false) x.2.2.2.2.2.2.2.2.2.2.2.2.2.2.2.2.2.1, .int .i64 x.2.2.2.2.2.2.2.2.2.2.2.2.2.2.2.2.2.2.1], some [.int .u64 x.2.2.2.2.2.2.2.2.2.2.2.2.2.2.2.2.2.2.2.1, .str x.2.2.2.2.2.2.2.2.2.2.2.2.2.2.2.2.2.2.2.2.1, .sl .aval .own x.2.2.2.2.2.2.2.2.2.2.2.2.2.2.2.2.2.2.2.2.2.1, .sl .str .own x.2.2.2.2.2.2.2.2.2.2.2.2.2.2.2.2.2.2.2.2.2.2.1, .int .i64 x.2.2.2.2.2.2.2.2.2.2.2.2.2.2.2.2.2.2.2.2.2.2.2.1], some [.int .u64 x.2.2.2.2.2.2.2.2.2.2.2.2.2.2.2.2.2.2.2.2.2.2.2.2.1, .str x.2.2.2.2.2.2.2.2.2.2.2.2.2.2.2.2.2.2.2.2.2.2.2.2.2.1, .sl .aval .own x.2.2.2.2.2.2.2.2.2.2.2.2.2.2.2.2.2.2.2.2.2.2.2.2.2.2.1, .sl .str .own x.2.2.2.2.2.2.2.2.2.2.2.2.2.2.2.2.2.2.2.2.2.2.2.2.2.2.2.1, .int .i64 x.2.2.2.2.2.2.2.2.2.2.2.2.2.2.2.2.2.2.2.2.2.2.2.2.2.2.2.2]] }
noncomputable def yx (x : (Int × Int × Bs × Bss × Int × Bss × Bool × Bs × Int × List ao × List Int × Int × Int × Bs × List ae × Bss × Int × List ac × Int × Int × Bs × List ab × Bss × Int × Int × Bs × List ab × Bss × Int)) : St := { env := (.ptr 0 0 :: .undef :: .undef :: .int .i64 x.1 :: .undef :: .ea [.int .i64 x.2.1, .str x.2.2.1, .sl .str (.may false) x.2.2.2.1, .int .i64 x.2.2.2.2.1, .sl .str (.may false) x.2.2.2.2.2.1, .bool x.2.2.2.2.2.2.1, .str x.2.2.2.2.2.2.2.1, .int .i64 x.2.2.2.2.2.2.2.2.1, .sl .afield (.may false) x.2.2.2.2.2.2.2.2.2.1, .sl (.num .i64) (.may false) x.2.2.2.2.2.2.2.2.2.2.1] :: .ea [.int .i64 x.2.2.2.2.2.2.2.2.2.2.2.1, .int .i64 x.2.2.2.2.2.2.2.2.2.2.2.2.1, .str x.2.2.2.2.2.2.2.2.2.2.2.2.2.1, .sl .jnode (.may false) x.2.2.2.2.2.2.2.2.2.2.2.2.2.2.1, .sl .str (.may false) x.2.2.2.2.2.2.2.2.2.2.2.2.2.2.2.1] :: .undef :: .ptr 1 0 :: .undef :: .ptr 2 0 :: .int .i64 x.2.2.2.2.2.2.2.2.2.2.2.2.2.2.2.2.1 :: (U 46 [])), hp := [some [.sl .atype (.may false) x.2.2.2.2.2.2.2.2.2.2.2.2.2.2.2.2.2.1, .int .i64 x.2.2.2.2.2.2.2.2.2.2.2.2.2.2.2.2.2.2.1], some [.int .u64 x.2.2.2.2.2.2.2.2.2.2.2.2.2.2.2.2.2.2.2.1, .str x.2.2.2.2.2.2.2.2.2.2.2.2.2.2.2.2.2.2.2.2.1, .sl .aval .own x.2.2.2.2.2.2.2.2.2.2.2.2.2.2.2.2.2.2.2.2.2.1, .sl .str .own x.2.2.2.2.2.2.2.2.2.2.2.2.2.2.2.2.2.2.2.2.2.2.1, .int .i64 x.2.2.2.2.2.2.2.2.2.2.2.2.2.2.2.2.2.2.2.2.2.2.2.1], some [.int .u64 x.2.2.2.2.2.2.2.2.2.2.2.2.2.2.2.2.2.2.2.2.2.2.2.2.1, .str x.2.2.2.2.2.2.2.2.2.2.2.2.2.2.2.2.2.2.2.2.2.2.2.2.2.1, .sl .aval (.may false) x.2.2.2.2.2.2.2.2.2.2.2.2.2.2.2.2.2.2.2.2.2.2.2.2.2.2.1, .sl .str (.may false) x.2.2.2.2.2.2.2.2.2.2.2.2.2.2.2.2.2.2.2.2.2.2.2.2.2.2.2.1, .int .i64 x.2.2.2.2.2.2.2.2.2.2.2.2.2.2.2.2.2.2.2.2.2.2.2.2.2.2.2.2]] }
noncomputable def ey : ft → St
 | (Sum.inl x) => yw x
 | (Sum.inr x) => yx x
noncomputable def mt (N : Nat) : (St → Ro) → St → Ro := fun again0 s => run gL N rF (afp (run gL N) again0) s
noncomputable def fu (N : Nat) (again0 : ft → Ro) (x : ft) : Ro :=
 match x with
 | (Sum.inl x) =>
   let v3 : Int := x.1
   let v5_0 : Int := x.2.1
   let v5_1 : Bs := x.2.2.1
   let v5_2 : Bss := x.2.2.2.1
   let v5_3 : Int := x.2.2.2.2.1
   let v5_4 : Bss := x.2.2.2.2.2.1
   let v5_5 : Bool := x.2.2.2.2.2.2.1
   let v5_6 : Bs := x.2.2.2.2.2.2.2.1
   let v5_7 : Int := x.2.2.2.2.2.2.2.2.1
   let v5_8 : List ao := x.2.2.2.2.2.2.2.2.2.1
   let v5_9 : List Int := x.2.2.2.2.2.2.2.2.2.2.1
   let v6_0 : Int := x.2.2.2.2.2.2.2.2.2.2.2.1
   let v6_1 : Int := x.2.2.2.2.2.2.2.2.2.2.2.2.1
   let v6_2 : Bs := x.2.2.2.2.2.2.2.2.2.2.2.2.2.1
   let v6_3 : List ae := x.2.2.2.2.2.2.2.2.2.2.2.2.2.2.1
   let v6_4 : Bss := x.2.2.2.2.2.2.2.2.2.2.2.2.2.2.2.1
   let v11 : Int := x.2.2.2.2.2.2.2.2.2.2.2.2.2.2.2.2.1
   let o0_0 : List ac := x.2.2.2.2.2.2.2.2.2.2.2.2.2.2.2.2.2.1
   let o0_1 : Int := x.2.2.2.2.2.2.2.2.2.2.2.2.2.2.2.2.2.2.1
   let o1_0 : Int := x.2.2.2.2.2.2.2.2.2.2.2.2.2.2.2.2.2.2.2.1
   let o1_1 : Bs := x.2.2.2.2.2.2.2.2.2.2.2.2.2.2.2.2.2.2.2.2.1
   let o1_2 : List ab := x.2.2.2.2.2.2.2.2.2.2.2.2.2.2.2.2.2.2.2.2.2.1
   let o1_3 : Bss := x.2.2.2.2.2.2.2.2.2.2.2.2.2.2.2.2.2.2.2.2.2.2.1
   let o1_4 : Int := x.2.2.2.2.2.2.2.2.2.2.2.2.2.2.2.2.2.2.2.2.2.2.2.1
   let o2_0 : Int := x.2.2.2.2.2.2.2.2.2.2.2.2.2.2.2.2.2.2.2.2.2.2.2.2.1
   let o2_1 : Bs := x.2.2.2.2.2.2.2.2.2.2.2.2.2.2.2.2.2.2.2.2.2.2.2.2.2.1
   let o2_2 : List ab := x.2.2.2.2.2.2.2.2.2.2.2.2.2.2.2.2.2.2.2.2.2.2.2.2.2.2.1
   let o2_3 : Bss := x.2.2.2.2.2.2.2.2.2.2.2.2.2.2.2.2.2.2.2.2.2.2.2.2.2.2.2.1
   let o2_4 : Int := x.2.2.2.2.2.2.2.2.2.2.2.2.2.2.2.2.2.2.2.2.2.2.2.2.2.2.2.2
   let x1 : Int := (↑(List.length v6_3) : Int)
   cond (decide (v11 < x1)) (
    chk ((decide (0 ≤ v11) && decide (v11 < ↑(List.length v6_3)))) (
     let x2 : Int := (List.getD v6_3 (Int.toNat v11) (af .jnode)).kind
     let x3 : Int := (List.getD v6_3 (Int.toNat v11) (af .jnode)).n
     let x4 : Bs := (List.getD v6_3 (Int.toNat v11) (af .jnode)).s
     let x5 : List ae := (List.getD v6_3 (Int.toNat v11) (af .jnode)).l
     let x6 : Bss := (List.getD v6_3 (Int.toNat v11) (af .jnode)).names
     let x7 : Int := (IntKind.wrap .i64 (v3 + 1))
     ai (bJ o0_0 o0_1 v5_3 x2 x3 x4 x5 x6 x7) (fun r1 =>
      cond (!(r1.2.2.2.2.2.1 == 0)) (
       some (.tup [.agg [.int .u64 0, .str ([] : Bs), .sl .aval (.may false) ([] : List ab), .sl .str (.may false) ([] : Bss), .int .i64 0], .int .i64 r1.2.2.2.2.2.1], [some [.sl .atype (.may false) r1.2.2.2.2.2.2.1, .int .i64 r1.2.2.2.2.2.2.2], some [.int .u64 0, .str ([] : Bs), .sl .aval .own ([] : List ab), .sl .str .own ([] : Bss), .int .i64 0], some [.int .u64 o2_0, .str o2_1, .sl .aval .own o2_2, .sl .str .own o2_3, .int .i64 o2_4]])) (
       cond (v5_0 == 12) (
        chk (decide ((List.length o2_2 + List.length ([⟨r1.1, r1.2.1, r1.2.2.1, r1.2.2.2.1, r1.2.2.2.2.1⟩] : List ab)) * 80 ≤ 140737488355328)) (
         let x8 : List ab := (o2_2 ++ ([⟨r1.1, r1.2.1, r1.2.2.1, r1.2.2.2.1, r1.2.2.2.2.1⟩] : List ab))
         let x9 : Int := (IntKind.wrap .i64 (v11 + 1))
         again0 (Sum.inl (v3, v5_0, v5_1, v5_2, v5_3, v5_4, v5_5, v5_6, v5_7, v5_8, v5_9, v6_0, v6_1, v6_2, v6_3, v6_4, x9, r1.2.2.2.2.2.2.1, r1.2.2.2.2.2.2.2, o1_0, o1_1, o1_2, o1_3, o1_4, o2_0, o2_1, x8, o2_3, o2_4)))) (
        chk ((decide (0 ≤ v11) && decide (v11 < ↑(List.length v6_4)))) (
         let x10 : Bs := List.getD v6_4 (Int.toNat v11) (af .str)
         ai (pi o2_0 o2_1 o2_2 o2_3 o2_4 x10 r1.1 r1.2.1 r1.2.2.1 r1.2.2.2.1 r1.2.2.2.2.1) (fun r2 =>
          let x11 : Int := (IntKind.wrap .i64 (v11 + 1))
          again0 (Sum.inr (v3, v5_0, v5_1, v5_2, v5_3, v5_4, v5_5, v5_6, v5_7, v5_8, v5_9, v6_0, v6_1, v6_2, v6_3, v6_4, x11, r1.2.2.2.2.2.2.1, r1.2.2.2.2.2.2.2, o1_0, o1_1, o1_2, o1_3, o1_4, r2.1, r2.2.1, r2.2.2.1, r2.2.2.2.1, r2.2.2.2.2))))))))) (
    some (.tup [.agg [.int .u64 o2_0, .str o2_1, .sl .aval (.may false) o2_2, .sl .str (.may false) o2_3, .int .i64 o2_4], .int .i64 0], [some [.sl .atype (.may false) o0_0, .int .i64 o0_1], some [.int .u64 o2_0, .str o2_1, .sl .aval (.may false) o2_2, .sl .str (.may false) o2_3, .int .i64 o2_4], some [.int .u64 o2_0, .str o2_1, .sl .aval .own o2_2, .sl .str .own o2_3, .int .i64 o2_4]]))
 | (Sum.inr x) =>
   let v3 : Int := x.1
   let v5_0 : Int := x.2.1
   let v5_1 : Bs := x.2.2.1
   let v5_2 : Bss := x.2.2.2.1
   let v5_3 : Int := x.2.2.2.2.1
   let v5_4 : Bss := x.2.2.2.2.2.1
   let v5_5 : Bool := x.2.2.2.2.2.2.1
   let v5_6 : Bs := x.2.2.2.2.2.2.2.1
   let v5_7 : Int := x.2.2.2.2.2.2.2.2.1
   let v5_8 : List ao := x.2.2.2.2.2.2.2.2.2.1
   let v5_9 : List Int := x.2.2.2.2.2.2.2.2.2.2.1
   let v6_0 : Int := x.2.2.2.2.2.2.2.2.2.2.2.1
   let v6_1 : Int := x.2.2.2.2.2.2.2.2.2.2.2.2.1
   let v6_2 : Bs := x.2.2.2.2.2.2.2.2.2.2.2.2.2.1
   let v6_3 : List ae := x.2.2.2.2.2.2.2.2.2.2.2.2.2.2.1
   let v6_4 : Bss := x.2.2.2.2.2.2.2.2.2.2.2.2.2.2.2.1
   let v11 : Int := x.2.2.2.2.2.2.2.2.2.2.2.2.2.2.2.2.1
   let o0_0 : List ac := x.2.2.2.2.2.2.2.2.2.2.2.2.2.2.2.2.2.1
   let o0_1 : Int := x.2.2.2.2.2.2.2.2.2.2.2.2.2.2.2.2.2.2.1
   let o1_0 : Int := x.2.2.2.2.2.2.2.2.2.2.2.2.2.2.2.2.2.2.2.1
   let o1_1 : Bs := x.2.2.2.2.2.2.2.2.2.2.2.2.2.2.2.2.2.2.2.2.1
   let o1_2 : List ab := x.2.2.2.2.2.2.2.2.2.2.2.2.2.2.2.2.2.2.2.2.2.1
   let o1_3 : Bss := x.2.2.2.2.2.2.2.2.2.2.2.2.2.2.2.2.2.2.2.2.2.2.1
   let o1_4 : Int := x.2.2.2.2.2.2.2.2.2.2.2.2.2.2.2.2.2.2.2.2.2.2.2.1
   let o2_0 : Int := x.2.2.2.2.2.2.2.2.2.2.2.2.2.2.2.2.2.2.2.2.2.2.2.2.1
   let o2_1 : Bs := x.2.2.2.2.2.2.2.2.2.2.2.2.2.2.2.2.2.2.2.2.2.2.2.2.2.1
   let o2_2 : List ab := x.2.2.2.2.2.2.2.2.2.2.2.2.2.2.2.2.2.2.2.2.2.2.2.2.2.2.1
   let o2_3 : Bss := x.2.2.2.2.2.2.2.2.2.2.2.2.2.2.2.2.2.2.2.2.2.2.2.2.2.2.2.1
   let o2_4 : Int := x.2.2.2.2.2.2.2.2.2.2.2.2.2.2.2.2.2.2.2.2.2.2.2.2.2.2.2.2
   let x12 : Int := (↑(List.length v6_3) : Int)
   cond (decide (v11 < x12)) (
    chk ((decide (0 ≤ v11) && decide (v11 < ↑(List.length v6_3)))) (
     let x13 : Int := (List.getD v6_3 (Int.toNat v11) (af .jnode)).kind
     let x14 : Int := (List.getD v6_3 (Int.toNat v11) (af .jnode)).n
     let x15 : Bs := (List.getD v6_3 (Int.toNat v11) (af .jnode)).s
     let x16 : List ae := (List.getD v6_3 (Int.toNat v11) (af .jnode)).l
     let x17 : Bss := (List.getD v6_3 (Int.toNat v11) (af .jnode)).names
     let x18 : Int := (IntKind.wrap .i64 (v3 + 1))
     ai (bJ o0_0 o0_1 v5_3 x13 x14 x15 x16 x17 x18) (fun r3 =>
      cond (!(r3.2.2.2.2.2.1 == 0)) (
       some (.tup [.agg [.int .u64 0, .str ([] : Bs), .sl .aval (.may false) ([] : List ab), .sl .str (.may false) ([] : Bss), .int .i64 0], .int .i64 r3.2.2.2.2.2.1], [some [.sl .atype (.may false) r3.2.2.2.2.2.2.1, .int .i64 r3.2.2.2.2.2.2.2], some [.int .u64 0, .str ([] : Bs), .sl .aval .own ([] : List ab), .sl .str .own ([] : Bss), .int .i64 0], some [.int .u64 o2_0, .str o2_1, .sl .aval (.may false) o2_2, .sl .str (.may false) o2_3, .int .i64 o2_4]])) (
       cond (v5_0 == 12) (
        none) (
        chk ((decide (0 ≤ v11) && decide (v11 < ↑(List.length v6_4)))) (
         let x19 : Bs := List.getD v6_4 (Int.toNat v11) (af .str)
         ai (pi o2_0 o2_1 o2_2 o2_3 o2_4 x19 r3.1 r3.2.1 r3.2.2.1 r3.2.2.2.1 r3.2.2.2.2.1) (fun r4 =>
          let x20 : Int := (IntKind.wrap .i64 (v11 + 1))
          again0 (Sum.inr (v3, v5_0, v5_1, v5_2, v5_3, v5_4, v5_5, v5_6, v5_7, v5_8, v5_9, v6_0, v6_1, v6_2, v6_3, v6_4, x20, r3.2.2.2.2.2.2.1, r3.2.2.2.2.2.2.2, o1_0, o1_1, o1_2, o1_3, o1_4, r4.1, r4.2.1, r4.2.2.1, r4.2.2.2.1, r4.2.2.2.2))))))))) (
    some (.tup [.agg [.int .u64 o2_0, .str o2_1, .sl .aval (.may false) o2_2, .sl .str (.may false) o2_3, .int .i64 o2_4], .int .i64 0], [some [.sl .atype (.may false) o0_0, .int .i64 o0_1], some [.int .u64 o2_0, .str o2_1, .sl .aval (.may false) o2_2, .sl .str (.may false) o2_3, .int .i64 o2_4], some [.int .u64 o2_0, .str o2_1, .sl .aval (.may false) o2_2, .sl .str (.may false) o2_3, .int .i64 o2_4]]))
theorem acJ (N : Nat) : ∀ (again0 : St → Ro) (x : ft), mt N again0 (ey x) = fu N (fun y => again0 (ey y)) x := by
 intro again0 x
 rcases x with x | x <;> kernel_rfl
noncomputable def f5 (N : Nat) (o0_0 : List ac) (o0_1 : Int) (p1_0 : Int) (p1_1 : Bs) (p1_2 : Bss) (p1_3 : Int) (p1_4 : Bss) (p1_5 : Bool) (p1_6 : Bs) (p1_7 : Int) (p1_8 : List ao) (p1_9 : List Int) (p2_0 : Int) (p2_1 : Int) (p2_2 : Bs) (p2_3 : List ae) (p2_4 : Bss) (p3 : Int) (q0 : ft → Ro) : Ro :=
 q0 (Sum.inl (p3, p1_0, p1_1, p1_2, p1_3, p1_4, p1_5, p1_6, p1_7, p1_8, p1_9, p2_0, p2_1, p2_2, p2_3, p2_4, 0, o0_0, o0_1, 0, ([] : Bs), ([] : List ab), ([] : Bss), 0, 0, ([] : Bs), ([] : List ab), ([] : Bss), 0))
noncomputable def ny (N : Nat) (o0_0 : List ac) (o0_1 : Int) (p1_0 : Int) (p1_1 : Bs) (p1_2 : Bss) (p1_3 : Int) (p1_4 : Bss) (p1_5 : Bool) (p1_6 : Bs) (p1_7 : Int) (p1_8 : List ao) (p1_9 : List Int) (p2_0 : Int) (p2_1 : Int) (p2_2 : Bs) (p2_3 : List ae) (p2_4 : Bss) (p3 : Int) : Ro := f5 N o0_0 o0_1 p1_0 p1_1 p1_2 p1_3 p1_4 p1_5 p1_6 p1_7 p1_8 p1_9 p2_0 p2_1 p2_2 p2_3 p2_4 p3 (fun z => aB N (fu N) z)
noncomputable def ai4 (N : Nat) : List (Nat × (St → Ro)) := aI gL N nx (fin jM) ++ []
theorem afq (N : Nat) (o0_0 : List ac) (o0_1 : Int) (p1_0 : Int) (p1_1 : Bs) (p1_2 : Bss) (p1_3 : Int) (p1_4 : Bss) (p1_5 : Bool) (p1_6 : Bs) (p1_7 : Int) (p1_8 : List ao) (p1_9 : List Int) (p2_0 : Int) (p2_1 : Int) (p2_2 : Bs) (p2_3 : List ae) (p2_4 : Bss) (p3 : Int) : aE gL N 58 jM nx [.ptr 0 0, .agg [.int .i64 p1_0, .str p1_1, .sl .str (.may false) p1_2, .int .i64 p1_3, .sl .str (.may false) p1_4, .bool p1_5, .str p1_6, .int .i64 p1_7, .sl .afield (.may false) p1_8, .sl (.num .i64) (.may false) p1_9], .agg [.int .i64 p2_0, .int .i64 p2_1, .str p2_2, .sl .jnode (.may false) p2_3, .sl .str (.may false) p2_4], .int .i64 p3] [some [.sl .atype (.may false) o0_0, .int .i64 o0_1]] = ny N o0_0 o0_1 p1_0 p1_1 p1_2 p1_3 p1_4 p1_5 p1_6 p1_7 p1_8 p1_9 p2_0 p2_1 p2_2 p2_3 p2_4 p3 :=
 (bx (ai4 N) (by kernel_rfl) rfl (fun C => f5 N o0_0 o0_1 p1_0 p1_1 p1_2 p1_3 p1_4 p1_5 p1_6 p1_7 p1_8 p1_9 p2_0 p2_1 p2_2 p2_3 p2_4 p3 (fun z => C 1000000 (ey z))) (fun C => by kernel_rfl)).trans (Eq.trans (b := f5 N o0_0 o0_1 p1_0 p1_1 p1_2 p1_3 p1_4 p1_5 p1_6 p1_7 p1_8 p1_9 p2_0 p2_1 p2_2 p2_3 p2_4 p3 (fun z => aW N (mt N) (ey z))) (by kernel_rfl) (congrArg (f5 N o0_0 o0_1 p1_0 p1_1 p1_2 p1_3 p1_4 p1_5 p1_6 p1_7 p1_8 p1_9 p2_0 p2_1 p2_2 p2_3 p2_4 p3) (funext fun z => aT (ey) (mt N) (fu N) (acJ N) N z)))
theorem afr (N : Nat) (o0_0 : List ac) (o0_1 : Int) (p1_0 : Int) (p1_1 : Bs) (p1_2 : Bss) (p1_3 : Int) (p1_4 : Bss) (p1_5 : Bool) (p1_6 : Bs) (p1_7 : Int) (p1_8 : List ao) (p1_9 : List Int) (p2_0 : Int) (p2_1 : Int) (p2_2 : Bs) (p2_3 : List ae) (p2_4 : Bss) (p3 : Int) (h : Tot (ny N o0_0 o0_1 p1_0 p1_1 p1_2 p1_3 p1_4 p1_5 p1_6 p1_7 p1_8 p1_9 p2_0 p2_1 p2_2 p2_3 p2_4 p3) (fun z => ∃ (y0 : Int) (y1 : Bs) (y2 : List ab) (y3 : Bss) (y4 : Int) (y5 : Int) (y6 : List ac) (y7 : Int) (rest : List an), z.1.dimR = .tup [.agg [.int .u64 y0, .str y1, .sl .aval (.may false) y2, .sl .str (.may false) y3, .int .i64 y4], .int .i64 y5] ∧ z.2 = some [.sl .atype (.may false) y6, .int .i64 y7] :: rest ∧ ry o0_0 o0_1 p1_0 p1_1 p1_2 p1_3 p1_4 p1_5 p1_6 p1_7 p1_8 p1_9 p2_0 p2_1 p2_2 p2_3 p2_4 p3 (y0, y1, y2, y3, y4, y5, y6, y7))) : ∃ r, gl o0_0 o0_1 p1_0 p1_1 p1_2 p1_3 p1_4 p1_5 p1_6 p1_7 p1_8 p1_9 p2_0 p2_1 p2_2 p2_3 p2_4 p3 r := by
 obtain ⟨⟨v, hp⟩, hz, y0, y1, y2, y3, y4, y5, y6, y7, rest, e1, e2, hq⟩ := h
 simp only at e1 e2
 subst e2
 exact ⟨(y0, y1, y2, y3, y4, y5, y6, y7), aP.dimR (FnC.objs (css := [[.sl .atype (.may false) o0_0, .int .i64 o0_1]]) (css' := [[.sl .atype (.may false) y6, .int .i64 y7]]) ahA (afq N o0_0 o0_1 p1_0 p1_1 p1_2 p1_3 p1_4 p1_5 p1_6 p1_7 p1_8 p1_9 p2_0 p2_1 p2_2 p2_3 p2_4 p3) hz rfl) e1, hq⟩
noncomputable def f6 : au := tab (P := Try.prog) [] [ko] [] [nW]
noncomputable def aao : IR := (.cond (.t 22) .skip (.exit 0))
noncomputable def aap : IR := .ret
noncomputable def aaq : IR := (.cond (.t 41) (.seq (.reg [Pp (.bld 42 [.int .u64 0, .str ([] : Bs), .sl .aval .own ([] : List ab), .sl .str .own ([] : Bss), .int .i64 0] []), Pp (.st none 5 (.t 8) (.t 42)), Pp (.mov 9 (.c (.int .i64 7)))] []) aap) .skip)
noncomputable def aar : IR := (.reg [Fa 43 4 12, Ld 44 5 true 43, Pp (.st none 5 (.t 13) (.t 44))] [])
noncomputable def aas : IR := (.cond (.t 38) (.seq (.seq (.reg [Fa 39 3 12, Ld 40 1 false 39, Pp (.un 41 .not (.t 40))] []) aaq) aar) .skip)
noncomputable def aat : IR := .ret
noncomputable def aau : IR := (.cond (.t 56) (.seq (.reg [Pp (.bld 57 [.int .u64 0, .str ([] : Bs), .sl .aval .own ([] : List ab), .sl .str .own ([] : Bss), .int .i64 0] []), Mv 58 16, Pp (.st none 5 (.t 8) (.t 57)), Mv 9 58] []) aat) .skip)
noncomputable def aav : IR := (.reg [Fa 59 2 10, Pp (.ld 60 1 false true (.t 59)), Ld 61 5 true 15, Pp (.bsl 62 .aval [(.t 61)] true), Pp (.app 63 .aval (.tk 60) (.t 62)), Fa 64 2 10, Pp (.st none 1 (.t 64) (.tk 63))] [])
noncomputable def aaw : IR := (.seq (.seq (.reg [Mv 55 16, Bc 56 .neq 55 0] []) aau) aav)
noncomputable def aax : IR := (.seq (.reg [Mv 46 0, Fa 47 2 12, Ld 48 1 false 47, Pp (.ld 49 5 true false (.t 13)), Mv 50 3, Bc 51 .add 50 1, Pp (.call (some 52) 120 [(.t 46), (.t 48), (.t 49), (.t 51)]), Mv 45 52, Ex_ 53 0 45, Ex_ 54 1 45, Pp (.alr 15 5), Pp (.frz none 15 5 (.t 53)), Mv 16 54] []) aaw)
noncomputable def yy : IR := (.seq (.seq (.reg [Mv 37 14, Pp (.un 38 .not (.t 37))] []) aas) aax)
noncomputable def yz : IR := (.seq (.reg [Ld 31 5 true 6, Fa 32 0 12, Ld 33 1 false 32, Pp (.call (some 34) 113 [(.t 31), (.t 33)]), Mv 30 34, Ex_ 35 0 30, Ex_ 36 1 30, Pp (.new 13 [.int .i64 0, .int .i64 0, .str ([] : Bs), .sl .jnode .own ([] : List ae), .sl .str .own ([] : Bss)]), Pp (.st none 5 (.t 13) (.t 35)), Mv 14 36] []) yy)
noncomputable def yA : IR := (.reg [Mv 23 11, Bc 24 .add 23 1, Mv 11 24] [])
noncomputable def yB : IR := (.seq (.block 1 (.seq (.reg [Fa 25 8 5, Ld 26 1 false 25, Mv 27 11, Pp (.ixa 28 .afield (.t 26) (.t 27)), Ld 29 9 true 28, Pp (.alr 12 9), Pp (.frz none 12 9 (.t 29))] []) yz)) yA)
noncomputable def pJ : IR := (.seq (.seq (.reg [Mv 18 11, Fa 19 8 5, Ld 20 1 false 19, Pp (.lenl 21 (.t 20)), Bi 22 .lss 18 21] []) aao) yB)
noncomputable def yC : IR := (.block 0 (.loop [0, 3, 5, 6, 8, 10, 11, 1000000] 3 pJ))
noncomputable def yD : IR := .ret
noncomputable def pK : IR := (.seq (.reg [Pp (.ld 65 5 true false (.t 10)), Pp (.st none 5 (.t 8) (.t 65)), Pp (.mov 9 (.c (.int .i64 0)))] []) yD)
noncomputable def yE : IR := (.seq (.seq (.reg [Pp (.mov 11 (.c (.int .i64 0)))] []) yC) pK)
noncomputable def yF : IR := (.seq (.reg [Pp (.bld 17 [.int .u64 0, .str ([] : Bs), .sl .aval .own ([] : List ab), .sl .str .own ([] : Bss), .int .i64 0] []), Pp (.new 10 [.int .u64 0, .str ([] : Bs), .sl .aval .own ([] : List ab), .sl .str .own ([] : Bss), .int .i64 0]), Pp (.st none 5 (.t 10) (.t 17))] []) yE)
noncomputable def mu : IR := (.seq (.reg [Pp (.boxe 5 (.t 1)), Pp (.boxe 6 (.t 2)), Pp (.new 8 [.int .u64 0, .str ([] : Bs), .sl .aval .own ([] : List ab), .sl .str .own ([] : Bss), .int .i64 0]), Pp (.mov 9 (.c (.int .i64 0)))] []) yF)
noncomputable def je : List RV := [.cell 8 5 true, .t 9]
theorem afs : FnC Try.prog f6 [120, 2000120] 1 tA Try.f149 mu je := fnC (by kernel_rfl) Try.func149 (by kernel_rfl) (by kernel_rfl) (by decide)
noncomputable def acK (R : IR → (Ex → St → Ro) → St → Ro) (again0 : St → Ro) : Ex → St → Ro := (br again0 [0, 3, 5, 6, 8, 10, 11, 1000000] 3 (aD 0 (bo (R pK) (fin je))))
abbrev ez : Type := (Int × Int × Bs × Bss × Int × Bss × Bool × Bs × Int × List ao × List Int × Int × Int × Bs × List ae × Bss × Int × List ac × Int × Int × Bs × List ab × Bss × Int × Int × Bs × List ab × Bss × Int)
noncomputable def eb (x : ez) : St := { env := (.ptr 0 0 :: .undef :: .undef :: .int .i64 x.1 :: .undef :: .ea [.int .i64 x.2.1, .str x.2.2.1, .sl .str (.may false) x.2.2.2.1, .int .i64 x.2.2.2.2.1, .sl .str (.may false) x.2.2.2.2.2.1, .bool x.2.2.2.2.2.2.1, .str x.2.2.2.2.2.2.2.1, .int .i64 x.2.2.2.2.2.2.2.2.1, .sl .afield (.may false) x.2.2.2.2.2.2.2.2.2.1, .sl (.num .i64) (.may false) x.2.2.2.2.2.2.2.2.2.2.1] :: .ea [.int .i64 x.2.2.2.2.2.2.2.2.2.2.2.1, .int .i64 x.2.2.2.2.2.2.2.2.2.2.2.2.1, .str x.2.2.2.2.2.2.2.2.2.2.2.2.2.1, .sl .jnode (.may false) x.2.2.2.2.2.2.2.2.2.2.2.2.2.2.1, .sl .str (.may false) x.2.2.2.2.2.2.2.2.2.2.2.2.2.2.2.1] :: .undef :: .ptr 1 0 :: .undef :: .ptr 2 0 :: .int .i64 x.2.2.2.2.2.2.2.2.2.2.2.2.2.2.2.2.1 :: (U 54 [])), hp := [some [.sl .atype (.may false) x.2.2.2.2.2.2.2.2.2.2.2.2.2.2.2.2.2.1, .int .i64 x.2.2.2.2.2.2.2.2.2.2.2.2.2.2.2.2.2.2.1], some [.int .u64 x.2.2.2.2.2.2.2.2.2.2.2.2.2.2.2.2.2.2.2.1, .str x.2.2.2.2.2.2.2.2.2.2.2.2.2.2.2.2.2.2.2.2.1, .sl .aval .own x.2.2.2.2.2.2.2.2.2.2.2.2.2.2.2.2.2.2.2.2.2.1, .sl .str .own x.2.2.2.2.2.2.2.2.2.2.2.2.2.2.2.2.2.2.2.2.2.2.1, .int .i64 x.2.2.2.2.2.2.2.2.2.2.2.2.2.2.2.2.2.2.2.2.2.2.2.1], some [.int .u64 x.2.2.2.2.2.2.2.2.2.2.2.2.2.2.2.2.2.2.2.2.2.2.2.2.1, .str x.2.2.2.2.2.2.2.2.2.2.2.2.2.2.2.2.2.2.2.2.2.2.2.2.2.1, .sl .aval .own x.2.2.2.2.2.2.2.2.2.2.2.2.2.2.2.2.2.2.2.2.2.2.2.2.2.2.1, .sl .str .own x.2.2.2.2.2.2.2.2.2.2.2.2.2.2.2.2.2.2.2.2.2.2.2.2.2.2.2.1, .int .i64 x.2.2.2.2.2.2.2.2.2.2.2.2.2.2.2.2.2.2.2.2.2.2.2.2.2.2.2.2]] }
noncomputable def lA (N : Nat) : (St → Ro) → St → Ro := fun again0 s => run f6 N pJ (acK (run f6 N) again0) s
noncomputable def hY (N : Nat) (again0 : ez → Ro) (x : ez) : Ro :=
 let v3 : Int := x.1
 let v5_0 : Int := x.2.1
 let v5_1 : Bs := x.2.2.1
 let v5_2 : Bss := x.2.2.2.1
 let v5_3 : Int := x.2.2.2.2.1
 let v5_4 : Bss := x.2.2.2.2.2.1
 let v5_5 : Bool := x.2.2.2.2.2.2.1
 let v5_6 : Bs := x.2.2.2.2.2.2.2.1
 let v5_7 : Int := x.2.2.2.2.2.2.2.2.1
 let v5_8 : List ao := x.2.2.2.2.2.2.2.2.2.1
 let v5_9 : List Int := x.2.2.2.2.2.2.2.2.2.2.1
 let v6_0 : Int := x.2.2.2.2.2.2.2.2.2.2.2.1
 let v6_1 : Int := x.2.2.2.2.2.2.2.2.2.2.2.2.1
 let v6_2 : Bs := x.2.2.2.2.2.2.2.2.2.2.2.2.2.1
 let v6_3 : List ae := x.2.2.2.2.2.2.2.2.2.2.2.2.2.2.1
 let v6_4 : Bss := x.2.2.2.2.2.2.2.2.2.2.2.2.2.2.2.1
 let v11 : Int := x.2.2.2.2.2.2.2.2.2.2.2.2.2.2.2.2.1
 let o0_0 : List ac := x.2.2.2.2.2.2.2.2.2.2.2.2.2.2.2.2.2.1
 let o0_1 : Int := x.2.2.2.2.2.2.2.2.2.2.2.2.2.2.2.2.2.2.1
 let o1_0 : Int := x.2.2.2.2.2.2.2.2.2.2.2.2.2.2.2.2.2.2.2.1
 let o1_1 : Bs := x.2.2.2.2.2.2.2.2.2.2.2.2.2.2.2.2.2.2.2.2.1
 let o1_2 : List ab := x.2.2.2.2.2.2.2.2.2.2.2.2.2.2.2.2.2.2.2.2.2.1
 let o1_3 : Bss := x.2.2.2.2.2.2.2.2.2.2.2.2.2.2.2.2.2.2.2.2.2.2.1
 let o1_4 : Int := x.2.2.2.2.2.2.2.2.2.2.2.2.2.2.2.2.2.2.2.2.2.2.2.1
 let o2_0 : Int := x.2.2.2.2.2.2.2.2.2.2.2.2.2.2.2.2.2.2.2.2.2.2.2.2.1
 let o2_1 : Bs := x.2.2.2.2.2.2.2.2.2.2.2.2.2.2.2.2.2.2.2.2.2.2.2.2.2.1
 let o2_2 : List ab := x.2.2.2.2.2.2.2.2.2.2.2.2.2.2.2.2.2.2.2.2.2.2.2.2.2.2.1
 let o2_3 : Bss := x.2.2.2.2.2.2.2.2.2.2.2.2.2.2.2.2.2.2.2.2.2.2.2.2.2.2.2.1
 let o2_4 : Int := x.2.2.2.2.2.2.2.2.2.2.2.2.2.2.2.2.2.2.2.2.2.2.2.2.2.2.2.2
 let x1 : Int := (↑(List.length v5_8) : Int)
 cond (decide (v11 < x1)) (
  chk ((decide (0 ≤ v11) && decide (v11 < ↑(List.length v5_8)))) (
   let x2 : Bs := (List.getD v5_8 (Int.toNat v11) (af .afield)).name
   let x3 : Bss := (List.getD v5_8 (Int.toNat v11) (af .afield)).aliases
   let x4 : Int := (List.getD v5_8 (Int.toNat v11) (af .afield)).typ
   let x5 : Bool := (List.getD v5_8 (Int.toNat v11) (af .afield)).hasdef
   let x6 : Int := (List.getD v5_8 (Int.toNat v11) (af .afield)).df.kind
   let x7 : Int := (List.getD v5_8 (Int.toNat v11) (af .afield)).df.n
   let x8 : Bs := (List.getD v5_8 (Int.toNat v11) (af .afield)).df.s
   let x9 : List ae := (List.getD v5_8 (Int.toNat v11) (af .afield)).df.l
   let x10 : Bss := (List.getD v5_8 (Int.toNat v11) (af .afield)).df.names
   ai (co v6_0 v6_1 v6_2 v6_3 v6_4 x2) (fun r1 =>
    cond (!r1.2.2.2.2.2) (
     cond (!x5) (
      some (.tup [.agg [.int .u64 0, .str ([] : Bs), .sl .aval (.may false) ([] : List ab), .sl .str (.may false) ([] : Bss), .int .i64 0], .int .i64 7], [some [.sl .atype (.may false) o0_0, .int .i64 o0_1], some [.int .u64 0, .str ([] : Bs), .sl .aval .own ([] : List ab), .sl .str .own ([] : Bss), .int .i64 0], some [.int .u64 o2_0, .str o2_1, .sl .aval .own o2_2, .sl .str .own o2_3, .int .i64 o2_4], some [.int .i64 r1.1, .int .i64 r1.2.1, .str r1.2.2.1, .sl .jnode (.may false) r1.2.2.2.1, .sl .str (.may false) r1.2.2.2.2.1]])) (
      let x11 : Int := (IntKind.wrap .i64 (v3 + 1))
      ai (bJ o0_0 o0_1 x4 x6 x7 x8 x9 x10 x11) (fun r2 =>
       cond (!(r2.2.2.2.2.2.1 == 0)) (
        some (.tup [.agg [.int .u64 0, .str ([] : Bs), .sl .aval (.may false) ([] : List ab), .sl .str (.may false) ([] : Bss), .int .i64 0], .int .i64 r2.2.2.2.2.2.1], [some [.sl .atype (.may false) r2.2.2.2.2.2.2.1, .int .i64 r2.2.2.2.2.2.2.2], some [.int .u64 0, .str ([] : Bs), .sl .aval .own ([] : List ab), .sl .str .own ([] : Bss), .int .i64 0], some [.int .u64 o2_0, .str o2_1, .sl .aval .own o2_2, .sl .str .own o2_3, .int .i64 o2_4], some [.int .i64 x6, .int .i64 x7, .str x8, .sl .jnode (.may false) x9, .sl .str (.may false) x10]])) (
        chk (decide ((List.length o2_2 + List.length ([⟨r2.1, r2.2.1, r2.2.2.1, r2.2.2.2.1, r2.2.2.2.2.1⟩] : List ab)) * 80 ≤ 140737488355328)) (
         let x12 : List ab := (o2_2 ++ ([⟨r2.1, r2.2.1, r2.2.2.1, r2.2.2.2.1, r2.2.2.2.2.1⟩] : List ab))
         let x13 : Int := (IntKind.wrap .i64 (v11 + 1))
         again0 (v3, v5_0, v5_1, v5_2, v5_3, v5_4, v5_5, v5_6, v5_7, v5_8, v5_9, v6_0, v6_1, v6_2, v6_3, v6_4, x13, r2.2.2.2.2.2.2.1, r2.2.2.2.2.2.2.2, o1_0, o1_1, o1_2, o1_3, o1_4, o2_0, o2_1, x12, o2_3, o2_4)))))) (
     let x14 : Int := (IntKind.wrap .i64 (v3 + 1))
     ai (bJ o0_0 o0_1 x4 r1.1 r1.2.1 r1.2.2.1 r1.2.2.2.1 r1.2.2.2.2.1 x14) (fun r3 =>
      cond (!(r3.2.2.2.2.2.1 == 0)) (
       some (.tup [.agg [.int .u64 0, .str ([] : Bs), .sl .aval (.may false) ([] : List ab), .sl .str (.may false) ([] : Bss), .int .i64 0], .int .i64 r3.2.2.2.2.2.1], [some [.sl .atype (.may false) r3.2.2.2.2.2.2.1, .int .i64 r3.2.2.2.2.2.2.2], some [.int .u64 0, .str ([] : Bs), .sl .aval .own ([] : List ab), .sl .str .own ([] : Bss), .int .i64 0], some [.int .u64 o2_0, .str o2_1, .sl .aval .own o2_2, .sl .str .own o2_3, .int .i64 o2_4], some [.int .i64 r1.1, .int .i64 r1.2.1, .str r1.2.2.1, .sl .jnode (.may false) r1.2.2.2.1, .sl .str (.may false) r1.2.2.2.2.1]])) (
       chk (decide ((List.length o2_2 + List.length ([⟨r3.1, r3.2.1, r3.2.2.1, r3.2.2.2.1, r3.2.2.2.2.1⟩] : List ab)) * 80 ≤ 140737488355328)) (
        let x15 : List ab := (o2_2 ++ ([⟨r3.1, r3.2.1, r3.2.2.1, r3.2.2.2.1, r3.2.2.2.2.1⟩] : List ab))
        let x16 : Int := (IntKind.wrap .i64 (v11 + 1))
        again0 (v3, v5_0, v5_1, v5_2, v5_3, v5_4, v5_5, v5_6, v5_7, v5_8, v5_9, v6_0, v6_1, v6_2, v6_3, v6_4, x16, r3.2.2.2.2.2.2.1, r3.2.2.2.2.2.2.2, o1_0, o1_1, o1_2, o1_3, o1_4, o2_0, o2_1, x15, o2_3, o2_4)))))))) (
  some (.tup [.agg [.int .u64 o2_0, .str o2_1, .sl .aval (.may false) o2_2, .sl .str (.may false) o2_3, .int .i64 o2_4], .int .i64 0], [some [.sl .atype (.may false) o0_0, .int .i64 o0_1], some [.int .u64 o2_0, .str o2_1, .sl .aval (.may false) o2_2, .sl .str (.may false) o2_3, .int .i64 o2_4], some [.int .u64 o2_0, .str o2_1, .sl .aval .own o2_2, .sl .str .own o2_3, .int .i64 o2_4]]))
theorem aay (N : Nat) : ∀ (again0 : St → Ro) (x : ez), lA N again0 (eb x) = hY N (fun y => again0 (eb y)) x := by
 intro again0 x
 kernel_rfl
noncomputable def fv (N : Nat) (o0_0 : List ac) (o0_1 : Int) (p1_0 : Int) (p1_1 : Bs) (p1_2 : Bss) (p1_3 : Int) (p1_4 : Bss) (p1_5 : Bool) (p1_6 : Bs) (p1_7 : Int) (p1_8 : List ao) (p1_9 : List Int) (p2_0 : Int) (p2_1 : Int) (p2_2 : Bs) (p2_3 : List ae) (p2_4 : Bss) (p3 : Int) (q0 : ez → Ro) : Ro :=
 q0 (p3, p1_0, p1_1, p1_2, p1_3, p1_4, p1_5, p1_6, p1_7, p1_8, p1_9, p2_0, p2_1, p2_2, p2_3, p2_4, 0, o0_0, o0_1, 0, ([] : Bs), ([] : List ab), ([] : Bss), 0, 0, ([] : Bs), ([] : List ab), ([] : Bss), 0)
noncomputable def mv (N : Nat) (o0_0 : List ac) (o0_1 : Int) (p1_0 : Int) (p1_1 : Bs) (p1_2 : Bss) (p1_3 : Int) (p1_4 : Bss) (p1_5 : Bool) (p1_6 : Bs) (p1_7 : Int) (p1_8 : List ao) (p1_9 : List Int) (p2_0 : Int) (p2_1 : Int) (p2_2 : Bs) (p2_3 : List ae) (p2_4 : Bss) (p3 : Int) : Ro := fv N o0_0 o0_1 p1_0 p1_1 p1_2 p1_3 p1_4 p1_5 p1_6 p1_7 p1_8 p1_9 p2_0 p2_1 p2_2 p2_3 p2_4 p3 (fun z => aB N (hY N) z)
noncomputable def ahB (N : Nat) : List (Nat × (St → Ro)) := aI f6 N mu (fin je) ++ []
theorem acL (N : Nat) (o0_0 : List ac) (o0_1 : Int) (p1_0 : Int) (p1_1 : Bs) (p1_2 : Bss) (p1_3 : Int) (p1_4 : Bss) (p1_5 : Bool) (p1_6 : Bs) (p1_7 : Int) (p1_8 : List ao) (p1_9 : List Int) (p2_0 : Int) (p2_1 : Int) (p2_2 : Bs) (p2_3 : List ae) (p2_4 : Bss) (p3 : Int) : aE f6 N 66 je mu [.ptr 0 0, .agg [.int .i64 p1_0, .str p1_1, .sl .str (.may false) p1_2, .int .i64 p1_3, .sl .str (.may false) p1_4, .bool p1_5, .str p1_6, .int .i64 p1_7, .sl .afield (.may false) p1_8, .sl (.num .i64) (.may false) p1_9], .agg [.int .i64 p2_0, .int .i64 p2_1, .str p2_2, .sl .jnode (.may false) p2_3, .sl .str (.may false) p2_4], .int .i64 p3] [some [.sl .atype (.may false) o0_0, .int .i64 o0_1]] = mv N o0_0 o0_1 p1_0 p1_1 p1_2 p1_3 p1_4 p1_5 p1_6 p1_7 p1_8 p1_9 p2_0 p2_1 p2_2 p2_3 p2_4 p3 :=
 (bx (ahB N) (by kernel_rfl) rfl (fun C => fv N o0_0 o0_1 p1_0 p1_1 p1_2 p1_3 p1_4 p1_5 p1_6 p1_7 p1_8 p1_9 p2_0 p2_1 p2_2 p2_3 p2_4 p3 (fun z => C 1000000 (eb z))) (fun C => by kernel_rfl)).trans (Eq.trans (b := fv N o0_0 o0_1 p1_0 p1_1 p1_2 p1_3 p1_4 p1_5 p1_6 p1_7 p1_8 p1_9 p2_0 p2_1 p2_2 p2_3 p2_4 p3 (fun z => aW N (lA N) (eb z))) (by kernel_rfl) (congrArg (fv N o0_0 o0_1 p1_0 p1_1 p1_2 p1_3 p1_4 p1_5 p1_6 p1_7 p1_8 p1_9 p2_0 p2_1 p2_2 p2_3 p2_4 p3) (funext fun z => aT (eb) (lA N) (hY N) (aay N) N z)))
theorem acM (N : Nat) (o0_0 : List ac) (o0_1 : Int) (p1_0 : Int) (p1_1 : Bs) (p1_2 : Bss) (p1_3 : Int) (p1_4 : Bss) (p1_5 : Bool) (p1_6 : Bs) (p1_7 : Int) (p1_8 : List ao) (p1_9 : List Int) (p2_0 : Int) (p2_1 : Int) (p2_2 : Bs) (p2_3 : List ae) (p2_4 : Bss) (p3 : Int) (h : Tot (mv N o0_0 o0_1 p1_0 p1_1 p1_2 p1_3 p1_4 p1_5 p1_6 p1_7 p1_8 p1_9 p2_0 p2_1 p2_2 p2_3 p2_4 p3) (fun z => ∃ (y0 : Int) (y1 : Bs) (y2 : List ab) (y3 : Bss) (y4 : Int) (y5 : Int) (y6 : List ac) (y7 : Int) (rest : List an), z.1.dimR = .tup [.agg [.int .u64 y0, .str y1, .sl .aval (.may false) y2, .sl .str (.may false) y3, .int .i64 y4], .int .i64 y5] ∧ z.2 = some [.sl .atype (.may false) y6, .int .i64 y7] :: rest ∧ qd o0_0 o0_1 p1_0 p1_1 p1_2 p1_3 p1_4 p1_5 p1_6 p1_7 p1_8 p1_9 p2_0 p2_1 p2_2 p2_3 p2_4 p3 (y0, y1, y2, y3, y4, y5, y6, y7))) : ∃ r, fM o0_0 o0_1 p1_0 p1_1 p1_2 p1_3 p1_4 p1_5 p1_6 p1_7 p1_8 p1_9 p2_0 p2_1 p2_2 p2_3 p2_4 p3 r := by
 obtain ⟨⟨v, hp⟩, hz, y0, y1, y2, y3, y4, y5, y6, y7, rest, e1, e2, hq⟩ := h
 simp only at e1 e2
 subst e2
 exact ⟨(y0, y1, y2, y3, y4, y5, y6, y7), aP.dimR (FnC.objs (css := [[.sl .atype (.may false) o0_0, .int .i64 o0_1]]) (css' := [[.sl .atype (.may false) y6, .int .i64 y7]]) afs (acL N o0_0 o0_1 p1_0 p1_1 p1_2 p1_3 p1_4 p1_5 p1_6 p1_7 p1_8 p1_9 p2_0 p2_1 p2_2 p2_3 p2_4 p3) hz rfl) e1, hq⟩
noncomputable def ar : au := tab (P := Try.prog) [] [ko, aib, afS] [] [aAy, ayD, aBF]
noncomputable def acN : IR := .ret
noncomputable def acO : IR := (.cond (.t 32) (.seq (.reg [Pp (.bld 33 [.int .u64 0, .str ([] : Bs), .sl .aval .own ([] : List ab), .sl .str .own ([] : Bss), .int .i64 0] []), Pp (.st none 5 (.t 8) (.t 33)), Pp (.mov 9 (.c (.int .i64 3)))] []) acN) .skip)
noncomputable def acP : IR := .ret
noncomputable def acQ : IR := .ret
noncomputable def hZ : IR := (.cond (.t 68) .skip (.reg [Fa 85 0 10, Ld 86 1 false 85, Bc 87 .eql 86 4, Mv 88 87, Pg (88, true) (.mov 89 (.t 11)), Pa 90 88 89, Mv 68 90] []))
noncomputable def acR : IR := (.cut [0, 3, 6, 8, 10, 11, 68, 1000000] 2 hZ)
noncomputable def acS : IR := .ret
noncomputable def acT : IR := .ret
noncomputable def acU : IR := .ret
noncomputable def acV : IR := .ret
noncomputable def aaz : IR := .ret
noncomputable def qF : IR := (.cond (.t 162) (.seq (.reg [Mv 163 12, Pp (.bld 164 [.int .u64 0, .str ([] : Bs), .sl .aval .own ([] : List ab), .sl .str .own ([] : Bss), .int .i64 0] [(1, 1, (.t 163))]), Pp (.st none 5 (.t 8) (.t 164)), Pp (.mov 9 (.c (.int .i64 0)))] []) aaz) .skip)
noncomputable def aaA : IR := (.cut [8, 12, 162, 1000001] 2 qF)
noncomputable def aaB : IR := (.seq (.reg [Mv 150 13, Mv 151 150, Pg (151, true) (.fad 152 0 (.t 10)), Pg (151, true) (.lde 153 1 false (.t 152)), Pg (151, true) (.bin 154 .eql (.t 153) (.c (.int .i64 7))), Pg (151, true) (.mov 155 (.t 154)), Pg (155, false) (.mov 156 (.t 12)), Pg (155, false) (.lens 157 (.t 156)), Pg (155, false) (.fad 158 7 (.t 10)), Pg (155, false) (.lde 159 1 false (.t 158)), Pg (155, false) (.bin 160 .eql (.t 157) (.t 159)), Pg (151, true) (.pick 161 (.t 155) (.c (.bool true)) (.t 160)), Pa 162 151 161] []) aaA)
noncomputable def aaC : IR := (.cond (.t 178) .skip (.exit 1))
noncomputable def aaD : IR := .ret
noncomputable def aaE : IR := (.cond (.t 188) (.seq (.reg [Mv 189 14, Pp (.cvi 190 .u64 (.t 189)), Pp (.bld 191 [.int .u64 0, .str ([] : Bs), .sl .aval .own ([] : List ab), .sl .str .own ([] : Bss), .int .i64 0] [(0, 1, (.t 190))]), Pp (.st none 5 (.t 8) (.t 191)), Pp (.mov 9 (.c (.int .i64 0)))] []) aaD) .skip)
noncomputable def aaF : IR := (.reg [Mv 179 14, Bc 180 .add 179 1, Mv 14 180] [])
noncomputable def aaG : IR := (.seq (.block 2 (.seq (.reg [Fa 181 4 10, Ld 182 1 false 181, Mv 183 14, Pp (.ixa 184 .str (.t 182) (.t 183)), Ld 185 1 false 184, Fa 186 2 6, Ld 187 1 false 186, Bi 188 .eql 185 187] [[], [0], [], [0, 1, 2], [0, 1, 2, 3], [], [5], [0, 1, 2, 3, 4, 5, 6]]) aaE)) aaF)
noncomputable def qG : IR := (.seq (.seq (.reg [Mv 174 14, Fa 175 4 10, Ld 176 1 false 175, Pp (.lenl 177 (.t 176)), Bi 178 .lss 174 177] []) aaC) aaG)
noncomputable def aaH : IR := (.block 1 (.loop [6, 8, 10, 14, 1000002] 2 qG))
noncomputable def aaI : IR := (.cond (.t 192) .skip (.reg [Fa 201 0 10, Ld 202 1 false 201, Bc 203 .eql 202 13, Mv 204 203, Pg (204, true) (.fad 205 0 (.t 6)), Pg (204, true) (.lde 206 1 false (.t 205)), Pg (204, true) (.bin 207 .eql (.t 206) (.c (.int .i64 6))), Pa 208 204 207, Mv 192 208] []))
noncomputable def aaJ : IR := .ret
noncomputable def aaK : IR := .ret
noncomputable def aaL : IR := .ret
noncomputable def aaM : IR := (.seq (.reg [Ld 248 5 true 15, Pp (.bsl 249 .aval [(.t 248)] true), Pp (.bld 250 [.int .u64 0, .str ([] : Bs), .sl .aval .own ([] : List ab), .sl .str .own ([] : Bss), .int .i64 0] [(2, 1, (.t 249))]), Mv 251 16, Pp (.st none 5 (.t 8) (.t 250)), Mv 9 251] []) aaL)
noncomputable def aaN : IR := (.cond (.t 232) (.seq (.reg [Mv 237 0, Fa 238 9 10, Ld 239 1 false 238, Pp (.ixa 240 (.num .i64) (.t 239) (.c (.int .i64 0))), Ld 241 1 false 240, Ld 242 5 true 6, Mv 243 3, Bc 244 .add 243 1, ⟨none, .call (some 245) 120 [(.t 237), (.t 241), (.t 242), (.t 244)], some ([], [0])⟩, Mv 236 245, Ex_ 246 0 236, Ex_ 247 1 236, Pp (.alr 15 5), Pp (.frz none 15 5 (.t 246)), Mv 16 247] [[], [], [1], [1, 2], [1, 2, 3], [], [], [6], [0, 1, 2, 3, 4, 5, 6, 7], [0, 1, 2, 3, 4, 5, 6, 7, 8], [0, 1, 2, 3, 4, 5, 6, 7, 8, 9], [0, 1, 2, 3, 4, 5, 6, 7, 8, 9], [], [0, 1, 2, 3, 4, 5, 6, 7, 8, 9, 10, 12], [0, 1, 2, 3, 4, 5, 6, 7, 8, 9, 10, 11, 12, 13]]) aaM) .skip)
noncomputable def aaO : IR := (.cond (.t 216) (.seq (.reg [Mv 225 0, Ld 226 10 true 10, Ld 227 5 true 6, Mv 228 3, Pp (.call (some 229) 149 [(.t 225), (.t 226), (.t 227), (.t 228)]), Ex_ 230 0 229, Ex_ 231 1 229, Pp (.st none 5 (.t 8) (.t 230)), Mv 9 231] []) aaK) (.seq (.reg [Fa 233 0 10, Ld 234 1 false 233, Bc 235 .eql 234 14, Mv 232 235] []) aaN))
noncomputable def qH : IR := (.cond (.t 192) (.seq (.reg [Mv 209 0, Ld 210 10 true 10, Ld 211 5 true 6, Mv 212 3, Pp (.call (some 213) 148 [(.t 209), (.t 210), (.t 211), (.t 212)]), Ex_ 214 0 213, Ex_ 215 1 213, Pp (.st none 5 (.t 8) (.t 214)), Mv 9 215] []) aaJ) (.seq (.reg [Fa 217 0 10, Ld 218 1 false 217, Bc 219 .eql 218 9, Mv 220 219, Pg (220, true) (.fad 221 0 (.t 6)), Pg (220, true) (.lde 222 1 false (.t 221)), Pg (220, true) (.bin 223 .eql (.t 222) (.c (.int .i64 6))), Pa 224 220 223, Mv 216 224] []) aaO))
noncomputable def aaP : IR := (.cut [0, 3, 6, 8, 10, 192, 1000003] 2 qH)
noncomputable def aaQ : IR := (.cond (.t 165) (.seq (.reg [Pp (.mov 14 (.c (.int .i64 0)))] []) aaH) (.seq (.seq (.reg [Fa 193 0 10, Ld 194 1 false 193, Bc 195 .eql 194 12, Mv 196 195, Pg (196, true) (.fad 197 0 (.t 6)), Pg (196, true) (.lde 198 1 false (.t 197)), Pg (196, true) (.bin 199 .eql (.t 198) (.c (.int .i64 5))), Pa 200 196 199, Mv 192 200] []) aaI) aaP))
noncomputable def gM : IR := (.cond (.t 130) (.seq (.reg [Fa 145 2 6, Ld 146 1 false 145, Pp (.call (some 147) 147 [(.t 146)]), Mv 144 147, Ex_ 148 0 144, Ex_ 149 1 144, Mv 12 148, Mv 13 149] []) aaB) (.seq (.reg [Fa 166 0 10, Ld 167 1 false 166, Bc 168 .eql 167 10, Mv 169 168, Pg (169, true) (.fad 170 0 (.t 6)), Pg (169, true) (.lde 171 1 false (.t 170)), Pg (169, true) (.bin 172 .eql (.t 171) (.c (.int .i64 4))), Pa 173 169 172, Mv 165 173] []) aaQ))
noncomputable def aaR : IR := (.cut [0, 3, 6, 8, 10, 130, 1000004] 2 gM)
noncomputable def aaS : IR := (.cond (.t 118) (.seq (.reg [Fa 127 2 6, Ld 128 1 false 127, Pp (.bld 129 [.int .u64 0, .str ([] : Bs), .sl .aval .own ([] : List ab), .sl .str .own ([] : Bss), .int .i64 0] [(1, 1, (.t 128))]), Pp (.st none 5 (.t 8) (.t 129)), Pp (.mov 9 (.c (.int .i64 0)))] []) acV) (.seq (.reg [Fa 131 0 10, Ld 132 1 false 131, Bc 133 .eql 132 7, Mv 134 133, Pg (134, false) (.fad 135 0 (.t 10)), Pg (134, false) (.lde 136 1 false (.t 135)), Pg (134, false) (.bin 137 .eql (.t 136) (.c (.int .i64 11))), Po 138 134 137, Mv 139 138, Pg (139, true) (.fad 140 0 (.t 6)), Pg (139, true) (.lde 141 1 false (.t 140)), Pg (139, true) (.bin 142 .eql (.t 141) (.c (.int .i64 4))), Pa 143 139 142, Mv 130 143] []) aaR))
noncomputable def aaT : IR := (.cond (.t 107) (.seq (.reg [Fa 114 1 6, Ld 115 1 false 114, Pp (.call (some 116) 133 [(.t 115)]), Pp (.bld 117 [.int .u64 0, .str ([] : Bs), .sl .aval .own ([] : List ab), .sl .str .own ([] : Bss), .int .i64 0] [(0, 1, (.t 116))]), Pp (.st none 5 (.t 8) (.t 117)), Pp (.mov 9 (.c (.int .i64 0)))] []) acU) (.seq (.reg [Fa 119 0 10, Ld 120 1 false 119, Bc 121 .eql 120 8, Mv 122 121, Pg (122, true) (.fad 123 0 (.t 6)), Pg (122, true) (.lde 124 1 false (.t 123)), Pg (122, true) (.bin 125 .eql (.t 124) (.c (.int .i64 4))), Pa 126 122 125, Mv 118 126] []) aaS))
noncomputable def aaU : IR := (.cond (.t 95) (.seq (.reg [Fa 102 1 6, Ld 103 1 false 102, Pp (.call (some 104) 132 [(.t 103)]), Pp (.cvi 105 .u64 (.t 104)), Pp (.bld 106 [.int .u64 0, .str ([] : Bs), .sl .aval .own ([] : List ab), .sl .str .own ([] : Bss), .int .i64 0] [(0, 1, (.t 105))]), Pp (.st none 5 (.t 8) (.t 106)), Pp (.mov 9 (.c (.int .i64 0)))] []) acT) (.seq (.reg [Fa 108 0 10, Ld 109 1 false 108, Bc 110 .eql 109 6, Mv 111 110, Pg (111, true) (.mov 112 (.t 11)), Pa 113 111 112, Mv 107 113] []) aaT))
noncomputable def gP : IR := (.cond (.t 68) (.seq (.reg [Fa 91 1 6, Ld 92 1 false 91, Pp (.cvi 93 .u64 (.t 92)), Pp (.bld 94 [.int .u64 0, .str ([] : Bs), .sl .aval .own ([] : List ab), .sl .str .own ([] : Bss), .int .i64 0] [(0, 1, (.t 93))]), Pp (.st none 5 (.t 8) (.t 94)), Pp (.mov 9 (.c (.int .i64 0)))] []) acS) (.seq (.reg [Fa 96 0 10, Ld 97 1 false 96, Bc 98 .eql 97 5, Mv 99 98, Pg (99, true) (.mov 100 (.t 11)), Pa 101 99 100, Mv 95 101] []) aaU))
noncomputable def le : IR := (.cut [0, 3, 6, 8, 10, 11, 68, 1000005] 2 gP)
noncomputable def aaV : IR := (.cond (.t 55) (.seq (.reg [Fa 64 1 6, Ld 65 1 false 64, Pp (.cvi 66 .u64 (.t 65)), Pp (.bld 67 [.int .u64 0, .str ([] : Bs), .sl .aval .own ([] : List ab), .sl .str .own ([] : Bss), .int .i64 0] [(0, 1, (.t 66))]), Pp (.st none 5 (.t 8) (.t 67)), Pp (.mov 9 (.c (.int .i64 0)))] []) acQ) (.seq (.seq (.reg [Fa 69 0 10, Ld 70 1 false 69, Bc 71 .eql 70 3, Mv 72 71, Pg (72, true) (.mov 73 (.t 11)), Pa 74 72 73, Mv 75 74, Pg (75, true) (.fad 76 1 (.t 6)), Pg (75, true) (.lde 77 1 false (.t 76)), Pg (75, true) (.bin 78 .geq (.t 77) (.c (.int .i64 (-2147483648)))), Pa 79 75 78, Mv 80 79, Pg (80, true) (.fad 81 1 (.t 6)), Pg (80, true) (.lde 82 1 false (.t 81)), Pg (80, true) (.bin 83 .lss (.t 82) (.c (.int .i64 2147483648))), Pa 84 80 83, Mv 68 84] []) acR) le))
noncomputable def aaW : IR := (.cond (.t 45) (.seq (.reg [Pp (.bld 54 [.int .u64 0, .str ([] : Bs), .sl .aval .own ([] : List ab), .sl .str .own ([] : Bss), .int .i64 0] []), Pp (.st none 5 (.t 8) (.t 54)), Pp (.mov 9 (.c (.int .i64 0)))] []) acP) (.seq (.reg [Fa 56 0 10, Ld 57 1 false 56, Bc 58 .eql 57 2, Mv 59 58, Pg (59, true) (.fad 60 0 (.t 6)), Pg (59, true) (.lde 61 1 false (.t 60)), Pg (59, true) (.bin 62 .eql (.t 61) (.c (.int .i64 2))), Pa 63 59 62, Mv 55 63] []) aaV))
noncomputable def aaX : IR := .ret
noncomputable def cm : IR := (.seq (.reg [Pp (.bld 252 [.int .u64 0, .str ([] : Bs), .sl .aval .own ([] : List ab), .sl .str .own ([] : Bss), .int .i64 0] []), Pp (.st none 5 (.t 8) (.t 252)), Pp (.mov 9 (.c (.int .i64 7)))] []) aaX)
noncomputable def aaY : IR := (.seq (.block 0 (.seq (.reg [Fa 46 0 10, Ld 47 1 false 46, Bc 48 .eql 47 1, Mv 49 48, Pg (49, true) (.fad 50 0 (.t 6)), Pg (49, true) (.lde 51 1 false (.t 50)), Pg (49, true) (.bin 52 .eql (.t 51) (.c (.int .i64 1))), Pa 53 49 52, Mv 45 53] []) aaW)) cm)
noncomputable def aaZ : IR := (.seq (.reg [Fa 42 0 6, Ld 43 1 false 42, Bc 44 .eql 43 3, Mv 11 44] []) aaY)
noncomputable def aa0 : IR := (.seq (.reg [Mv 34 0, Nk 35 34, Fa 36 0 35, Fa 37 0 36, Pp (.ld 38 1 false false (.t 37)), Mv 39 1, Pp (.ixa 40 .atype (.t 38) (.t 39)), Ld 41 10 true 40, Pp (.alr 10 10), Pp (.frz none 10 10 (.t 41))] []) aaZ)
noncomputable def aa1 : IR := (.seq (.seq (.reg [Mv 24 3, Bc 25 .gtr 24 20, Mv 26 25, Pg (26, false) (.mov 27 (.t 0)), Pg (26, false) (.nck (some 28) (.t 27)), Pg (26, false) (.fad 29 1 (.t 28)), Pg (26, false) (.ld 30 1 false false (.t 29)), Pg (26, false) (.bin 31 .gtr (.t 30) (.c (.int .i64 2000))), Po 32 26 31] []) acO) aa0)
noncomputable def aa2 : IR := (.seq (.reg [Mv 17 0, Nk 18 17, Fa 19 1 18, Pp (.ld 20 1 false false (.t 19)), Bc 21 .add 20 1, Nk 22 17, Fa 23 1 22, Pp (.st none 1 (.t 23) (.t 21))] []) aa1)
noncomputable def nA : IR := (.seq (.reg [Pp (.boxe 6 (.t 2)), Pp (.new 8 [.int .u64 0, .str ([] : Bs), .sl .aval .own ([] : List ab), .sl .str .own ([] : Bss), .int .i64 0]), Pp (.mov 9 (.c (.int .i64 0)))] []) aa2)
noncomputable def bU : List RV := [.cell 8 5 true, .t 9]
theorem ahC : FnC Try.prog ar [120, 148, 149, 2000120, 2000148, 2000149] 1 uH Try.f120 nA bU := fnC (by kernel_rfl) Try.func120 (by kernel_rfl) (by kernel_rfl) (by decide)
abbrev fw : Type := (Int × Int × Int × Bs × List ae × Bss × Int × Bs × Bss × Int × Bss × Bool × Bs × Int × List ao × List Int × Bool × Bool × List ac × Int × Int × Bs × List ab × Bss × Int)
noncomputable def eA (x : fw) : St := { env := (.ptr 0 0 :: .undef :: .undef :: .int .i64 x.1 :: .undef :: .undef :: .ea [.int .i64 x.2.1, .int .i64 x.2.2.1, .str x.2.2.2.1, .sl .jnode (.may false) x.2.2.2.2.1, .sl .str (.may false) x.2.2.2.2.2.1] :: .undef :: .ptr 1 0 :: .undef :: .ea [.int .i64 x.2.2.2.2.2.2.1, .str x.2.2.2.2.2.2.2.1, .sl .str (.may false) x.2.2.2.2.2.2.2.2.1, .int .i64 x.2.2.2.2.2.2.2.2.2.1, .sl .str (.may false) x.2.2.2.2.2.2.2.2.2.2.1, .bool x.2.2.2.2.2.2.2.2.2.2.2.1, .str x.2.2.2.2.2.2.2.2.2.2.2.2.1, .int .i64 x.2.2.2.2.2.2.2.2.2.2.2.2.2.1, .sl .afield (.may false) x.2.2.2.2.2.2.2.2.2.2.2.2.2.2.1, .sl (.num .i64) (.may false) x.2.2.2.2.2.2.2.2.2.2.2.2.2.2.2.1] :: .bool x.2.2.2.2.2.2.2.2.2.2.2.2.2.2.2.2.1 :: (U 56 (.bool x.2.2.2.2.2.2.2.2.2.2.2.2.2.2.2.2.2.1 :: (U 184 [])))), hp := [some [.sl .atype (.may false) x.2.2.2.2.2.2.2.2.2.2.2.2.2.2.2.2.2.2.1, .int .i64 x.2.2.2.2.2.2.2.2.2.2.2.2.2.2.2.2.2.2.2.1], some [.int .u64 x.2.2.2.2.2.2.2.2.2.2.2.2.2.2.2.2.2.2.2.2.1, .str x.2.2.2.2.2.2.2.2.2.2.2.2.2.2.2.2.2.2.2.2.2.1, .sl .aval .own x.2.2.2.2.2.2.2.2.2.2.2.2.2.2.2.2.2.2.2.2.2.2.1, .sl .str .own x.2.2.2.2.2.2.2.2.2.2.2.2.2.2.2.2.2.2.2.2.2.2.2.1, .int .i64 x.2.2.2.2.2.2.2.2.2.2.2.2.2.2.2.2.2.2.2.2.2.2.2.2]] }
noncomputable def mw (R : IR → (Ex → St → Ro) → St → Ro) : Ex → St → Ro := (bo (R le) (aD 0 (bo (R cm) (fin bU))))
abbrev fx : Type := (Int × Int × Int × Bs × List ae × Bss × Int × Bs × Bss × Int × Bss × Bool × Bs × Int × List ao × List Int × Bool × Bool × List ac × Int × Int × Bs × List ab × Bss × Int)
noncomputable def de (x : fx) : St := { env := (.ptr 0 0 :: .undef :: .undef :: .int .i64 x.1 :: .undef :: .undef :: .ea [.int .i64 x.2.1, .int .i64 x.2.2.1, .str x.2.2.2.1, .sl .jnode (.may false) x.2.2.2.2.1, .sl .str (.may false) x.2.2.2.2.2.1] :: .undef :: .ptr 1 0 :: .undef :: .ea [.int .i64 x.2.2.2.2.2.2.1, .str x.2.2.2.2.2.2.2.1, .sl .str (.may false) x.2.2.2.2.2.2.2.2.1, .int .i64 x.2.2.2.2.2.2.2.2.2.1, .sl .str (.may false) x.2.2.2.2.2.2.2.2.2.2.1, .bool x.2.2.2.2.2.2.2.2.2.2.2.1, .str x.2.2.2.2.2.2.2.2.2.2.2.2.1, .int .i64 x.2.2.2.2.2.2.2.2.2.2.2.2.2.1, .sl .afield (.may false) x.2.2.2.2.2.2.2.2.2.2.2.2.2.2.1, .sl (.num .i64) (.may false) x.2.2.2.2.2.2.2.2.2.2.2.2.2.2.2.1] :: .bool x.2.2.2.2.2.2.2.2.2.2.2.2.2.2.2.2.1 :: (U 56 (.bool x.2.2.2.2.2.2.2.2.2.2.2.2.2.2.2.2.2.1 :: (U 184 [])))), hp := [some [.sl .atype (.may false) x.2.2.2.2.2.2.2.2.2.2.2.2.2.2.2.2.2.2.1, .int .i64 x.2.2.2.2.2.2.2.2.2.2.2.2.2.2.2.2.2.2.2.1], some [.int .u64 x.2.2.2.2.2.2.2.2.2.2.2.2.2.2.2.2.2.2.2.2.1, .str x.2.2.2.2.2.2.2.2.2.2.2.2.2.2.2.2.2.2.2.2.2.1, .sl .aval .own x.2.2.2.2.2.2.2.2.2.2.2.2.2.2.2.2.2.2.2.2.2.2.1, .sl .str .own x.2.2.2.2.2.2.2.2.2.2.2.2.2.2.2.2.2.2.2.2.2.2.2.1, .int .i64 x.2.2.2.2.2.2.2.2.2.2.2.2.2.2.2.2.2.2.2.2.2.2.2.2]] }
noncomputable def bO (R : IR → (Ex → St → Ro) → St → Ro) : Ex → St → Ro := (aD 0 (bo (R cm) (fin bU)))
abbrev fy : Type := (Int × Int × Int × Bs × List ae × Bss × Int × Bs × Bss × Int × Bss × Bool × Bs × Int × List ao × List Int × Bool × List ac × Int × Int × Bs × List ab × Bss × Int)
noncomputable def dg (x : fy) : St := { env := (.ptr 0 0 :: .undef :: .undef :: .int .i64 x.1 :: .undef :: .undef :: .ea [.int .i64 x.2.1, .int .i64 x.2.2.1, .str x.2.2.2.1, .sl .jnode (.may false) x.2.2.2.2.1, .sl .str (.may false) x.2.2.2.2.2.1] :: .undef :: .ptr 1 0 :: .undef :: .ea [.int .i64 x.2.2.2.2.2.2.1, .str x.2.2.2.2.2.2.2.1, .sl .str (.may false) x.2.2.2.2.2.2.2.2.1, .int .i64 x.2.2.2.2.2.2.2.2.2.1, .sl .str (.may false) x.2.2.2.2.2.2.2.2.2.2.1, .bool x.2.2.2.2.2.2.2.2.2.2.2.1, .str x.2.2.2.2.2.2.2.2.2.2.2.2.1, .int .i64 x.2.2.2.2.2.2.2.2.2.2.2.2.2.1, .sl .afield (.may false) x.2.2.2.2.2.2.2.2.2.2.2.2.2.2.1, .sl (.num .i64) (.may false) x.2.2.2.2.2.2.2.2.2.2.2.2.2.2.2.1] :: (U 119 (.bool x.2.2.2.2.2.2.2.2.2.2.2.2.2.2.2.2.1 :: (U 122 [])))), hp := [some [.sl .atype (.may false) x.2.2.2.2.2.2.2.2.2.2.2.2.2.2.2.2.2.1, .int .i64 x.2.2.2.2.2.2.2.2.2.2.2.2.2.2.2.2.2.2.1], some [.int .u64 x.2.2.2.2.2.2.2.2.2.2.2.2.2.2.2.2.2.2.2.1, .str x.2.2.2.2.2.2.2.2.2.2.2.2.2.2.2.2.2.2.2.2.1, .sl .aval .own x.2.2.2.2.2.2.2.2.2.2.2.2.2.2.2.2.2.2.2.2.2.1, .sl .str .own x.2.2.2.2.2.2.2.2.2.2.2.2.2.2.2.2.2.2.2.2.2.2.1, .int .i64 x.2.2.2.2.2.2.2.2.2.2.2.2.2.2.2.2.2.2.2.2.2.2.2]] }
abbrev jf : Type := (Bs × Bool × List ac × Int × Int × Bs × List ab × Bss × Int)
noncomputable def ia (x : jf) : St := { env := (U 8 (.ptr 1 0 :: (U 3 (.str x.1 :: (U 149 (.bool x.2.1 :: (U 90 []))))))), hp := [some [.sl .atype (.may false) x.2.2.1, .int .i64 x.2.2.2.1], some [.int .u64 x.2.2.2.2.1, .str x.2.2.2.2.2.1, .sl .aval .own x.2.2.2.2.2.2.1, .sl .str .own x.2.2.2.2.2.2.2.1, .int .i64 x.2.2.2.2.2.2.2.2]] }
noncomputable def my (N : Nat) : St → Ro := fun s => run ar N qF (bO (run ar N)) s
noncomputable def fA (N : Nat) (x : jf) : Ro :=
 let v12 : Bs := x.1
 let v162 : Bool := x.2.1
 let o0_0 : List ac := x.2.2.1
 let o0_1 : Int := x.2.2.2.1
 let o1_0 : Int := x.2.2.2.2.1
 let o1_1 : Bs := x.2.2.2.2.2.1
 let o1_2 : List ab := x.2.2.2.2.2.2.1
 let o1_3 : Bss := x.2.2.2.2.2.2.2.1
 let o1_4 : Int := x.2.2.2.2.2.2.2.2
 cond v162 (
  some (.tup [.agg [.int .u64 0, .str v12, .sl .aval (.may false) ([] : List ab), .sl .str (.may false) ([] : Bss), .int .i64 0], .int .i64 0], [some [.sl .atype (.may false) o0_0, .int .i64 o0_1], some [.int .u64 0, .str v12, .sl .aval .own ([] : List ab), .sl .str .own ([] : Bss), .int .i64 0]])) (
  some (.tup [.agg [.int .u64 0, .str ([] : Bs), .sl .aval (.may false) ([] : List ab), .sl .str (.may false) ([] : Bss), .int .i64 0], .int .i64 7], [some [.sl .atype (.may false) o0_0, .int .i64 o0_1], some [.int .u64 0, .str ([] : Bs), .sl .aval .own ([] : List ab), .sl .str .own ([] : Bss), .int .i64 0]]))
theorem acW (N : Nat) : ∀ (x : jf), my N (ia x) = fA N x := by
 intro x
 kernel_rfl
noncomputable def afu (R : IR → (Ex → St → Ro) → St → Ro) (again4 : St → Ro) : Ex → St → Ro := (br again4 [6, 8, 10, 14, 1000002] 2 (aD 1 (bO R)))
abbrev fB : Type := (Int × Int × Bs × List ae × Bss × Int × Bs × Bss × Int × Bss × Bool × Bs × Int × List ao × List Int × Int × List ac × Int × Int × Bs × List ab × Bss × Int)
noncomputable def dh (x : fB) : St := { env := (U 6 (.ea [.int .i64 x.1, .int .i64 x.2.1, .str x.2.2.1, .sl .jnode (.may false) x.2.2.2.1, .sl .str (.may false) x.2.2.2.2.1] :: .undef :: .ptr 1 0 :: .undef :: .ea [.int .i64 x.2.2.2.2.2.1, .str x.2.2.2.2.2.2.1, .sl .str (.may false) x.2.2.2.2.2.2.2.1, .int .i64 x.2.2.2.2.2.2.2.2.1, .sl .str (.may false) x.2.2.2.2.2.2.2.2.2.1, .bool x.2.2.2.2.2.2.2.2.2.2.1, .str x.2.2.2.2.2.2.2.2.2.2.2.1, .int .i64 x.2.2.2.2.2.2.2.2.2.2.2.2.1, .sl .afield (.may false) x.2.2.2.2.2.2.2.2.2.2.2.2.2.1, .sl (.num .i64) (.may false) x.2.2.2.2.2.2.2.2.2.2.2.2.2.2.1] :: (U 3 (.int .i64 x.2.2.2.2.2.2.2.2.2.2.2.2.2.2.2.1 :: (U 238 []))))), hp := [some [.sl .atype (.may false) x.2.2.2.2.2.2.2.2.2.2.2.2.2.2.2.2.1, .int .i64 x.2.2.2.2.2.2.2.2.2.2.2.2.2.2.2.2.2.1], some [.int .u64 x.2.2.2.2.2.2.2.2.2.2.2.2.2.2.2.2.2.2.1, .str x.2.2.2.2.2.2.2.2.2.2.2.2.2.2.2.2.2.2.2.1, .sl .aval .own x.2.2.2.2.2.2.2.2.2.2.2.2.2.2.2.2.2.2.2.2.1, .sl .str .own x.2.2.2.2.2.2.2.2.2.2.2.2.2.2.2.2.2.2.2.2.2.1, .int .i64 x.2.2.2.2.2.2.2.2.2.2.2.2.2.2.2.2.2.2.2.2.2.2]] }
noncomputable def jg (N : Nat) : (St → Ro) → St → Ro := fun again4 s => run ar N qG (afu (run ar N) again4) s
noncomputable def dF (N : Nat) (again4 : fB → Ro) (x : fB) : Ro :=
 let v6_0 : Int := x.1
 let v6_1 : Int := x.2.1
 let v6_2 : Bs := x.2.2.1
 let v6_3 : List ae := x.2.2.2.1
 let v6_4 : Bss := x.2.2.2.2.1
 let v10_0 : Int := x.2.2.2.2.2.1
 let v10_1 : Bs := x.2.2.2.2.2.2.1
 let v10_2 : Bss := x.2.2.2.2.2.2.2.1
 let v10_3 : Int := x.2.2.2.2.2.2.2.2.1
 let v10_4 : Bss := x.2.2.2.2.2.2.2.2.2.1
 let v10_5 : Bool := x.2.2.2.2.2.2.2.2.2.2.1
 let v10_6 : Bs := x.2.2.2.2.2.2.2.2.2.2.2.1
 let v10_7 : Int := x.2.2.2.2.2.2.2.2.2.2.2.2.1
 let v10_8 : List ao := x.2.2.2.2.2.2.2.2.2.2.2.2.2.1
 let v10_9 : List Int := x.2.2.2.2.2.2.2.2.2.2.2.2.2.2.1
 let v14 : Int := x.2.2.2.2.2.2.2.2.2.2.2.2.2.2.2.1
 let o0_0 : List ac := x.2.2.2.2.2.2.2.2.2.2.2.2.2.2.2.2.1
 let o0_1 : Int := x.2.2.2.2.2.2.2.2.2.2.2.2.2.2.2.2.2.1
 let o1_0 : Int := x.2.2.2.2.2.2.2.2.2.2.2.2.2.2.2.2.2.2.1
 let o1_1 : Bs := x.2.2.2.2.2.2.2.2.2.2.2.2.2.2.2.2.2.2.2.1
 let o1_2 : List ab := x.2.2.2.2.2.2.2.2.2.2.2.2.2.2.2.2.2.2.2.2.1
 let o1_3 : Bss := x.2.2.2.2.2.2.2.2.2.2.2.2.2.2.2.2.2.2.2.2.2.1
 let o1_4 : Int := x.2.2.2.2.2.2.2.2.2.2.2.2.2.2.2.2.2.2.2.2.2.2
 let x15 : Int := (↑(List.length v10_4) : Int)
 cond (decide (v14 < x15)) (
  chk ((decide (0 ≤ v14) && decide (v14 < ↑(List.length v10_4)))) (
   let x16 : Bs := List.getD v10_4 (Int.toNat v14) (af .str)
   cond (decide (x16 = v6_2)) (
    some (.tup [.agg [.int .u64 (IntKind.wrap .u64 v14), .str ([] : Bs), .sl .aval (.may false) ([] : List ab), .sl .str (.may false) ([] : Bss), .int .i64 0], .int .i64 0], [some [.sl .atype (.may false) o0_0, .int .i64 o0_1], some [.int .u64 (IntKind.wrap .u64 v14), .str ([] : Bs), .sl .aval .own ([] : List ab), .sl .str .own ([] : Bss), .int .i64 0]])) (
    let x17 : Int := (IntKind.wrap .i64 (v14 + 1))
    again4 (v6_0, v6_1, v6_2, v6_3, v6_4, v10_0, v10_1, v10_2, v10_3, v10_4, v10_5, v10_6, v10_7, v10_8, v10_9, x17, o0_0, o0_1, o1_0, o1_1, o1_2, o1_3, o1_4)))) (
  some (.tup [.agg [.int .u64 0, .str ([] : Bs), .sl .aval (.may false) ([] : List ab), .sl .str (.may false) ([] : Bss), .int .i64 0], .int .i64 7], [some [.sl .atype (.may false) o0_0, .int .i64 o0_1], some [.int .u64 0, .str ([] : Bs), .sl .aval .own ([] : List ab), .sl .str .own ([] : Bss), .int .i64 0]]))
theorem acX (N : Nat) : ∀ (again4 : St → Ro) (x : fB), jg N again4 (dh x) = dF N (fun y => again4 (dh y)) x := by
 intro again4 x
 kernel_rfl
abbrev jh : Type := (Int × Int × Int × Bs × List ae × Bss × Int × Bs × Bss × Int × Bss × Bool × Bs × Int × List ao × List Int × Bool × List ac × Int × Int × Bs × List ab × Bss × Int)
noncomputable def ib (x : jh) : St := { env := (.ptr 0 0 :: .undef :: .undef :: .int .i64 x.1 :: .undef :: .undef :: .ea [.int .i64 x.2.1, .int .i64 x.2.2.1, .str x.2.2.2.1, .sl .jnode (.may false) x.2.2.2.2.1, .sl .str (.may false) x.2.2.2.2.2.1] :: .undef :: .ptr 1 0 :: .undef :: .ea [.int .i64 x.2.2.2.2.2.2.1, .str x.2.2.2.2.2.2.2.1, .sl .str (.may false) x.2.2.2.2.2.2.2.2.1, .int .i64 x.2.2.2.2.2.2.2.2.2.1, .sl .str (.may false) x.2.2.2.2.2.2.2.2.2.2.1, .bool x.2.2.2.2.2.2.2.2.2.2.2.1, .str x.2.2.2.2.2.2.2.2.2.2.2.2.1, .int .i64 x.2.2.2.2.2.2.2.2.2.2.2.2.2.1, .sl .afield (.may false) x.2.2.2.2.2.2.2.2.2.2.2.2.2.2.1, .sl (.num .i64) (.may false) x.2.2.2.2.2.2.2.2.2.2.2.2.2.2.2.1] :: (U 181 (.bool x.2.2.2.2.2.2.2.2.2.2.2.2.2.2.2.2.1 :: (U 60 [])))), hp := [some [.sl .atype (.may false) x.2.2.2.2.2.2.2.2.2.2.2.2.2.2.2.2.2.1, .int .i64 x.2.2.2.2.2.2.2.2.2.2.2.2.2.2.2.2.2.2.1], some [.int .u64 x.2.2.2.2.2.2.2.2.2.2.2.2.2.2.2.2.2.2.2.1, .str x.2.2.2.2.2.2.2.2.2.2.2.2.2.2.2.2.2.2.2.2.1, .sl .aval .own x.2.2.2.2.2.2.2.2.2.2.2.2.2.2.2.2.2.2.2.2.2.1, .sl .str .own x.2.2.2.2.2.2.2.2.2.2.2.2.2.2.2.2.2.2.2.2.2.2.1, .int .i64 x.2.2.2.2.2.2.2.2.2.2.2.2.2.2.2.2.2.2.2.2.2.2.2]] }
noncomputable def mz (N : Nat) : St → Ro := fun s => run ar N qH (bO (run ar N)) s
noncomputable def fC (N : Nat) (x : jh) : Ro :=
 let v3 : Int := x.1
 let v6_0 : Int := x.2.1
 let v6_1 : Int := x.2.2.1
 let v6_2 : Bs := x.2.2.2.1
 let v6_3 : List ae := x.2.2.2.2.1
 let v6_4 : Bss := x.2.2.2.2.2.1
 let v10_0 : Int := x.2.2.2.2.2.2.1
 let v10_1 : Bs := x.2.2.2.2.2.2.2.1
 let v10_2 : Bss := x.2.2.2.2.2.2.2.2.1
 let v10_3 : Int := x.2.2.2.2.2.2.2.2.2.1
 let v10_4 : Bss := x.2.2.2.2.2.2.2.2.2.2.1
 let v10_5 : Bool := x.2.2.2.2.2.2.2.2.2.2.2.1
 let v10_6 : Bs := x.2.2.2.2.2.2.2.2.2.2.2.2.1
 let v10_7 : Int := x.2.2.2.2.2.2.2.2.2.2.2.2.2.1
 let v10_8 : List ao := x.2.2.2.2.2.2.2.2.2.2.2.2.2.2.1
 let v10_9 : List Int := x.2.2.2.2.2.2.2.2.2.2.2.2.2.2.2.1
 let v192 : Bool := x.2.2.2.2.2.2.2.2.2.2.2.2.2.2.2.2.1
 let o0_0 : List ac := x.2.2.2.2.2.2.2.2.2.2.2.2.2.2.2.2.2.1
 let o0_1 : Int := x.2.2.2.2.2.2.2.2.2.2.2.2.2.2.2.2.2.2.1
 let o1_0 : Int := x.2.2.2.2.2.2.2.2.2.2.2.2.2.2.2.2.2.2.2.1
 let o1_1 : Bs := x.2.2.2.2.2.2.2.2.2.2.2.2.2.2.2.2.2.2.2.2.1
 let o1_2 : List ab := x.2.2.2.2.2.2.2.2.2.2.2.2.2.2.2.2.2.2.2.2.2.1
 let o1_3 : Bss := x.2.2.2.2.2.2.2.2.2.2.2.2.2.2.2.2.2.2.2.2.2.2.1
 let o1_4 : Int := x.2.2.2.2.2.2.2.2.2.2.2.2.2.2.2.2.2.2.2.2.2.2.2
 cond v192 (
  ai (gl o0_0 o0_1 v10_0 v10_1 v10_2 v10_3 v10_4 v10_5 v10_6 v10_7 v10_8 v10_9 v6_0 v6_1 v6_2 v6_3 v6_4 v3) (fun r4 =>
   some (.tup [.agg [.int .u64 r4.1, .str r4.2.1, .sl .aval (.may false) r4.2.2.1, .sl .str (.may false) r4.2.2.2.1, .int .i64 r4.2.2.2.2.1], .int .i64 r4.2.2.2.2.2.1], [some [.sl .atype (.may false) r4.2.2.2.2.2.2.1, .int .i64 r4.2.2.2.2.2.2.2], some [.int .u64 r4.1, .str r4.2.1, .sl .aval (.may false) r4.2.2.1, .sl .str (.may false) r4.2.2.2.1, .int .i64 r4.2.2.2.2.1]]))) (
  cond (v10_0 == 9) (
   cond (v6_0 == 6) (
    ai (fM o0_0 o0_1 v10_0 v10_1 v10_2 v10_3 v10_4 v10_5 v10_6 v10_7 v10_8 v10_9 v6_0 v6_1 v6_2 v6_3 v6_4 v3) (fun r5 =>
     some (.tup [.agg [.int .u64 r5.1, .str r5.2.1, .sl .aval (.may false) r5.2.2.1, .sl .str (.may false) r5.2.2.2.1, .int .i64 r5.2.2.2.2.1], .int .i64 r5.2.2.2.2.2.1], [some [.sl .atype (.may false) r5.2.2.2.2.2.2.1, .int .i64 r5.2.2.2.2.2.2.2], some [.int .u64 r5.1, .str r5.2.1, .sl .aval (.may false) r5.2.2.1, .sl .str (.may false) r5.2.2.2.1, .int .i64 r5.2.2.2.2.1]]))) (
    cond (v10_0 == 14) (
     chk (decide ((0 : Int) < ↑(List.length v10_9))) (
      let x18 : Int := List.getD v10_9 (Int.toNat 0) (af (.num .i64))
      let x19 : Int := (IntKind.wrap .i64 (v3 + 1))
      ai (bJ o0_0 o0_1 x18 v6_0 v6_1 v6_2 v6_3 v6_4 x19) (fun r6 =>
       some (.tup [.agg [.int .u64 0, .str ([] : Bs), .sl .aval (.may true) ([⟨r6.1, r6.2.1, r6.2.2.1, r6.2.2.2.1, r6.2.2.2.2.1⟩] : List ab), .sl .str (.may false) ([] : Bss), .int .i64 0], .int .i64 r6.2.2.2.2.2.1], [some [.sl .atype (.may false) r6.2.2.2.2.2.2.1, .int .i64 r6.2.2.2.2.2.2.2], some [.int .u64 0, .str ([] : Bs), .sl .aval (.may true) ([⟨r6.1, r6.2.1, r6.2.2.1, r6.2.2.2.1, r6.2.2.2.2.1⟩] : List ab), .sl .str .own ([] : Bss), .int .i64 0]])))) (
     some (.tup [.agg [.int .u64 0, .str ([] : Bs), .sl .aval (.may false) ([] : List ab), .sl .str (.may false) ([] : Bss), .int .i64 0], .int .i64 7], [some [.sl .atype (.may false) o0_0, .int .i64 o0_1], some [.int .u64 0, .str ([] : Bs), .sl .aval .own ([] : List ab), .sl .str .own ([] : Bss), .int .i64 0]])))) (
   cond (v10_0 == 14) (
    chk (decide ((0 : Int) < ↑(List.length v10_9))) (
     let x20 : Int := List.getD v10_9 (Int.toNat 0) (af (.num .i64))
     let x21 : Int := (IntKind.wrap .i64 (v3 + 1))
     ai (bJ o0_0 o0_1 x20 v6_0 v6_1 v6_2 v6_3 v6_4 x21) (fun r7 =>
      some (.tup [.agg [.int .u64 0, .str ([] : Bs), .sl .aval (.may true) ([⟨r7.1, r7.2.1, r7.2.2.1, r7.2.2.2.1, r7.2.2.2.2.1⟩] : List ab), .sl .str (.may false) ([] : Bss), .int .i64 0], .int .i64 r7.2.2.2.2.2.1], [some [.sl .atype (.may false) r7.2.2.2.2.2.2.1, .int .i64 r7.2.2.2.2.2.2.2], some [.int .u64 0, .str ([] : Bs), .sl .aval (.may true) ([⟨r7.1, r7.2.1, r7.2.2.1, r7.2.2.2.1, r7.2.2.2.2.1⟩] : List ab), .sl .str .own ([] : Bss), .int .i64 0]])))) (
    some (.tup [.agg [.int .u64 0, .str ([] : Bs), .sl .aval (.may false) ([] : List ab), .sl .str (.may false) ([] : Bss), .int .i64 0], .int .i64 7], [some [.sl .atype (.may false) o0_0, .int .i64 o0_1], some [.int .u64 0, .str ([] : Bs), .sl .aval .own ([] : List ab), .sl .str .own ([] : Bss), .int .i64 0]]))))
theorem acY (N : Nat) : ∀ (x : jh), mz N (ib x) = fC N x := by
 intro x
 kernel_rfl
noncomputable def ji (N : Nat) : St → Ro := fun s => run ar N gM (bO (run ar N)) s
noncomputable def ic (N : Nat) (q3 : jf → Ro) (q4 : fB → Ro) (q5 : jh → Ro) (x : fy) : Ro :=
 let v3 : Int := x.1
 let v6_0 : Int := x.2.1
 let v6_1 : Int := x.2.2.1
 let v6_2 : Bs := x.2.2.2.1
 let v6_3 : List ae := x.2.2.2.2.1
 let v6_4 : Bss := x.2.2.2.2.2.1
 let v10_0 : Int := x.2.2.2.2.2.2.1
 let v10_1 : Bs := x.2.2.2.2.2.2.2.1
 let v10_2 : Bss := x.2.2.2.2.2.2.2.2.1
 let v10_3 : Int := x.2.2.2.2.2.2.2.2.2.1
 let v10_4 : Bss := x.2.2.2.2.2.2.2.2.2.2.1
 let v10_5 : Bool := x.2.2.2.2.2.2.2.2.2.2.2.1
 let v10_6 : Bs := x.2.2.2.2.2.2.2.2.2.2.2.2.1
 let v10_7 : Int := x.2.2.2.2.2.2.2.2.2.2.2.2.2.1
 let v10_8 : List ao := x.2.2.2.2.2.2.2.2.2.2.2.2.2.2.1
 let v10_9 : List Int := x.2.2.2.2.2.2.2.2.2.2.2.2.2.2.2.1
 let v130 : Bool := x.2.2.2.2.2.2.2.2.2.2.2.2.2.2.2.2.1
 let o0_0 : List ac := x.2.2.2.2.2.2.2.2.2.2.2.2.2.2.2.2.2.1
 let o0_1 : Int := x.2.2.2.2.2.2.2.2.2.2.2.2.2.2.2.2.2.2.1
 let o1_0 : Int := x.2.2.2.2.2.2.2.2.2.2.2.2.2.2.2.2.2.2.2.1
 let o1_1 : Bs := x.2.2.2.2.2.2.2.2.2.2.2.2.2.2.2.2.2.2.2.2.1
 let o1_2 : List ab := x.2.2.2.2.2.2.2.2.2.2.2.2.2.2.2.2.2.2.2.2.2.1
 let o1_3 : Bss := x.2.2.2.2.2.2.2.2.2.2.2.2.2.2.2.2.2.2.2.2.2.2.1
 let o1_4 : Int := x.2.2.2.2.2.2.2.2.2.2.2.2.2.2.2.2.2.2.2.2.2.2.2
 cond v130 (
  ai (rW v6_2) (fun r3 =>
   cond r3.2 (
    cond (v10_0 == 7) (
     q3 (r3.1, true, o0_0, o0_1, o1_0, o1_1, o1_2, o1_3, o1_4)) (
     let x14 : Int := (↑(List.length r3.1) : Int)
     q3 (r3.1, (x14 == v10_7), o0_0, o0_1, o1_0, o1_1, o1_2, o1_3, o1_4))) (
    q3 (r3.1, false, o0_0, o0_1, o1_0, o1_1, o1_2, o1_3, o1_4)))) (
  cond (v10_0 == 10) (
   cond (v6_0 == 4) (
    q4 (v6_0, v6_1, v6_2, v6_3, v6_4, v10_0, v10_1, v10_2, v10_3, v10_4, v10_5, v10_6, v10_7, v10_8, v10_9, 0, o0_0, o0_1, o1_0, o1_1, o1_2, o1_3, o1_4)) (
    cond (v10_0 == 12) (
     cond (v6_0 == 5) (
      q5 (v3, v6_0, v6_1, v6_2, v6_3, v6_4, v10_0, v10_1, v10_2, v10_3, v10_4, v10_5, v10_6, v10_7, v10_8, v10_9, (v6_0 == 5), o0_0, o0_1, o1_0, o1_1, o1_2, o1_3, o1_4)) (
      cond (v10_0 == 13) (
       q5 (v3, v6_0, v6_1, v6_2, v6_3, v6_4, v10_0, v10_1, v10_2, v10_3, v10_4, v10_5, v10_6, v10_7, v10_8, v10_9, (v6_0 == 6), o0_0, o0_1, o1_0, o1_1, o1_2, o1_3, o1_4)) (
       q5 (v3, v6_0, v6_1, v6_2, v6_3, v6_4, v10_0, v10_1, v10_2, v10_3, v10_4, v10_5, v10_6, v10_7, v10_8, v10_9, false, o0_0, o0_1, o1_0, o1_1, o1_2, o1_3, o1_4)))) (
     cond (v10_0 == 13) (
      q5 (v3, v6_0, v6_1, v6_2, v6_3, v6_4, v10_0, v10_1, v10_2, v10_3, v10_4, v10_5, v10_6, v10_7, v10_8, v10_9, (v6_0 == 6), o0_0, o0_1, o1_0, o1_1, o1_2, o1_3, o1_4)) (
      q5 (v3, v6_0, v6_1, v6_2, v6_3, v6_4, v10_0, v10_1, v10_2, v10_3, v10_4, v10_5, v10_6, v10_7, v10_8, v10_9, false, o0_0, o0_1, o1_0, o1_1, o1_2, o1_3, o1_4))))) (
   cond (v10_0 == 12) (
    cond (v6_0 == 5) (
     q5 (v3, v6_0, v6_1, v6_2, v6_3, v6_4, v10_0, v10_1, v10_2, v10_3, v10_4, v10_5, v10_6, v10_7, v10_8, v10_9, (v6_0 == 5), o0_0, o0_1, o1_0, o1_1, o1_2, o1_3, o1_4)) (
     cond (v10_0 == 13) (
      q5 (v3, v6_0, v6_1, v6_2, v6_3, v6_4, v10_0, v10_1, v10_2, v10_3, v10_4, v10_5, v10_6, v10_7, v10_8, v10_9, (v6_0 == 6), o0_0, o0_1, o1_0, o1_1, o1_2, o1_3, o1_4)) (
      q5 (v3, v6_0, v6_1, v6_2, v6_3, v6_4, v10_0, v10_1, v10_2, v10_3, v10_4, v10_5, v10_6, v10_7, v10_8, v10_9, false, o0_0, o0_1, o1_0, o1_1, o1_2, o1_3, o1_4)))) (
    cond (v10_0 == 13) (
     q5 (v3, v6_0, v6_1, v6_2, v6_3, v6_4, v10_0, v10_1, v10_2, v10_3, v10_4, v10_5, v10_6, v10_7, v10_8, v10_9, (v6_0 == 6), o0_0, o0_1, o1_0, o1_1, o1_2, o1_3, o1_4)) (
     q5 (v3, v6_0, v6_1, v6_2, v6_3, v6_4, v10_0, v10_1, v10_2, v10_3, v10_4, v10_5, v10_6, v10_7, v10_8, v10_9, false, o0_0, o0_1, o1_0, o1_1, o1_2, o1_3, o1_4)))))
noncomputable def fD (N : Nat) (x : fy) : Ro := ic N (fun z => fA N z) (fun z => aB N (dF N) z) (fun z => fC N z) x
noncomputable def mA (N : Nat) : List (Nat × (St → Ro)) := (aI ar N gM (bO (run ar N)) ++ (aI ar N cm (fin bU) ++ []))
theorem acZ (N : Nat) : ∀ (x : fy), ji N (dg x) = fD N x := by
 intro x
 have hX : ∀ C : Nat → St → Ro, bI C ar N gM (bO (bI C ar N)) (dg x) = ic N (fun z => C 1000001 (ia z)) (fun z => C 1000002 (dh z)) (fun z => C 1000003 (ib z)) x := by
  intro C
  kernel_rfl
 have h : ji N (dg x) = ic N (fun z => my N (ia z)) (fun z => aW N (jg N) (dh z)) (fun z => mz N (ib z)) x := (cA (C := ec (mA N)) (bL (aL (l := (mA N)) (by kernel_rfl))) (cL (f8 (bL (dz (aL (l := (mA N)) (by kernel_rfl)))) rfl)) _).trans ((hX _).trans (by kernel_rfl))
 have e3 : (fun z => my N (ia z)) = (fun z => fA N z) := funext fun z => acW N z
 have e4 : (fun z => aW N (jg N) (dh z)) = (fun z => aB N (dF N) z) := funext fun z => aT (dh) (jg N) (dF N) (acX N) N z
 have e5 : (fun z => mz N (ib z)) = (fun z => fC N z) := funext fun z => acY N z
 rw [h, e3, e4, e5]
 rfl
noncomputable def jj (N : Nat) : St → Ro := fun s => run ar N gP (bO (run ar N)) s
noncomputable def ie (N : Nat) (q2 : fy → Ro) (x : fx) : Ro :=
 let v3 : Int := x.1
 let v6_0 : Int := x.2.1
 let v6_1 : Int := x.2.2.1
 let v6_2 : Bs := x.2.2.2.1
 let v6_3 : List ae := x.2.2.2.2.1
 let v6_4 : Bss := x.2.2.2.2.2.1
 let v10_0 : Int := x.2.2.2.2.2.2.1
 let v10_1 : Bs := x.2.2.2.2.2.2.2.1
 let v10_2 : Bss := x.2.2.2.2.2.2.2.2.1
 let v10_3 : Int := x.2.2.2.2.2.2.2.2.2.1
 let v10_4 : Bss := x.2.2.2.2.2.2.2.2.2.2.1
 let v10_5 : Bool := x.2.2.2.2.2.2.2.2.2.2.2.1
 let v10_6 : Bs := x.2.2.2.2.2.2.2.2.2.2.2.2.1
 let v10_7 : Int := x.2.2.2.2.2.2.2.2.2.2.2.2.2.1
 let v10_8 : List ao := x.2.2.2.2.2.2.2.2.2.2.2.2.2.2.1
 let v10_9 : List Int := x.2.2.2.2.2.2.2.2.2.2.2.2.2.2.2.1
 let v11 : Bool := x.2.2.2.2.2.2.2.2.2.2.2.2.2.2.2.2.1
 let v68 : Bool := x.2.2.2.2.2.2.2.2.2.2.2.2.2.2.2.2.2.1
 let o0_0 : List ac := x.2.2.2.2.2.2.2.2.2.2.2.2.2.2.2.2.2.2.1
 let o0_1 : Int := x.2.2.2.2.2.2.2.2.2.2.2.2.2.2.2.2.2.2.2.1
 let o1_0 : Int := x.2.2.2.2.2.2.2.2.2.2.2.2.2.2.2.2.2.2.2.2.1
 let o1_1 : Bs := x.2.2.2.2.2.2.2.2.2.2.2.2.2.2.2.2.2.2.2.2.2.1
 let o1_2 : List ab := x.2.2.2.2.2.2.2.2.2.2.2.2.2.2.2.2.2.2.2.2.2.2.1
 let o1_3 : Bss := x.2.2.2.2.2.2.2.2.2.2.2.2.2.2.2.2.2.2.2.2.2.2.2.1
 let o1_4 : Int := x.2.2.2.2.2.2.2.2.2.2.2.2.2.2.2.2.2.2.2.2.2.2.2.2
 cond v68 (
  some (.tup [.agg [.int .u64 (IntKind.wrap .u64 v6_1), .str ([] : Bs), .sl .aval (.may false) ([] : List ab), .sl .str (.may false) ([] : Bss), .int .i64 0], .int .i64 0], [some [.sl .atype (.may false) o0_0, .int .i64 o0_1], some [.int .u64 (IntKind.wrap .u64 v6_1), .str ([] : Bs), .sl .aval .own ([] : List ab), .sl .str .own ([] : Bss), .int .i64 0]])) (
  cond (v10_0 == 5) (
   cond v11 (
    ai (qf v6_1) (fun (r1 : Int) =>
     some (.tup [.agg [.int .u64 (IntKind.wrap .u64 r1), .str ([] : Bs), .sl .aval (.may false) ([] : List ab), .sl .str (.may false) ([] : Bss), .int .i64 0], .int .i64 0], [some [.sl .atype (.may false) o0_0, .int .i64 o0_1], some [.int .u64 (IntKind.wrap .u64 r1), .str ([] : Bs), .sl .aval .own ([] : List ab), .sl .str .own ([] : Bss), .int .i64 0]]))) (
    cond (v10_0 == 6) (
     cond v11 (
      ai (lD v6_1) (fun (r2 : Int) =>
       some (.tup [.agg [.int .u64 r2, .str ([] : Bs), .sl .aval (.may false) ([] : List ab), .sl .str (.may false) ([] : Bss), .int .i64 0], .int .i64 0], [some [.sl .atype (.may false) o0_0, .int .i64 o0_1], some [.int .u64 r2, .str ([] : Bs), .sl .aval .own ([] : List ab), .sl .str .own ([] : Bss), .int .i64 0]]))) (
      cond (v10_0 == 8) (
       cond (v6_0 == 4) (
        some (.tup [.agg [.int .u64 0, .str v6_2, .sl .aval (.may false) ([] : List ab), .sl .str (.may false) ([] : Bss), .int .i64 0], .int .i64 0], [some [.sl .atype (.may false) o0_0, .int .i64 o0_1], some [.int .u64 0, .str v6_2, .sl .aval .own ([] : List ab), .sl .str .own ([] : Bss), .int .i64 0]])) (
        cond (v10_0 == 7) (
         q2 (v3, v6_0, v6_1, v6_2, v6_3, v6_4, v10_0, v10_1, v10_2, v10_3, v10_4, v10_5, v10_6, v10_7, v10_8, v10_9, (v6_0 == 4), o0_0, o0_1, o1_0, o1_1, o1_2, o1_3, o1_4)) (
         cond (v10_0 == 11) (
          q2 (v3, v6_0, v6_1, v6_2, v6_3, v6_4, v10_0, v10_1, v10_2, v10_3, v10_4, v10_5, v10_6, v10_7, v10_8, v10_9, (v6_0 == 4), o0_0, o0_1, o1_0, o1_1, o1_2, o1_3, o1_4)) (
          q2 (v3, v6_0, v6_1, v6_2, v6_3, v6_4, v10_0, v10_1, v10_2, v10_3, v10_4, v10_5, v10_6, v10_7, v10_8, v10_9, false, o0_0, o0_1, o1_0, o1_1, o1_2, o1_3, o1_4))))) (
       cond (v10_0 == 7) (
        q2 (v3, v6_0, v6_1, v6_2, v6_3, v6_4, v10_0, v10_1, v10_2, v10_3, v10_4, v10_5, v10_6, v10_7, v10_8, v10_9, (v6_0 == 4), o0_0, o0_1, o1_0, o1_1, o1_2, o1_3, o1_4)) (
        cond (v10_0 == 11) (
         q2 (v3, v6_0, v6_1, v6_2, v6_3, v6_4, v10_0, v10_1, v10_2, v10_3, v10_4, v10_5, v10_6, v10_7, v10_8, v10_9, (v6_0 == 4), o0_0, o0_1, o1_0, o1_1, o1_2, o1_3, o1_4)) (
         q2 (v3, v6_0, v6_1, v6_2, v6_3, v6_4, v10_0, v10_1, v10_2, v10_3, v10_4, v10_5, v10_6, v10_7, v10_8, v10_9, false, o0_0, o0_1, o1_0, o1_1, o1_2, o1_3, o1_4)))))) (
     cond (v10_0 == 8) (
      cond (v6_0 == 4) (
       some (.tup [.agg [.int .u64 0, .str v6_2, .sl .aval (.may false) ([] : List ab), .sl .str (.may false) ([] : Bss), .int .i64 0], .int .i64 0], [some [.sl .atype (.may false) o0_0, .int .i64 o0_1], some [.int .u64 0, .str v6_2, .sl .aval .own ([] : List ab), .sl .str .own ([] : Bss), .int .i64 0]])) (
       cond (v10_0 == 7) (
        q2 (v3, v6_0, v6_1, v6_2, v6_3, v6_4, v10_0, v10_1, v10_2, v10_3, v10_4, v10_5, v10_6, v10_7, v10_8, v10_9, (v6_0 == 4), o0_0, o0_1, o1_0, o1_1, o1_2, o1_3, o1_4)) (
        cond (v10_0 == 11) (
         q2 (v3, v6_0, v6_1, v6_2, v6_3, v6_4, v10_0, v10_1, v10_2, v10_3, v10_4, v10_5, v10_6, v10_7, v10_8, v10_9, (v6_0 == 4), o0_0, o0_1, o1_0, o1_1, o1_2, o1_3, o1_4)) (
         q2 (v3, v6_0, v6_1, v6_2, v6_3, v6_4, v10_0, v10_1, v10_2, v10_3, v10_4, v10_5, v10_6, v10_7, v10_8, v10_9, false, o0_0, o0_1, o1_0, o1_1, o1_2, o1_3, o1_4))))) (
      cond (v10_0 == 7) (
       q2 (v3, v6_0, v6_1, v6_2, v6_3, v6_4, v10_0, v10_1, v10_2, v10_3, v10_4, v10_5, v10_6, v10_7, v10_8, v10_9, (v6_0 == 4), o0_0, o0_1, o1_0, o1_1, o1_2, o1_3, o1_4)) (
       cond (v10_0 == 11) (
        q2 (v3, v6_0, v6_1, v6_2, v6_3, v6_4, v10_0, v10_1, v10_2, v10_3, v10_4, v10_5, v10_6, v10_7, v10_8, v10_9, (v6_0 == 4), o0_0, o0_1, o1_0, o1_1, o1_2, o1_3, o1_4)) (
        q2 (v3, v6_0, v6_1, v6_2, v6_3, v6_4, v10_0, v10_1, v10_2, v10_3, v10_4, v10_5, v10_6, v10_7, v10_8, v10_9, false, o0_0, o0_1, o1_0, o1_1, o1_2, o1_3, o1_4))))))) (
   cond (v10_0 == 6) (
    cond v11 (
     ai (lD v6_1) (fun (r8 : Int) =>
      some (.tup [.agg [.int .u64 r8, .str ([] : Bs), .sl .aval (.may false) ([] : List ab), .sl .str (.may false) ([] : Bss), .int .i64 0], .int .i64 0], [some [.sl .atype (.may false) o0_0, .int .i64 o0_1], some [.int .u64 r8, .str ([] : Bs), .sl .aval .own ([] : List ab), .sl .str .own ([] : Bss), .int .i64 0]]))) (
     cond (v10_0 == 8) (
      cond (v6_0 == 4) (
       some (.tup [.agg [.int .u64 0, .str v6_2, .sl .aval (.may false) ([] : List ab), .sl .str (.may false) ([] : Bss), .int .i64 0], .int .i64 0], [some [.sl .atype (.may false) o0_0, .int .i64 o0_1], some [.int .u64 0, .str v6_2, .sl .aval .own ([] : List ab), .sl .str .own ([] : Bss), .int .i64 0]])) (
       cond (v10_0 == 7) (
        q2 (v3, v6_0, v6_1, v6_2, v6_3, v6_4, v10_0, v10_1, v10_2, v10_3, v10_4, v10_5, v10_6, v10_7, v10_8, v10_9, (v6_0 == 4), o0_0, o0_1, o1_0, o1_1, o1_2, o1_3, o1_4)) (
        cond (v10_0 == 11) (
         q2 (v3, v6_0, v6_1, v6_2, v6_3, v6_4, v10_0, v10_1, v10_2, v10_3, v10_4, v10_5, v10_6, v10_7, v10_8, v10_9, (v6_0 == 4), o0_0, o0_1, o1_0, o1_1, o1_2, o1_3, o1_4)) (
         q2 (v3, v6_0, v6_1, v6_2, v6_3, v6_4, v10_0, v10_1, v10_2, v10_3, v10_4, v10_5, v10_6, v10_7, v10_8, v10_9, false, o0_0, o0_1, o1_0, o1_1, o1_2, o1_3, o1_4))))) (
      cond (v10_0 == 7) (
       q2 (v3, v6_0, v6_1, v6_2, v6_3, v6_4, v10_0, v10_1, v10_2, v10_3, v10_4, v10_5, v10_6, v10_7, v10_8, v10_9, (v6_0 == 4), o0_0, o0_1, o1_0, o1_1, o1_2, o1_3, o1_4)) (
       cond (v10_0 == 11) (
        q2 (v3, v6_0, v6_1, v6_2, v6_3, v6_4, v10_0, v10_1, v10_2, v10_3, v10_4, v10_5, v10_6, v10_7, v10_8, v10_9, (v6_0 == 4), o0_0, o0_1, o1_0, o1_1, o1_2, o1_3, o1_4)) (
        q2 (v3, v6_0, v6_1, v6_2, v6_3, v6_4, v10_0, v10_1, v10_2, v10_3, v10_4, v10_5, v10_6, v10_7, v10_8, v10_9, false, o0_0, o0_1, o1_0, o1_1, o1_2, o1_3, o1_4)))))) (
    cond (v10_0 == 8) (
     cond (v6_0 == 4) (
      some (.tup [.agg [.int .u64 0, .str v6_2, .sl .aval (.may false) ([] : List ab), .sl .str (.may false) ([] : Bss), .int .i64 0], .int .i64 0], [some [.sl .atype (.may false) o0_0, .int .i64 o0_1], some [.int .u64 0, .str v6_2, .sl .aval .own ([] : List ab), .sl .str .own ([] : Bss), .int .i64 0]])) (
      cond (v10_0 == 7) (
       q2 (v3, v6_0, v6_1, v6_2, v6_3, v6_4, v10_0, v10_1, v10_2, v10_3, v10_4, v10_5, v10_6, v10_7, v10_8, v10_9, (v6_0 == 4), o0_0, o0_1, o1_0, o1_1, o1_2, o1_3, o1_4)) (
       cond (v10_0 == 11) (
        q2 (v3, v6_0, v6_1, v6_2, v6_3, v6_4, v10_0, v10_1, v10_2, v10_3, v10_4, v10_5, v10_6, v10_7, v10_8, v10_9, (v6_0 == 4), o0_0, o0_1, o1_0, o1_1, o1_2, o1_3, o1_4)) (
        q2 (v3, v6_0, v6_1, v6_2, v6_3, v6_4, v10_0, v10_1, v10_2, v10_3, v10_4, v10_5, v10_6, v10_7, v10_8, v10_9, false, o0_0, o0_1, o1_0, o1_1, o1_2, o1_3, o1_4))))) (
     cond (v10_0 == 7) (
      q2 (v3, v6_0, v6_1, v6_2, v6_3, v6_4, v10_0, v10_1, v10_2, v10_3, v10_4, v10_5, v10_6, v10_7, v10_8, v10_9, (v6_0 == 4), o0_0, o0_1, o1_0, o1_1, o1_2, o1_3, o1_4)) (
      cond (v10_0 == 11) (
       q2 (v3, v6_0, v6_1, v6_2, v6_3, v6_4, v10_0, v10_1, v10_2, v10_3, v10_4, v10_5, v10_6, v10_7, v10_8, v10_9, (v6_0 == 4), o0_0, o0_1, o1_0, o1_1, o1_2, o1_3, o1_4)) (
       q2 (v3, v6_0, v6_1, v6_2, v6_3, v6_4, v10_0, v10_1, v10_2, v10_3, v10_4, v10_5, v10_6, v10_7, v10_8, v10_9, false, o0_0, o0_1, o1_0, o1_1, o1_2, o1_3, o1_4)))))))
noncomputable def fE (N : Nat) (x : fx) : Ro := ie N (fun z => fD N z) x
noncomputable def mB (N : Nat) : List (Nat × (St → Ro)) := (aI ar N gP (bO (run ar N)) ++ (aI ar N cm (fin bU) ++ []))
theorem ac0 (N : Nat) : ∀ (x : fx), jj N (de x) = fE N x := by
 intro x
 have hX : ∀ C : Nat → St → Ro, bI C ar N gP (bO (bI C ar N)) (de x) = ie N (fun z => C 1000004 (dg z)) x := by
  intro C
  kernel_rfl
 have h : jj N (de x) = ie N (fun z => ji N (dg z)) x := (cA (C := ec (mB N)) (bL (aL (l := (mB N)) (by kernel_rfl))) (cL (f8 (bL (dz (aL (l := (mB N)) (by kernel_rfl)))) rfl)) _).trans ((hX _).trans (by kernel_rfl))
 have e2 : (fun z => ji N (dg z)) = (fun z => fD N z) := funext fun z => acZ N z
 rw [h, e2]
 rfl
noncomputable def mC (N : Nat) : St → Ro := fun s => run ar N hZ (mw (run ar N)) s
noncomputable def ig (N : Nat) (q1 : fx → Ro) (x : fw) : Ro :=
 let v3 : Int := x.1
 let v6_0 : Int := x.2.1
 let v6_1 : Int := x.2.2.1
 let v6_2 : Bs := x.2.2.2.1
 let v6_3 : List ae := x.2.2.2.2.1
 let v6_4 : Bss := x.2.2.2.2.2.1
 let v10_0 : Int := x.2.2.2.2.2.2.1
 let v10_1 : Bs := x.2.2.2.2.2.2.2.1
 let v10_2 : Bss := x.2.2.2.2.2.2.2.2.1
 let v10_3 : Int := x.2.2.2.2.2.2.2.2.2.1
 let v10_4 : Bss := x.2.2.2.2.2.2.2.2.2.2.1
 let v10_5 : Bool := x.2.2.2.2.2.2.2.2.2.2.2.1
 let v10_6 : Bs := x.2.2.2.2.2.2.2.2.2.2.2.2.1
 let v10_7 : Int := x.2.2.2.2.2.2.2.2.2.2.2.2.2.1
 let v10_8 : List ao := x.2.2.2.2.2.2.2.2.2.2.2.2.2.2.1
 let v10_9 : List Int := x.2.2.2.2.2.2.2.2.2.2.2.2.2.2.2.1
 let v11 : Bool := x.2.2.2.2.2.2.2.2.2.2.2.2.2.2.2.2.1
 let v68 : Bool := x.2.2.2.2.2.2.2.2.2.2.2.2.2.2.2.2.2.1
 let o0_0 : List ac := x.2.2.2.2.2.2.2.2.2.2.2.2.2.2.2.2.2.2.1
 let o0_1 : Int := x.2.2.2.2.2.2.2.2.2.2.2.2.2.2.2.2.2.2.2.1
 let o1_0 : Int := x.2.2.2.2.2.2.2.2.2.2.2.2.2.2.2.2.2.2.2.2.1
 let o1_1 : Bs := x.2.2.2.2.2.2.2.2.2.2.2.2.2.2.2.2.2.2.2.2.2.1
 let o1_2 : List ab := x.2.2.2.2.2.2.2.2.2.2.2.2.2.2.2.2.2.2.2.2.2.2.1
 let o1_3 : Bss := x.2.2.2.2.2.2.2.2.2.2.2.2.2.2.2.2.2.2.2.2.2.2.2.1
 let o1_4 : Int := x.2.2.2.2.2.2.2.2.2.2.2.2.2.2.2.2.2.2.2.2.2.2.2.2
 cond v68 (
  q1 (v3, v6_0, v6_1, v6_2, v6_3, v6_4, v10_0, v10_1, v10_2, v10_3, v10_4, v10_5, v10_6, v10_7, v10_8, v10_9, v11, v68, o0_0, o0_1, o1_0, o1_1, o1_2, o1_3, o1_4)) (
  cond (v10_0 == 4) (
   q1 (v3, v6_0, v6_1, v6_2, v6_3, v6_4, v10_0, v10_1, v10_2, v10_3, v10_4, v10_5, v10_6, v10_7, v10_8, v10_9, v11, v11, o0_0, o0_1, o1_0, o1_1, o1_2, o1_3, o1_4)) (
   q1 (v3, v6_0, v6_1, v6_2, v6_3, v6_4, v10_0, v10_1, v10_2, v10_3, v10_4, v10_5, v10_6, v10_7, v10_8, v10_9, v11, false, o0_0, o0_1, o1_0, o1_1, o1_2, o1_3, o1_4)))
noncomputable def jk (N : Nat) (x : fw) : Ro := ig N (fun z => fE N z) x
noncomputable def jl (N : Nat) : List (Nat × (St → Ro)) := (aI ar N hZ (mw (run ar N)) ++ (aI ar N le (aD 0 (bo (run ar N cm) (fin bU))) ++ (aI ar N cm (fin bU) ++ [])))
theorem ac1 (N : Nat) : ∀ (x : fw), mC N (eA x) = jk N x := by
 intro x
 have hX : ∀ C : Nat → St → Ro, bI C ar N hZ (mw (bI C ar N)) (eA x) = ig N (fun z => C 1000005 (de z)) x := by
  intro C
  kernel_rfl
 have h : mC N (eA x) = ig N (fun z => jj N (de z)) x := (cA (C := ec (jl N)) (bL (aL (l := (jl N)) (by kernel_rfl))) (f8 (bL (dz (aL (l := (jl N)) (by kernel_rfl)))) (cL (f8 (bL (dz (dz (aL (l := (jl N)) (by kernel_rfl))))) rfl))) _).trans ((hX _).trans (by kernel_rfl))
 have e1 : (fun z => jj N (de z)) = (fun z => fE N z) := funext fun z => ac0 N z
 rw [h, e1]
 rfl
noncomputable def f7 (N : Nat) (o0_0 : List ac) (o0_1 : Int) (p1 : Int) (p2_0 : Int) (p2_1 : Int) (p2_2 : Bs) (p2_3 : List ae) (p2_4 : Bss) (p3 : Int) (q0 : fw → Ro) : Ro :=
 let x1 : Int := (IntKind.wrap .i64 (o0_1 + 1))
 cond (decide (20 < p3)) (
  some (.tup [.agg [.int .u64 0, .str ([] : Bs), .sl .aval (.may false) ([] : List ab), .sl .str (.may false) ([] : Bss), .int .i64 0], .int .i64 3], [some [.sl .atype (.may false) o0_0, .int .i64 x1], some [.int .u64 0, .str ([] : Bs), .sl .aval .own ([] : List ab), .sl .str .own ([] : Bss), .int .i64 0]])) (
  cond (decide (2000 < x1)) (
   some (.tup [.agg [.int .u64 0, .str ([] : Bs), .sl .aval (.may false) ([] : List ab), .sl .str (.may false) ([] : Bss), .int .i64 0], .int .i64 3], [some [.sl .atype (.may false) o0_0, .int .i64 x1], some [.int .u64 0, .str ([] : Bs), .sl .aval .own ([] : List ab), .sl .str .own ([] : Bss), .int .i64 0]])) (
   chk ((decide (0 ≤ p1) && decide (p1 < ↑(List.length o0_0)))) (
    let x2 : Int := (List.getD o0_0 (Int.toNat p1) (af .atype)).kind
    let x3 : Bs := (List.getD o0_0 (Int.toNat p1) (af .atype)).name
    let x4 : Bss := (List.getD o0_0 (Int.toNat p1) (af .atype)).aliases
    let x5 : Int := (List.getD o0_0 (Int.toNat p1) (af .atype)).items
    let x6 : Bss := (List.getD o0_0 (Int.toNat p1) (af .atype)).syms
    let x7 : Bool := (List.getD o0_0 (Int.toNat p1) (af .atype)).hasdef
    let x8 : Bs := (List.getD o0_0 (Int.toNat p1) (af .atype)).df
    let x9 : Int := (List.getD o0_0 (Int.toNat p1) (af .atype)).size
    let x10 : List ao := (List.getD o0_0 (Int.toNat p1) (af .atype)).fields
    let x11 : List Int := (List.getD o0_0 (Int.toNat p1) (af .atype)).branches
    cond (x2 == 1) (
     cond (p2_0 == 1) (
      some (.tup [.agg [.int .u64 0, .str ([] : Bs), .sl .aval (.may false) ([] : List ab), .sl .str (.may false) ([] : Bss), .int .i64 0], .int .i64 0], [some [.sl .atype (.may false) o0_0, .int .i64 x1], some [.int .u64 0, .str ([] : Bs), .sl .aval .own ([] : List ab), .sl .str .own ([] : Bss), .int .i64 0]])) (
      cond (x2 == 2) (
       cond (p2_0 == 2) (
        some (.tup [.agg [.int .u64 (IntKind.wrap .u64 p2_1), .str ([] : Bs), .sl .aval (.may false) ([] : List ab), .sl .str (.may false) ([] : Bss), .int .i64 0], .int .i64 0], [some [.sl .atype (.may false) o0_0, .int .i64 x1], some [.int .u64 (IntKind.wrap .u64 p2_1), .str ([] : Bs), .sl .aval .own ([] : List ab), .sl .str .own ([] : Bss), .int .i64 0]])) (
        cond (x2 == 3) (
         cond (p2_0 == 3) (
          let x12 : Bool := decide ((-2147483648) ≤ p2_1)
          cond x12 (
           let x13 : Bool := decide (p2_1 < 2147483648)
           q0 (p3, p2_0, p2_1, p2_2, p2_3, p2_4, x2, x3, x4, x5, x6, x7, x8, x9, x10, x11, (p2_0 == 3), x13, o0_0, x1, 0, ([] : Bs), ([] : List ab), ([] : Bss), 0)) (
           q0 (p3, p2_0, p2_1, p2_2, p2_3, p2_4, x2, x3, x4, x5, x6, x7, x8, x9, x10, x11, (p2_0 == 3), false, o0_0, x1, 0, ([] : Bs), ([] : List ab), ([] : Bss), 0))) (
          q0 (p3, p2_0, p2_1, p2_2, p2_3, p2_4, x2, x3, x4, x5, x6, x7, x8, x9, x10, x11, (p2_0 == 3), false, o0_0, x1, 0, ([] : Bs), ([] : List ab), ([] : Bss), 0))) (
         q0 (p3, p2_0, p2_1, p2_2, p2_3, p2_4, x2, x3, x4, x5, x6, x7, x8, x9, x10, x11, (p2_0 == 3), false, o0_0, x1, 0, ([] : Bs), ([] : List ab), ([] : Bss), 0)))) (
       cond (x2 == 3) (
        cond (p2_0 == 3) (
         let x22 : Bool := decide ((-2147483648) ≤ p2_1)
         cond x22 (
          let x23 : Bool := decide (p2_1 < 2147483648)
          q0 (p3, p2_0, p2_1, p2_2, p2_3, p2_4, x2, x3, x4, x5, x6, x7, x8, x9, x10, x11, (p2_0 == 3), x23, o0_0, x1, 0, ([] : Bs), ([] : List ab), ([] : Bss), 0)) (
          q0 (p3, p2_0, p2_1, p2_2, p2_3, p2_4, x2, x3, x4, x5, x6, x7, x8, x9, x10, x11, (p2_0 == 3), false, o0_0, x1, 0, ([] : Bs), ([] : List ab), ([] : Bss), 0))) (
         q0 (p3, p2_0, p2_1, p2_2, p2_3, p2_4, x2, x3, x4, x5, x6, x7, x8, x9, x10, x11, (p2_0 == 3), false, o0_0, x1, 0, ([] : Bs), ([] : List ab), ([] : Bss), 0))) (
        q0 (p3, p2_0, p2_1, p2_2, p2_3, p2_4, x2, x3, x4, x5, x6, x7, x8, x9, x10, x11, (p2_0 == 3), false, o0_0, x1, 0, ([] : Bs), ([] : List ab), ([] : Bss), 0))))) (
     cond (x2 == 2) (
      cond (p2_0 == 2) (
       some (.tup [.agg [.int .u64 (IntKind.wrap .u64 p2_1), .str ([] : Bs), .sl .aval (.may false) ([] : List ab), .sl .str (.may false) ([] : Bss), .int .i64 0], .int .i64 0], [some [.sl .atype (.may false) o0_0, .int .i64 x1], some [.int .u64 (IntKind.wrap .u64 p2_1), .str ([] : Bs), .sl .aval .own ([] : List ab), .sl .str .own ([] : Bss), .int .i64 0]])) (
       cond (x2 == 3) (
        cond (p2_0 == 3) (
         let x24 : Bool := decide ((-2147483648) ≤ p2_1)
         cond x24 (
          let x25 : Bool := decide (p2_1 < 2147483648)
          q0 (p3, p2_0, p2_1, p2_2, p2_3, p2_4, x2, x3, x4, x5, x6, x7, x8, x9, x10, x11, (p2_0 == 3), x25, o0_0, x1, 0, ([] : Bs), ([] : List ab), ([] : Bss), 0)) (
          q0 (p3, p2_0, p2_1, p2_2, p2_3, p2_4, x2, x3, x4, x5, x6, x7, x8, x9, x10, x11, (p2_0 == 3), false, o0_0, x1, 0, ([] : Bs), ([] : List ab), ([] : Bss), 0))) (
         q0 (p3, p2_0, p2_1, p2_2, p2_3, p2_4, x2, x3, x4, x5, x6, x7, x8, x9, x10, x11, (p2_0 == 3), false, o0_0, x1, 0, ([] : Bs), ([] : List ab), ([] : Bss), 0))) (
        q0 (p3, p2_0, p2_1, p2_2, p2_3, p2_4, x2, x3, x4, x5, x6, x7, x8, x9, x10, x11, (p2_0 == 3), false, o0_0, x1, 0, ([] : Bs), ([] : List ab), ([] : Bss), 0)))) (
      cond (x2 == 3) (
       cond (p2_0 == 3) (
        let x26 : Bool := decide ((-2147483648) ≤ p2_1)
        cond x26 (
         let x27 : Bool := decide (p2_1 < 2147483648)
         q0 (p3, p2_0, p2_1, p2_2, p2_3, p2_4, x2, x3, x4, x5, x6, x7, x8, x9, x10, x11, (p2_0 == 3), x27, o0_0, x1, 0, ([] : Bs), ([] : List ab), ([] : Bss), 0)) (
         q0 (p3, p2_0, p2_1, p2_2, p2_3, p2_4, x2, x3, x4, x5, x6, x7, x8, x9, x10, x11, (p2_0 == 3), false, o0_0, x1, 0, ([] : Bs), ([] : List ab), ([] : Bss), 0))) (
        q0 (p3, p2_0, p2_1, p2_2, p2_3, p2_4, x2, x3, x4, x5, x6, x7, x8, x9, x10, x11, (p2_0 == 3), false, o0_0, x1, 0, ([] : Bs), ([] : List ab), ([] : Bss), 0))) (
       q0 (p3, p2_0, p2_1, p2_2, p2_3, p2_4, x2, x3, x4, x5, x6, x7, x8, x9, x10, x11, (p2_0 == 3), false, o0_0, x1, 0, ([] : Bs), ([] : List ab), ([] : Bss), 0)))))))
noncomputable def nB (N : Nat) (o0_0 : List ac) (o0_1 : Int) (p1 : Int) (p2_0 : Int) (p2_1 : Int) (p2_2 : Bs) (p2_3 : List ae) (p2_4 : Bss) (p3 : Int) : Ro := f7 N o0_0 o0_1 p1 p2_0 p2_1 p2_2 p2_3 p2_4 p3 (fun z => jk N z)
noncomputable def ai5 (N : Nat) : List (Nat × (St → Ro)) := aI ar N nA (fin bU) ++ []
theorem afv (N : Nat) (o0_0 : List ac) (o0_1 : Int) (p1 : Int) (p2_0 : Int) (p2_1 : Int) (p2_2 : Bs) (p2_3 : List ae) (p2_4 : Bss) (p3 : Int) : aE ar N 253 bU nA [.ptr 0 0, .int .i64 p1, .agg [.int .i64 p2_0, .int .i64 p2_1, .str p2_2, .sl .jnode (.may false) p2_3, .sl .str (.may false) p2_4], .int .i64 p3] [some [.sl .atype (.may false) o0_0, .int .i64 o0_1]] = nB N o0_0 o0_1 p1 p2_0 p2_1 p2_2 p2_3 p2_4 p3 :=
 (bx (ai5 N) (by kernel_rfl) rfl (fun C => f7 N o0_0 o0_1 p1 p2_0 p2_1 p2_2 p2_3 p2_4 p3 (fun z => C 1000000 (eA z))) (fun C => by kernel_rfl)).trans (Eq.trans (b := f7 N o0_0 o0_1 p1 p2_0 p2_1 p2_2 p2_3 p2_4 p3 (fun z => mC N (eA z))) (by kernel_rfl) (congrArg (f7 N o0_0 o0_1 p1 p2_0 p2_1 p2_2 p2_3 p2_4 p3) (funext fun z => ac1 N z)))
theorem afw (N : Nat) (o0_0 : List ac) (o0_1 : Int) (p1 : Int) (p2_0 : Int) (p2_1 : Int) (p2_2 : Bs) (p2_3 : List ae) (p2_4 : Bss) (p3 : Int) (h : Tot (nB N o0_0 o0_1 p1 p2_0 p2_1 p2_2 p2_3 p2_4 p3) (fun z => ∃ (y0 : Int) (y1 : Bs) (y2 : List ab) (y3 : Bss) (y4 : Int) (y5 : Int) (y6 : List ac) (y7 : Int) (rest : List an), z.1.dimR = .tup [.agg [.int .u64 y0, .str y1, .sl .aval (.may false) y2, .sl .str (.may false) y3, .int .i64 y4], .int .i64 y5] ∧ z.2 = some [.sl .atype (.may false) y6, .int .i64 y7] :: rest ∧ bY o0_0 o0_1 p1 p2_0 p2_1 p2_2 p2_3 p2_4 p3 (y0, y1, y2, y3, y4, y5, y6, y7))) : ∃ r, bJ o0_0 o0_1 p1 p2_0 p2_1 p2_2 p2_3 p2_4 p3 r := by
 obtain ⟨⟨v, hp⟩, hz, y0, y1, y2, y3, y4, y5, y6, y7, rest, e1, e2, hq⟩ := h
 simp only at e1 e2
 subst e2
 exact ⟨(y0, y1, y2, y3, y4, y5, y6, y7), aP.dimR (FnC.objs (css := [[.sl .atype (.may false) o0_0, .int .i64 o0_1]]) (css' := [[.sl .atype (.may false) y6, .int .i64 y7]]) ahC (afv N o0_0 o0_1 p1 p2_0 p2_1 p2_2 p2_3 p2_4 p3) hz rfl) e1, hq⟩
noncomputable def ajL : au := tab (P := Try.prog) [] [ko] [] [asj]
noncomputable def apT : IR := .ret
noncomputable def apU : IR := (.cond (.t 14) (.seq (.reg [Pp (.bld 15 [.int .u64 0, .str ([] : Bs), .sl .aval .own ([] : List ab), .sl .str .own ([] : Bss), .int .i64 0] []), Pp (.st none 5 (.t 6) (.t 15)), Pp (.mov 7 (.c (.int .i64 1)))] []) apT) .skip)
noncomputable def apV : IR := .ret
noncomputable def apW : IR := (.cond (.t 27) (.seq (.reg [Pp (.bld 28 [.int .u64 0, .str ([] : Bs), .sl .aval .own ([] : List ab), .sl .str .own ([] : Bss), .int .i64 0] []), Mv 29 10, Pp (.st none 5 (.t 6) (.t 28)), Mv 7 29] []) apV) .skip)
noncomputable def apX : IR := .ret
noncomputable def apY : IR := (.seq (.reg [Ld 30 5 true 9, Pp (.st none 5 (.t 6) (.t 30)), Pp (.mov 7 (.c (.int .i64 0)))] []) apX)
noncomputable def apZ : IR := (.seq (.seq (.reg [Mv 26 10, Bc 27 .neq 26 0] []) apW) apY)
noncomputable def ap0 : IR := (.seq (.reg [Mv 20 8, Mv 21 1, Ld 22 5 true 5, Pp (.call (some 23) 120 [(.t 20), (.t 21), (.t 22), (.c (.int .i64 1))]), Mv 19 23, Ex_ 24 0 19, Ex_ 25 1 19, Pp (.alr 9 5), Pp (.frz none 9 5 (.t 24)), Mv 10 25] []) apZ)
noncomputable def ap1 : IR := (.seq (.reg [Ld 16 1 true 3, Pp (.bld 17 [.sl .atype (.may true) ([] : List ac), .int .i64 0] [(0, 1, (.t 16))]), Pp (.box 18 (.t 17)), Mv 8 18] []) ap0)
noncomputable def ap2 : IR := (.seq (.seq (.reg [Ld 11 1 true 3, Mv 12 1, Pp (.call (some 13) 45 [(.t 11), (.t 12)]), Pp (.un 14 .not (.t 13))] []) apU) ap1)
noncomputable def ahD : IR := (.seq (.reg [Pp (.boxe 3 (.t 0)), Pp (.boxe 5 (.t 2)), Pp (.new 6 [.int .u64 0, .str ([] : Bs), .sl .aval .own ([] : List ab), .sl .str .own ([] : Bss), .int .i64 0]), Pp (.mov 7 (.c (.int .i64 0)))] []) ap2)
noncomputable def ahE : List RV := [.cell 6 5 true, .t 7]
theorem axc : FnC Try.prog ajL [120, 2000120] 0 ajk Try.f74 ahD ahE := fnC (by kernel_rfl) Try.func74 (by kernel_rfl) (by kernel_rfl) (by decide)
noncomputable def ahF (N : Nat) (p0_0 : List ac) (p1 : Int) (p2_0 : Int) (p2_1 : Int) (p2_2 : Bs) (p2_3 : List ae) (p2_4 : Bss)  : Ro :=
 ai (rg p0_0 p1) (fun (r1 : Bool) =>
  cond (!r1) (
   some (.tup [.agg [.int .u64 0, .str ([] : Bs), .sl .aval (.may false) ([] : List ab), .sl .str (.may false) ([] : Bss), .int .i64 0], .int .i64 1], [some [.int .u64 0, .str ([] : Bs), .sl .aval .own ([] : List ab), .sl .str .own ([] : Bss), .int .i64 0]])) (
   ai (bJ p0_0 0 p1 p2_0 p2_1 p2_2 p2_3 p2_4 1) (fun r2 =>
    cond (!(r2.2.2.2.2.2.1 == 0)) (
     some (.tup [.agg [.int .u64 0, .str ([] : Bs), .sl .aval (.may false) ([] : List ab), .sl .str (.may false) ([] : Bss), .int .i64 0], .int .i64 r2.2.2.2.2.2.1], [some [.int .u64 0, .str ([] : Bs), .sl .aval .own ([] : List ab), .sl .str .own ([] : Bss), .int .i64 0], some [.sl .atype (.may false) r2.2.2.2.2.2.2.1, .int .i64 r2.2.2.2.2.2.2.2]])) (
     some (.tup [.agg [.int .u64 r2.1, .str r2.2.1, .sl .aval (.may false) r2.2.2.1, .sl .str (.may false) r2.2.2.2.1, .int .i64 r2.2.2.2.2.1], .int .i64 0], [some [.int .u64 r2.1, .str r2.2.1, .sl .aval (.may false) r2.2.2.1, .sl .str (.may false) r2.2.2.2.1, .int .i64 r2.2.2.2.2.1], some [.sl .atype (.may false) r2.2.2.2.2.2.2.1, .int .i64 r2.2.2.2.2.2.2.2]])))))
noncomputable def vI (N : Nat) (p0_0 : List ac) (p1 : Int) (p2_0 : Int) (p2_1 : Int) (p2_2 : Bs) (p2_3 : List ae) (p2_4 : Bss) : Ro := ahF N p0_0 p1 p2_0 p2_1 p2_2 p2_3 p2_4
theorem atv (N : Nat) (p0_0 : List ac) (p1 : Int) (p2_0 : Int) (p2_1 : Int) (p2_2 : Bs) (p2_3 : List ae) (p2_4 : Bss) : aE ajL N 31 ahE ahD [.agg [.sl .atype (.may false) p0_0], .int .i64 p1, .agg [.int .i64 p2_0, .int .i64 p2_1, .str p2_2, .sl .jnode (.may false) p2_3, .sl .str (.may false) p2_4]] [] = vI N p0_0 p1 p2_0 p2_1 p2_2 p2_3 p2_4 := by kernel_rfl
theorem atw (N : Nat) (p0_0 : List ac) (p1 : Int) (p2_0 : Int) (p2_1 : Int) (p2_2 : Bs) (p2_3 : List ae) (p2_4 : Bss) (h : Tot (vI N p0_0 p1 p2_0 p2_1 p2_2 p2_3 p2_4) (fun z => ∃ (y0 : Int) (y1 : Bs) (y2 : List ab) (y3 : Bss) (y4 : Int) (y5 : Int) (rest : List an), z.1.dimR = .tup [.agg [.int .u64 y0, .str y1, .sl .aval (.may false) y2, .sl .str (.may false) y3, .int .i64 y4], .int .i64 y5] ∧ z.2 = rest)) : ∃ r, oN p0_0 p1 p2_0 p2_1 p2_2 p2_3 p2_4 r := by
 obtain ⟨⟨v, hp⟩, hz, y0, y1, y2, y3, y4, y5, rest, e1, e2⟩ := h
 simp only at e1 e2
 subst e2
 exact ⟨(y0, y1, y2, y3, y4, y5), aj.dimR (axc.pure (atv N p0_0 p1 p2_0 p2_1 p2_2 p2_3 p2_4) hz) e1⟩
noncomputable def cP : au := tab (P := Try.prog) [] [] [] [ayB]
noncomputable def ap3 : IR := (.cond (.t 14) .skip (.exit 0))
noncomputable def ap4 : IR := (.cond (.t 25) .skip (.exit 2))
noncomputable def ap5 : IR := (.cond (.t 39) (.exit 3) .skip)
noncomputable def ap6 : IR := .ret
noncomputable def ap7 : IR := (.cond (.t 50) (.seq (.reg [Mv 51 9, Mv 52 5, Mv 53 6, Mv 2 51, Mv 3 52, Mv 4 53] []) ap6) .skip)
noncomputable def ap8 : IR := (.seq (.reg [Mv 49 9, Bc 50 .neq 49 0] []) ap7)
noncomputable def ap9 : IR := (.seq (.reg [Ld 41 1 true 1, Fa 42 2 7, Ld 43 1 false 42, Fa 44 4 7, Ld 45 5 true 44, Pp (.call (some 46) 74 [(.t 41), (.t 43), (.t 45)]), Mv 40 46, Ex_ 47 0 40, Ex_ 48 1 40, Pp (.alr 8 5), Pp (.frz none 8 5 (.t 47)), Mv 9 48] []) ap8)
noncomputable def aqa : IR := (.seq (.seq (.reg [Fa 37 3 7, Ld 38 1 false 37, Pp (.un 39 .not (.t 38))] []) ap5) ap9)
noncomputable def aqb : IR := (.reg [Mv 26 6, Bc 27 .add 26 1, Mv 6 27] [])
noncomputable def aqc : IR := (.seq (.block 3 (.seq (.reg [Fa 28 0 1, Ld 29 1 false 28, Mv 30 5, Pp (.ixa 31 .atype (.t 29) (.t 30)), Fa 32 8 31, Pp (.ld 33 1 false false (.t 32)), Mv 34 6, Pp (.ixa 35 .afield (.t 33) (.t 34)), Ld 36 9 true 35, Pp (.alr 7 9), Pp (.frz none 7 9 (.t 36))] []) aqa)) aqb)
noncomputable def xW : IR := (.seq (.seq (.reg [Mv 17 6, Fa 18 0 1, Ld 19 1 false 18, Mv 20 5, Pp (.ixa 21 .atype (.t 19) (.t 20)), Fa 22 8 21, Pp (.ld 23 1 false false (.t 22)), Pp (.lenl 24 (.t 23)), Bi 25 .lss 17 24] []) ap4) aqc)
noncomputable def am6 : IR := (.block 2 (.loop [1, 5, 6, 1000000] 0 xW))
noncomputable def xX : IR := (.reg [Mv 15 5, Bc 16 .add 15 1, Mv 5 16] [])
noncomputable def am7 : IR := (.seq (.block 1 (.seq (.reg [Pp (.mov 6 (.c (.int .i64 0)))] []) am6)) xX)
noncomputable def mG : IR := (.seq (.seq (.reg [Mv 10 5, Fa 11 0 1, Ld 12 1 false 11, Pp (.lenl 13 (.t 12)), Bi 14 .lss 10 13] []) ap3) am7)
noncomputable def am8 : IR := (.block 0 (.loop [1, 5, 1000001] 0 mG))
noncomputable def am9 : IR := .ret
noncomputable def rI : IR := (.seq (.reg [Pp (.mov 2 (.c (.int .i64 0))), Pp (.mov 3 (.c (.int .i64 0))), Pp (.mov 4 (.c (.int .i64 0)))] []) am9)
noncomputable def ana : IR := (.seq (.seq (.reg [Pp (.mov 5 (.c (.int .i64 0)))] []) am8) rI)
noncomputable def vJ : IR := (.seq (.reg [Pp (.boxe 1 (.t 0)), Pp (.mov 2 (.c (.int .i64 0))), Pp (.mov 3 (.c (.int .i64 0))), Pp (.mov 4 (.c (.int .i64 0)))] []) ana)
noncomputable def nC : List RV := [.t 2, .t 3, .t 4]
theorem axd : FnC Try.prog cP [] 0 ajj Try.f41 vJ nC := fnC (by kernel_rfl) Try.func41 (by kernel_rfl) (by kernel_rfl) (by decide)
noncomputable def pL (R : IR → (Ex → St → Ro) → St → Ro) (again0 : St → Ro) : Ex → St → Ro := (br again0 [1, 5, 1000001] 0 (aD 0 (bo (R rI) (fin nC))))
abbrev eJ : Type := (List ac × Int)
noncomputable def bX (x : eJ) : St := { env := (.undef :: .ea [.sl .atype (.may false) x.1] :: (U 3 (.int .i64 x.2 :: (U 48 [])))), hp := [] }
noncomputable def atx (R : IR → (Ex → St → Ro) → St → Ro) (again0 : St → Ro) (again1 : St → Ro) : Ex → St → Ro := (br again1 [1, 5, 6, 1000000] 0 (aD 2 (aD 1 (bo (R xX) (pL R again0)))))
abbrev lU : Type := (List ac × Int × Int)
noncomputable def iE (x : lU) : St := { env := (.undef :: .ea [.sl .atype (.may false) x.1] :: (U 3 (.int .i64 x.2.1 :: .int .i64 x.2.2 :: (U 47 [])))), hp := [] }
noncomputable def pM (N : Nat) (again0 : St → Ro) : (St → Ro) → St → Ro := fun again1 s => run cP N xW (atx (run cP N) again0 again1) s
noncomputable def lV (N : Nat) (again0 : eJ → Ro) (again1 : lU → Ro) (x : lU) : Ro :=
 let v1_0 : List ac := x.1
 let v5 : Int := x.2.1
 let v6 : Int := x.2.2
 chk ((decide (0 ≤ v5) && decide (v5 < ↑(List.length v1_0)))) (
  let x2 : Int := (List.getD v1_0 (Int.toNat v5) (af .atype)).kind
  let x3 : Bs := (List.getD v1_0 (Int.toNat v5) (af .atype)).name
  let x4 : Bss := (List.getD v1_0 (Int.toNat v5) (af .atype)).aliases
  let x5 : Int := (List.getD v1_0 (Int.toNat v5) (af .atype)).items
  let x6 : Bss := (List.getD v1_0 (Int.toNat v5) (af .atype)).syms
  let x7 : Bool := (List.getD v1_0 (Int.toNat v5) (af .atype)).hasdef
  let x8 : Bs := (List.getD v1_0 (Int.toNat v5) (af .atype)).df
  let x9 : Int := (List.getD v1_0 (Int.toNat v5) (af .atype)).size
  let x10 : List ao := (List.getD v1_0 (Int.toNat v5) (af .atype)).fields
  let x11 : List Int := (List.getD v1_0 (Int.toNat v5) (af .atype)).branches
  let x12 : Int := (↑(List.length x10) : Int)
  cond (decide (v6 < x12)) (
   chk ((decide (0 ≤ v5) && decide (v5 < ↑(List.length v1_0)))) (
    let x13 : Int := (List.getD v1_0 (Int.toNat v5) (af .atype)).kind
    let x14 : Bs := (List.getD v1_0 (Int.toNat v5) (af .atype)).name
    let x15 : Bss := (List.getD v1_0 (Int.toNat v5) (af .atype)).aliases
    let x16 : Int := (List.getD v1_0 (Int.toNat v5) (af .atype)).items
    let x17 : Bss := (List.getD v1_0 (Int.toNat v5) (af .atype)).syms
    let x18 : Bool := (List.getD v1_0 (Int.toNat v5) (af .atype)).hasdef
    let x19 : Bs := (List.getD v1_0 (Int.toNat v5) (af .atype)).df
    let x20 : Int := (List.getD v1_0 (Int.toNat v5) (af .atype)).size
    let x21 : List ao := (List.getD v1_0 (Int.toNat v5) (af .atype)).fields
    let x22 : List Int := (List.getD v1_0 (Int.toNat v5) (af .atype)).branches
    chk ((decide (0 ≤ v6) && decide (v6 < ↑(List.length x21)))) (
     let x23 : Bs := (List.getD x21 (Int.toNat v6) (af .afield)).name
     let x24 : Bss := (List.getD x21 (Int.toNat v6) (af .afield)).aliases
     let x25 : Int := (List.getD x21 (Int.toNat v6) (af .afield)).typ
     let x26 : Bool := (List.getD x21 (Int.toNat v6) (af .afield)).hasdef
     let x27 : Int := (List.getD x21 (Int.toNat v6) (af .afield)).df.kind
     let x28 : Int := (List.getD x21 (Int.toNat v6) (af .afield)).df.n
     let x29 : Bs := (List.getD x21 (Int.toNat v6) (af .afield)).df.s
     let x30 : List ae := (List.getD x21 (Int.toNat v6) (af .afield)).df.l
     let x31 : Bss := (List.getD x21 (Int.toNat v6) (af .afield)).df.names
     cond (!x26) (
      let x32 : Int := (IntKind.wrap .i64 (v6 + 1))
      again1 (v1_0, v5, x32)) (
      ai (oN v1_0 x25 x27 x28 x29 x30 x31) (fun r1 =>
       cond (!(r1.2.2.2.2.2 == 0)) (
        some (.tup [.int .i64 r1.2.2.2.2.2, .int .i64 v5, .int .i64 v6], [])) (
        let x33 : Int := (IntKind.wrap .i64 (v6 + 1))
        again1 (v1_0, v5, x33))))))) (
   let x34 : Int := (IntKind.wrap .i64 (v5 + 1))
   again0 (v1_0, x34)))
theorem aqd (N : Nat) (again0 : St → Ro) : ∀ (again1 : St → Ro) (x : lU), pM N again0 again1 (iE x) = lV N (fun y => again0 (bX y)) (fun y => again1 (iE y)) x := by
 intro again1 x
 kernel_rfl
noncomputable def pN (N : Nat) : (St → Ro) → St → Ro := fun again0 s => run cP N mG (pL (run cP N) again0) s
noncomputable def ou (N : Nat) (again0 : eJ → Ro) (q1 : lU → Ro) (x : eJ) : Ro :=
 let v1_0 : List ac := x.1
 let v5 : Int := x.2
 let x1 : Int := (↑(List.length v1_0) : Int)
 cond (decide (v5 < x1)) (
  q1 (v1_0, v5, 0)) (
  some (.tup [.int .i64 0, .int .i64 0, .int .i64 0], []))
noncomputable def pO (N : Nat) (again0 : eJ → Ro) (x : eJ) : Ro := ou N again0 (fun z => aB N (lV N again0) z) x
noncomputable def uU (N : Nat) (again0 : St → Ro) : List (Nat × (St → Ro)) := (aI cP N mG (pL (run cP N) again0) ++ (aI cP N rI (fin nC) ++ []))
theorem aqe (N : Nat) : ∀ (again0 : St → Ro) (x : eJ), pN N again0 (bX x) = pO N (fun y => again0 (bX y)) x := by
 intro again0 x
 have hX : ∀ C : Nat → St → Ro, bI C cP N mG (pL (bI C cP N) again0) (bX x) = ou N (fun y => again0 (bX y)) (fun z => C 1000000 (iE z)) x := by
  intro C
  kernel_rfl
 have h : pN N again0 (bX x) = ou N (fun y => again0 (bX y)) (fun z => aW N (pM N again0) (iE z)) x := (cA (C := ec (uU N again0)) (bL (aL (l := (uU N again0)) (by kernel_rfl))) (t9 (cL (f8 (bL (dz (aL (l := (uU N again0)) (by kernel_rfl)))) rfl))) _).trans ((hX _).trans (by kernel_rfl))
 have e1 : (fun z => aW N (pM N again0) (iE z)) = (fun z => aB N (lV N (fun y => again0 (bX y))) z) := funext fun z => aT (iE) (pM N again0) (lV N (fun y => again0 (bX y))) (aqd N again0) N z
 rw [h, e1]
 rfl
noncomputable def nD (N : Nat) (p0_0 : List ac) (q0 : eJ → Ro) : Ro :=
 q0 (p0_0, 0)
noncomputable def vK (N : Nat) (p0_0 : List ac) : Ro := nD N p0_0 (fun z => aB N (pO N) z)
noncomputable def azq (N : Nat) : List (Nat × (St → Ro)) := aI cP N vJ (fin nC) ++ []
theorem aty (N : Nat) (p0_0 : List ac) : aE cP N 54 nC vJ [.agg [.sl .atype (.may false) p0_0]] [] = vK N p0_0 :=
 (bx (azq N) (by kernel_rfl) rfl (fun C => nD N p0_0 (fun z => C 1000001 (bX z))) (fun C => by kernel_rfl)).trans (Eq.trans (b := nD N p0_0 (fun z => aW N (pN N) (bX z))) (by kernel_rfl) (congrArg (nD N p0_0) (funext fun z => aT (bX) (pN N) (pO N) (aqe N) N z)))
theorem atz (N : Nat) (p0_0 : List ac) (h : Tot (vK N p0_0) (fun z => ∃ (y0 : Int) (y1 : Int) (y2 : Int) (rest : List an), z.1.dimR = .tup [.int .i64 y0, .int .i64 y1, .int .i64 y2] ∧ z.2 = rest)) : ∃ r, oM p0_0 r := by
 obtain ⟨⟨v, hp⟩, hz, y0, y1, y2, rest, e1, e2⟩ := h
 simp only at e1 e2
 subst e2
 exact ⟨(y0, y1, y2), aj.dimR (axd.pure (aty N p0_0) hz) e1⟩
noncomputable def sm : au := tab (P := Try.prog) [] [] [] [aAE]
noncomputable def axe : IR := (.cond (.t 9) .skip (.exit 0))
noncomputable def axf : IR := .ret
noncomputable def axg : IR := (.cond (.t 20) (.seq (.reg [Pp (.mov 2 (.c (.str ([] : Bs)))), Pp (.mov 3 (.c (.bool false)))] []) axf) .skip)
noncomputable def axh : IR := (.reg [Mv 21 4, Mv 22 5, Pp (.cvi 23 .u8 (.t 22)), Pp (.bsl 24 .u8 [(.t 23)] true), Pp (.b2s 25 (.t 24)), Bi 26 .add 21 25, Mv 27 0, Mv 28 6, Pp (.subs 29 (.t 27) (some (.t 28)) none), Mv 4 26, Mv 0 29] [[], [], [1], [1, 2], [1, 2, 3], [0, 1, 2, 3, 4], [], [], [6, 7], [0, 1, 2, 3, 4, 5], [0, 1, 2, 3, 4, 5, 6, 7, 8, 9]])
noncomputable def axi : IR := (.seq (.seq (.reg [Mv 15 6, Bc 16 .eql 15 0, Mv 17 16, Pg (17, false) (.mov 18 (.t 5)), Pg (17, false) (.bin 19 .gtr (.t 18) (.c (.int .u32 255))), Po 20 17 19] []) axg) axh)
noncomputable def axj : IR := (.block 1 (.seq (.reg [Mv 11 0, Pp (.call (some 12) 162 [(.t 11)]), Mv 10 12, Ex_ 13 0 10, Ex_ 14 1 10, Mv 5 13, Mv 6 14] []) axi))
noncomputable def ahG : IR := (.seq (.seq (.reg [Mv 7 0, Pp (.lens 8 (.t 7)), Bc 9 .gtr 8 0] []) axe) axj)
noncomputable def axk : IR := .ret
noncomputable def ahH : IR := (.seq (.reg [Mv 30 4, Mv 2 30, Pp (.mov 3 (.c (.bool true)))] []) axk)
noncomputable def axl : IR := (.seq (.block 0 (.loop [0, 4, 1000000] 0 ahG)) ahH)
noncomputable def atA : IR := (.seq (.reg [Pp (.mov 4 (.c (.str ([] : Bs))))] []) axl)
noncomputable def aa3 : IR := (.seq (.reg [Pp (.mov 2 (.c (.str ([] : Bs)))), Pp (.mov 3 (.c (.bool false)))] []) atA)
noncomputable def uV : List RV := [.t 2, .t 3]
theorem aA5 : FnC Try.prog sm [] 0 anV Try.f147 aa3 uV := fnC (by kernel_rfl) Try.func147 (by kernel_rfl) (by kernel_rfl) (by decide)
noncomputable def azr (R : IR → (Ex → St → Ro) → St → Ro) (again0 : St → Ro) : Ex → St → Ro := (br again0 [0, 4, 1000000] 0 (aD 0 (bo (R ahH) (fin uV))))
abbrev oX : Type := (Bs × Bs)
noncomputable def nE (x : oX) : St := { env := (.str x.1 :: (U 3 (.str x.2 :: (U 26 [])))), hp := [] }
noncomputable def xx (N : Nat) : (St → Ro) → St → Ro := fun again0 s => run sm N ahG (azr (run sm N) again0) s
noncomputable def s0 (N : Nat) (again0 : oX → Ro) (x : oX) : Ro :=
 let v0 : Bs := x.1
 let v4 : Bs := x.2
 let x1 : Int := (↑(List.length v0) : Int)
 cond (decide (0 < x1)) (
  ai (qj v0) (fun r1 =>
   cond (r1.2 == 0) (
    some (.tup [.str ([] : Bs), .bool false], [])) (
    cond (decide (255 < r1.1)) (
     some (.tup [.str ([] : Bs), .bool false], [])) (
     chk (decide (List.length v4 + List.length ([(UInt8.ofNat (Int.toNat (IntKind.wrap .u8 r1.1)))] : Bs) ≤ 9223372036854775807)) (
      let x2 : Bs := (v4 ++ ([(UInt8.ofNat (Int.toNat (IntKind.wrap .u8 r1.1)))] : Bs))
      chk ((decide (0 ≤ r1.2) && decide (r1.2 ≤ (↑(List.length v0) : Int)))) (
       let x3 : Bs := (List.drop (Int.toNat r1.2) (List.take (List.length v0) v0))
       again0 (x3, x2))))))) (
  some (.tup [.str v4, .bool true], []))
theorem axm (N : Nat) : ∀ (again0 : St → Ro) (x : oX), xx N again0 (nE x) = s0 N (fun y => again0 (nE y)) x := by
 intro again0 x
 kernel_rfl
noncomputable def qI (N : Nat) (p0 : Bs) (q0 : oX → Ro) : Ro :=
 q0 (p0, ([] : Bs))
noncomputable def aa4 (N : Nat) (p0 : Bs) : Ro := qI N p0 (fun z => aB N (s0 N) z)
noncomputable def aBT (N : Nat) : List (Nat × (St → Ro)) := aI sm N aa3 (fin uV) ++ []
theorem azs (N : Nat) (p0 : Bs) : aE sm N 31 uV aa3 [.str p0] [] = aa4 N p0 :=
 (bx (aBT N) (by kernel_rfl) rfl (fun C => qI N p0 (fun z => C 1000000 (nE z))) (fun C => by kernel_rfl)).trans (Eq.trans (b := qI N p0 (fun z => aW N (xx N) (nE z))) (by kernel_rfl) (congrArg (qI N p0) (funext fun z => aT (nE) (xx N) (s0 N) (axm N) N z)))
theorem azt (N : Nat) (p0 : Bs) (h : Tot (aa4 N p0) (fun z => ∃ (y0 : Bs) (y1 : Bool) (rest : List an), z.1.dimR = .tup [.str y0, .bool y1] ∧ z.2 = rest)) : ∃ r, rW p0 r := by
 obtain ⟨⟨v, hp⟩, hz, y0, y1, rest, e1, e2⟩ := h
 simp only at e1 e2
 subst e2
 exact ⟨(y0, y1), aj.dimR (aA5.pure (azs N p0) hz) e1⟩
end Go.Proofs.Ytdpajabhmmmjoaa
end
section
namespace Go.Proofs.Ytdpajabhmmmjoaa
open Go.AM
set_option autoImplicit false
set_option linter.unusedVariables false
set_option linter.unusedSimpArgs false
set_option maxRecDepth 100000
theorem aEF (s : List UInt8) (hs : s.length ≤ 1000) : ∃ r, rW s r := by
 apply azt 2000
 unfold aa4 qI
 refine bi (fun x => x.1.length + x.2.length ≤ s.length) (fun x => x.1.length) ?_ _ _ (by simp) (by simp; omega)
 rintro again ⟨a, out⟩ h ih
 dsimp only at h ih
 unfold s0
 dsimp only
 refine ah (fun h1 => ?_) (fun _ => ak ⟨_, _, _, rfl, rfl⟩)
 have h1 := of_decide_eq_true h1
 refine ag (aDr _ (by omega)) ?_
 rintro ⟨c, n⟩ ⟨-, hp⟩
 obtain ⟨p1, p2⟩ := axX a
 rw [← (show (c, n) = dq a from hp)] at p1 p2
 dsimp only at p1 p2 ⊢
 repeat' (first | (with_reducible refine ah ?_ ?_ <;> (intro hb; (try simp only [bnl] at hb); (try revert hb; intro _))) | with_reducible refine aq ?_ ?_ | with_reducible refine ak ?_ | fail)
 all_goals first | exact ⟨_, _, _, rfl, rfl⟩ | (first | (simp only [bnl, lnl]; done) | (simp only [bnl, lnl]; omega)) | skip
 rename_i h2 h3
 have hn : 0 < n := by omega
 refine ih _ ?_ ?_
 ·simp only [List.length_append, List.length_cons, List.length_nil, List.length_drop, List.length_take]; omega
 ·simp only [List.length_append, List.length_cons, List.length_nil, List.length_drop, List.length_take]; omega
def al9 (ts : List ac) (deep : Int) : Prop := ∀ (all t c0 c1 : Int) (c2 : List UInt8) (c3 : List ae) (c4 : List (List UInt8)), 0 ≤ t → t < ts.length → aK (.mk c0 c1 c2 c3 c4) → ∃ r, bJ ts all t c0 c1 c2 c3 c4 deep r
theorem aDu (ts : List ac) (deep : Int) (hd : 1 ≤ deep ∧ deep ≤ 20) (hV : al9 ts (deep + 1)) (all : Int) (k0 : Int) (k1 : List UInt8) (k2 : List (List UInt8)) (k3 : Int) (k4 : List (List UInt8)) (k5 : Bool) (k6 : List UInt8) (k7 : Int) (k8 : List ao) (k9 : List Int)
  (c0 c1 : Int) (c2 : List UInt8) (c3 : List ae) (c4 : List (List UInt8)) (hk : 0 ≤ k3 ∧ k3 < ts.length) (hn : aK (.mk c0 c1 c2 c3 c4)) (hm : k0 ≠ 12 → c4.length = c3.length) : ∃ r, gl ts all k0 k1 k2 k3 k4 k5 k6 k7 k8 k9 c0 c1 c2 c3 c4 deep r := by
 obtain ⟨n1, n2, n3, n4, n5, n6⟩ := hn.kids
 have ed : IntKind.i64.wrap (deep + 1) = deep + 1 := ap (deep + 1) (by omega)
 apply afr 1000
 unfold ny f5
 refine bi (fun x => match x with
  | .inl (dp, v0, v1, v2, v3, v4, v5, v6, v7, v8, v9, d0, d1, d2, l, ks, i, ts', al, p0, p1, p2, p3, p4, q0, q1, q2, q3, q4) => dp = deep ∧ v0 = k0 ∧ v3 = k3 ∧ l = c3 ∧ ks = c4 ∧ 0 ≤ i ∧ i ≤ (c3.length : Int) ∧ ts' = ts ∧ q3 = [] ∧ (q2.length : Int) = i ∧ (k0 ≠ 12 → q2 = [])
  | .inr (dp, v0, v1, v2, v3, v4, v5, v6, v7, v8, v9, d0, d1, d2, l, ks, i, ts', al, p0, p1, p2, p3, p4, q0, q1, q2, q3, q4) => dp = deep ∧ v0 = k0 ∧ v3 = k3 ∧ l = c3 ∧ ks = c4 ∧ 0 ≤ i ∧ i ≤ (c3.length : Int) ∧ ts' = ts ∧ k0 ≠ 12 ∧ q3.length = q2.length ∧ (q2.length : Int) ≤ i)
  (fun x => match x with
  | .inl x => ((c3.length : Int) - x.2.2.2.2.2.2.2.2.2.2.2.2.2.2.2.2.1).toNat
  | .inr x => ((c3.length : Int) - x.2.2.2.2.2.2.2.2.2.2.2.2.2.2.2.2.1).toNat) ?_ _ _
  ⟨rfl, rfl, rfl, rfl, rfl, by simp, by simp, rfl, rfl, rfl, fun _ => rfl⟩ (by simp; omega)
 rintro again (⟨dp, v0, v1, v2, v3, v4, v5, v6, v7, v8, v9, d0, d1, d2, l, ks, i, ts', al, p0, p1, p2, p3, p4, q0, q1, q2, q3, q4⟩ | ⟨dp, v0, v1, v2, v3, v4, v5, v6, v7, v8, v9, d0, d1, d2, l, ks, i, ts', al, p0, p1, p2, p3, p4, q0, q1, q2, q3, q4⟩)
 ·rintro ⟨rfl, rfl, rfl, rfl, rfl, i1, i2, rfl, rfl, i3, i4⟩ ih
  dsimp only at ih
  have ei : i < l.length → IntKind.i64.wrap (i + 1) = i + 1 := fun h => ap (i + 1) (by omega)
  unfold fu
  dsimp only
  rw [ed]
  refine ah (fun h0 => ?_) (fun _ => ak ⟨_, _, _, _, _, _, _, _, _, rfl, rfl, rfl⟩)
  have h := of_decide_eq_true h0
  clear h0
  refine aq (by first | (simp only [bnl, lnl]; done) | (simp only [bnl, lnl]; omega)) ?_
  refine ag (hV _ _ _ _ _ _ _ hk.1 hk.2 (aK.eta.2 (aK.getD n6 i.toNat))) ?_
  rintro ⟨w0, w1, w2, w3, w4, e, ts2, al2⟩ ⟨-, rfl⟩
  dsimp only
  refine ah (fun _ => ak ⟨_, _, _, _, _, _, _, _, _, rfl, rfl, rfl⟩) (fun _ => ah (fun h12 => ?_) (fun h12 => ?_))
  ·simp only [bnl] at h12
   refine aq (by first | (simp only [bnl, lnl]; done) | (simp only [bnl, lnl]; omega)) ?_
   refine ih (.inl (dp, v0, v1, v2, v3, v4, v5, v6, v7, v8, v9, d0, d1, d2, l, ks, _, ts2, al2, p0, p1, p2, p3, p4, q0, q1, _, [], q4)) ?_ ?_
   ·simp only [ei h, List.length_append, List.length_cons, List.length_nil]
    exact ⟨trivial, trivial, trivial, trivial, trivial, by omega, by omega, trivial, trivial, by omega, fun hh => absurd h12 hh⟩
   ·simp only [ei h]; omega
  ·simp only [bnl] at h12
   have hks := hm h12
   have hq := i4 h12
   subst hq
   refine aq (by first | (simp only [bnl, lnl]; done) | (simp only [bnl, lnl]; omega)) ?_
   refine ag (aCg _ _ _ _ _ _ _ _ _ _ _ rfl (by simp)) ?_
   rintro ⟨x0, x1, x2, x3, x4⟩ ⟨-, y1, y2⟩
   dsimp only at y1 y2 ⊢
   refine ih (.inr (dp, v0, v1, v2, v3, v4, v5, v6, v7, v8, v9, d0, d1, d2, l, ks, _, ts2, al2, p0, p1, p2, p3, p4, x0, x1, x2, x3, x4)) ?_ ?_
   ·simp only [ei h]
    simp only [List.length_nil] at y2
    exact ⟨trivial, trivial, trivial, trivial, trivial, by omega, by omega, trivial, h12, y1, by omega⟩
   ·simp only [ei h]; omega
 ·rintro ⟨rfl, rfl, rfl, rfl, rfl, i1, i2, rfl, i3, i4, i5⟩ ih
  dsimp only at ih
  have ei : i < l.length → IntKind.i64.wrap (i + 1) = i + 1 := fun h => ap (i + 1) (by omega)
  have hks := hm i3
  unfold fu
  dsimp only
  rw [ed]
  refine ah (fun h0 => ?_) (fun _ => ak ⟨_, _, _, _, _, _, _, _, _, rfl, rfl, rfl⟩)
  have h := of_decide_eq_true h0
  clear h0
  refine aq (by first | (simp only [bnl, lnl]; done) | (simp only [bnl, lnl]; omega)) ?_
  refine ag (hV _ _ _ _ _ _ _ hk.1 hk.2 (aK.eta.2 (aK.getD n6 i.toNat))) ?_
  rintro ⟨w0, w1, w2, w3, w4, e, ts2, al2⟩ ⟨-, rfl⟩
  dsimp only
  refine ah (fun _ => ak ⟨_, _, _, _, _, _, _, _, _, rfl, rfl, rfl⟩) (fun _ => ah (fun h12 => ?_) (fun h12 => ?_))
  ·simp only [bnl] at h12
   exact absurd h12 i3
  ·refine aq (by first | (simp only [bnl, lnl]; done) | (simp only [bnl, lnl]; omega)) ?_
   refine ag (aCg _ _ _ _ _ _ _ _ _ _ _ i4 (by omega)) ?_
   rintro ⟨x0, x1, x2, x3, x4⟩ ⟨-, y1, y2⟩
   dsimp only at y1 y2 ⊢
   refine ih (.inr (dp, v0, v1, v2, v3, v4, v5, v6, v7, v8, v9, d0, d1, d2, l, ks, _, ts2, al2, p0, p1, p2, p3, p4, x0, x1, x2, x3, x4)) ?_ ?_
   ·simp only [ei h]
    exact ⟨trivial, trivial, trivial, trivial, trivial, by omega, by omega, trivial, i3, y1, by omega⟩
   ·simp only [ei h]; omega
theorem aBU (ts : List ac) (deep : Int) (hd : 1 ≤ deep ∧ deep ≤ 20) (hV : al9 ts (deep + 1)) (all : Int) (k0 : Int) (k1 : List UInt8) (k2 : List (List UInt8)) (k3 : Int) (k4 : List (List UInt8)) (k5 : Bool) (k6 : List UInt8) (k7 : Int) (k8 : List ao) (k9 : List Int)
  (c0 c1 : Int) (c2 : List UInt8) (c3 : List ae) (c4 : List (List UInt8)) (hk : th ts.length k8) (hn : aK (.mk c0 c1 c2 c3 c4)) : ∃ r, fM ts all k0 k1 k2 k3 k4 k5 k6 k7 k8 k9 c0 c1 c2 c3 c4 deep r := by
 obtain ⟨n1, n2, n3, n4, n5, n6⟩ := hn.kids
 obtain ⟨hk1, hk2⟩ := hk
 have ed : IntKind.i64.wrap (deep + 1) = deep + 1 := ap (deep + 1) (by omega)
 apply acM 1000
 unfold mv fv
 refine bi (fun x => match x with
  | (dp, v0, v1, v2, v3, v4, v5, v6, v7, v8, v9, d0, d1, d2, l, ks, i, ts', al, p0, p1, p2, p3, p4, q0, q1, q2, q3, q4) => dp = deep ∧ v8 = k8 ∧ aK (.mk d0 d1 d2 l ks) ∧ 0 ≤ i ∧ i ≤ (k8.length : Int) ∧ ts' = ts ∧ (q2.length : Int) = i)
  (fun x => ((k8.length : Int) - x.2.2.2.2.2.2.2.2.2.2.2.2.2.2.2.2.1).toNat) ?_ _ _
  ⟨rfl, rfl, hn, by simp, by simp, rfl, rfl⟩ (by simp; omega)
 rintro again ⟨dp, v0, v1, v2, v3, v4, v5, v6, v7, v8, v9, d0, d1, d2, l, ks, i, ts', al, p0, p1, p2, p3, p4, q0, q1, q2, q3, q4⟩ ⟨rfl, rfl, hn', i1, i2, rfl, i3⟩ ih
 dsimp only at ih
 have ei : i < v8.length → IntKind.i64.wrap (i + 1) = i + 1 := fun h => ap (i + 1) (by omega)
 obtain ⟨m1, m2, m3, m4, m5, m6⟩ := hn'.kids
 unfold hY
 dsimp only
 rw [ed]
 refine ah (fun h => ?_) (fun _ => ak ⟨_, _, _, _, _, _, _, _, _, rfl, rfl, rfl⟩)
 have h := of_decide_eq_true h
 have hl : i.toNat < v8.length := by omega
 have hf := hk2 v8[i.toNat] (List.getElem_mem hl)
 have hg : v8.getD i.toNat (af .afield) = v8[i.toNat] := nr (List.getElem?_eq_getElem hl)
 refine aq (by first | (simp only [bnl, lnl]; done) | (simp only [bnl, lnl]; omega)) ?_
 refine ag (nd _ _ _ _ _ _ (by omega)) ?_
 rintro r ⟨-, hr⟩
 have hgo := rk (k := d0) (names := ks) (name := (v8.getD i.toNat (af .afield)).name) m6
 simp only [bW] at hr
 rw [← hr] at hgo
 clear hr
 have next : ∀ (al2 : Int) (w : ab), Tot (again (dp, v0, v1, v2, v3, v4, v5, v6, v7, v8, v9, d0, d1, d2, l, ks, IntKind.i64.wrap (i + 1), ts', al2, p0, p1, p2, p3, p4, q0, q1, q2 ++ [w], q3, q4)) _ := fun al2 w => ih (dp, v0, v1, v2, v3, v4, v5, v6, v7, v8, v9, d0, d1, d2, l, ks, IntKind.i64.wrap (i + 1), ts', al2, p0, p1, p2, p3, p4, q0, q1, q2 ++ [w], q3, q4)
  (by
   simp only [ei h, List.length_append, List.length_cons, List.length_nil]
   exact ⟨trivial, trivial, hn', by omega, by omega, trivial, by omega⟩) (by simp only [ei h]; omega)
 refine ah (fun _ => ah (fun _ => ak ⟨_, _, _, _, _, _, _, _, _, rfl, rfl, rfl⟩) (fun _ => ?_)) (fun _ => ?_)
 ·refine ag (hV _ _ _ _ _ _ _ (by rw [hg]; exact hf.1) (by rw [hg]; exact hf.2.1) (by rw [hg]; exact aK.eta.2 hf.2.2)) ?_
  rintro ⟨w0, w1, w2, w3, w4, e, ts2, al2⟩ ⟨-, rfl⟩
  dsimp only
  refine ah (fun _ => ak ⟨_, _, _, _, _, _, _, _, _, rfl, rfl, rfl⟩) (fun _ => ?_)
  refine aq (by first | (simp only [bnl, lnl]; done) | (simp only [bnl, lnl]; omega)) ?_
  exact next _ _
 ·refine ag (hV _ _ _ _ _ _ _ (by rw [hg]; exact hf.1) (by rw [hg]; exact hf.2.1) hgo) ?_
  rintro ⟨w0, w1, w2, w3, w4, e, ts2, al2⟩ ⟨-, rfl⟩
  dsimp only
  refine ah (fun _ => ak ⟨_, _, _, _, _, _, _, _, _, rfl, rfl, rfl⟩) (fun _ => ?_)
  refine aq (by first | (simp only [bnl, lnl]; done) | (simp only [bnl, lnl]; omega)) ?_
  exact next _ _
theorem atB (ts : List ac) (hs : wh ts) (deep : Int) (hd : 1 ≤ deep ∧ deep ≤ 21) (hV : deep ≤ 20 → al9 ts (deep + 1)) : al9 ts deep := by
 intro all t c0 c1 c2 c3 c4 ht ht2 hn
 obtain ⟨n1, n2, n3, n4, n5, n6⟩ := hn.kids
 have ed : IntKind.i64.wrap (deep + 1) = deep + 1 := ap (deep + 1) (by omega)
 apply afw 1000
 unfold nB f7
 dsimp only
 refine ah (fun _ => ak ⟨_, _, _, _, _, _, _, _, _, rfl, rfl, rfl⟩) (fun h20 => ah (fun _ => ak ⟨_, _, _, _, _, _, _, _, _, rfl, rfl, rfl⟩) (fun _ => aq (by first | (simp only [bnl, lnl]; done) | (simp only [bnl, lnl]; omega)) ?_))
 have h20 := of_decide_eq_false h20
 have hV := hV (by omega)
 have hl : t.toNat < ts.length := by omega
 have hT := hs.2 ts[t.toNat] (List.getElem_mem hl)
 rw [nr (List.getElem?_eq_getElem hl)]
 generalize ts[t.toNat] = k at hT
 obtain ⟨k0, k1, k2, k3, k4, k5, k6, k7, k8, k9⟩ := k
 dsimp only
 have three : ∀ (b : List UInt8) (f : Bool) (al : Int) (x0 : Int) (x1 : List UInt8) (x2 : List ab) (x3 : List (List UInt8)) (x4 : Int), Tot (fA 1000 (b, f, ts, al, x0, x1, x2, x3, x4)) (fun z => ∃ (y0 : Int) (y1 : List UInt8) (y2 : List ab) (y3 : List (List UInt8)) (y4 : Int) (y5 : Int) (y6 : List ac) (y7 : Int) (rest : List an), z.1.dimR = .tup [.agg [.int .u64 y0, .str y1, .sl .aval (.may false) y2, .sl .str (.may false) y3, .int .i64 y4], .int .i64 y5] ∧ z.2 = some [.sl .atype (.may false) y6, .int .i64 y7] :: rest ∧ bY ts all t c0 c1 c2 c3 c4 deep (y0, y1, y2, y3, y4, y5, y6, y7)) := by
  intro b f al x0 x1 x2 x3 x4
  unfold fA
  dsimp only
  repeat' (first | (with_reducible refine ah ?_ ?_ <;> (intro hb; (try simp only [bnl] at hb); (try revert hb; intro _))) | with_reducible refine aq ?_ ?_ | with_reducible refine ak ?_ | fail)
  all_goals exact ⟨_, _, _, _, _, _, _, _, _, rfl, rfl, rfl⟩
 have four : ∀ (al : Int) (x0 : Int) (x1 : List UInt8) (x2 : List ab) (x3 : List (List UInt8)) (x4 : Int), Tot (aB 1000 (dF 1000) (c0, c1, c2, c3, c4, k0, k1, k2, k3, k4, k5, k6, k7, k8, k9, 0, ts, al, x0, x1, x2, x3, x4)) (fun z => ∃ (y0 : Int) (y1 : List UInt8) (y2 : List ab) (y3 : List (List UInt8)) (y4 : Int) (y5 : Int) (y6 : List ac) (y7 : Int) (rest : List an), z.1.dimR = .tup [.agg [.int .u64 y0, .str y1, .sl .aval (.may false) y2, .sl .str (.may false) y3, .int .i64 y4], .int .i64 y5] ∧ z.2 = some [.sl .atype (.may false) y6, .int .i64 y7] :: rest ∧ bY ts all t c0 c1 c2 c3 c4 deep (y0, y1, y2, y3, y4, y5, y6, y7)) := by
  intro al x0 x1 x2 x3 x4
  have hns : k4.length ≤ 100 := hT.ns
  refine bi (fun x => match x with
   | (d0, d1, d2, d3, d4, v0, v1, v2, v3, v4, v5, v6, v7, v8, v9, i, ts', al, p0, p1, p2, p3, p4) => v4 = k4 ∧ 0 ≤ i ∧ i ≤ (k4.length : Int) ∧ ts' = ts)
   (fun x => ((k4.length : Int) - x.2.2.2.2.2.2.2.2.2.2.2.2.2.2.2.1).toNat) ?_ _ _ ⟨rfl, by simp, by simp, rfl⟩ (by simp; omega)
  rintro again ⟨d0, d1, d2, d3, d4, v0, v1, v2, v3, v4, v5, v6, v7, v8, v9, i, ts', al, p0, p1, p2, p3, p4⟩ ⟨rfl, i1, i2, rfl⟩ ih
  dsimp only at ih
  unfold dF
  dsimp only
  repeat' (first | (with_reducible refine ah ?_ ?_ <;> (intro hb; (try simp only [bnl] at hb); (try revert hb; intro _))) | with_reducible refine aq ?_ ?_ | with_reducible refine ak ?_ | fail)
  all_goals first | (first | (simp only [bnl, lnl]; done) | (simp only [bnl, lnl]; omega)) | exact ⟨_, _, _, _, _, _, _, _, _, rfl, rfl, rfl⟩ | skip
  have ei : IntKind.i64.wrap (i + 1) = i + 1 := ap (i + 1) (by omega)
  refine ih (d0, d1, d2, d3, d4, v0, v1, v2, v3, v4, v5, v6, v7, v8, v9, _, ts', al, p0, p1, p2, p3, p4) ?_ ?_
  ·simp only [ei]; exact ⟨trivial, by omega, by omega, trivial⟩
  ·simp only [ei]; omega
 have five : ∀ (f : Bool) (al : Int) (x0 : Int) (x1 : List UInt8) (x2 : List ab) (x3 : List (List UInt8)) (x4 : Int), (f = true → k0 = 12 ∨ c0 = 6) → Tot (fC 1000 (deep, c0, c1, c2, c3, c4, k0, k1, k2, k3, k4, k5, k6, k7, k8, k9, f, ts, al, x0, x1, x2, x3, x4)) (fun z => ∃ (y0 : Int) (y1 : List UInt8) (y2 : List ab) (y3 : List (List UInt8)) (y4 : Int) (y5 : Int) (y6 : List ac) (y7 : Int) (rest : List an), z.1.dimR = .tup [.agg [.int .u64 y0, .str y1, .sl .aval (.may false) y2, .sl .str (.may false) y3, .int .i64 y4], .int .i64 y5] ∧ z.2 = some [.sl .atype (.may false) y6, .int .i64 y7] :: rest ∧ bY ts all t c0 c1 c2 c3 c4 deep (y0, y1, y2, y3, y4, y5, y6, y7)) := by
  intro f al x0 x1 x2 x3 x4 hf
  unfold fC
  dsimp only
  rw [ed]
  have un : k0 = 14 → 0 < k9.length ∧ 0 ≤ k9.getD 0 (af (.num .i64)) ∧ k9.getD 0 (af (.num .i64)) < ts.length := by
   intro h
   have hne : k9 ≠ [] := hT.done h
   have hpos : 0 < k9.length := List.length_pos_iff.2 hne
   have := hT.branches k9[0] (List.getElem_mem hpos)
   rw [nr (List.getElem?_eq_getElem hpos)]
   exact ⟨hpos, this⟩
  repeat' (first | (with_reducible refine ah ?_ ?_ <;> (intro hb; (try simp only [bnl] at hb); (try revert hb; intro _))) | with_reducible refine aq ?_ ?_ | with_reducible refine ak ?_ | (refine ag (aDu ts deep (by omega) hV _ _ _ _ _ _ _ _ _ _ _ _ _ _ _ _ hT.items hn ?_) ?_; rotate_left; rintro ⟨w0, w1, w2, w3, w4, e, ts2, al2⟩ ⟨-, rfl⟩; dsimp only) | (refine ag (aBU ts deep (by omega) hV _ _ _ _ _ _ _ _ _ _ _ _ _ _ _ _ ⟨hT.nf, hT.fields⟩ hn) ?_; rintro ⟨w0, w1, w2, w3, w4, e, ts2, al2⟩ ⟨-, rfl⟩; dsimp only) | (refine ag (hV _ _ _ _ _ _ _ (un (by assumption)).2.1 (un (by assumption)).2.2 hn) ?_; rintro ⟨w0, w1, w2, w3, w4, e, ts2, al2⟩ ⟨-, rfl⟩; dsimp only) | fail)
  all_goals first | exact ⟨_, _, _, _, _, _, _, _, _, rfl, rfl, rfl⟩ | (have := (un (by assumption)).1; first | (simp only [bnl, lnl]; done) | (simp only [bnl, lnl]; omega)) | skip
  ·rename_i h
   intro h12
   rcases hf h with h' | h'
   ·exact absurd h' h12
   ·exact n5 h'
 have two : ∀ (f : Bool) (al : Int) (x0 : Int) (x1 : List UInt8) (x2 : List ab) (x3 : List (List UInt8)) (x4 : Int), Tot (fD 1000 (deep, c0, c1, c2, c3, c4, k0, k1, k2, k3, k4, k5, k6, k7, k8, k9, f, ts, al, x0, x1, x2, x3, x4)) (fun z => ∃ (y0 : Int) (y1 : List UInt8) (y2 : List ab) (y3 : List (List UInt8)) (y4 : Int) (y5 : Int) (y6 : List ac) (y7 : Int) (rest : List an), z.1.dimR = .tup [.agg [.int .u64 y0, .str y1, .sl .aval (.may false) y2, .sl .str (.may false) y3, .int .i64 y4], .int .i64 y5] ∧ z.2 = some [.sl .atype (.may false) y6, .int .i64 y7] :: rest ∧ bY ts all t c0 c1 c2 c3 c4 deep (y0, y1, y2, y3, y4, y5, y6, y7)) := by
  intro f al x0 x1 x2 x3 x4
  unfold fD ic
  dsimp only
  repeat' (first | (with_reducible refine ah ?_ ?_ <;> (intro hb; (try simp only [bnl] at hb); (try revert hb; intro _))) | with_reducible refine aq ?_ ?_ | with_reducible refine ak ?_ | (refine ag (aEF _ (by omega)) ?_; intro _ _) | fail)
  all_goals first | exact three _ _ _ _ _ _ _ _ | exact four _ _ _ _ _ _ | (refine five _ _ _ _ _ _ _ ?_) | skip
  all_goals (intro hh; first | exact .inl (by assumption) | (simp at hh; done) | (right; simp at hh; exact hh))
 have one : ∀ (f g : Bool) (al : Int) (x0 : Int) (x1 : List UInt8) (x2 : List ab) (x3 : List (List UInt8)) (x4 : Int), Tot (fE 1000 (deep, c0, c1, c2, c3, c4, k0, k1, k2, k3, k4, k5, k6, k7, k8, k9, f, g, ts, al, x0, x1, x2, x3, x4)) (fun z => ∃ (y0 : Int) (y1 : List UInt8) (y2 : List ab) (y3 : List (List UInt8)) (y4 : Int) (y5 : Int) (y6 : List ac) (y7 : Int) (rest : List an), z.1.dimR = .tup [.agg [.int .u64 y0, .str y1, .sl .aval (.may false) y2, .sl .str (.may false) y3, .int .i64 y4], .int .i64 y5] ∧ z.2 = some [.sl .atype (.may false) y6, .int .i64 y7] :: rest ∧ bY ts all t c0 c1 c2 c3 c4 deep (y0, y1, y2, y3, y4, y5, y6, y7)) := by
  intro f g al x0 x1 x2 x3 x4
  unfold fE ie
  dsimp only
  repeat' (first | (with_reducible refine ah ?_ ?_ <;> (intro hb; (try simp only [bnl] at hb); (try revert hb; intro _))) | with_reducible refine aq ?_ ?_ | with_reducible refine ak ?_ | (refine ag (aDp _) ?_; intro _ _) | (refine ag (aCO _) ?_; intro _ _) | fail)
  all_goals first | exact two _ _ _ _ _ _ _ | exact ⟨_, _, _, _, _, _, _, _, _, rfl, rfl, rfl⟩
 have zero : ∀ (f g : Bool) (al : Int) (x0 : Int) (x1 : List UInt8) (x2 : List ab) (x3 : List (List UInt8)) (x4 : Int), Tot (jk 1000 (deep, c0, c1, c2, c3, c4, k0, k1, k2, k3, k4, k5, k6, k7, k8, k9, f, g, ts, al, x0, x1, x2, x3, x4)) (fun z => ∃ (y0 : Int) (y1 : List UInt8) (y2 : List ab) (y3 : List (List UInt8)) (y4 : Int) (y5 : Int) (y6 : List ac) (y7 : Int) (rest : List an), z.1.dimR = .tup [.agg [.int .u64 y0, .str y1, .sl .aval (.may false) y2, .sl .str (.may false) y3, .int .i64 y4], .int .i64 y5] ∧ z.2 = some [.sl .atype (.may false) y6, .int .i64 y7] :: rest ∧ bY ts all t c0 c1 c2 c3 c4 deep (y0, y1, y2, y3, y4, y5, y6, y7)) := by
  intro f g al x0 x1 x2 x3 x4
  unfold jk ig
  dsimp only
  repeat' (first | (with_reducible refine ah ?_ ?_ <;> (intro hb; (try simp only [bnl] at hb); (try revert hb; intro _))) | with_reducible refine aq ?_ ?_ | with_reducible refine ak ?_ | fail)
  all_goals exact one _ _ _ _ _ _ _ _
 repeat' (first | (with_reducible refine ah ?_ ?_ <;> (intro hb; (try simp only [bnl] at hb); (try revert hb; intro _))) | with_reducible refine aq ?_ ?_ | with_reducible refine ak ?_ | fail)
 all_goals first | exact zero _ _ _ _ _ _ _ _ | exact ⟨_, _, _, _, _, _, _, _, _, rfl, rfl, rfl⟩
theorem ax2 (ts : List ac) (hs : wh ts) : ∀ (n : Nat) (deep : Int), deep + n = 21 → 1 ≤ deep → al9 ts deep
 | 0, deep, h, h1 => atB ts hs deep (by omega) (fun h' => by omega)
 | n + 1, deep, h, h1 => atB ts hs deep (by omega) (fun _ => ax2 ts hs n (deep + 1) (by omega) (by omega))
theorem aDv (ts : List ac) (hs : wh ts) (t c0 c1 : Int) (c2 : List UInt8) (c3 : List ae) (c4 : List (List UInt8)) (ht : 0 ≤ t ∧ t < ts.length) (hn : aK (.mk c0 c1 c2 c3 c4)) : ∃ r, oN ts t c0 c1 c2 c3 c4 r := by
 apply atw 1
 unfold vI ahF
 refine ag (aDm _ _) ?_
 intro b _
 refine ah (fun _ => ak ⟨_, _, _, _, _, _, _, rfl, rfl⟩) (fun _ => ?_)
 refine ag (ax2 ts hs 20 1 (by omega) (by omega) _ _ _ _ _ _ _ ht.1 ht.2 hn) ?_
 rintro r _
 repeat' (first | (with_reducible refine ah ?_ ?_ <;> (intro hb; (try simp only [bnl] at hb); (try revert hb; intro _))) | with_reducible refine aq ?_ ?_ | with_reducible refine ak ?_ | fail)
 all_goals exact ⟨_, _, _, _, _, _, _, rfl, rfl⟩
theorem aDw (ts : List ac) (hs : wh ts) : ∃ r, oM ts r := by
 have h60 := hs.1
 apply atz 1000
 unfold vK nD
 refine bi (fun x => match x with | (ts', i) => ts' = ts ∧ 0 ≤ i ∧ i ≤ (ts.length : Int)) (fun x => ((ts.length : Int) - x.2).toNat) ?_ _ _ ⟨rfl, by simp, by simp⟩ (by simp; omega)
 rintro again ⟨ts', i⟩ ⟨rfl, i1, i2⟩ ih
 dsimp only at i1 i2 ih
 have ei : i < ts'.length → IntKind.i64.wrap (i + 1) = i + 1 := fun h => ap (i + 1) (by omega)
 unfold pO ou
 dsimp only
 refine ah (fun h => ?_) (fun _ => ak ⟨_, _, _, _, rfl, rfl⟩)
 have h := of_decide_eq_true h
 have hl : i.toNat < ts'.length := by omega
 have hT := hs.2 ts'[i.toNat] (List.getElem_mem hl)
 have hg : ts'.getD i.toNat (af .atype) = ts'[i.toNat] := nr (List.getElem?_eq_getElem hl)
 generalize hk : ts'[i.toNat] = k at hT hg
 have hnf := hT.nf
 refine bi (fun x => match x with | (ts2, i', j) => ts2 = ts' ∧ i' = i ∧ 0 ≤ j ∧ j ≤ (k.fields.length : Int)) (fun x => ((k.fields.length : Int) - x.2.2).toNat) ?_ _ _ ⟨rfl, rfl, by simp, by simp⟩ (by simp; omega)
 rintro again1 ⟨ts2, i', j⟩ ⟨rfl, rfl, j1, j2⟩ ih1
 dsimp only at j1 j2 ih1
 have ej : j < k.fields.length → IntKind.i64.wrap (j + 1) = j + 1 := fun h => ap (j + 1) (by omega)
 have next : j < k.fields.length → Tot (again1 (ts2, i', IntKind.i64.wrap (j + 1))) _ := fun hj => ih1 (ts2, i', IntKind.i64.wrap (j + 1)) (by simp only [ej hj]; exact ⟨trivial, trivial, by omega, by omega⟩) (by simp only [ej hj]; omega)
 unfold lV
 dsimp only
 rw [hg]
 refine aq (by first | (simp only [bnl, lnl]; done) | (simp only [bnl, lnl]; omega)) (ah (fun hj => ?_) (fun hj => ?_))
 ·have hj := of_decide_eq_true hj
  have hjl : j.toNat < k.fields.length := by omega
  have hf := hT.fields k.fields[j.toNat] (List.getElem_mem hjl)
  refine aq (by first | (simp only [bnl, lnl]; done) | (simp only [bnl, lnl]; omega)) (aq (by first | (simp only [bnl, lnl]; done) | (simp only [bnl, lnl]; omega)) ?_)
  rw [nr (List.getElem?_eq_getElem hjl)]
  refine ah (fun _ => next hj) (fun _ => ?_)
  refine ag (aDv ts2 hs _ _ _ _ _ _ ⟨hf.1, hf.2.1⟩ (aK.eta.2 hf.2.2)) ?_
  intro r _
  exact ah (fun _ => ak ⟨_, _, _, _, rfl, rfl⟩) (fun _ => next hj)
 ·exact ih (ts2, _) (by simp only [ei h]; exact ⟨trivial, by omega, by omega⟩) (by simp only [ei h]; omega)
theorem aEb (a : List UInt8) (n : Int) (hp : nU a n) : ∃ r, kd a n r := by
 apply akq 1
 unfold qD wP
 refine ag (aCS a n hp) ?_
 rintro ⟨t0, t1, t2, t3, t4, a', n'⟩ ⟨-, h1, rfl, h3⟩
 dsimp only at h1 h3 ⊢
 refine ag (aEa _ _ _ _ _ h1) ?_
 rintro ⟨ts, e⟩ ⟨-, hs⟩
 dsimp only [uB] at hs ⊢
 refine ah (fun _ => ak ⟨_, _, _, _, _, rfl, rfl, (fun h => by cases h), rfl, h3⟩) (fun he => ?_)
 simp only [bnl] at he
 refine ag (aDw ts (hs he)) ?_
 intro r _
 exact ak ⟨_, _, _, _, _, rfl, rfl, fun _ => hs he, rfl, h3⟩
end Go.Proofs.Ytdpajabhmmmjoaa
end
section
namespace Go.Proofs.Ytdpajabhmmmjoaa
open Go.AM
set_option autoImplicit false
set_option linter.unusedVariables false
set_option maxRecDepth 100000
noncomputable def lf : au := tab (P := Try.prog) [] [] [] [asj, alt, ayz]
noncomputable def atC : IR := .ret
noncomputable def atD : IR := (.cond (.t 15) (.seq (.reg [Pp (.mov 6 (.c (.bool false)))] []) atC) .skip)
noncomputable def atE : IR := (.cond (.t 46) .skip (.reg [Bc 48 .eql 22 6, Mv 46 48] []))
noncomputable def atF : IR := (.cond (.t 70) (.reg [Fa 72 1 5, Ld 73 1 false 72, Pp (.lens 74 (.t 73)), Fa 75 7 7, Ld 76 1 false 75, Bi 77 .eql 74 76, Pp (.mov 9 (.c (.bool true))), Mv 11 77] [[], [0], [0, 1], [], [3], [0, 1, 2, 3, 4], [], [0, 1, 2, 3, 4, 5, 6]]) (.reg [Ld 23 1 true 3, Ld 24 10 true 7, Ld 25 5 true 5, Pp (.call (some 26) 47 [(.t 23), (.t 24), (.t 25)]), Pp (.mov 10 (.c (.bool true))), Mv 11 26] []))
noncomputable def atG : IR := (.cond (.t 65) (.reg [Fa 67 1 5, Ld 68 1 false 67, Pp (.call (some 69) 46 [(.t 68)]), Pp (.mov 9 (.c (.bool true))), Mv 11 69] []) (.seq (.reg [Bc 71 .eql 22 11, Mv 70 71] []) atF))
noncomputable def atH : IR := (.cond (.t 63) (.reg [Pp (.mov 9 (.c (.bool true)))] []) (.seq (.reg [Bc 66 .eql 22 8, Mv 65 66] []) atG))
noncomputable def atI : IR := (.cond (.t 54) (.reg [Fa 56 0 5, Ld 57 1 false 56, Fa 58 4 7, Ld 59 1 false 58, Pp (.lenl 60 (.t 59)), Pp (.cvi 61 .u64 (.t 60)), Bi 62 .lss 57 61, Pp (.mov 8 (.c (.bool true))), Mv 11 62] [[], [0], [], [2], [2, 3], [2, 3, 4], [0, 1, 2, 3, 4, 5], [], [0, 1, 2, 3, 4, 5, 6, 7]]) (.seq (.reg [Bc 64 .eql 22 7, Mv 63 64] []) atH))
noncomputable def atJ : IR := (.cond (.t 49) (.reg [Fa 51 0 5, Ld 52 1 false 51, Pp (.bin 53 .lss (.t 52) (.c (.int .u64 4294967296))), Pp (.mov 8 (.c (.bool true))), Mv 11 53] [[], [0], [0, 1], [], [0, 1, 2, 3]]) (.seq (.reg [Bc 55 .eql 22 10, Mv 54 55] []) atI))
noncomputable def atK : IR := (.cond (.t 46) (.reg [Pp (.mov 8 (.c (.bool true)))] []) (.seq (.reg [Bc 50 .eql 22 5, Mv 49 50] []) atJ))
noncomputable def atL : IR := (.cond (.t 34) (.reg [Fa 36 0 5, Ld 37 1 false 36, Pp (.cvi 38 .i64 (.t 37)), Pp (.bin 39 .geq (.t 38) (.c (.int .i64 (-2147483648)))), Mv 40 39, Pg (40, true) (.fad 41 0 (.t 5)), Pg (40, true) (.lde 42 1 false (.t 41)), Pg (40, true) (.cvi 43 .i64 (.t 42)), Pg (40, true) (.bin 44 .lss (.t 43) (.c (.int .i64 2147483648))), Pa 45 40 44, Pp (.mov 8 (.c (.bool true))), Mv 11 45] [[], [0], [0, 1], [0, 1, 2], [0, 1, 2, 3], [0, 1, 2, 3, 4], [0, 1, 2, 3, 4, 5], [0, 1, 2, 3, 4, 5, 6], [0, 1, 2, 3, 4, 5, 6, 7], [0, 1, 2, 3, 4, 5, 6, 7, 8], [0, 1, 2, 3, 4], [0, 1, 2, 3, 4, 5, 6, 7, 8, 9, 10]]) (.seq (.seq (.reg [Bc 47 .eql 22 4, Mv 46 47] []) atE) atK))
noncomputable def aqf : IR := (.cond (.t 29) (.reg [Fa 31 0 5, Ld 32 1 false 31, Pp (.bin 33 .leq (.t 32) (.c (.int .u64 1))), Pp (.mov 8 (.c (.bool true))), Mv 11 33] [[], [0], [0, 1], [], [0, 1, 2, 3]]) (.seq (.reg [Bc 35 .eql 22 3, Mv 34 35] []) atL))
noncomputable def aqg : IR := (.cond (.t 27) .skip (.seq (.reg [Bc 30 .eql 22 2, Mv 29 30] []) aqf))
noncomputable def aqh : IR := (.block 0 (.seq (.reg [Bc 28 .eql 22 1, Mv 27 28] []) aqg))
noncomputable def aqi : IR := .ret
noncomputable def aqj : IR := (.cond (.t 96) (.seq (.reg [Pp (.mov 6 (.c (.bool false)))] []) aqi) .skip)
noncomputable def aqk : IR := .ret
noncomputable def aa5 : IR := (.seq (.reg [Mv 97 11, Mv 98 97, Pg (98, true) (.mov 99 (.t 8)), Pg (98, true) (.mov 100 (.t 99)), Pg (100, false) (.fad 101 0 (.t 5)), Pg (100, false) (.lde 102 1 false (.t 101)), Pg (100, false) (.bin 103 .eql (.t 102) (.c (.int .u64 0))), Pg (98, true) (.pick 104 (.t 100) (.c (.bool true)) (.t 103)), Pa 105 98 104, Mv 106 105, Pg (106, true) (.mov 107 (.t 9)), Pg (106, true) (.mov 108 (.t 107)), Pg (108, false) (.fad 109 1 (.t 5)), Pg (108, false) (.lde 110 1 false (.t 109)), Pg (108, false) (.bin 111 .eql (.t 110) (.c (.str ([] : Bs)))), Pg (106, true) (.pick 112 (.t 108) (.c (.bool true)) (.t 111)), Pa 113 106 112, Mv 114 113, Pg (114, true) (.mov 115 (.t 10)), Pg (114, true) (.mov 116 (.t 115)), Pg (116, false) (.fad 117 2 (.t 5)), Pg (116, false) (.lde 118 1 false (.t 117)), Pg (116, false) (.lenl 119 (.t 118)), Pg (116, false) (.bin 120 .eql (.t 119) (.c (.int .i64 0))), Pg (114, true) (.pick 121 (.t 116) (.c (.bool true)) (.t 120)), Pa 122 114 121, Mv 6 122] []) aqk)
noncomputable def aql : IR := (.cut [5, 8, 9, 10, 11, 1000000] 0 aa5)
noncomputable def ov : IR := (.seq (.seq (.reg [Fa 78 0 7, Ld 79 1 false 78, Bc 80 .neq 79 13, Mv 81 80, Pg (81, true) (.fad 82 3 (.t 5)), Pg (81, true) (.lde 83 1 false (.t 82)), Pg (81, true) (.lenl 84 (.t 83)), Pg (81, true) (.bin 85 .gtr (.t 84) (.c (.int .i64 0))), Pa 86 81 85, Mv 87 86, Pg (87, false) (.fad 88 0 (.t 7)), Pg (87, false) (.lde 89 1 false (.t 88)), Pg (87, false) (.bin 90 .neq (.t 89) (.c (.int .i64 14))), Pg (87, false) (.mov 91 (.t 90)), Pg (91, true) (.fad 92 4 (.t 5)), Pg (91, true) (.lde 93 1 false (.t 92)), Pg (91, true) (.bin 94 .neq (.t 93) (.c (.int .i64 0))), Pg (87, false) (.pick 95 (.t 91) (.t 94) (.c (.bool false))), Po 96 87 95] []) aqj) aql)
noncomputable def aqm : IR := (.cut [5, 7, 8, 9, 10, 11, 1000001] 0 ov)
noncomputable def aqn : IR := (.seq (.seq (.reg [Fa 21 0 7, Ld 22 1 false 21] []) aqh) aqm)
noncomputable def aqo : IR := (.seq (.reg [Pp (.mov 11 (.c (.bool true)))] []) aqn)
noncomputable def aqp : IR := (.seq (.reg [Pp (.mov 8 (.c (.bool false))), Pp (.mov 9 (.c (.bool false))), Pp (.mov 10 (.c (.bool false)))] []) aqo)
noncomputable def aqq : IR := (.seq (.reg [Fa 16 0 3, Ld 17 1 false 16, Mv 18 1, Pp (.ixa 19 .atype (.t 17) (.t 18)), Ld 20 10 true 19, Pp (.alr 7 10), Pp (.frz none 7 10 (.t 20))] []) aqp)
noncomputable def aqr : IR := (.seq (.seq (.reg [Ld 12 1 true 3, Mv 13 1, Pp (.call (some 14) 45 [(.t 12), (.t 13)]), Pp (.un 15 .not (.t 14))] []) atD) aqq)
noncomputable def xy : IR := (.seq (.reg [Pp (.boxe 3 (.t 0)), Pp (.boxe 5 (.t 2)), Pp (.mov 6 (.c (.bool false)))] []) aqr)
noncomputable def j8 : List RV := [.t 6]
theorem azu : FnC Try.prog lf [] 0 alj Try.f18 xy j8 := fnC (by kernel_rfl) Try.func18 (by kernel_rfl) (by kernel_rfl) (by decide)
abbrev nF : Type := (Int × Bs × List ab × Bss × Int × Int × Bs × Bss × Int × Bss × Bool × Bs × Int × List ao × List Int × Bool × Bool × Bool × Bool)
noncomputable def lW (x : nF) : St := { env := (U 5 (.ea [.int .u64 x.1, .str x.2.1, .sl .aval (.may false) x.2.2.1, .sl .str (.may false) x.2.2.2.1, .int .i64 x.2.2.2.2.1] :: .undef :: .ea [.int .i64 x.2.2.2.2.2.1, .str x.2.2.2.2.2.2.1, .sl .str (.may false) x.2.2.2.2.2.2.2.1, .int .i64 x.2.2.2.2.2.2.2.2.1, .sl .str (.may false) x.2.2.2.2.2.2.2.2.2.1, .bool x.2.2.2.2.2.2.2.2.2.2.1, .str x.2.2.2.2.2.2.2.2.2.2.2.1, .int .i64 x.2.2.2.2.2.2.2.2.2.2.2.2.1, .sl .afield (.may false) x.2.2.2.2.2.2.2.2.2.2.2.2.2.1, .sl (.num .i64) (.may false) x.2.2.2.2.2.2.2.2.2.2.2.2.2.2.1] :: .bool x.2.2.2.2.2.2.2.2.2.2.2.2.2.2.2.1 :: .bool x.2.2.2.2.2.2.2.2.2.2.2.2.2.2.2.2.1 :: .bool x.2.2.2.2.2.2.2.2.2.2.2.2.2.2.2.2.2.1 :: .bool x.2.2.2.2.2.2.2.2.2.2.2.2.2.2.2.2.2.2 :: (U 111 []))), hp := [] }
abbrev rm : Type := (Int × Bs × List ab × Bss × Int × Bool × Bool × Bool × Bool)
noncomputable def pP (x : rm) : St := { env := (U 5 (.ea [.int .u64 x.1, .str x.2.1, .sl .aval (.may false) x.2.2.1, .sl .str (.may false) x.2.2.2.1, .int .i64 x.2.2.2.2.1] :: .undef :: .undef :: .bool x.2.2.2.2.2.1 :: .bool x.2.2.2.2.2.2.1 :: .bool x.2.2.2.2.2.2.2.1 :: .bool x.2.2.2.2.2.2.2.2 :: (U 111 []))), hp := [] }
noncomputable def vL (N : Nat) : St → Ro := fun s => run lf N aa5 (fin j8) s
noncomputable def nG (N : Nat) (x : rm) : Ro :=
 let v5_0 : Int := x.1
 let v5_1 : Bs := x.2.1
 let v5_2 : List ab := x.2.2.1
 let v5_3 : Bss := x.2.2.2.1
 let v5_4 : Int := x.2.2.2.2.1
 let v8 : Bool := x.2.2.2.2.2.1
 let v9 : Bool := x.2.2.2.2.2.2.1
 let v10 : Bool := x.2.2.2.2.2.2.2.1
 let v11 : Bool := x.2.2.2.2.2.2.2.2
 cond v11 (
  cond v8 (
   cond v9 (
    cond v10 (
     some (.bool true, [])) (
     let x12 : Int := (↑(List.length v5_2) : Int)
     some (.bool (x12 == 0), []))) (
    let x13 : Bool := decide (v5_1 = ([] : Bs))
    cond x13 (
     cond v10 (
      some (.bool true, [])) (
      let x14 : Int := (↑(List.length v5_2) : Int)
      some (.bool (x14 == 0), []))) (
     some (.bool false, [])))) (
   cond (v5_0 == 0) (
    cond v9 (
     cond v10 (
      some (.bool true, [])) (
      let x15 : Int := (↑(List.length v5_2) : Int)
      some (.bool (x15 == 0), []))) (
     let x16 : Bool := decide (v5_1 = ([] : Bs))
     cond x16 (
      cond v10 (
       some (.bool true, [])) (
       let x17 : Int := (↑(List.length v5_2) : Int)
       some (.bool (x17 == 0), []))) (
      some (.bool false, [])))) (
    some (.bool false, [])))) (
  some (.bool false, []))
theorem atM (N : Nat) : ∀ (x : rm), vL N (pP x) = nG N x := by
 intro x
 kernel_rfl
noncomputable def vM (N : Nat) : St → Ro := fun s => run lf N ov (fin j8) s
noncomputable def pQ (N : Nat) (q1 : rm → Ro) (x : nF) : Ro :=
 let v5_0 : Int := x.1
 let v5_1 : Bs := x.2.1
 let v5_2 : List ab := x.2.2.1
 let v5_3 : Bss := x.2.2.2.1
 let v5_4 : Int := x.2.2.2.2.1
 let v7_0 : Int := x.2.2.2.2.2.1
 let v7_1 : Bs := x.2.2.2.2.2.2.1
 let v7_2 : Bss := x.2.2.2.2.2.2.2.1
 let v7_3 : Int := x.2.2.2.2.2.2.2.2.1
 let v7_4 : Bss := x.2.2.2.2.2.2.2.2.2.1
 let v7_5 : Bool := x.2.2.2.2.2.2.2.2.2.2.1
 let v7_6 : Bs := x.2.2.2.2.2.2.2.2.2.2.2.1
 let v7_7 : Int := x.2.2.2.2.2.2.2.2.2.2.2.2.1
 let v7_8 : List ao := x.2.2.2.2.2.2.2.2.2.2.2.2.2.1
 let v7_9 : List Int := x.2.2.2.2.2.2.2.2.2.2.2.2.2.2.1
 let v8 : Bool := x.2.2.2.2.2.2.2.2.2.2.2.2.2.2.2.1
 let v9 : Bool := x.2.2.2.2.2.2.2.2.2.2.2.2.2.2.2.2.1
 let v10 : Bool := x.2.2.2.2.2.2.2.2.2.2.2.2.2.2.2.2.2.1
 let v11 : Bool := x.2.2.2.2.2.2.2.2.2.2.2.2.2.2.2.2.2.2
 cond (!(v7_0 == 13)) (
  let x11 : Int := (↑(List.length v5_3) : Int)
  cond (decide (0 < x11)) (
   some (.bool false, [])) (
   cond (!(v7_0 == 14)) (
    cond (!(v5_4 == 0)) (
     some (.bool false, [])) (
     q1 (v5_0, v5_1, v5_2, v5_3, v5_4, v8, v9, v10, v11))) (
    q1 (v5_0, v5_1, v5_2, v5_3, v5_4, v8, v9, v10, v11)))) (
  cond (!(v7_0 == 14)) (
   cond (!(v5_4 == 0)) (
    some (.bool false, [])) (
    q1 (v5_0, v5_1, v5_2, v5_3, v5_4, v8, v9, v10, v11))) (
   q1 (v5_0, v5_1, v5_2, v5_3, v5_4, v8, v9, v10, v11)))
noncomputable def nH (N : Nat) (x : nF) : Ro := pQ N (fun z => nG N z) x
noncomputable def ahI (N : Nat) : List (Nat × (St → Ro)) := (aI lf N ov (fin j8) ++ [])
theorem atN (N : Nat) : ∀ (x : nF), vM N (lW x) = nH N x := by
 intro x
 have hX : ∀ C : Nat → St → Ro, bI C lf N ov (fin j8) (lW x) = pQ N (fun z => C 1000000 (pP z)) x := by
  intro C
  kernel_rfl
 have h : vM N (lW x) = pQ N (fun z => vL N (pP z)) x := (cA (C := ec (ahI N)) (bL (aL (l := (ahI N)) (by kernel_rfl))) rfl _).trans ((hX _).trans (by kernel_rfl))
 have e1 : (fun z => vL N (pP z)) = (fun z => nG N z) := funext fun z => atM N z
 rw [h, e1]
 rfl
noncomputable def oY (N : Nat) (p0_0 : List ac) (p1 : Int) (p2_0 : Int) (p2_1 : Bs) (p2_2 : List ab) (p2_3 : Bss) (p2_4 : Int) (q0 : nF → Ro) : Ro :=
 ai (rg p0_0 p1) (fun (r1 : Bool) =>
  cond (!r1) (
   some (.bool false, [])) (
   chk ((decide (0 ≤ p1) && decide (p1 < ↑(List.length p0_0)))) (
    let x1 : Int := (List.getD p0_0 (Int.toNat p1) (af .atype)).kind
    let x2 : Bs := (List.getD p0_0 (Int.toNat p1) (af .atype)).name
    let x3 : Bss := (List.getD p0_0 (Int.toNat p1) (af .atype)).aliases
    let x4 : Int := (List.getD p0_0 (Int.toNat p1) (af .atype)).items
    let x5 : Bss := (List.getD p0_0 (Int.toNat p1) (af .atype)).syms
    let x6 : Bool := (List.getD p0_0 (Int.toNat p1) (af .atype)).hasdef
    let x7 : Bs := (List.getD p0_0 (Int.toNat p1) (af .atype)).df
    let x8 : Int := (List.getD p0_0 (Int.toNat p1) (af .atype)).size
    let x9 : List ao := (List.getD p0_0 (Int.toNat p1) (af .atype)).fields
    let x10 : List Int := (List.getD p0_0 (Int.toNat p1) (af .atype)).branches
    cond (x1 == 1) (
     q0 (p2_0, p2_1, p2_2, p2_3, p2_4, x1, x2, x3, x4, x5, x6, x7, x8, x9, x10, false, false, false, true)) (
     cond (x1 == 2) (
      q0 (p2_0, p2_1, p2_2, p2_3, p2_4, x1, x2, x3, x4, x5, x6, x7, x8, x9, x10, true, false, false, decide (p2_0 ≤ 1))) (
      cond (x1 == 3) (
       let x18 : Bool := decide ((-2147483648) ≤ (IntKind.wrap .i64 p2_0))
       cond x18 (
        let x19 : Bool := decide ((IntKind.wrap .i64 p2_0) < 2147483648)
        q0 (p2_0, p2_1, p2_2, p2_3, p2_4, x1, x2, x3, x4, x5, x6, x7, x8, x9, x10, true, false, false, (cond true x19 false))) (
        q0 (p2_0, p2_1, p2_2, p2_3, p2_4, x1, x2, x3, x4, x5, x6, x7, x8, x9, x10, true, false, false, false))) (
       cond (x1 == 4) (
        cond (x1 == 4) (
         q0 (p2_0, p2_1, p2_2, p2_3, p2_4, x1, x2, x3, x4, x5, x6, x7, x8, x9, x10, true, false, false, true)) (
         cond (x1 == 5) (
          let x20 : Bool := decide (p2_0 < 4294967296)
          q0 (p2_0, p2_1, p2_2, p2_3, p2_4, x1, x2, x3, x4, x5, x6, x7, x8, x9, x10, true, false, false, x20)) (
          cond (x1 == 10) (
           let x21 : Int := (↑(List.length x5) : Int)
           let x22 : Bool := decide (p2_0 < (IntKind.wrap .u64 x21))
           q0 (p2_0, p2_1, p2_2, p2_3, p2_4, x1, x2, x3, x4, x5, x6, x7, x8, x9, x10, true, false, false, x22)) (
           cond (x1 == 7) (
            q0 (p2_0, p2_1, p2_2, p2_3, p2_4, x1, x2, x3, x4, x5, x6, x7, x8, x9, x10, false, true, false, true)) (
            cond (x1 == 8) (
             ai (kV p2_1) (fun (r2 : Bool) =>
              q0 (p2_0, p2_1, p2_2, p2_3, p2_4, x1, x2, x3, x4, x5, x6, x7, x8, x9, x10, false, true, false, r2))) (
             cond (x1 == 11) (
              let x23 : Int := (↑(List.length p2_1) : Int)
              q0 (p2_0, p2_1, p2_2, p2_3, p2_4, x1, x2, x3, x4, x5, x6, x7, x8, x9, x10, false, true, false, (x23 == x8))) (
              ai (lC p0_0 x1 x2 x3 x4 x5 x6 x7 x8 x9 x10 p2_0 p2_1 p2_2 p2_3 p2_4) (fun (r3 : Bool) =>
               q0 (p2_0, p2_1, p2_2, p2_3, p2_4, x1, x2, x3, x4, x5, x6, x7, x8, x9, x10, false, false, true, r3))))))))) (
        cond (x1 == 6) (
         q0 (p2_0, p2_1, p2_2, p2_3, p2_4, x1, x2, x3, x4, x5, x6, x7, x8, x9, x10, true, false, false, true)) (
         cond (x1 == 5) (
          let x24 : Bool := decide (p2_0 < 4294967296)
          q0 (p2_0, p2_1, p2_2, p2_3, p2_4, x1, x2, x3, x4, x5, x6, x7, x8, x9, x10, true, false, false, x24)) (
          cond (x1 == 10) (
           let x25 : Int := (↑(List.length x5) : Int)
           let x26 : Bool := decide (p2_0 < (IntKind.wrap .u64 x25))
           q0 (p2_0, p2_1, p2_2, p2_3, p2_4, x1, x2, x3, x4, x5, x6, x7, x8, x9, x10, true, false, false, x26)) (
           cond (x1 == 7) (
            q0 (p2_0, p2_1, p2_2, p2_3, p2_4, x1, x2, x3, x4, x5, x6, x7, x8, x9, x10, false, true, false, true)) (
            cond (x1 == 8) (
             ai (kV p2_1) (fun (r4 : Bool) =>
              q0 (p2_0, p2_1, p2_2, p2_3, p2_4, x1, x2, x3, x4, x5, x6, x7, x8, x9, x10, false, true, false, r4))) (
             cond (x1 == 11) (
              let x27 : Int := (↑(List.length p2_1) : Int)
              q0 (p2_0, p2_1, p2_2, p2_3, p2_4, x1, x2, x3, x4, x5, x6, x7, x8, x9, x10, false, true, false, (x27 == x8))) (
              ai (lC p0_0 x1 x2 x3 x4 x5 x6 x7 x8 x9 x10 p2_0 p2_1 p2_2 p2_3 p2_4) (fun (r5 : Bool) =>
               q0 (p2_0, p2_1, p2_2, p2_3, p2_4, x1, x2, x3, x4, x5, x6, x7, x8, x9, x10, false, false, true, r5)))))))))))))))
noncomputable def xz (N : Nat) (p0_0 : List ac) (p1 : Int) (p2_0 : Int) (p2_1 : Bs) (p2_2 : List ab) (p2_3 : Bss) (p2_4 : Int) : Ro := oY N p0_0 p1 p2_0 p2_1 p2_2 p2_3 p2_4 (fun z => nH N z)
noncomputable def aA6 (N : Nat) : List (Nat × (St → Ro)) := aI lf N xy (fin j8) ++ []
theorem axn (N : Nat) (p0_0 : List ac) (p1 : Int) (p2_0 : Int) (p2_1 : Bs) (p2_2 : List ab) (p2_3 : Bss) (p2_4 : Int) : aE lf N 123 j8 xy [.agg [.sl .atype (.may false) p0_0], .int .i64 p1, .agg [.int .u64 p2_0, .str p2_1, .sl .aval (.may false) p2_2, .sl .str (.may false) p2_3, .int .i64 p2_4]] [] = xz N p0_0 p1 p2_0 p2_1 p2_2 p2_3 p2_4 :=
 (bx (aA6 N) (by kernel_rfl) rfl (fun C => oY N p0_0 p1 p2_0 p2_1 p2_2 p2_3 p2_4 (fun z => C 1000001 (lW z))) (fun C => by kernel_rfl)).trans (Eq.trans (b := oY N p0_0 p1 p2_0 p2_1 p2_2 p2_3 p2_4 (fun z => vM N (lW z))) (by kernel_rfl) (congrArg (oY N p0_0 p1 p2_0 p2_1 p2_2 p2_3 p2_4) (funext fun z => atN N z)))
theorem axo (N : Nat) (p0_0 : List ac) (p1 : Int) (p2_0 : Int) (p2_1 : Bs) (p2_2 : List ab) (p2_3 : Bss) (p2_4 : Int) (h : Tot (xz N p0_0 p1 p2_0 p2_1 p2_2 p2_3 p2_4) (fun z => ∃ (y0 : Bool) (rest : List an), z.1.dimR = .bool y0 ∧ z.2 = rest ∧ pE p0_0 p1 p2_0 p2_1 p2_2 p2_3 p2_4 (y0))) : ∃ r, dw p0_0 p1 p2_0 p2_1 p2_2 p2_3 p2_4 r := by
 obtain ⟨⟨v, hp⟩, hz, y0, rest, e1, e2, hq⟩ := h
 simp only at e1 e2
 subst e2
 exact ⟨(y0), aj.dimR (azu.pure (axn N p0_0 p1 p2_0 p2_1 p2_2 p2_3 p2_4) hz) e1, hq⟩
noncomputable def ch : au := tab (P := Try.prog) [] [] [] [alp, alt]
noncomputable def aqs : IR := .ret
noncomputable def aqt : IR := (.cond (.t 20) (.seq (.reg [Pp (.mov 6 (.c (.bool false)))] []) aqs) .skip)
noncomputable def aqu : IR := .ret
noncomputable def aqv : IR := (.cond (.t 29) (.seq (.reg [Pp (.mov 6 (.c (.bool false)))] []) aqu) .skip)
noncomputable def aqw : IR := (.cond (.t 34) .skip (.exit 1))
noncomputable def aqx : IR := .ret
noncomputable def aqy : IR := (.cond (.t 61) (.seq (.reg [Pp (.mov 6 (.c (.bool false)))] []) aqx) .skip)
noncomputable def aqz : IR := (.reg [Mv 35 7, Bc 36 .add 35 1, Mv 7 36] [])
noncomputable def aqA : IR := (.seq (.block 2 (.seq (.reg [Fa 37 3 5, Ld 38 1 false 37, Mv 39 7, Pp (.ixa 40 .str (.t 38) (.t 39)), Ld 41 1 false 40, Pp (.call (some 42) 46 [(.t 41)]), Pp (.un 43 .not (.t 42)), Mv 44 43, Pg (44, false) (.mov 45 (.t 7)), Pg (44, false) (.bin 46 .gtr (.t 45) (.c (.int .i64 0))), Pg (44, false) (.mov 47 (.t 46)), Pg (47, true) (.fad 48 3 (.t 5)), Pg (47, true) (.lde 49 1 false (.t 48)), Pg (47, true) (.mov 50 (.t 7)), Pg (47, true) (.ixa 51 .str (.t 49) (.t 50)), Pg (47, true) (.lde 52 1 false (.t 51)), Pg (47, true) (.fad 53 3 (.t 5)), Pg (47, true) (.lde 54 1 false (.t 53)), Pg (47, true) (.mov 55 (.t 7)), Pg (47, true) (.bin 56 .sub (.t 55) (.c (.int .i64 1))), Pg (47, true) (.ixa 57 .str (.t 54) (.t 56)), Pg (47, true) (.lde 58 1 false (.t 57)), Pg (47, true) (.bin 59 .leq (.t 52) (.t 58)), Pg (44, false) (.pick 60 (.t 47) (.t 59) (.c (.bool false))), Po 61 44 60] [[], [0], [], [0, 1, 2], [0, 1, 2, 3], [0, 1, 2, 3, 4], [0, 1, 2, 3, 4, 5], [0, 1, 2, 3, 4, 5, 6], [0, 1, 2, 3, 4, 5, 6, 7], [0, 1, 2, 3, 4, 5, 6, 7, 8], [0, 1, 2, 3, 4, 5, 6, 7, 8, 9], [0, 1, 2, 3, 4, 5, 6, 7, 8, 9, 10], [0, 1, 2, 3, 4, 5, 6, 7, 8, 9, 10, 11], [0, 1, 2, 3, 4, 5, 6, 7, 8, 9, 10], [0, 1, 2, 3, 4, 5, 6, 7, 8, 9, 10, 11, 12, 13], [0, 1, 2, 3, 4, 5, 6, 7, 8, 9, 10, 11, 12, 13, 14], [0, 1, 2, 3, 4, 5, 6, 7, 8, 9, 10], [0, 1, 2, 3, 4, 5, 6, 7, 8, 9, 10, 16], [0, 1, 2, 3, 4, 5, 6, 7, 8, 9, 10], [0, 1, 2, 3, 4, 5, 6, 7, 8, 9, 10, 18], [0, 1, 2, 3, 4, 5, 6, 7, 8, 9, 10, 16, 17, 18, 19], [0, 1, 2, 3, 4, 5, 6, 7, 8, 9, 10, 16, 17, 18, 19, 20], [0, 1, 2, 3, 4, 5, 6, 7, 8, 9, 10, 11, 12, 13, 14, 15, 16, 17, 18, 19, 20, 21], [0, 1, 2, 3, 4, 5, 6, 7, 8, 9, 10, 11, 12, 13, 14, 15, 16, 17, 18, 19, 20, 21, 22], [0, 1, 2, 3, 4, 5, 6, 7, 8, 9, 10, 11, 12, 13, 14, 15, 16, 17, 18, 19, 20, 21, 22, 23]]) aqy)) aqz)
noncomputable def oz : IR := (.seq (.seq (.reg [Mv 30 7, Fa 31 3 5, Ld 32 1 false 31, Pp (.lenl 33 (.t 32)), Bi 34 .lss 30 33] []) aqw) aqA)
noncomputable def anb : IR := (.block 1 (.loop [3, 4, 5, 7, 1000000] 0 oz))
noncomputable def anc : IR := (.seq (.reg [Pp (.mov 7 (.c (.int .i64 0)))] []) anb)
noncomputable def ane : IR := .ret
noncomputable def anf : IR := (.cond (.t 62) (.seq (.reg [Fa 64 4 5, Ld 65 1 false 64, Bc 66 .geq 65 0, Mv 67 66, Pg (67, true) (.fad 68 4 (.t 5)), Pg (67, true) (.lde 69 1 false (.t 68)), Pg (67, true) (.fad 70 9 (.t 4)), Pg (67, true) (.lde 71 1 false (.t 70)), Pg (67, true) (.lenl 72 (.t 71)), Pg (67, true) (.bin 73 .lss (.t 69) (.t 72)), Pa 74 67 73, Mv 75 74, Pg (75, true) (.fad 76 2 (.t 5)), Pg (75, true) (.lde 77 1 false (.t 76)), Pg (75, true) (.lenl 78 (.t 77)), Pg (75, true) (.bin 79 .eql (.t 78) (.c (.int .i64 1))), Pa 80 75 79, Mv 81 80, Pg (81, true) (.lde 82 1 true (.t 3)), Pg (81, true) (.fad 83 9 (.t 4)), Pg (81, true) (.lde 84 1 false (.t 83)), Pg (81, true) (.fad 85 4 (.t 5)), Pg (81, true) (.lde 86 1 false (.t 85)), Pg (81, true) (.ixa 87 (.num .i64) (.t 84) (.t 86)), Pg (81, true) (.lde 88 1 false (.t 87)), Pg (81, true) (.fad 89 2 (.t 5)), Pg (81, true) (.lde 90 1 false (.t 89)), Pg (81, true) (.ixa 91 .aval (.t 90) (.c (.int .i64 0))), Pg (81, true) (.lde 92 5 true (.t 91)), Pg (81, true) (.call (some 93) 18 [(.t 82), (.t 88), (.t 92)]), Pa 94 81 93, Mv 6 94] [[], [0], [0, 1], [0, 1, 2], [0, 1, 2, 3], [0, 1, 2, 3, 4], [0, 1, 2, 3], [0, 1, 2, 3, 6], [0, 1, 2, 3, 6, 7], [0, 1, 2, 3, 4, 5, 6, 7, 8], [0, 1, 2, 3, 4, 5, 6, 7, 8, 9], [0, 1, 2, 3, 4, 5, 6, 7, 8, 9, 10], [0, 1, 2, 3, 4, 5, 6, 7, 8, 9, 10, 11], [0, 1, 2, 3, 4, 5, 6, 7, 8, 9, 10, 11, 12], [0, 1, 2, 3, 4, 5, 6, 7, 8, 9, 10, 11, 12, 13], [0, 1, 2, 3, 4, 5, 6, 7, 8, 9, 10, 11, 12, 13, 14], [0, 1, 2, 3, 4, 5, 6, 7, 8, 9, 10, 11, 12, 13, 14, 15], [0, 1, 2, 3, 4, 5, 6, 7, 8, 9, 10, 11, 12, 13, 14, 15, 16], [0, 1, 2, 3, 4, 5, 6, 7, 8, 9, 10, 11, 12, 13, 14, 15, 16, 17], [0, 1, 2, 3, 4, 5, 6, 7, 8, 9, 10, 11, 12, 13, 14, 15, 16, 17], [0, 1, 2, 3, 4, 5, 6, 7, 8, 9, 10, 11, 12, 13, 14, 15, 16, 17, 19], [0, 1, 2, 3, 4, 5, 6, 7, 8, 9, 10, 11, 12, 13, 14, 15, 16, 17], [0, 1, 2, 3, 4, 5, 6, 7, 8, 9, 10, 11, 12, 13, 14, 15, 16, 17, 21], [0, 1, 2, 3, 4, 5, 6, 7, 8, 9, 10, 11, 12, 13, 14, 15, 16, 17, 19, 20, 21, 22], [0, 1, 2, 3, 4, 5, 6, 7, 8, 9, 10, 11, 12, 13, 14, 15, 16, 17, 19, 20, 21, 22, 23], [0, 1, 2, 3, 4, 5, 6, 7, 8, 9, 10, 11, 12, 13, 14, 15, 16, 17], [0, 1, 2, 3, 4, 5, 6, 7, 8, 9, 10, 11, 12, 13, 14, 15, 16, 17, 25], [0, 1, 2, 3, 4, 5, 6, 7, 8, 9, 10, 11, 12, 13, 14, 15, 16, 17, 25, 26], [0, 1, 2, 3, 4, 5, 6, 7, 8, 9, 10, 11, 12, 13, 14, 15, 16, 17, 25, 26, 27], [0, 1, 2, 3, 4, 5, 6, 7, 8, 9, 10, 11, 12, 13, 14, 15, 16, 17, 18, 19, 20, 21, 22, 23, 24, 25, 26, 27, 28], [0, 1, 2, 3, 4, 5, 6, 7, 8, 9, 10, 11, 12, 13, 14, 15, 16, 17, 18, 19, 20, 21, 22, 23, 24, 25, 26, 27, 28, 29], [0, 1, 2, 3, 4, 5, 6, 7, 8, 9, 10, 11, 12, 13, 14, 15, 16, 17, 18, 19, 20, 21, 22, 23, 24, 25, 26, 27, 28, 29, 30]]) ane) .skip)
noncomputable def ang : IR := (.cond (.t 21) (.seq (.seq (.reg [Fa 23 2 5, Ld 24 1 false 23, Pp (.lenl 25 (.t 24)), Fa 26 3 5, Ld 27 1 false 26, Pp (.lenl 28 (.t 27)), Bi 29 .neq 25 28] []) aqv) anc) (.seq (.reg [Bc 63 .eql 11 14, Mv 62 63] []) anf))
noncomputable def anh : IR := (.cond (.t 12) (.seq (.reg [Fa 14 2 5, Ld 15 1 false 14, Pp (.lenl 16 (.t 15)), Fa 17 8 4, Ld 18 1 false 17, Pp (.lenl 19 (.t 18)), Bi 20 .neq 16 19] []) aqt) (.seq (.reg [Bc 22 .eql 11 13, Mv 21 22] []) ang))
noncomputable def ani : IR := (.block 0 (.seq (.reg [Bc 13 .eql 11 9, Mv 12 13] []) anh))
noncomputable def anj : IR := (.cond (.t 99) .skip (.exit 3))
noncomputable def ank : IR := (.cond (.t 106) (.reg [Fa 107 8 4, Ld 108 1 false 107, Mv 109 8, Pp (.ixa 110 .afield (.t 108) (.t 109)), Fa 111 2 110, Pp (.ld 112 1 false false (.t 111)), Mv 9 112] []) .skip)
noncomputable def anl : IR := .ret
noncomputable def anm : IR := (.cond (.t 121) (.seq (.reg [Pp (.mov 6 (.c (.bool false)))] []) anl) .skip)
noncomputable def ann : IR := (.seq (.reg [Ld 113 1 true 3, Mv 114 9, Fa 115 2 5, Ld 116 1 false 115, Mv 117 8, Pp (.ixa 118 .aval (.t 116) (.t 117)), Ld 119 5 true 118, Pp (.call (some 120) 18 [(.t 113), (.t 114), (.t 119)]), Pp (.un 121 .not (.t 120))] [[], [], [], [2], [], [2, 3, 4], [2, 3, 4, 5], [0, 1, 2, 3, 4, 5, 6], [0, 1, 2, 3, 4, 5, 6, 7]]) anm)
noncomputable def ano : IR := (.seq (.seq (.reg [Fa 104 0 4, Ld 105 1 false 104, Bc 106 .eql 105 9] []) ank) ann)
noncomputable def anp : IR := (.reg [Mv 100 8, Bc 101 .add 100 1, Mv 8 101] [])
noncomputable def anq : IR := (.seq (.block 4 (.seq (.reg [Fa 102 3 4, Ld 103 1 false 102, Mv 9 103] []) ano)) anp)
noncomputable def rJ : IR := (.seq (.seq (.reg [Mv 95 8, Fa 96 2 5, Ld 97 1 false 96, Pp (.lenl 98 (.t 97)), Bi 99 .lss 95 98] []) anj) anq)
noncomputable def anr : IR := (.block 3 (.loop [3, 4, 5, 8, 1000001] 0 rJ))
noncomputable def ans : IR := .ret
noncomputable def rK : IR := (.seq (.reg [Pp (.mov 6 (.c (.bool true)))] []) ans)
noncomputable def rL : IR := (.seq (.seq (.reg [Pp (.mov 8 (.c (.int .i64 0)))] []) anr) rK)
noncomputable def ant : IR := (.seq (.seq (.reg [Fa 10 0 4, Ld 11 1 false 10] []) ani) rL)
noncomputable def vN : IR := (.seq (.reg [Pp (.boxe 3 (.t 0)), Pp (.boxe 4 (.t 1)), Pp (.boxe 5 (.t 2)), Pp (.mov 6 (.c (.bool false)))] []) ant)
noncomputable def iG : List RV := [.t 6]
theorem axp : FnC Try.prog ch [] 0 ajl Try.f47 vN iG := fnC (by kernel_rfl) Try.func47 (by kernel_rfl) (by kernel_rfl) (by decide)
noncomputable def atO (R : IR → (Ex → St → Ro) → St → Ro) (again0 : St → Ro) : Ex → St → Ro := (br again0 [3, 4, 5, 8, 1000001] 0 (aD 3 (bo (R rK) (fin iG))))
abbrev lX : Type := (List ac × Int × Bs × Bss × Int × Bss × Bool × Bs × Int × List ao × List Int × Int × Bs × List ab × Bss × Int × Int)
noncomputable def lg (x : lX) : St := { env := (U 3 (.ea [.sl .atype (.may false) x.1] :: .ea [.int .i64 x.2.1, .str x.2.2.1, .sl .str (.may false) x.2.2.2.1, .int .i64 x.2.2.2.2.1, .sl .str (.may false) x.2.2.2.2.2.1, .bool x.2.2.2.2.2.2.1, .str x.2.2.2.2.2.2.2.1, .int .i64 x.2.2.2.2.2.2.2.2.1, .sl .afield (.may false) x.2.2.2.2.2.2.2.2.2.1, .sl (.num .i64) (.may false) x.2.2.2.2.2.2.2.2.2.2.1] :: .ea [.int .u64 x.2.2.2.2.2.2.2.2.2.2.2.1, .str x.2.2.2.2.2.2.2.2.2.2.2.2.1, .sl .aval (.may false) x.2.2.2.2.2.2.2.2.2.2.2.2.2.1, .sl .str (.may false) x.2.2.2.2.2.2.2.2.2.2.2.2.2.2.1, .int .i64 x.2.2.2.2.2.2.2.2.2.2.2.2.2.2.2.1] :: .undef :: .undef :: .int .i64 x.2.2.2.2.2.2.2.2.2.2.2.2.2.2.2.2 :: (U 113 []))), hp := [] }
noncomputable def uW (N : Nat) : (St → Ro) → St → Ro := fun again0 s => run ch N rJ (atO (run ch N) again0) s
noncomputable def jN (N : Nat) (again0 : lX → Ro) (x : lX) : Ro :=
 let v3_0 : List ac := x.1
 let v4_0 : Int := x.2.1
 let v4_1 : Bs := x.2.2.1
 let v4_2 : Bss := x.2.2.2.1
 let v4_3 : Int := x.2.2.2.2.1
 let v4_4 : Bss := x.2.2.2.2.2.1
 let v4_5 : Bool := x.2.2.2.2.2.2.1
 let v4_6 : Bs := x.2.2.2.2.2.2.2.1
 let v4_7 : Int := x.2.2.2.2.2.2.2.2.1
 let v4_8 : List ao := x.2.2.2.2.2.2.2.2.2.1
 let v4_9 : List Int := x.2.2.2.2.2.2.2.2.2.2.1
 let v5_0 : Int := x.2.2.2.2.2.2.2.2.2.2.2.1
 let v5_1 : Bs := x.2.2.2.2.2.2.2.2.2.2.2.2.1
 let v5_2 : List ab := x.2.2.2.2.2.2.2.2.2.2.2.2.2.1
 let v5_3 : Bss := x.2.2.2.2.2.2.2.2.2.2.2.2.2.2.1
 let v5_4 : Int := x.2.2.2.2.2.2.2.2.2.2.2.2.2.2.2.1
 let v8 : Int := x.2.2.2.2.2.2.2.2.2.2.2.2.2.2.2.2
 let x3 : Int := (↑(List.length v5_2) : Int)
 cond (decide (v8 < x3)) (
  cond (v4_0 == 9) (
   chk ((decide (0 ≤ v8) && decide (v8 < ↑(List.length v4_8)))) (
    let x4 : Bs := (List.getD v4_8 (Int.toNat v8) (af .afield)).name
    let x5 : Bss := (List.getD v4_8 (Int.toNat v8) (af .afield)).aliases
    let x6 : Int := (List.getD v4_8 (Int.toNat v8) (af .afield)).typ
    let x7 : Bool := (List.getD v4_8 (Int.toNat v8) (af .afield)).hasdef
    let x8 : Int := (List.getD v4_8 (Int.toNat v8) (af .afield)).df.kind
    let x9 : Int := (List.getD v4_8 (Int.toNat v8) (af .afield)).df.n
    let x10 : Bs := (List.getD v4_8 (Int.toNat v8) (af .afield)).df.s
    let x11 : List ae := (List.getD v4_8 (Int.toNat v8) (af .afield)).df.l
    let x12 : Bss := (List.getD v4_8 (Int.toNat v8) (af .afield)).df.names
    chk ((decide (0 ≤ v8) && decide (v8 < ↑(List.length v5_2)))) (
     let x13 : Int := (List.getD v5_2 (Int.toNat v8) (af .aval)).n
     let x14 : Bs := (List.getD v5_2 (Int.toNat v8) (af .aval)).s
     let x15 : List ab := (List.getD v5_2 (Int.toNat v8) (af .aval)).l
     let x16 : Bss := (List.getD v5_2 (Int.toNat v8) (af .aval)).keys
     let x17 : Int := (List.getD v5_2 (Int.toNat v8) (af .aval)).branch
     ai (dw v3_0 x6 x13 x14 x15 x16 x17) (fun (r1 : Bool) =>
      cond (!r1) (
       some (.bool false, [])) (
       let x18 : Int := (IntKind.wrap .i64 (v8 + 1))
       again0 (v3_0, v4_0, v4_1, v4_2, v4_3, v4_4, v4_5, v4_6, v4_7, v4_8, v4_9, v5_0, v5_1, v5_2, v5_3, v5_4, x18)))))) (
   chk ((decide (0 ≤ v8) && decide (v8 < ↑(List.length v5_2)))) (
    let x19 : Int := (List.getD v5_2 (Int.toNat v8) (af .aval)).n
    let x20 : Bs := (List.getD v5_2 (Int.toNat v8) (af .aval)).s
    let x21 : List ab := (List.getD v5_2 (Int.toNat v8) (af .aval)).l
    let x22 : Bss := (List.getD v5_2 (Int.toNat v8) (af .aval)).keys
    let x23 : Int := (List.getD v5_2 (Int.toNat v8) (af .aval)).branch
    ai (dw v3_0 v4_3 x19 x20 x21 x22 x23) (fun (r2 : Bool) =>
     cond (!r2) (
      some (.bool false, [])) (
      let x24 : Int := (IntKind.wrap .i64 (v8 + 1))
      again0 (v3_0, v4_0, v4_1, v4_2, v4_3, v4_4, v4_5, v4_6, v4_7, v4_8, v4_9, v5_0, v5_1, v5_2, v5_3, v5_4, x24)))))) (
  some (.bool true, []))
theorem aqB (N : Nat) : ∀ (again0 : St → Ro) (x : lX), uW N again0 (lg x) = jN N (fun y => again0 (lg y)) x := by
 intro again0 x
 kernel_rfl
noncomputable def uX (R : IR → (Ex → St → Ro) → St → Ro) (again1 : St → Ro) : Ex → St → Ro := (br again1 [3, 4, 5, 7, 1000000] 0 (aD 1 (aD 0 (bo (R rL) (fin iG)))))
abbrev gQ : Type := (List ac × Int × Bs × Bss × Int × Bss × Bool × Bs × Int × List ao × List Int × Int × Bs × List ab × Bss × Int × Int)
noncomputable def dj (x : gQ) : St := { env := (U 3 (.ea [.sl .atype (.may false) x.1] :: .ea [.int .i64 x.2.1, .str x.2.2.1, .sl .str (.may false) x.2.2.2.1, .int .i64 x.2.2.2.2.1, .sl .str (.may false) x.2.2.2.2.2.1, .bool x.2.2.2.2.2.2.1, .str x.2.2.2.2.2.2.2.1, .int .i64 x.2.2.2.2.2.2.2.2.1, .sl .afield (.may false) x.2.2.2.2.2.2.2.2.2.1, .sl (.num .i64) (.may false) x.2.2.2.2.2.2.2.2.2.2.1] :: .ea [.int .u64 x.2.2.2.2.2.2.2.2.2.2.2.1, .str x.2.2.2.2.2.2.2.2.2.2.2.2.1, .sl .aval (.may false) x.2.2.2.2.2.2.2.2.2.2.2.2.2.1, .sl .str (.may false) x.2.2.2.2.2.2.2.2.2.2.2.2.2.2.1, .int .i64 x.2.2.2.2.2.2.2.2.2.2.2.2.2.2.2.1] :: .undef :: .int .i64 x.2.2.2.2.2.2.2.2.2.2.2.2.2.2.2.2 :: (U 114 []))), hp := [] }
noncomputable def atP (R : IR → (Ex → St → Ro) → St → Ro) (again2 : St → Ro) : Ex → St → Ro := (br again2 [3, 4, 5, 8, 1000001] 0 (aD 3 (bo (R rK) (fin iG))))
abbrev lY : Type := (List ac × Int × Bs × Bss × Int × Bss × Bool × Bs × Int × List ao × List Int × Int × Bs × List ab × Bss × Int × Int)
noncomputable def iH (x : lY) : St := { env := (U 3 (.ea [.sl .atype (.may false) x.1] :: .ea [.int .i64 x.2.1, .str x.2.2.1, .sl .str (.may false) x.2.2.2.1, .int .i64 x.2.2.2.2.1, .sl .str (.may false) x.2.2.2.2.2.1, .bool x.2.2.2.2.2.2.1, .str x.2.2.2.2.2.2.2.1, .int .i64 x.2.2.2.2.2.2.2.2.1, .sl .afield (.may false) x.2.2.2.2.2.2.2.2.2.1, .sl (.num .i64) (.may false) x.2.2.2.2.2.2.2.2.2.2.1] :: .ea [.int .u64 x.2.2.2.2.2.2.2.2.2.2.2.1, .str x.2.2.2.2.2.2.2.2.2.2.2.2.1, .sl .aval (.may false) x.2.2.2.2.2.2.2.2.2.2.2.2.2.1, .sl .str (.may false) x.2.2.2.2.2.2.2.2.2.2.2.2.2.2.1, .int .i64 x.2.2.2.2.2.2.2.2.2.2.2.2.2.2.2.1] :: .undef :: .undef :: .int .i64 x.2.2.2.2.2.2.2.2.2.2.2.2.2.2.2.2 :: (U 113 []))), hp := [] }
noncomputable def pR (N : Nat) : (St → Ro) → St → Ro := fun again2 s => run ch N rJ (atP (run ch N) again2) s
noncomputable def lZ (N : Nat) (again2 : lY → Ro) (x : lY) : Ro :=
 let v3_0 : List ac := x.1
 let v4_0 : Int := x.2.1
 let v4_1 : Bs := x.2.2.1
 let v4_2 : Bss := x.2.2.2.1
 let v4_3 : Int := x.2.2.2.2.1
 let v4_4 : Bss := x.2.2.2.2.2.1
 let v4_5 : Bool := x.2.2.2.2.2.2.1
 let v4_6 : Bs := x.2.2.2.2.2.2.2.1
 let v4_7 : Int := x.2.2.2.2.2.2.2.2.1
 let v4_8 : List ao := x.2.2.2.2.2.2.2.2.2.1
 let v4_9 : List Int := x.2.2.2.2.2.2.2.2.2.2.1
 let v5_0 : Int := x.2.2.2.2.2.2.2.2.2.2.2.1
 let v5_1 : Bs := x.2.2.2.2.2.2.2.2.2.2.2.2.1
 let v5_2 : List ab := x.2.2.2.2.2.2.2.2.2.2.2.2.2.1
 let v5_3 : Bss := x.2.2.2.2.2.2.2.2.2.2.2.2.2.2.1
 let v5_4 : Int := x.2.2.2.2.2.2.2.2.2.2.2.2.2.2.2.1
 let v8 : Int := x.2.2.2.2.2.2.2.2.2.2.2.2.2.2.2.2
 let x35 : Int := (↑(List.length v5_2) : Int)
 cond (decide (v8 < x35)) (
  cond (v4_0 == 9) (
   chk ((decide (0 ≤ v8) && decide (v8 < ↑(List.length v4_8)))) (
    let x36 : Bs := (List.getD v4_8 (Int.toNat v8) (af .afield)).name
    let x37 : Bss := (List.getD v4_8 (Int.toNat v8) (af .afield)).aliases
    let x38 : Int := (List.getD v4_8 (Int.toNat v8) (af .afield)).typ
    let x39 : Bool := (List.getD v4_8 (Int.toNat v8) (af .afield)).hasdef
    let x40 : Int := (List.getD v4_8 (Int.toNat v8) (af .afield)).df.kind
    let x41 : Int := (List.getD v4_8 (Int.toNat v8) (af .afield)).df.n
    let x42 : Bs := (List.getD v4_8 (Int.toNat v8) (af .afield)).df.s
    let x43 : List ae := (List.getD v4_8 (Int.toNat v8) (af .afield)).df.l
    let x44 : Bss := (List.getD v4_8 (Int.toNat v8) (af .afield)).df.names
    chk ((decide (0 ≤ v8) && decide (v8 < ↑(List.length v5_2)))) (
     let x45 : Int := (List.getD v5_2 (Int.toNat v8) (af .aval)).n
     let x46 : Bs := (List.getD v5_2 (Int.toNat v8) (af .aval)).s
     let x47 : List ab := (List.getD v5_2 (Int.toNat v8) (af .aval)).l
     let x48 : Bss := (List.getD v5_2 (Int.toNat v8) (af .aval)).keys
     let x49 : Int := (List.getD v5_2 (Int.toNat v8) (af .aval)).branch
     ai (dw v3_0 x38 x45 x46 x47 x48 x49) (fun (r4 : Bool) =>
      cond (!r4) (
       some (.bool false, [])) (
       let x50 : Int := (IntKind.wrap .i64 (v8 + 1))
       again2 (v3_0, v4_0, v4_1, v4_2, v4_3, v4_4, v4_5, v4_6, v4_7, v4_8, v4_9, v5_0, v5_1, v5_2, v5_3, v5_4, x50)))))) (
   chk ((decide (0 ≤ v8) && decide (v8 < ↑(List.length v5_2)))) (
    let x51 : Int := (List.getD v5_2 (Int.toNat v8) (af .aval)).n
    let x52 : Bs := (List.getD v5_2 (Int.toNat v8) (af .aval)).s
    let x53 : List ab := (List.getD v5_2 (Int.toNat v8) (af .aval)).l
    let x54 : Bss := (List.getD v5_2 (Int.toNat v8) (af .aval)).keys
    let x55 : Int := (List.getD v5_2 (Int.toNat v8) (af .aval)).branch
    ai (dw v3_0 v4_3 x51 x52 x53 x54 x55) (fun (r5 : Bool) =>
     cond (!r5) (
      some (.bool false, [])) (
      let x56 : Int := (IntKind.wrap .i64 (v8 + 1))
      again2 (v3_0, v4_0, v4_1, v4_2, v4_3, v4_4, v4_5, v4_6, v4_7, v4_8, v4_9, v5_0, v5_1, v5_2, v5_3, v5_4, x56)))))) (
  some (.bool true, []))
theorem aqC (N : Nat) : ∀ (again2 : St → Ro) (x : lY), pR N again2 (iH x) = lZ N (fun y => again2 (iH y)) x := by
 intro again2 x
 kernel_rfl
noncomputable def pS (N : Nat) : (St → Ro) → St → Ro := fun again1 s => run ch N oz (uX (run ch N) again1) s
noncomputable def oA (N : Nat) (again1 : gQ → Ro) (q2 : lY → Ro) (x : gQ) : Ro :=
 let v3_0 : List ac := x.1
 let v4_0 : Int := x.2.1
 let v4_1 : Bs := x.2.2.1
 let v4_2 : Bss := x.2.2.2.1
 let v4_3 : Int := x.2.2.2.2.1
 let v4_4 : Bss := x.2.2.2.2.2.1
 let v4_5 : Bool := x.2.2.2.2.2.2.1
 let v4_6 : Bs := x.2.2.2.2.2.2.2.1
 let v4_7 : Int := x.2.2.2.2.2.2.2.2.1
 let v4_8 : List ao := x.2.2.2.2.2.2.2.2.2.1
 let v4_9 : List Int := x.2.2.2.2.2.2.2.2.2.2.1
 let v5_0 : Int := x.2.2.2.2.2.2.2.2.2.2.2.1
 let v5_1 : Bs := x.2.2.2.2.2.2.2.2.2.2.2.2.1
 let v5_2 : List ab := x.2.2.2.2.2.2.2.2.2.2.2.2.2.1
 let v5_3 : Bss := x.2.2.2.2.2.2.2.2.2.2.2.2.2.2.1
 let v5_4 : Int := x.2.2.2.2.2.2.2.2.2.2.2.2.2.2.2.1
 let v7 : Int := x.2.2.2.2.2.2.2.2.2.2.2.2.2.2.2.2
 let x27 : Int := (↑(List.length v5_3) : Int)
 cond (decide (v7 < x27)) (
  chk ((decide (0 ≤ v7) && decide (v7 < ↑(List.length v5_3)))) (
   let x28 : Bs := List.getD v5_3 (Int.toNat v7) (af .str)
   ai (kV x28) (fun (r3 : Bool) =>
    cond (!r3) (
     some (.bool false, [])) (
     cond (decide (0 < v7)) (
      chk ((decide (0 ≤ v7) && decide (v7 < ↑(List.length v5_3)))) (
       let x29 : Bs := List.getD v5_3 (Int.toNat v7) (af .str)
       let x30 : Int := (IntKind.wrap .i64 (v7 - 1))
       chk ((decide (0 ≤ x30) && decide (x30 < ↑(List.length v5_3)))) (
        let x31 : Bs := List.getD v5_3 (Int.toNat x30) (af .str)
        let x32 : Bool := (Op.bytesLess x29 x31 || decide (x29 = x31))
        cond x32 (
         some (.bool false, [])) (
         let x33 : Int := (IntKind.wrap .i64 (v7 + 1))
         again1 (v3_0, v4_0, v4_1, v4_2, v4_3, v4_4, v4_5, v4_6, v4_7, v4_8, v4_9, v5_0, v5_1, v5_2, v5_3, v5_4, x33))))) (
      let x34 : Int := (IntKind.wrap .i64 (v7 + 1))
      again1 (v3_0, v4_0, v4_1, v4_2, v4_3, v4_4, v4_5, v4_6, v4_7, v4_8, v4_9, v5_0, v5_1, v5_2, v5_3, v5_4, x34)))))) (
  q2 (v3_0, v4_0, v4_1, v4_2, v4_3, v4_4, v4_5, v4_6, v4_7, v4_8, v4_9, v5_0, v5_1, v5_2, v5_3, v5_4, 0))
noncomputable def pT (N : Nat) (again1 : gQ → Ro) (x : gQ) : Ro := oA N again1 (fun z => aB N (lZ N) z) x
noncomputable def uY (N : Nat) (again1 : St → Ro) : List (Nat × (St → Ro)) := (aI ch N oz (uX (run ch N) again1) ++ (aI ch N rL (fin iG) ++ []))
theorem aqD (N : Nat) : ∀ (again1 : St → Ro) (x : gQ), pS N again1 (dj x) = pT N (fun y => again1 (dj y)) x := by
 intro again1 x
 have hX : ∀ C : Nat → St → Ro, bI C ch N oz (uX (bI C ch N) again1) (dj x) = oA N (fun y => again1 (dj y)) (fun z => C 1000001 (iH z)) x := by
  intro C
  kernel_rfl
 have h : pS N again1 (dj x) = oA N (fun y => again1 (dj y)) (fun z => aW N (pR N) (iH z)) x := (cA (C := ec (uY N again1)) (bL (aL (l := (uY N again1)) (by kernel_rfl))) (t9 (cL (cL (f8 (bL (dz (aL (l := (uY N again1)) (by kernel_rfl)))) rfl)))) _).trans ((hX _).trans (by kernel_rfl))
 have e2 : (fun z => aW N (pR N) (iH z)) = (fun z => aB N (lZ N) z) := funext fun z => aT (iH) (pR N) (lZ N) (aqC N) N z
 rw [h, e2]
 rfl
noncomputable def nI (N : Nat) (p0_0 : List ac) (p1_0 : Int) (p1_1 : Bs) (p1_2 : Bss) (p1_3 : Int) (p1_4 : Bss) (p1_5 : Bool) (p1_6 : Bs) (p1_7 : Int) (p1_8 : List ao) (p1_9 : List Int) (p2_0 : Int) (p2_1 : Bs) (p2_2 : List ab) (p2_3 : Bss) (p2_4 : Int) (q0 : lX → Ro) (q1 : gQ → Ro) : Ro :=
 cond (p1_0 == 9) (
  let x1 : Int := (↑(List.length p2_2) : Int)
  let x2 : Int := (↑(List.length p1_8) : Int)
  cond (!(x1 == x2)) (
   some (.bool false, [])) (
   q0 (p0_0, p1_0, p1_1, p1_2, p1_3, p1_4, p1_5, p1_6, p1_7, p1_8, p1_9, p2_0, p2_1, p2_2, p2_3, p2_4, 0))) (
  cond (p1_0 == 13) (
   let x25 : Int := (↑(List.length p2_2) : Int)
   let x26 : Int := (↑(List.length p2_3) : Int)
   cond (!(x25 == x26)) (
    some (.bool false, [])) (
    q1 (p0_0, p1_0, p1_1, p1_2, p1_3, p1_4, p1_5, p1_6, p1_7, p1_8, p1_9, p2_0, p2_1, p2_2, p2_3, p2_4, 0))) (
   cond (p1_0 == 14) (
    cond (decide (0 ≤ p2_4)) (
     let x57 : Int := (↑(List.length p1_9) : Int)
     cond (decide (p2_4 < x57)) (
      let x58 : Int := (↑(List.length p2_2) : Int)
      cond (x58 == 1) (
       chk ((decide (0 ≤ p2_4) && decide (p2_4 < ↑(List.length p1_9)))) (
        let x59 : Int := List.getD p1_9 (Int.toNat p2_4) (af (.num .i64))
        chk (decide ((0 : Int) < ↑(List.length p2_2))) (
         let x60 : Int := (List.getD p2_2 (Int.toNat 0) (af .aval)).n
         let x61 : Bs := (List.getD p2_2 (Int.toNat 0) (af .aval)).s
         let x62 : List ab := (List.getD p2_2 (Int.toNat 0) (af .aval)).l
         let x63 : Bss := (List.getD p2_2 (Int.toNat 0) (af .aval)).keys
         let x64 : Int := (List.getD p2_2 (Int.toNat 0) (af .aval)).branch
         ai (dw p0_0 x59 x60 x61 x62 x63 x64) (fun (r6 : Bool) =>
          some (.bool r6, []))))) (
       some (.bool false, []))) (
      some (.bool false, []))) (
     some (.bool false, []))) (
    q0 (p0_0, p1_0, p1_1, p1_2, p1_3, p1_4, p1_5, p1_6, p1_7, p1_8, p1_9, p2_0, p2_1, p2_2, p2_3, p2_4, 0))))
noncomputable def vO (N : Nat) (p0_0 : List ac) (p1_0 : Int) (p1_1 : Bs) (p1_2 : Bss) (p1_3 : Int) (p1_4 : Bss) (p1_5 : Bool) (p1_6 : Bs) (p1_7 : Int) (p1_8 : List ao) (p1_9 : List Int) (p2_0 : Int) (p2_1 : Bs) (p2_2 : List ab) (p2_3 : Bss) (p2_4 : Int) : Ro := nI N p0_0 p1_0 p1_1 p1_2 p1_3 p1_4 p1_5 p1_6 p1_7 p1_8 p1_9 p2_0 p2_1 p2_2 p2_3 p2_4 (fun z => aB N (jN N) z) (fun z => aB N (pT N) z)
noncomputable def azv (N : Nat) : List (Nat × (St → Ro)) := aI ch N vN (fin iG) ++ []
theorem atQ (N : Nat) (p0_0 : List ac) (p1_0 : Int) (p1_1 : Bs) (p1_2 : Bss) (p1_3 : Int) (p1_4 : Bss) (p1_5 : Bool) (p1_6 : Bs) (p1_7 : Int) (p1_8 : List ao) (p1_9 : List Int) (p2_0 : Int) (p2_1 : Bs) (p2_2 : List ab) (p2_3 : Bss) (p2_4 : Int) : aE ch N 122 iG vN [.agg [.sl .atype (.may false) p0_0], .agg [.int .i64 p1_0, .str p1_1, .sl .str (.may false) p1_2, .int .i64 p1_3, .sl .str (.may false) p1_4, .bool p1_5, .str p1_6, .int .i64 p1_7, .sl .afield (.may false) p1_8, .sl (.num .i64) (.may false) p1_9], .agg [.int .u64 p2_0, .str p2_1, .sl .aval (.may false) p2_2, .sl .str (.may false) p2_3, .int .i64 p2_4]] [] = vO N p0_0 p1_0 p1_1 p1_2 p1_3 p1_4 p1_5 p1_6 p1_7 p1_8 p1_9 p2_0 p2_1 p2_2 p2_3 p2_4 :=
 (bx (azv N) (by kernel_rfl) rfl (fun C => nI N p0_0 p1_0 p1_1 p1_2 p1_3 p1_4 p1_5 p1_6 p1_7 p1_8 p1_9 p2_0 p2_1 p2_2 p2_3 p2_4 (fun z => C 1000001 (lg z)) (fun z => C 1000000 (dj z))) (fun C => by kernel_rfl)).trans (Eq.trans (b := nI N p0_0 p1_0 p1_1 p1_2 p1_3 p1_4 p1_5 p1_6 p1_7 p1_8 p1_9 p2_0 p2_1 p2_2 p2_3 p2_4 (fun z => aW N (uW N) (lg z)) (fun z => aW N (pS N) (dj z))) (by kernel_rfl) (congr (congrArg (nI N p0_0 p1_0 p1_1 p1_2 p1_3 p1_4 p1_5 p1_6 p1_7 p1_8 p1_9 p2_0 p2_1 p2_2 p2_3 p2_4) (funext fun z => aT (lg) (uW N) (jN N) (aqB N) N z)) (funext fun z => aT (dj) (pS N) (pT N) (aqD N) N z)))
theorem atR (N : Nat) (p0_0 : List ac) (p1_0 : Int) (p1_1 : Bs) (p1_2 : Bss) (p1_3 : Int) (p1_4 : Bss) (p1_5 : Bool) (p1_6 : Bs) (p1_7 : Int) (p1_8 : List ao) (p1_9 : List Int) (p2_0 : Int) (p2_1 : Bs) (p2_2 : List ab) (p2_3 : Bss) (p2_4 : Int) (h : Tot (vO N p0_0 p1_0 p1_1 p1_2 p1_3 p1_4 p1_5 p1_6 p1_7 p1_8 p1_9 p2_0 p2_1 p2_2 p2_3 p2_4) (fun z => ∃ (y0 : Bool) (rest : List an), z.1.dimR = .bool y0 ∧ z.2 = rest ∧ cG p0_0 p1_0 p1_1 p1_2 p1_3 p1_4 p1_5 p1_6 p1_7 p1_8 p1_9 p2_0 p2_1 p2_2 p2_3 p2_4 (y0))) : ∃ r, lC p0_0 p1_0 p1_1 p1_2 p1_3 p1_4 p1_5 p1_6 p1_7 p1_8 p1_9 p2_0 p2_1 p2_2 p2_3 p2_4 r := by
 obtain ⟨⟨v, hp⟩, hz, y0, rest, e1, e2, hq⟩ := h
 simp only at e1 e2
 subst e2
 exact ⟨(y0), aj.dimR (axp.pure (atQ N p0_0 p1_0 p1_1 p1_2 p1_3 p1_4 p1_5 p1_6 p1_7 p1_8 p1_9 p2_0 p2_1 p2_2 p2_3 p2_4) hz) e1, hq⟩
noncomputable def dy : au := tab (P := Try.prog) [] [] [] [als]
noncomputable def atS : IR := .ret
noncomputable def atT : IR := (.cond (.t 43) (.seq (.reg [Pp (.mov 4 (.c (.bool false)))] []) atS) .skip)
noncomputable def atU : IR := (.cond (.t 48) .skip (.exit 0))
noncomputable def atV : IR := .ret
noncomputable def atW : IR := (.cond (.t 61) (.seq (.reg [Pp (.mov 4 (.c (.bool false)))] []) atV) .skip)
noncomputable def atX : IR := (.reg [Mv 49 5, Bc 50 .add 49 1, Mv 5 50] [])
noncomputable def atY : IR := (.seq (.block 1 (.seq (.reg [Fa 51 3 2, Ld 52 1 false 51, Mv 53 5, Pp (.ixa 54 .str (.t 52) (.t 53)), Ld 55 1 false 54, Fa 56 3 3, Ld 57 1 false 56, Mv 58 5, Pp (.ixa 59 .str (.t 57) (.t 58)), Ld 60 1 false 59, Bi 61 .neq 55 60] [[], [0], [], [0, 1, 2], [0, 1, 2, 3], [], [5], [], [5, 6, 7], [5, 6, 7, 8], [0, 1, 2, 3, 4, 5, 6, 7, 8, 9]]) atW)) atX)
noncomputable def pU : IR := (.seq (.seq (.reg [Mv 44 5, Fa 45 3 2, Ld 46 1 false 45, Pp (.lenl 47 (.t 46)), Bi 48 .lss 44 47] []) atU) atY)
noncomputable def atZ : IR := (.block 0 (.loop [2, 3, 5, 1000000] 0 pU))
noncomputable def at0 : IR := (.cond (.t 66) .skip (.exit 2))
noncomputable def aqE : IR := .ret
noncomputable def aqF : IR := (.cond (.t 80) (.seq (.reg [Pp (.mov 4 (.c (.bool false)))] []) aqE) .skip)
noncomputable def aqG : IR := (.reg [Mv 67 6, Bc 68 .add 67 1, Mv 6 68] [])
noncomputable def aqH : IR := (.seq (.block 3 (.seq (.reg [Fa 69 2 2, Ld 70 1 false 69, Mv 71 6, Pp (.ixa 72 .aval (.t 70) (.t 71)), Ld 73 5 true 72, Fa 74 2 3, Ld 75 1 false 74, Mv 76 6, Pp (.ixa 77 .aval (.t 75) (.t 76)), Ld 78 5 true 77, Pp (.call (some 79) 25 [(.t 73), (.t 78)]), Pp (.un 80 .not (.t 79))] [[], [0], [], [0, 1, 2], [0, 1, 2, 3], [], [5], [], [5, 6, 7], [5, 6, 7, 8], [0, 1, 2, 3, 4, 5, 6, 7, 8, 9], [0, 1, 2, 3, 4, 5, 6, 7, 8, 9, 10]]) aqF)) aqG)
noncomputable def aa6 : IR := (.seq (.seq (.reg [Mv 62 6, Fa 63 2 2, Ld 64 1 false 63, Pp (.lenl 65 (.t 64)), Bi 66 .lss 62 65] []) at0) aqH)
noncomputable def aqI : IR := (.block 2 (.loop [2, 3, 6, 1000001] 0 aa6))
noncomputable def aqJ : IR := .ret
noncomputable def aa7 : IR := (.seq (.reg [Pp (.mov 4 (.c (.bool true)))] []) aqJ)
noncomputable def ti : IR := (.seq (.seq (.reg [Pp (.mov 6 (.c (.int .i64 0)))] []) aqI) aa7)
noncomputable def aqK : IR := (.seq (.seq (.reg [Pp (.mov 5 (.c (.int .i64 0)))] []) atZ) ti)
noncomputable def aqL : IR := (.seq (.seq (.reg [Fa 7 0 2, Ld 8 1 false 7, Fa 9 0 3, Ld 10 1 false 9, Bi 11 .neq 8 10, Mv 12 11, Pg (12, false) (.fad 13 1 (.t 2)), Pg (12, false) (.lde 14 1 false (.t 13)), Pg (12, false) (.fad 15 1 (.t 3)), Pg (12, false) (.lde 16 1 false (.t 15)), Pg (12, false) (.bin 17 .neq (.t 14) (.t 16)), Po 18 12 17, Mv 19 18, Pg (19, false) (.fad 20 4 (.t 2)), Pg (19, false) (.lde 21 1 false (.t 20)), Pg (19, false) (.fad 22 4 (.t 3)), Pg (19, false) (.lde 23 1 false (.t 22)), Pg (19, false) (.bin 24 .neq (.t 21) (.t 23)), Po 25 19 24, Mv 26 25, Pg (26, false) (.fad 27 2 (.t 2)), Pg (26, false) (.lde 28 1 false (.t 27)), Pg (26, false) (.lenl 29 (.t 28)), Pg (26, false) (.fad 30 2 (.t 3)), Pg (26, false) (.lde 31 1 false (.t 30)), Pg (26, false) (.lenl 32 (.t 31)), Pg (26, false) (.bin 33 .neq (.t 29) (.t 32)), Po 34 26 33, Mv 35 34, Pg (35, false) (.fad 36 3 (.t 2)), Pg (35, false) (.lde 37 1 false (.t 36)), Pg (35, false) (.lenl 38 (.t 37)), Pg (35, false) (.fad 39 3 (.t 3)), Pg (35, false) (.lde 40 1 false (.t 39)), Pg (35, false) (.lenl 41 (.t 40)), Pg (35, false) (.bin 42 .neq (.t 38) (.t 41)), Po 43 35 42] []) atT) aqK)
noncomputable def xA : IR := (.seq (.reg [Pp (.boxe 2 (.t 0)), Pp (.boxe 3 (.t 1)), Pp (.mov 4 (.c (.bool false)))] []) aqL)
noncomputable def lE : List RV := [.t 4]
theorem azw : FnC Try.prog dy [] 0 alk Try.f25 xA lE := fnC (by kernel_rfl) Try.func25 (by kernel_rfl) (by kernel_rfl) (by decide)
noncomputable def vP (R : IR → (Ex → St → Ro) → St → Ro) (again0 : St → Ro) : Ex → St → Ro := (br again0 [2, 3, 5, 1000000] 0 (aD 0 (bo (R ti) (fin lE))))
abbrev iI : Type := (Int × Bs × List ab × Bss × Int × Int × Bs × List ab × Bss × Int × Int)
noncomputable def dK (x : iI) : St := { env := (.undef :: .undef :: .ea [.int .u64 x.1, .str x.2.1, .sl .aval (.may false) x.2.2.1, .sl .str (.may false) x.2.2.2.1, .int .i64 x.2.2.2.2.1] :: .ea [.int .u64 x.2.2.2.2.2.1, .str x.2.2.2.2.2.2.1, .sl .aval (.may false) x.2.2.2.2.2.2.2.1, .sl .str (.may false) x.2.2.2.2.2.2.2.2.1, .int .i64 x.2.2.2.2.2.2.2.2.2.1] :: .undef :: .int .i64 x.2.2.2.2.2.2.2.2.2.2 :: (U 75 [])), hp := [] }
noncomputable def axq (R : IR → (Ex → St → Ro) → St → Ro) (again1 : St → Ro) : Ex → St → Ro := (br again1 [2, 3, 6, 1000001] 0 (aD 2 (bo (R aa7) (fin lE))))
abbrev nJ : Type := (Int × Bs × List ab × Bss × Int × Int × Bs × List ab × Bss × Int × Int)
noncomputable def jO (x : nJ) : St := { env := (.undef :: .undef :: .ea [.int .u64 x.1, .str x.2.1, .sl .aval (.may false) x.2.2.1, .sl .str (.may false) x.2.2.2.1, .int .i64 x.2.2.2.2.1] :: .ea [.int .u64 x.2.2.2.2.2.1, .str x.2.2.2.2.2.2.1, .sl .aval (.may false) x.2.2.2.2.2.2.2.1, .sl .str (.may false) x.2.2.2.2.2.2.2.2.1, .int .i64 x.2.2.2.2.2.2.2.2.2.1] :: .undef :: .undef :: .int .i64 x.2.2.2.2.2.2.2.2.2.2 :: (U 74 [])), hp := [] }
noncomputable def rn (N : Nat) : (St → Ro) → St → Ro := fun again1 s => run dy N aa6 (axq (run dy N) again1) s
noncomputable def nK (N : Nat) (again1 : nJ → Ro) (x : nJ) : Ro :=
 let v2_0 : Int := x.1
 let v2_1 : Bs := x.2.1
 let v2_2 : List ab := x.2.2.1
 let v2_3 : Bss := x.2.2.2.1
 let v2_4 : Int := x.2.2.2.2.1
 let v3_0 : Int := x.2.2.2.2.2.1
 let v3_1 : Bs := x.2.2.2.2.2.2.1
 let v3_2 : List ab := x.2.2.2.2.2.2.2.1
 let v3_3 : Bss := x.2.2.2.2.2.2.2.2.1
 let v3_4 : Int := x.2.2.2.2.2.2.2.2.2.1
 let v6 : Int := x.2.2.2.2.2.2.2.2.2.2
 let x9 : Int := (↑(List.length v2_2) : Int)
 cond (decide (v6 < x9)) (
  chk ((decide (0 ≤ v6) && decide (v6 < ↑(List.length v2_2)))) (
   let x10 : Int := (List.getD v2_2 (Int.toNat v6) (af .aval)).n
   let x11 : Bs := (List.getD v2_2 (Int.toNat v6) (af .aval)).s
   let x12 : List ab := (List.getD v2_2 (Int.toNat v6) (af .aval)).l
   let x13 : Bss := (List.getD v2_2 (Int.toNat v6) (af .aval)).keys
   let x14 : Int := (List.getD v2_2 (Int.toNat v6) (af .aval)).branch
   chk ((decide (0 ≤ v6) && decide (v6 < ↑(List.length v3_2)))) (
    let x15 : Int := (List.getD v3_2 (Int.toNat v6) (af .aval)).n
    let x16 : Bs := (List.getD v3_2 (Int.toNat v6) (af .aval)).s
    let x17 : List ab := (List.getD v3_2 (Int.toNat v6) (af .aval)).l
    let x18 : Bss := (List.getD v3_2 (Int.toNat v6) (af .aval)).keys
    let x19 : Int := (List.getD v3_2 (Int.toNat v6) (af .aval)).branch
    ai (kU x10 x11 x12 x13 x14 x15 x16 x17 x18 x19) (fun (r1 : Bool) =>
     cond (!r1) (
      some (.bool false, [])) (
      let x20 : Int := (IntKind.wrap .i64 (v6 + 1))
      again1 (v2_0, v2_1, v2_2, v2_3, v2_4, v3_0, v3_1, v3_2, v3_3, v3_4, x20)))))) (
  some (.bool true, []))
theorem at1 (N : Nat) : ∀ (again1 : St → Ro) (x : nJ), rn N again1 (jO x) = nK N (fun y => again1 (jO y)) x := by
 intro again1 x
 kernel_rfl
noncomputable def rp (N : Nat) : (St → Ro) → St → Ro := fun again0 s => run dy N pU (vP (run dy N) again0) s
noncomputable def pV (N : Nat) (again0 : iI → Ro) (q1 : nJ → Ro) (x : iI) : Ro :=
 let v2_0 : Int := x.1
 let v2_1 : Bs := x.2.1
 let v2_2 : List ab := x.2.2.1
 let v2_3 : Bss := x.2.2.2.1
 let v2_4 : Int := x.2.2.2.2.1
 let v3_0 : Int := x.2.2.2.2.2.1
 let v3_1 : Bs := x.2.2.2.2.2.2.1
 let v3_2 : List ab := x.2.2.2.2.2.2.2.1
 let v3_3 : Bss := x.2.2.2.2.2.2.2.2.1
 let v3_4 : Int := x.2.2.2.2.2.2.2.2.2.1
 let v5 : Int := x.2.2.2.2.2.2.2.2.2.2
 let x5 : Int := (↑(List.length v2_3) : Int)
 cond (decide (v5 < x5)) (
  chk ((decide (0 ≤ v5) && decide (v5 < ↑(List.length v2_3)))) (
   let x6 : Bs := List.getD v2_3 (Int.toNat v5) (af .str)
   chk ((decide (0 ≤ v5) && decide (v5 < ↑(List.length v3_3)))) (
    let x7 : Bs := List.getD v3_3 (Int.toNat v5) (af .str)
    cond (!decide (x6 = x7)) (
     some (.bool false, [])) (
     let x8 : Int := (IntKind.wrap .i64 (v5 + 1))
     again0 (v2_0, v2_1, v2_2, v2_3, v2_4, v3_0, v3_1, v3_2, v3_3, v3_4, x8))))) (
  q1 (v2_0, v2_1, v2_2, v2_3, v2_4, v3_0, v3_1, v3_2, v3_3, v3_4, 0))
noncomputable def rq (N : Nat) (again0 : iI → Ro) (x : iI) : Ro := pV N again0 (fun z => aB N (nK N) z) x
noncomputable def vQ (N : Nat) (again0 : St → Ro) : List (Nat × (St → Ro)) := (aI dy N pU (vP (run dy N) again0) ++ (aI dy N ti (fin lE) ++ []))
theorem at2 (N : Nat) : ∀ (again0 : St → Ro) (x : iI), rp N again0 (dK x) = rq N (fun y => again0 (dK y)) x := by
 intro again0 x
 have hX : ∀ C : Nat → St → Ro, bI C dy N pU (vP (bI C dy N) again0) (dK x) = pV N (fun y => again0 (dK y)) (fun z => C 1000001 (jO z)) x := by
  intro C
  kernel_rfl
 have h : rp N again0 (dK x) = pV N (fun y => again0 (dK y)) (fun z => aW N (rn N) (jO z)) x := (cA (C := ec (vQ N again0)) (bL (aL (l := (vQ N again0)) (by kernel_rfl))) (t9 (cL (f8 (bL (dz (aL (l := (vQ N again0)) (by kernel_rfl)))) rfl))) _).trans ((hX _).trans (by kernel_rfl))
 have e1 : (fun z => aW N (rn N) (jO z)) = (fun z => aB N (nK N) z) := funext fun z => aT (jO) (rn N) (nK N) (at1 N) N z
 rw [h, e1]
 rfl
noncomputable def oZ (N : Nat) (p0_0 : Int) (p0_1 : Bs) (p0_2 : List ab) (p0_3 : Bss) (p0_4 : Int) (p1_0 : Int) (p1_1 : Bs) (p1_2 : List ab) (p1_3 : Bss) (p1_4 : Int) (q0 : iI → Ro) : Ro :=
 cond (!(p0_0 == p1_0)) (
  some (.bool false, [])) (
  cond (!decide (p0_1 = p1_1)) (
   some (.bool false, [])) (
   cond (!(p0_4 == p1_4)) (
    some (.bool false, [])) (
    let x1 : Int := (↑(List.length p0_2) : Int)
    let x2 : Int := (↑(List.length p1_2) : Int)
    cond (!(x1 == x2)) (
     some (.bool false, [])) (
     let x3 : Int := (↑(List.length p0_3) : Int)
     let x4 : Int := (↑(List.length p1_3) : Int)
     cond (!(x3 == x4)) (
      some (.bool false, [])) (
      q0 (p0_0, p0_1, p0_2, p0_3, p0_4, p1_0, p1_1, p1_2, p1_3, p1_4, 0))))))
noncomputable def xB (N : Nat) (p0_0 : Int) (p0_1 : Bs) (p0_2 : List ab) (p0_3 : Bss) (p0_4 : Int) (p1_0 : Int) (p1_1 : Bs) (p1_2 : List ab) (p1_3 : Bss) (p1_4 : Int) : Ro := oZ N p0_0 p0_1 p0_2 p0_3 p0_4 p1_0 p1_1 p1_2 p1_3 p1_4 (fun z => aB N (rq N) z)
noncomputable def aA7 (N : Nat) : List (Nat × (St → Ro)) := aI dy N xA (fin lE) ++ []
theorem axr (N : Nat) (p0_0 : Int) (p0_1 : Bs) (p0_2 : List ab) (p0_3 : Bss) (p0_4 : Int) (p1_0 : Int) (p1_1 : Bs) (p1_2 : List ab) (p1_3 : Bss) (p1_4 : Int) : aE dy N 81 lE xA [.agg [.int .u64 p0_0, .str p0_1, .sl .aval (.may false) p0_2, .sl .str (.may false) p0_3, .int .i64 p0_4], .agg [.int .u64 p1_0, .str p1_1, .sl .aval (.may false) p1_2, .sl .str (.may false) p1_3, .int .i64 p1_4]] [] = xB N p0_0 p0_1 p0_2 p0_3 p0_4 p1_0 p1_1 p1_2 p1_3 p1_4 :=
 (bx (aA7 N) (by kernel_rfl) rfl (fun C => oZ N p0_0 p0_1 p0_2 p0_3 p0_4 p1_0 p1_1 p1_2 p1_3 p1_4 (fun z => C 1000000 (dK z))) (fun C => by kernel_rfl)).trans (Eq.trans (b := oZ N p0_0 p0_1 p0_2 p0_3 p0_4 p1_0 p1_1 p1_2 p1_3 p1_4 (fun z => aW N (rp N) (dK z))) (by kernel_rfl) (congrArg (oZ N p0_0 p0_1 p0_2 p0_3 p0_4 p1_0 p1_1 p1_2 p1_3 p1_4) (funext fun z => aT (dK) (rp N) (rq N) (at2 N) N z)))
theorem axs (N : Nat) (p0_0 : Int) (p0_1 : Bs) (p0_2 : List ab) (p0_3 : Bss) (p0_4 : Int) (p1_0 : Int) (p1_1 : Bs) (p1_2 : List ab) (p1_3 : Bss) (p1_4 : Int) (h : Tot (xB N p0_0 p0_1 p0_2 p0_3 p0_4 p1_0 p1_1 p1_2 p1_3 p1_4) (fun z => ∃ (y0 : Bool) (rest : List an), z.1.dimR = .bool y0 ∧ z.2 = rest ∧ lN p0_0 p0_1 p0_2 p0_3 p0_4 p1_0 p1_1 p1_2 p1_3 p1_4 (y0))) : ∃ r, kU p0_0 p0_1 p0_2 p0_3 p0_4 p1_0 p1_1 p1_2 p1_3 p1_4 r := by
 obtain ⟨⟨v, hp⟩, hz, y0, rest, e1, e2, hq⟩ := h
 simp only at e1 e2
 subst e2
 exact ⟨(y0), aj.dimR (azw.pure (axr N p0_0 p0_1 p0_2 p0_3 p0_4 p1_0 p1_1 p1_2 p1_3 p1_4) hz) e1, hq⟩
noncomputable def qJ : au := tab (P := Try.prog) [] [] [] [alq]
noncomputable def at3 : IR := (.cond (.t 13) .skip (.exit 0))
noncomputable def at4 : IR := (.reg [Mv 25 4, Mv 26 7, Bc 27 .add 26 1, Pp (.mx 28 false (.t 25) (.t 27)), Mv 29 5, Mv 30 8, Bi 31 .add 29 30, Mv 4 28, Mv 5 31] [])
noncomputable def at5 : IR := (.reg [Mv 14 6, Bc 15 .add 14 1, Mv 6 15] [])
noncomputable def at6 : IR := (.seq (.block 1 (.seq (.reg [Fa 17 2 1, Ld 18 1 false 17, Mv 19 6, Pp (.ixa 20 .aval (.t 18) (.t 19)), Ld 21 5 true 20, Pp (.call (some 22) 23 [(.t 21)]), Mv 16 22, Ex_ 23 0 16, Ex_ 24 1 16, Mv 7 23, Mv 8 24] []) at4)) at5)
noncomputable def ado : IR := (.seq (.seq (.reg [Mv 9 6, Fa 10 2 1, Ld 11 1 false 10, Pp (.lenl 12 (.t 11)), Bi 13 .lss 9 12] []) at3) at6)
noncomputable def at7 : IR := (.block 0 (.loop [1, 4, 5, 6, 1000000] 0 ado))
noncomputable def at8 : IR := (.cond (.t 39) (.reg [Pp (.mov 4 (.c (.int .i64 1)))] []) .skip)
noncomputable def at9 : IR := .ret
noncomputable def aua : IR := (.seq (.reg [Mv 40 4, Mv 41 5, Mv 2 40, Mv 3 41] []) at9)
noncomputable def adp : IR := (.seq (.seq (.reg [Fa 32 3 1, Ld 33 1 false 32, Pp (.lenl 34 (.t 33)), Bc 35 .gtr 34 0, Mv 36 35, Pg (36, true) (.mov 37 (.t 4)), Pg (36, true) (.bin 38 .eql (.t 37) (.c (.int .i64 0))), Pa 39 36 38] []) at8) aua)
noncomputable def aqM : IR := (.seq (.seq (.reg [Pp (.mov 6 (.c (.int .i64 0)))] []) at7) adp)
noncomputable def aqN : IR := (.seq (.reg [Pp (.mov 4 (.c (.int .i64 0))), Pp (.mov 5 (.c (.int .i64 1)))] []) aqM)
noncomputable def xC : IR := (.seq (.reg [Pp (.boxe 1 (.t 0)), Pp (.mov 2 (.c (.int .i64 0))), Pp (.mov 3 (.c (.int .i64 0)))] []) aqN)
noncomputable def s7 : List RV := [.t 2, .t 3]
theorem azx : FnC Try.prog qJ [] 0 alm Try.f23 xC s7 := fnC (by kernel_rfl) Try.func23 (by kernel_rfl) (by kernel_rfl) (by decide)
noncomputable def axt (R : IR → (Ex → St → Ro) → St → Ro) (again0 : St → Ro) : Ex → St → Ro := (br again0 [1, 4, 5, 6, 1000000] 0 (aD 0 (bo (R adp) (fin s7))))
abbrev nL : Type := (Int × Bs × List ab × Bss × Int × Int × Int × Int)
noncomputable def l7 (x : nL) : St := { env := (.undef :: .ea [.int .u64 x.1, .str x.2.1, .sl .aval (.may false) x.2.2.1, .sl .str (.may false) x.2.2.2.1, .int .i64 x.2.2.2.2.1] :: .undef :: .undef :: .int .i64 x.2.2.2.2.2.1 :: .int .i64 x.2.2.2.2.2.2.1 :: .int .i64 x.2.2.2.2.2.2.2 :: (U 35 [])), hp := [] }
noncomputable def vR (N : Nat) : (St → Ro) → St → Ro := fun again0 s => run qJ N ado (axt (run qJ N) again0) s
noncomputable def rt (N : Nat) (again0 : nL → Ro) (x : nL) : Ro :=
 let v1_0 : Int := x.1
 let v1_1 : Bs := x.2.1
 let v1_2 : List ab := x.2.2.1
 let v1_3 : Bss := x.2.2.2.1
 let v1_4 : Int := x.2.2.2.2.1
 let v4 : Int := x.2.2.2.2.2.1
 let v5 : Int := x.2.2.2.2.2.2.1
 let v6 : Int := x.2.2.2.2.2.2.2
 let x1 : Int := (↑(List.length v1_2) : Int)
 cond (decide (v6 < x1)) (
  chk ((decide (0 ≤ v6) && decide (v6 < ↑(List.length v1_2)))) (
   let x2 : Int := (List.getD v1_2 (Int.toNat v6) (af .aval)).n
   let x3 : Bs := (List.getD v1_2 (Int.toNat v6) (af .aval)).s
   let x4 : List ab := (List.getD v1_2 (Int.toNat v6) (af .aval)).l
   let x5 : Bss := (List.getD v1_2 (Int.toNat v6) (af .aval)).keys
   let x6 : Int := (List.getD v1_2 (Int.toNat v6) (af .aval)).branch
   ai (kT x2 x3 x4 x5 x6) (fun r1 =>
    let x7 : Int := (IntKind.wrap .i64 (r1.1 + 1))
    let x8 : Int := (if v4 < x7 then x7 else v4)
    let x9 : Int := (IntKind.wrap .i64 (v5 + r1.2))
    let x10 : Int := (IntKind.wrap .i64 (v6 + 1))
    again0 (v1_0, v1_1, v1_2, v1_3, v1_4, x8, x9, x10)))) (
  let x11 : Int := (↑(List.length v1_3) : Int)
  cond (decide (0 < x11)) (
   cond (v4 == 0) (
    some (.tup [.int .i64 1, .int .i64 v5], [])) (
    some (.tup [.int .i64 v4, .int .i64 v5], []))) (
   some (.tup [.int .i64 v4, .int .i64 v5], [])))
theorem aub (N : Nat) : ∀ (again0 : St → Ro) (x : nL), vR N again0 (l7 x) = rt N (fun y => again0 (l7 y)) x := by
 intro again0 x
 kernel_rfl
noncomputable def pa (N : Nat) (p0_0 : Int) (p0_1 : Bs) (p0_2 : List ab) (p0_3 : Bss) (p0_4 : Int) (q0 : nL → Ro) : Ro :=
 q0 (p0_0, p0_1, p0_2, p0_3, p0_4, 0, 1, 0)
noncomputable def xD (N : Nat) (p0_0 : Int) (p0_1 : Bs) (p0_2 : List ab) (p0_3 : Bss) (p0_4 : Int) : Ro := pa N p0_0 p0_1 p0_2 p0_3 p0_4 (fun z => aB N (rt N) z)
noncomputable def aA8 (N : Nat) : List (Nat × (St → Ro)) := aI qJ N xC (fin s7) ++ []
theorem axu (N : Nat) (p0_0 : Int) (p0_1 : Bs) (p0_2 : List ab) (p0_3 : Bss) (p0_4 : Int) : aE qJ N 42 s7 xC [.agg [.int .u64 p0_0, .str p0_1, .sl .aval (.may false) p0_2, .sl .str (.may false) p0_3, .int .i64 p0_4]] [] = xD N p0_0 p0_1 p0_2 p0_3 p0_4 :=
 (bx (aA8 N) (by kernel_rfl) rfl (fun C => pa N p0_0 p0_1 p0_2 p0_3 p0_4 (fun z => C 1000000 (l7 z))) (fun C => by kernel_rfl)).trans (Eq.trans (b := pa N p0_0 p0_1 p0_2 p0_3 p0_4 (fun z => aW N (vR N) (l7 z))) (by kernel_rfl) (congrArg (pa N p0_0 p0_1 p0_2 p0_3 p0_4) (funext fun z => aT (l7) (vR N) (rt N) (aub N) N z)))
theorem axv (N : Nat) (p0_0 : Int) (p0_1 : Bs) (p0_2 : List ab) (p0_3 : Bss) (p0_4 : Int) (h : Tot (xD N p0_0 p0_1 p0_2 p0_3 p0_4) (fun z => ∃ (y0 : Int) (y1 : Int) (rest : List an), z.1.dimR = .tup [.int .i64 y0, .int .i64 y1] ∧ z.2 = rest ∧ lO p0_0 p0_1 p0_2 p0_3 p0_4 (y0, y1))) : ∃ r, kT p0_0 p0_1 p0_2 p0_3 p0_4 r := by
 obtain ⟨⟨v, hp⟩, hz, y0, y1, rest, e1, e2, hq⟩ := h
 simp only at e1 e2
 subst e2
 exact ⟨(y0, y1), aj.dimR (azx.pure (axu N p0_0 p0_1 p0_2 p0_3 p0_4) hz) e1, hq⟩
noncomputable def qK : au := tab (P := Try.prog) [] [] [] [alv]
noncomputable def auc : IR := (.cond (.t 7) .skip (.exit 0))
noncomputable def aud : IR := .ret
noncomputable def aue : IR := (.cond (.t 14) (.seq (.reg [Pp (.mov 2 (.c (.bool false)))] []) aud) .skip)
noncomputable def auf : IR := (.reg [Mv 15 0, Mv 16 4, Pp (.subs 17 (.t 15) (some (.t 16)) none), Mv 0 17] [])
noncomputable def aug : IR := (.seq (.seq (.reg [Mv 13 4, Bc 14 .eql 13 0] []) aue) auf)
noncomputable def auh : IR := (.block 1 (.seq (.reg [Mv 9 0, Pp (.call (some 10) 79 [(.t 9)]), Mv 8 10, Ex_ 11 0 8, Ex_ 12 1 8, Mv 3 11, Mv 4 12] []) aug))
noncomputable def adq : IR := (.seq (.seq (.reg [Mv 5 0, Pp (.lens 6 (.t 5)), Bc 7 .gtr 6 0] []) auc) auh)
noncomputable def aui : IR := .ret
noncomputable def adr : IR := (.seq (.reg [Pp (.mov 2 (.c (.bool true)))] []) aui)
noncomputable def auj : IR := (.seq (.block 0 (.loop [0, 1000000] 0 adq)) adr)
noncomputable def xE : IR := (.seq (.reg [Pp (.mov 2 (.c (.bool false)))] []) auj)
noncomputable def s8 : List RV := [.t 2]
theorem azy : FnC Try.prog qK [] 0 ale Try.f46 xE s8 := fnC (by kernel_rfl) Try.func46 (by kernel_rfl) (by kernel_rfl) (by decide)
noncomputable def axw (R : IR → (Ex → St → Ro) → St → Ro) (again0 : St → Ro) : Ex → St → Ro := (br again0 [0, 1000000] 0 (aD 0 (bo (R adr) (fin s8))))
abbrev nM : Type := (Bs)
noncomputable def l8 (x : nM) : St := { env := (.str x :: (U 17 [])), hp := [] }
noncomputable def vS (N : Nat) : (St → Ro) → St → Ro := fun again0 s => run qK N adq (axw (run qK N) again0) s
noncomputable def ru (N : Nat) (again0 : nM → Ro) (x : nM) : Ro :=
 let v0 : Bs := x
 let x1 : Int := (↑(List.length v0) : Int)
 cond (decide (0 < x1)) (
  ai (kW v0) (fun r1 =>
   cond (r1.2 == 0) (
    some (.bool false, [])) (
    chk ((decide (0 ≤ r1.2) && decide (r1.2 ≤ (↑(List.length v0) : Int)))) (
     let x2 : Bs := (List.drop (Int.toNat r1.2) (List.take (List.length v0) v0))
     again0 (x2))))) (
  some (.bool true, []))
theorem auk (N : Nat) : ∀ (again0 : St → Ro) (x : nM), vS N again0 (l8 x) = ru N (fun y => again0 (l8 y)) x := by
 intro again0 x
 kernel_rfl
noncomputable def pb (N : Nat) (p0 : Bs) (q0 : nM → Ro) : Ro :=
 q0 (p0)
noncomputable def xF (N : Nat) (p0 : Bs) : Ro := pb N p0 (fun z => aB N (ru N) z)
noncomputable def aA9 (N : Nat) : List (Nat × (St → Ro)) := aI qK N xE (fin s8) ++ []
theorem axx (N : Nat) (p0 : Bs) : aE qK N 18 s8 xE [.str p0] [] = xF N p0 :=
 (bx (aA9 N) (by kernel_rfl) rfl (fun C => pb N p0 (fun z => C 1000000 (l8 z))) (fun C => by kernel_rfl)).trans (Eq.trans (b := pb N p0 (fun z => aW N (vS N) (l8 z))) (by kernel_rfl) (congrArg (pb N p0) (funext fun z => aT (l8) (vS N) (ru N) (auk N) N z)))
theorem axy (N : Nat) (p0 : Bs) (h : Tot (xF N p0) (fun z => ∃ (y0 : Bool) (rest : List an), z.1.dimR = .bool y0 ∧ z.2 = rest ∧ uD p0 (y0))) : ∃ r, kV p0 r := by
 obtain ⟨⟨v, hp⟩, hz, y0, rest, e1, e2, hq⟩ := h
 simp only at e1 e2
 subst e2
 exact ⟨(y0), aj.dimR (azy.pure (axx N p0) hz) e1, hq⟩
end Go.Proofs.Ytdpajabhmmmjoaa
end
