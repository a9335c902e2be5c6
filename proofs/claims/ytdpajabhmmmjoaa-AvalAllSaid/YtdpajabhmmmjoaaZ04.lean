import Derived.Test.YtdpajabhmmmjoaaChecked
import Derived.KernelRfl
import Derived.Test.YtdpajabhmmmjoaaZ02
import Derived.Test.YtdpajabhmmmjoaaZ03
section
namespace Go.Proofs.Ytdpajabhmmmjoaa
open Go.AM
set_option autoImplicit false
set_option linter.unusedVariables false
set_option maxRecDepth 100000
abbrev xK : FuncId := 15
abbrev uE : FuncId := 119
abbrev za : FuncId := 60
abbrev xL : FuncId := 59
abbrev u6 : FuncId := 40
abbrev xM : FuncId := 117
abbrev u7 : FuncId := 73
abbrev wu : FuncId := 146
abbrev xN : FuncId := 116
abbrev wv : FuncId := 110
abbrev uF : FuncId := 144
abbrev ww : FuncId := 138
abbrev u9 : FuncId := 114
abbrev tz : FuncId := 145
abbrev wz : FuncId := 111
abbrev va : FuncId := 143
abbrev wA : FuncId := 72
abbrev vb : FuncId := 112
abbrev vc : FuncId := 141
abbrev wB : FuncId := 140
abbrev uG : FuncId := 148
abbrev tA : FuncId := 149
abbrev uH : FuncId := 120
abbrev anQ : FuncId := 14
abbrev asg : FuncId := 87
abbrev alb : FuncId := 118
abbrev anR : FuncId := 86
abbrev aji : FuncId := 133
abbrev alc : FuncId := 132
abbrev ald : FuncId := 162
abbrev ale : FuncId := 46
abbrev anS : FuncId := 154
abbrev alf : FuncId := 79
abbrev ajj : FuncId := 41
abbrev alg : FuncId := 39
abbrev ash : FuncId := 45
abbrev anT : FuncId := 61
abbrev anU : FuncId := 139
abbrev ajk : FuncId := 74
abbrev alh : FuncId := 158
abbrev afO : FuncId := 142
abbrev ali : FuncId := 115
abbrev anV : FuncId := 147
abbrev alj : FuncId := 18
abbrev alk : FuncId := 25
abbrev alm : FuncId := 23
abbrev ajl : FuncId := 47
abbrev asi : FuncId := 113
abbrev anW : FuncId := 161
abbrev aln : FuncId := 165
abbrev ajm : FuncId := 164
abbrev anX : FuncId := 159
abbrev alo : FuncId := 160
abbrev aBx := Bs × Int
noncomputable def rV (a0 : Bs) (r : aBx) : Prop := ss Try.prog anQ [.sl .u8 (.may false) a0] [.sl .u8 (.may false) r.1, .int .i64 r.2] ∧ afL a0 r
noncomputable def aBy : ah3 Try.prog := ⟨14, fun us => match us with
 | [.sl .u8 (.may _) a0] => let r := pick (rV a0); some (can (rV a0), [.sl .u8 (.may false) r.1, .int .i64 r.2])
 | _ => none, by
 intro _ _ h; split at h; exact aEw h fun h => h.1.dim rfl; cases h⟩
abbrev amP := List ac × Bool × Bs × Int
noncomputable def kd (o0_0 : Bs) (o0_1 : Int) (r : amP) : Prop := aP Try.prog xK [.ptr 0 0] [[.sl .u8 (.may false) o0_0, .int .i64 o0_1]] (.tup [.agg [.sl .atype (.may false) r.1], .bool r.2.1]) [[.sl .u8 (.may false) r.2.2.1, .int .i64 r.2.2.2]] ∧ uC o0_0 o0_1 r
noncomputable def amQ : fI Try.prog := ⟨15, fun us css => match us, css with
 | [.ptr 0 0], [[.sl .u8 (.may false) o0_0, .int .i64 o0_1]] => let r := pick (kd o0_0 o0_1); some (can (kd o0_0 o0_1), .tup [.agg [.sl .atype (.may false) r.1], .bool r.2.1], [[.sl .u8 (.may false) r.2.2.1, .int .i64 r.2.2.2]])
 | _, _ => none, by
 intro _ _ _ _ h; split at h; exact cR h fun h => h.1.dim rfl; cases h⟩
abbrev aAo := Bool
noncomputable def dw (a0_0 : List ac) (a1 : Int) (a2_0 : Int) (a2_1 : Bs) (a2_2 : List ab) (a2_3 : Bss) (a2_4 : Int) (r : aAo) : Prop := aj Try.prog alj [.agg [.sl .atype (.may false) a0_0], .int .i64 a1, .agg [.int .u64 a2_0, .str a2_1, .sl .aval (.may false) a2_2, .sl .str (.may false) a2_3, .int .i64 a2_4]] (.bool r) ∧ pE a0_0 a1 a2_0 a2_1 a2_2 a2_3 a2_4 r
noncomputable def alp : cN Try.prog := ⟨18, fun us => match us with
 | [.agg [.sl .atype (.may _) a0_0], .int .i64 a1, .agg [.int .u64 a2_0, .str a2_1, .sl .aval (.may _) a2_2, .sl .str (.may _) a2_3, .int .i64 a2_4]] => let r := pick (dw a0_0 a1 a2_0 a2_1 a2_2 a2_3 a2_4); some (can (dw a0_0 a1 a2_0 a2_1 a2_2 a2_3 a2_4), .bool r)
 | _ => none, by
 intro _ _ h; split at h; exact bC h (fun h => h.1.dim rfl) rfl rfl; cases h⟩
abbrev aAp := Int × Int
noncomputable def kT (a0_0 : Int) (a0_1 : Bs) (a0_2 : List ab) (a0_3 : Bss) (a0_4 : Int) (r : aAp) : Prop := aj Try.prog alm [.agg [.int .u64 a0_0, .str a0_1, .sl .aval (.may false) a0_2, .sl .str (.may false) a0_3, .int .i64 a0_4]] (.tup [.int .i64 r.1, .int .i64 r.2]) ∧ lO a0_0 a0_1 a0_2 a0_3 a0_4 r
noncomputable def alq : cN Try.prog := ⟨23, fun us => match us with
 | [.agg [.int .u64 a0_0, .str a0_1, .sl .aval (.may _) a0_2, .sl .str (.may _) a0_3, .int .i64 a0_4]] => let r := pick (kT a0_0 a0_1 a0_2 a0_3 a0_4); some (can (kT a0_0 a0_1 a0_2 a0_3 a0_4), .tup [.int .i64 r.1, .int .i64 r.2])
 | _ => none, by
 intro _ _ h; split at h; exact bC h (fun h => h.1.dim rfl) rfl rfl; cases h⟩
abbrev aAq := Bool
noncomputable def kU (a0_0 : Int) (a0_1 : Bs) (a0_2 : List ab) (a0_3 : Bss) (a0_4 : Int) (a1_0 : Int) (a1_1 : Bs) (a1_2 : List ab) (a1_3 : Bss) (a1_4 : Int) (r : aAq) : Prop := aj Try.prog alk [.agg [.int .u64 a0_0, .str a0_1, .sl .aval (.may false) a0_2, .sl .str (.may false) a0_3, .int .i64 a0_4], .agg [.int .u64 a1_0, .str a1_1, .sl .aval (.may false) a1_2, .sl .str (.may false) a1_3, .int .i64 a1_4]] (.bool r) ∧ lN a0_0 a0_1 a0_2 a0_3 a0_4 a1_0 a1_1 a1_2 a1_3 a1_4 r
noncomputable def als : cN Try.prog := ⟨25, fun us => match us with
 | [.agg [.int .u64 a0_0, .str a0_1, .sl .aval (.may _) a0_2, .sl .str (.may _) a0_3, .int .i64 a0_4], .agg [.int .u64 a1_0, .str a1_1, .sl .aval (.may _) a1_2, .sl .str (.may _) a1_3, .int .i64 a1_4]] => let r := pick (kU a0_0 a0_1 a0_2 a0_3 a0_4 a1_0 a1_1 a1_2 a1_3 a1_4); some (can (kU a0_0 a0_1 a0_2 a0_3 a0_4 a1_0 a1_1 a1_2 a1_3 a1_4), .bool r)
 | _ => none, by
 intro _ _ h; split at h; exact bC h (fun h => h.1.dim rfl) rfl rfl; cases h⟩
abbrev aAr := List ac × Int
noncomputable def qe (a0_0 : Int) (a0_1 : Int) (a0_2 : Bs) (a0_3 : List ae) (a0_4 : Bss) (r : aAr) : Prop := aj Try.prog alg [.agg [.int .i64 a0_0, .int .i64 a0_1, .str a0_2, .sl .jnode (.may false) a0_3, .sl .str (.may false) a0_4]] (.tup [.agg [.sl .atype (.may false) r.1], .int .i64 r.2]) ∧ uB a0_0 a0_1 a0_2 a0_3 a0_4 r
noncomputable def aAs : cN Try.prog := ⟨39, fun us => match us with
 | [.agg [.int .i64 a0_0, .int .i64 a0_1, .str a0_2, .sl .jnode (.may _) a0_3, .sl .str (.may _) a0_4]] => let r := pick (qe a0_0 a0_1 a0_2 a0_3 a0_4); some (can (qe a0_0 a0_1 a0_2 a0_3 a0_4), .tup [.agg [.sl .atype (.may false) r.1], .int .i64 r.2])
 | _ => none, by
 intro _ _ h; split at h; exact bC h (fun h => h.1.dim rfl) rfl rfl; cases h⟩
abbrev ajS := Int × Int × Bs × List ae × Bss × Bs × Int
noncomputable def ii (o0_0 : Bs) (o0_1 : Int) (r : ajS) : Prop := aP Try.prog u6 [.ptr 0 0] [[.sl .u8 (.may false) o0_0, .int .i64 o0_1]] (.agg [.int .i64 r.1, .int .i64 r.2.1, .str r.2.2.1, .sl .jnode (.may false) r.2.2.2.1, .sl .str (.may false) r.2.2.2.2.1]) [[.sl .u8 (.may false) r.2.2.2.2.2.1, .int .i64 r.2.2.2.2.2.2]] ∧ rS o0_0 o0_1 r
noncomputable def ajT : fI Try.prog := ⟨40, fun us css => match us, css with
 | [.ptr 0 0], [[.sl .u8 (.may false) o0_0, .int .i64 o0_1]] => let r := pick (ii o0_0 o0_1); some (can (ii o0_0 o0_1), .agg [.int .i64 r.1, .int .i64 r.2.1, .str r.2.2.1, .sl .jnode (.may false) r.2.2.2.1, .sl .str (.may false) r.2.2.2.2.1], [[.sl .u8 (.may false) r.2.2.2.2.2.1, .int .i64 r.2.2.2.2.2.2]])
 | _, _ => none, by
 intro _ _ _ _ h; split at h; exact cR h fun h => h.1.dim rfl; cases h⟩
abbrev ayw := Int × Int × Int
noncomputable def oM (a0_0 : List ac) (r : ayw) : Prop := aj Try.prog ajj [.agg [.sl .atype (.may false) a0_0]] (.tup [.int .i64 r.1, .int .i64 r.2.1, .int .i64 r.2.2])
noncomputable def ayx : cN Try.prog := ⟨41, fun us => match us with
 | [.agg [.sl .atype (.may _) a0_0]] => let r := pick (oM a0_0); some (can (oM a0_0), .tup [.int .i64 r.1, .int .i64 r.2.1, .int .i64 r.2.2])
 | _ => none, by
 intro _ _ h; split at h; exact bC h (fun h => h.dim rfl) rfl rfl; cases h⟩
abbrev aCH := Bool
noncomputable def rg (a0_0 : List ac) (a1 : Int) (r : aCH) : Prop := aj Try.prog ash [.agg [.sl .atype (.may false) a0_0], .int .i64 a1] (.bool r) ∧ sS a0_0 a1 r
noncomputable def asj : cN Try.prog := ⟨45, fun us => match us with
 | [.agg [.sl .atype (.may _) a0_0], .int .i64 a1] => let r := pick (rg a0_0 a1); some (can (rg a0_0 a1), .bool r)
 | _ => none, by
 intro _ _ h; split at h; exact bC h (fun h => h.1.dim rfl) rfl rfl; cases h⟩
abbrev aAt := Bool
noncomputable def kV (a0 : Bs) (r : aAt) : Prop := aj Try.prog ale [.str a0] (.bool r) ∧ uD a0 r
noncomputable def alt : cN Try.prog := ⟨46, fun us => match us with
 | [.str a0] => let r := pick (kV a0); some (can (kV a0), .bool r)
 | _ => none, by
 intro _ _ h; split at h; exact bC h (fun h => h.1.dim rfl) rfl rfl; cases h⟩
abbrev ayy := Bool
noncomputable def lC (a0_0 : List ac) (a1_0 : Int) (a1_1 : Bs) (a1_2 : Bss) (a1_3 : Int) (a1_4 : Bss) (a1_5 : Bool) (a1_6 : Bs) (a1_7 : Int) (a1_8 : List ao) (a1_9 : List Int) (a2_0 : Int) (a2_1 : Bs) (a2_2 : List ab) (a2_3 : Bss) (a2_4 : Int) (r : ayy) : Prop := aj Try.prog ajl [.agg [.sl .atype (.may false) a0_0], .agg [.int .i64 a1_0, .str a1_1, .sl .str (.may false) a1_2, .int .i64 a1_3, .sl .str (.may false) a1_4, .bool a1_5, .str a1_6, .int .i64 a1_7, .sl .afield (.may false) a1_8, .sl (.num .i64) (.may false) a1_9], .agg [.int .u64 a2_0, .str a2_1, .sl .aval (.may false) a2_2, .sl .str (.may false) a2_3, .int .i64 a2_4]] (.bool r) ∧ cG a0_0 a1_0 a1_1 a1_2 a1_3 a1_4 a1_5 a1_6 a1_7 a1_8 a1_9 a2_0 a2_1 a2_2 a2_3 a2_4 r
noncomputable def ayz : cN Try.prog := ⟨47, fun us => match us with
 | [.agg [.sl .atype (.may _) a0_0], .agg [.int .i64 a1_0, .str a1_1, .sl .str (.may _) a1_2, .int .i64 a1_3, .sl .str (.may _) a1_4, .bool a1_5, .str a1_6, .int .i64 a1_7, .sl .afield (.may _) a1_8, .sl (.num .i64) (.may _) a1_9], .agg [.int .u64 a2_0, .str a2_1, .sl .aval (.may _) a2_2, .sl .str (.may _) a2_3, .int .i64 a2_4]] => let r := pick (lC a0_0 a1_0 a1_1 a1_2 a1_3 a1_4 a1_5 a1_6 a1_7 a1_8 a1_9 a2_0 a2_1 a2_2 a2_3 a2_4); some (can (lC a0_0 a1_0 a1_1 a1_2 a1_3 a1_4 a1_5 a1_6 a1_7 a1_8 a1_9 a2_0 a2_1 a2_2 a2_3 a2_4), .bool r)
 | _ => none, by
 intro _ _ h; split at h; exact bC h (fun h => h.1.dim rfl) rfl rfl; cases h⟩
abbrev amR := Bool × Bs × Int
noncomputable def ke (o0_0 : Bs) (o0_1 : Int) (r : amR) : Prop := aP Try.prog xL [.ptr 0 0] [[.sl .u8 (.may false) o0_0, .int .i64 o0_1]] (.bool r.1) [[.sl .u8 (.may false) r.2.1, .int .i64 r.2.2]] ∧ uA o0_0 o0_1 r
noncomputable def amS : fI Try.prog := ⟨59, fun us css => match us, css with
 | [.ptr 0 0], [[.sl .u8 (.may false) o0_0, .int .i64 o0_1]] => let r := pick (ke o0_0 o0_1); some (can (ke o0_0 o0_1), .bool r.1, [[.sl .u8 (.may false) r.2.1, .int .i64 r.2.2]])
 | _, _ => none, by
 intro _ _ _ _ h; split at h; exact cR h fun h => h.1.dim rfl; cases h⟩
abbrev aph := Int × Bs × Int
noncomputable def aU (o0_0 : Bs) (o0_1 : Int) (a1 : Int) (r : aph) : Prop := aP Try.prog za [.ptr 0 0, .int .i64 a1] [[.sl .u8 (.may false) o0_0, .int .i64 o0_1]] (.int .i64 r.1) [[.sl .u8 (.may false) r.2.1, .int .i64 r.2.2]] ∧ u5 o0_0 o0_1 a1 r
noncomputable def nV : fI Try.prog := ⟨60, fun us css => match us, css with
 | [.ptr 0 0, .int .i64 a1], [[.sl .u8 (.may false) o0_0, .int .i64 o0_1]] => let r := pick (aU o0_0 o0_1 a1); some (can (aU o0_0 o0_1 a1), .int .i64 r.1, [[.sl .u8 (.may false) r.2.1, .int .i64 r.2.2]])
 | _, _ => none, by
 intro _ _ _ _ h; split at h; exact cR h fun h => h.1.dim rfl; cases h⟩
abbrev aBz := Int × Bs × List ab × Bss × Int
noncomputable def pi (a0_0 : Int) (a0_1 : Bs) (a0_2 : List ab) (a0_3 : Bss) (a0_4 : Int) (a1 : Bs) (a2_0 : Int) (a2_1 : Bs) (a2_2 : List ab) (a2_3 : Bss) (a2_4 : Int) (r : aBz) : Prop := aj Try.prog anT [.agg [.int .u64 a0_0, .str a0_1, .sl .aval (.may false) a0_2, .sl .str (.may false) a0_3, .int .i64 a0_4], .str a1, .agg [.int .u64 a2_0, .str a2_1, .sl .aval (.may false) a2_2, .sl .str (.may false) a2_3, .int .i64 a2_4]] (.agg [.int .u64 r.1, .str r.2.1, .sl .aval (.may false) r.2.2.1, .sl .str (.may false) r.2.2.2.1, .int .i64 r.2.2.2.2]) ∧ afN a0_0 a0_1 a0_2 a0_3 a0_4 a1 a2_0 a2_1 a2_2 a2_3 a2_4 r
noncomputable def aBA : cN Try.prog := ⟨61, fun us => match us with
 | [.agg [.int .u64 a0_0, .str a0_1, .sl .aval (.may _) a0_2, .sl .str (.may _) a0_3, .int .i64 a0_4], .str a1, .agg [.int .u64 a2_0, .str a2_1, .sl .aval (.may _) a2_2, .sl .str (.may _) a2_3, .int .i64 a2_4]] => let r := pick (pi a0_0 a0_1 a0_2 a0_3 a0_4 a1 a2_0 a2_1 a2_2 a2_3 a2_4); some (can (pi a0_0 a0_1 a0_2 a0_3 a0_4 a1 a2_0 a2_1 a2_2 a2_3 a2_4), .agg [.int .u64 r.1, .str r.2.1, .sl .aval (.may false) r.2.2.1, .sl .str (.may false) r.2.2.2.1, .int .i64 r.2.2.2.2])
 | _ => none, by
 intro _ _ h; split at h; exact bC h (fun h => h.1.dim rfl) rfl rfl; cases h⟩
abbrev alu := Int × List ac × Int
noncomputable def bQ (o0_0 : List ac) (o0_1 : Int) (a1_0 : Int) (a1_1 : Int) (a1_2 : Bs) (a1_3 : List ae) (a1_4 : Bss) (a2 : Bs) (a3 : Int) (r : alu) : Prop := aP Try.prog wA [.ptr 0 0, .agg [.int .i64 a1_0, .int .i64 a1_1, .str a1_2, .sl .jnode (.may false) a1_3, .sl .str (.may false) a1_4], .str a2, .int .i64 a3] [[.ul .atype o0_0, .int .i64 o0_1]] (.int .i64 r.1) [[.ul .atype r.2.1, .int .i64 r.2.2]] ∧ dO o0_0 o0_1 a1_0 a1_1 a1_2 a1_3 a1_4 a2 a3 r
noncomputable def lP : fI Try.prog := ⟨72, fun us css => match us, css with
 | [.ptr 0 0, .agg [.int .i64 a1_0, .int .i64 a1_1, .str a1_2, .sl .jnode (.may _) a1_3, .sl .str (.may _) a1_4], .str a2, .int .i64 a3], [[.ul .atype o0_0, .int .i64 o0_1]] => let r := pick (bQ o0_0 o0_1 a1_0 a1_1 a1_2 a1_3 a1_4 a2 a3); some (can (bQ o0_0 o0_1 a1_0 a1_1 a1_2 a1_3 a1_4 a2 a3), .int .i64 r.1, [[.ul .atype r.2.1, .int .i64 r.2.2]])
 | _, _ => none, by
 intro _ _ _ _ h; split at h; exact cR h fun h => h.1.dim rfl; cases h⟩
abbrev ajU := Int × Int × Bs × List ae × Bss × Bs × Int × Bss
noncomputable def eX (o0_0 : Bs) (o0_1 : Int) (o1_0 : Bss) (a1 : Bs) (a2 : Int) (r : ajU) : Prop := aP Try.prog u7 [.ptr 0 0, .str a1, .int .i64 a2, .ptr 1 0] [[.sl .u8 (.may false) o0_0, .int .i64 o0_1], [.sl .str .own o1_0]] (.agg [.int .i64 r.1, .int .i64 r.2.1, .str r.2.2.1, .sl .jnode (.may false) r.2.2.2.1, .sl .str (.may false) r.2.2.2.2.1]) [[.sl .u8 (.may false) r.2.2.2.2.2.1, .int .i64 r.2.2.2.2.2.2.1], [.sl .str .own r.2.2.2.2.2.2.2]] ∧ rR o0_0 o0_1 o1_0 a1 a2 r
noncomputable def vd : fI Try.prog := ⟨73, fun us css => match us, css with
 | [.ptr 0 0, .str a1, .int .i64 a2, .ptr 1 0], [[.sl .u8 (.may false) o0_0, .int .i64 o0_1], [.sl .str .own o1_0]] => let r := pick (eX o0_0 o0_1 o1_0 a1 a2); some (can (eX o0_0 o0_1 o1_0 a1 a2), .agg [.int .i64 r.1, .int .i64 r.2.1, .str r.2.2.1, .sl .jnode (.may false) r.2.2.2.1, .sl .str (.may false) r.2.2.2.2.1], [[.sl .u8 (.may false) r.2.2.2.2.2.1, .int .i64 r.2.2.2.2.2.2.1], [.sl .str .own r.2.2.2.2.2.2.2]])
 | _, _ => none, by
 intro _ _ _ _ h; split at h; exact cR h fun h => h.1.dim rfl; cases h⟩
abbrev ayA := Int × Bs × List ab × Bss × Int × Int
noncomputable def oN (a0_0 : List ac) (a1 : Int) (a2_0 : Int) (a2_1 : Int) (a2_2 : Bs) (a2_3 : List ae) (a2_4 : Bss) (r : ayA) : Prop := aj Try.prog ajk [.agg [.sl .atype (.may false) a0_0], .int .i64 a1, .agg [.int .i64 a2_0, .int .i64 a2_1, .str a2_2, .sl .jnode (.may false) a2_3, .sl .str (.may false) a2_4]] (.tup [.agg [.int .u64 r.1, .str r.2.1, .sl .aval (.may false) r.2.2.1, .sl .str (.may false) r.2.2.2.1, .int .i64 r.2.2.2.2.1], .int .i64 r.2.2.2.2.2])
noncomputable def ayB : cN Try.prog := ⟨74, fun us => match us with
 | [.agg [.sl .atype (.may _) a0_0], .int .i64 a1, .agg [.int .i64 a2_0, .int .i64 a2_1, .str a2_2, .sl .jnode (.may _) a2_3, .sl .str (.may _) a2_4]] => let r := pick (oN a0_0 a1 a2_0 a2_1 a2_2 a2_3 a2_4); some (can (oN a0_0 a1 a2_0 a2_1 a2_2 a2_3 a2_4), .tup [.agg [.int .u64 r.1, .str r.2.1, .sl .aval (.may false) r.2.2.1, .sl .str (.may false) r.2.2.2.1, .int .i64 r.2.2.2.2.1], .int .i64 r.2.2.2.2.2])
 | _ => none, by
 intro _ _ h; split at h; exact bC h (fun h => h.dim rfl) rfl rfl; cases h⟩
abbrev aAu := Int × Int
noncomputable def kW (a0 : Bs) (r : aAu) : Prop := aj Try.prog alf [.str a0] (.tup [.int .u32 r.1, .int .i64 r.2]) ∧ adh a0 r
noncomputable def alv : cN Try.prog := ⟨79, fun us => match us with
 | [.str a0] => let r := pick (kW a0); some (can (kW a0), .tup [.int .u32 r.1, .int .i64 r.2])
 | _ => none, by
 intro _ _ h; split at h; exact bC h (fun h => h.1.dim rfl) rfl rfl; cases h⟩
abbrev aBB := Int × Int × Bs × List ae × Bss
noncomputable def be (a0 : Bs) (r : aBB) : Prop := aj Try.prog anR [.str a0] (.agg [.int .i64 r.1, .int .i64 r.2.1, .str r.2.2.1, .sl .jnode (.may false) r.2.2.2.1, .sl .str (.may false) r.2.2.2.2]) ∧ afM a0 r
noncomputable def wi : cN Try.prog := ⟨86, fun us => match us with
 | [.str a0] => let r := pick (be a0); some (can (be a0), .agg [.int .i64 r.1, .int .i64 r.2.1, .str r.2.2.1, .sl .jnode (.may false) r.2.2.2.1, .sl .str (.may false) r.2.2.2.2])
 | _ => none, by
 intro _ _ h; split at h; exact bC h (fun h => h.1.dim rfl) rfl rfl; cases h⟩
abbrev aCI := Int × Int × Bs × List ae × Bss × Bool
noncomputable def rh (a0_0 : Int) (a0_1 : Int) (a0_2 : Bs) (a0_3 : List ae) (a0_4 : Bss) (a1 : Bs) (r : aCI) : Prop := aj Try.prog asg [.agg [.int .i64 a0_0, .int .i64 a0_1, .str a0_2, .sl .jnode (.may false) a0_3, .sl .str (.may false) a0_4], .str a1] (.tup [.agg [.int .i64 r.1, .int .i64 r.2.1, .str r.2.2.1, .sl .jnode (.may false) r.2.2.2.1, .sl .str (.may false) r.2.2.2.2.1], .bool r.2.2.2.2.2]) ∧ sR a0_0 a0_1 a0_2 a0_3 a0_4 a1 r
noncomputable def aCJ : cN Try.prog := ⟨87, fun us => match us with
 | [.agg [.int .i64 a0_0, .int .i64 a0_1, .str a0_2, .sl .jnode (.may _) a0_3, .sl .str (.may _) a0_4], .str a1] => let r := pick (rh a0_0 a0_1 a0_2 a0_3 a0_4 a1); some (can (rh a0_0 a0_1 a0_2 a0_3 a0_4 a1), .tup [.agg [.int .i64 r.1, .int .i64 r.2.1, .str r.2.2.1, .sl .jnode (.may false) r.2.2.2.1, .sl .str (.may false) r.2.2.2.2.1], .bool r.2.2.2.2.2])
 | _ => none, by
 intro _ _ h; split at h; exact bC h (fun h => h.1.dim rfl) rfl rfl; cases h⟩
abbrev alw := Int × List ac × Int
noncomputable def am (o0_0 : List ac) (o0_1 : Int) (a1 : Int) (r : alw) : Prop := aP Try.prog wv [.ptr 0 0, .int .i64 a1] [[.ul .atype o0_0, .int .i64 o0_1]] (.int .i64 r.1) [[.ul .atype r.2.1, .int .i64 r.2.2]] ∧ jy o0_0 o0_1 a1 r
noncomputable def cd : fI Try.prog := ⟨110, fun us css => match us, css with
 | [.ptr 0 0, .int .i64 a1], [[.ul .atype o0_0, .int .i64 o0_1]] => let r := pick (am o0_0 o0_1 a1); some (can (am o0_0 o0_1 a1), .int .i64 r.1, [[.ul .atype r.2.1, .int .i64 r.2.2]])
 | _, _ => none, by
 intro _ _ _ _ h; split at h; exact cR h fun h => h.1.dim rfl; cases h⟩
abbrev alx := Int × List ac × Int
noncomputable def fK (o0_0 : List ac) (o0_1 : Int) (a1 : Bs) (a2 : Bs) (r : alx) : Prop := aP Try.prog wz [.ptr 0 0, .str a1, .str a2] [[.ul .atype o0_0, .int .i64 o0_1]] (.int .i64 r.1) [[.ul .atype r.2.1, .int .i64 r.2.2]] ∧ mU o0_0 o0_1 a1 a2 r
noncomputable def aly : fI Try.prog := ⟨111, fun us css => match us, css with
 | [.ptr 0 0, .str a1, .str a2], [[.ul .atype o0_0, .int .i64 o0_1]] => let r := pick (fK o0_0 o0_1 a1 a2); some (can (fK o0_0 o0_1 a1 a2), .int .i64 r.1, [[.ul .atype r.2.1, .int .i64 r.2.2]])
 | _, _ => none, by
 intro _ _ _ _ h; split at h; exact cR h fun h => h.1.dim rfl; cases h⟩
abbrev ajV := Int × List ac × Int
noncomputable def ij (o0_0 : List ac) (o0_1 : Int) (a1_0 : Int) (a1_1 : Int) (a1_2 : Bs) (a1_3 : List ae) (a1_4 : Bss) (a2 : Bs) (a3 : Int) (r : ajV) : Prop := aP Try.prog vb [.ptr 0 0, .agg [.int .i64 a1_0, .int .i64 a1_1, .str a1_2, .sl .jnode (.may false) a1_3, .sl .str (.may false) a1_4], .str a2, .int .i64 a3] [[.ul .atype o0_0, .int .i64 o0_1]] (.int .i64 r.1) [[.ul .atype r.2.1, .int .i64 r.2.2]] ∧ rT o0_0 o0_1 a1_0 a1_1 a1_2 a1_3 a1_4 a2 a3 r
noncomputable def ajW : fI Try.prog := ⟨112, fun us css => match us, css with
 | [.ptr 0 0, .agg [.int .i64 a1_0, .int .i64 a1_1, .str a1_2, .sl .jnode (.may _) a1_3, .sl .str (.may _) a1_4], .str a2, .int .i64 a3], [[.ul .atype o0_0, .int .i64 o0_1]] => let r := pick (ij o0_0 o0_1 a1_0 a1_1 a1_2 a1_3 a1_4 a2 a3); some (can (ij o0_0 o0_1 a1_0 a1_1 a1_2 a1_3 a1_4 a2 a3), .int .i64 r.1, [[.ul .atype r.2.1, .int .i64 r.2.2]])
 | _, _ => none, by
 intro _ _ _ _ h; split at h; exact cR h fun h => h.1.dim rfl; cases h⟩
abbrev aCK := Int × Int × Bs × List ae × Bss × Bool
noncomputable def co (a0_0 : Int) (a0_1 : Int) (a0_2 : Bs) (a0_3 : List ae) (a0_4 : Bss) (a1 : Bs) (r : aCK) : Prop := aj Try.prog asi [.agg [.int .i64 a0_0, .int .i64 a0_1, .str a0_2, .sl .jnode (.may false) a0_3, .sl .str (.may false) a0_4], .str a1] (.tup [.agg [.int .i64 r.1, .int .i64 r.2.1, .str r.2.2.1, .sl .jnode (.may false) r.2.2.2.1, .sl .str (.may false) r.2.2.2.2.1], .bool r.2.2.2.2.2]) ∧ bW a0_0 a0_1 a0_2 a0_3 a0_4 a1 r
noncomputable def nW : cN Try.prog := ⟨113, fun us => match us with
 | [.agg [.int .i64 a0_0, .int .i64 a0_1, .str a0_2, .sl .jnode (.may _) a0_3, .sl .str (.may _) a0_4], .str a1] => let r := pick (co a0_0 a0_1 a0_2 a0_3 a0_4 a1); some (can (co a0_0 a0_1 a0_2 a0_3 a0_4 a1), .tup [.agg [.int .i64 r.1, .int .i64 r.2.1, .str r.2.2.1, .sl .jnode (.may false) r.2.2.2.1, .sl .str (.may false) r.2.2.2.2.1], .bool r.2.2.2.2.2])
 | _ => none, by
 intro _ _ h; split at h; exact bC h (fun h => h.1.dim rfl) rfl rfl; cases h⟩
abbrev ajX := Int × List ac × Int
noncomputable def ik (o0_0 : List ac) (o0_1 : Int) (a1_0 : Int) (a1_1 : Int) (a1_2 : Bs) (a1_3 : List ae) (a1_4 : Bss) (a2 : Int) (a3 : Bs) (a4 : Int) (r : ajX) : Prop := aP Try.prog u9 [.ptr 0 0, .agg [.int .i64 a1_0, .int .i64 a1_1, .str a1_2, .sl .jnode (.may false) a1_3, .sl .str (.may false) a1_4], .int .i64 a2, .str a3, .int .i64 a4] [[.ul .atype o0_0, .int .i64 o0_1]] (.int .i64 r.1) [[.ul .atype r.2.1, .int .i64 r.2.2]] ∧ fe o0_0 o0_1 a1_0 a1_1 a1_2 a1_3 a1_4 a2 a3 a4 r
noncomputable def ajY : fI Try.prog := ⟨114, fun us css => match us, css with
 | [.ptr 0 0, .agg [.int .i64 a1_0, .int .i64 a1_1, .str a1_2, .sl .jnode (.may _) a1_3, .sl .str (.may _) a1_4], .int .i64 a2, .str a3, .int .i64 a4], [[.ul .atype o0_0, .int .i64 o0_1]] => let r := pick (ik o0_0 o0_1 a1_0 a1_1 a1_2 a1_3 a1_4 a2 a3 a4); some (can (ik o0_0 o0_1 a1_0 a1_1 a1_2 a1_3 a1_4 a2 a3 a4), .int .i64 r.1, [[.ul .atype r.2.1, .int .i64 r.2.2]])
 | _, _ => none, by
 intro _ _ _ _ h; split at h; exact cR h fun h => h.1.dim rfl; cases h⟩
abbrev aAv := Int
noncomputable def kX (a0 : Bs) (r : aAv) : Prop := aj Try.prog ali [.str a0] (.int .i64 r) ∧ adf a0 r
noncomputable def alz : cN Try.prog := ⟨115, fun us => match us with
 | [.str a0] => let r := pick (kX a0); some (can (kX a0), .int .i64 r)
 | _ => none, by
 intro _ _ h; split at h; exact bC h (fun h => h.1.dim rfl) rfl rfl; cases h⟩
abbrev amT := Int × List ac × Int
noncomputable def dH (o0_0 : List ac) (o0_1 : Int) (a1_0 : Int) (a1_1 : Bs) (a1_2 : Bss) (a1_3 : Int) (a1_4 : Bss) (a1_5 : Bool) (a1_6 : Bs) (a1_7 : Int) (a1_8 : List ao) (a1_9 : List Int) (r : amT) : Prop := aP Try.prog xN [.ptr 0 0, .agg [.int .i64 a1_0, .str a1_1, .sl .str (.may false) a1_2, .int .i64 a1_3, .sl .str (.may false) a1_4, .bool a1_5, .str a1_6, .int .i64 a1_7, .sl .afield (.may false) a1_8, .sl (.num .i64) (.may false) a1_9]] [[.ul .atype o0_0, .int .i64 o0_1]] (.int .i64 r.1) [[.ul .atype r.2.1, .int .i64 r.2.2]] ∧ kn o0_0 o0_1 a1_0 a1_1 a1_2 a1_3 a1_4 a1_5 a1_6 a1_7 a1_8 a1_9 r
noncomputable def mF : fI Try.prog := ⟨116, fun us css => match us, css with
 | [.ptr 0 0, .agg [.int .i64 a1_0, .str a1_1, .sl .str (.may _) a1_2, .int .i64 a1_3, .sl .str (.may _) a1_4, .bool a1_5, .str a1_6, .int .i64 a1_7, .sl .afield (.may _) a1_8, .sl (.num .i64) (.may _) a1_9]], [[.ul .atype o0_0, .int .i64 o0_1]] => let r := pick (dH o0_0 o0_1 a1_0 a1_1 a1_2 a1_3 a1_4 a1_5 a1_6 a1_7 a1_8 a1_9); some (can (dH o0_0 o0_1 a1_0 a1_1 a1_2 a1_3 a1_4 a1_5 a1_6 a1_7 a1_8 a1_9), .int .i64 r.1, [[.ul .atype r.2.1, .int .i64 r.2.2]])
 | _, _ => none, by
 intro _ _ _ _ h; split at h; exact cR h fun h => h.1.dim rfl; cases h⟩
abbrev amU := Int × Int × Bs × List ae × Bss × Bs × Int × Bss
noncomputable def cu (o0_0 : Bs) (o0_1 : Int) (o1_0 : Bss) (a1 : Int) (r : amU) : Prop := aP Try.prog xM [.ptr 0 0, .int .i64 a1, .ptr 1 0] [[.sl .u8 (.may false) o0_0, .int .i64 o0_1], [.sl .str .own o1_0]] (.agg [.int .i64 r.1, .int .i64 r.2.1, .str r.2.2.1, .sl .jnode (.may false) r.2.2.2.1, .sl .str (.may false) r.2.2.2.2.1]) [[.sl .u8 (.may false) r.2.2.2.2.2.1, .int .i64 r.2.2.2.2.2.2.1], [.sl .str .own r.2.2.2.2.2.2.2]] ∧ ef o0_0 o0_1 o1_0 a1 r
noncomputable def rG : fI Try.prog := ⟨117, fun us css => match us, css with
 | [.ptr 0 0, .int .i64 a1, .ptr 1 0], [[.sl .u8 (.may false) o0_0, .int .i64 o0_1], [.sl .str .own o1_0]] => let r := pick (cu o0_0 o0_1 o1_0 a1); some (can (cu o0_0 o0_1 o1_0 a1), .agg [.int .i64 r.1, .int .i64 r.2.1, .str r.2.2.1, .sl .jnode (.may false) r.2.2.2.1, .sl .str (.may false) r.2.2.2.2.1], [[.sl .u8 (.may false) r.2.2.2.2.2.1, .int .i64 r.2.2.2.2.2.2.1], [.sl .str .own r.2.2.2.2.2.2.2]])
 | _, _ => none, by
 intro _ _ _ _ h; split at h; exact cR h fun h => h.1.dim rfl; cases h⟩
abbrev aAw := Int × Int × Bs × Bool × List ae × Bool × Bss
noncomputable def dY (a0f : Bool) (a0 : Bss) (a1f : Bool) (a1 : List ae) (r : aAw) : Prop := aj Try.prog alb [.sl .str (.may a0f) a0, .sl .jnode (.may a1f) a1] (.agg [.int .i64 r.1, .int .i64 r.2.1, .str r.2.2.1, .sl .jnode (.may r.2.2.2.1) r.2.2.2.2.1, .sl .str (.may r.2.2.2.2.2.1) r.2.2.2.2.2.2]) ∧ ade a0f a0 a1f a1 r
noncomputable def alA : cN Try.prog := ⟨118, fun us => match us with
 | [.sl .str (.may a0f) a0, .sl .jnode (.may a1f) a1] => let r := pick (dY a0f a0 a1f a1); some (can (dY a0f a0 a1f a1), .agg [.int .i64 r.1, .int .i64 r.2.1, .str r.2.2.1, .sl .jnode (.may r.2.2.2.1) r.2.2.2.2.1, .sl .str (.may r.2.2.2.2.2.1) r.2.2.2.2.2.2])
 | _ => none, by
 intro _ _ h; split at h; exact bC h (fun h => h.1) rfl rfl; cases h⟩
abbrev ah5 := Int × Int × Bs × List ae × Bss × Bs × Int
noncomputable def gi (o0_0 : Bs) (o0_1 : Int) (a1_0 : Int) (a1_1 : Int) (a1_2 : Bs) (a1_3 : List ae) (a1_4 : Bss) (r : ah5) : Prop := aP Try.prog uE [.ptr 0 0, .agg [.int .i64 a1_0, .int .i64 a1_1, .str a1_2, .sl .jnode (.may false) a1_3, .sl .str (.may false) a1_4]] [[.sl .u8 (.may false) o0_0, .int .i64 o0_1]] (.agg [.int .i64 r.1, .int .i64 r.2.1, .str r.2.2.1, .sl .jnode (.may false) r.2.2.2.1, .sl .str (.may false) r.2.2.2.2.1]) [[.sl .u8 (.may false) r.2.2.2.2.2.1, .int .i64 r.2.2.2.2.2.2]] ∧ en o0_0 o0_1 a1_0 a1_1 a1_2 a1_3 a1_4 r
noncomputable def ah6 : fI Try.prog := ⟨119, fun us css => match us, css with
 | [.ptr 0 0, .agg [.int .i64 a1_0, .int .i64 a1_1, .str a1_2, .sl .jnode (.may _) a1_3, .sl .str (.may _) a1_4]], [[.sl .u8 (.may false) o0_0, .int .i64 o0_1]] => let r := pick (gi o0_0 o0_1 a1_0 a1_1 a1_2 a1_3 a1_4); some (can (gi o0_0 o0_1 a1_0 a1_1 a1_2 a1_3 a1_4), .agg [.int .i64 r.1, .int .i64 r.2.1, .str r.2.2.1, .sl .jnode (.may false) r.2.2.2.1, .sl .str (.may false) r.2.2.2.2.1], [[.sl .u8 (.may false) r.2.2.2.2.2.1, .int .i64 r.2.2.2.2.2.2]])
 | _, _ => none, by
 intro _ _ _ _ h; split at h; exact cR h fun h => h.1.dim rfl; cases h⟩
abbrev ah7 := Int × Bs × List ab × Bss × Int × Int × List ac × Int
noncomputable def bJ (o0_0 : List ac) (o0_1 : Int) (a1 : Int) (a2_0 : Int) (a2_1 : Int) (a2_2 : Bs) (a2_3 : List ae) (a2_4 : Bss) (a3 : Int) (r : ah7) : Prop := aP Try.prog uH [.ptr 0 0, .int .i64 a1, .agg [.int .i64 a2_0, .int .i64 a2_1, .str a2_2, .sl .jnode (.may false) a2_3, .sl .str (.may false) a2_4], .int .i64 a3] [[.sl .atype (.may false) o0_0, .int .i64 o0_1]] (.tup [.agg [.int .u64 r.1, .str r.2.1, .sl .aval (.may false) r.2.2.1, .sl .str (.may false) r.2.2.2.1, .int .i64 r.2.2.2.2.1], .int .i64 r.2.2.2.2.2.1]) [[.sl .atype (.may false) r.2.2.2.2.2.2.1, .int .i64 r.2.2.2.2.2.2.2]] ∧ bY o0_0 o0_1 a1 a2_0 a2_1 a2_2 a2_3 a2_4 a3 r
noncomputable def ko : fI Try.prog := ⟨120, fun us css => match us, css with
 | [.ptr 0 0, .int .i64 a1, .agg [.int .i64 a2_0, .int .i64 a2_1, .str a2_2, .sl .jnode (.may _) a2_3, .sl .str (.may _) a2_4], .int .i64 a3], [[.sl .atype (.may false) o0_0, .int .i64 o0_1]] => let r := pick (bJ o0_0 o0_1 a1 a2_0 a2_1 a2_2 a2_3 a2_4 a3); some (can (bJ o0_0 o0_1 a1 a2_0 a2_1 a2_2 a2_3 a2_4 a3), .tup [.agg [.int .u64 r.1, .str r.2.1, .sl .aval (.may false) r.2.2.1, .sl .str (.may false) r.2.2.2.1, .int .i64 r.2.2.2.2.1], .int .i64 r.2.2.2.2.2.1], [[.sl .atype (.may false) r.2.2.2.2.2.2.1, .int .i64 r.2.2.2.2.2.2.2]])
 | _, _ => none, by
 intro _ _ _ _ h; split at h; exact cR h fun h => h.1.dim rfl; cases h⟩
abbrev aAx := Int
noncomputable def qf (a0 : Int) (r : aAx) : Prop := aj Try.prog alc [.int .i64 a0] (.int .u32 r)
noncomputable def aAy : cN Try.prog := ⟨132, fun us => match us with
 | [.int .i64 a0] => let r := pick (qf a0); some (can (qf a0), .int .u32 r)
 | _ => none, by
 intro _ _ h; split at h; exact bC h (fun h => h.dim rfl) rfl rfl; cases h⟩
abbrev ayC := Int
noncomputable def lD (a0 : Int) (r : ayC) : Prop := aj Try.prog aji [.int .i64 a0] (.int .u64 r)
noncomputable def ayD : cN Try.prog := ⟨133, fun us => match us with
 | [.int .i64 a0] => let r := pick (lD a0); some (can (lD a0), .int .u64 r)
 | _ => none, by
 intro _ _ h; split at h; exact bC h (fun h => h.dim rfl) rfl rfl; cases h⟩
abbrev alB := Int × Bool × List ac × Int
noncomputable def ce (o0_0 : List ac) (o0_1 : Int) (a1 : Bs) (r : alB) : Prop := aP Try.prog ww [.ptr 0 0, .str a1] [[.ul .atype o0_0, .int .i64 o0_1]] (.tup [.int .i64 r.1, .bool r.2.1]) [[.ul .atype r.2.2.1, .int .i64 r.2.2.2]] ∧ tw o0_0 o0_1 a1 r
noncomputable def wC : fI Try.prog := ⟨138, fun us css => match us, css with
 | [.ptr 0 0, .str a1], [[.ul .atype o0_0, .int .i64 o0_1]] => let r := pick (ce o0_0 o0_1 a1); some (can (ce o0_0 o0_1 a1), .tup [.int .i64 r.1, .bool r.2.1], [[.ul .atype r.2.2.1, .int .i64 r.2.2.2]])
 | _, _ => none, by
 intro _ _ _ _ h; split at h; exact cR h fun h => h.1.dim rfl; cases h⟩
abbrev aBC := Bs
noncomputable def pj (a0_0 : List ac) (a1 : Int) (r : aBC) : Prop := aj Try.prog anU [.agg [.sl .atype (.may false) a0_0], .int .i64 a1] (.str r)
noncomputable def aBD : cN Try.prog := ⟨139, fun us => match us with
 | [.agg [.sl .atype (.may _) a0_0], .int .i64 a1] => let r := pick (pj a0_0 a1); some (can (pj a0_0 a1), .str r)
 | _ => none, by
 intro _ _ h; split at h; exact bC h (fun h => h.dim rfl) rfl rfl; cases h⟩
abbrev alC := Bs × List ac × Int
noncomputable def cZ (o0_0 : List ac) (o0_1 : Int) (a1_0 : Int) (a1_1 : Int) (a1_2 : Bs) (a1_3 : List ae) (a1_4 : Bss) (a2 : Bs) (a3 : Bool) (r : alC) : Prop := aP Try.prog wB [.ptr 0 0, .agg [.int .i64 a1_0, .int .i64 a1_1, .str a1_2, .sl .jnode (.may false) a1_3, .sl .str (.may false) a1_4], .str a2, .bool a3] [[.ul .atype o0_0, .int .i64 o0_1]] (.str r.1) [[.ul .atype r.2.1, .int .i64 r.2.2]] ∧ tx o0_0 o0_1 a1_0 a1_1 a1_2 a1_3 a1_4 a2 a3 r
noncomputable def qg : fI Try.prog := ⟨140, fun us css => match us, css with
 | [.ptr 0 0, .agg [.int .i64 a1_0, .int .i64 a1_1, .str a1_2, .sl .jnode (.may _) a1_3, .sl .str (.may _) a1_4], .str a2, .bool a3], [[.ul .atype o0_0, .int .i64 o0_1]] => let r := pick (cZ o0_0 o0_1 a1_0 a1_1 a1_2 a1_3 a1_4 a2 a3); some (can (cZ o0_0 o0_1 a1_0 a1_1 a1_2 a1_3 a1_4 a2 a3), .str r.1, [[.ul .atype r.2.1, .int .i64 r.2.2]])
 | _, _ => none, by
 intro _ _ _ _ h; split at h; exact cR h fun h => h.1.dim rfl; cases h⟩
abbrev ajZ := Bs × List ac × Int
noncomputable def eY (o0_0 : List ac) (o0_1 : Int) (a1 : Bs) (a2 : Bs) (r : ajZ) : Prop := aP Try.prog vc [.ptr 0 0, .str a1, .str a2] [[.ul .atype o0_0, .int .i64 o0_1]] (.str r.1) [[.ul .atype r.2.1, .int .i64 r.2.2]] ∧ rU o0_0 o0_1 a1 a2 r
noncomputable def aj0 : fI Try.prog := ⟨141, fun us css => match us, css with
 | [.ptr 0 0, .str a1, .str a2], [[.ul .atype o0_0, .int .i64 o0_1]] => let r := pick (eY o0_0 o0_1 a1 a2); some (can (eY o0_0 o0_1 a1 a2), .str r.1, [[.ul .atype r.2.1, .int .i64 r.2.2]])
 | _, _ => none, by
 intro _ _ _ _ h; split at h; exact cR h fun h => h.1.dim rfl; cases h⟩
abbrev av2 := Bs
noncomputable def mV (a0 : Bs) (r : av2) : Prop := aj Try.prog afO [.str a0] (.str r) ∧ kc a0 r
noncomputable def av3 : cN Try.prog := ⟨142, fun us => match us with
 | [.str a0] => let r := pick (mV a0); some (can (mV a0), .str r)
 | _ => none, by
 intro _ _ h; split at h; exact bC h (fun h => h.1.dim rfl) rfl rfl; cases h⟩
abbrev aj1 := Bss × Bool × List ac × Int
noncomputable def cp (o0_0 : List ac) (o0_1 : Int) (a1_0 : Int) (a1_1 : Int) (a1_2 : Bs) (a1_3 : List ae) (a1_4 : Bss) (a2 : Bs) (r : aj1) : Prop := aP Try.prog va [.ptr 0 0, .agg [.int .i64 a1_0, .int .i64 a1_1, .str a1_2, .sl .jnode (.may false) a1_3, .sl .str (.may false) a1_4], .str a2] [[.ul .atype o0_0, .int .i64 o0_1]] (.tup [.sl .str (.may false) r.1, .bool r.2.1]) [[.ul .atype r.2.2.1, .int .i64 r.2.2.2]] ∧ mh o0_0 o0_1 a1_0 a1_1 a1_2 a1_3 a1_4 a2 r
noncomputable def pk : fI Try.prog := ⟨143, fun us css => match us, css with
 | [.ptr 0 0, .agg [.int .i64 a1_0, .int .i64 a1_1, .str a1_2, .sl .jnode (.may _) a1_3, .sl .str (.may _) a1_4], .str a2], [[.ul .atype o0_0, .int .i64 o0_1]] => let r := pick (cp o0_0 o0_1 a1_0 a1_1 a1_2 a1_3 a1_4 a2); some (can (cp o0_0 o0_1 a1_0 a1_1 a1_2 a1_3 a1_4 a2), .tup [.sl .str (.may false) r.1, .bool r.2.1], [[.ul .atype r.2.2.1, .int .i64 r.2.2.2]])
 | _, _ => none, by
 intro _ _ _ _ h; split at h; exact cR h fun h => h.1.dim rfl; cases h⟩
abbrev ah8 := List ac × Int
noncomputable def gj (o0_0 : List ac) (o0_1 : Int) (a1_0 : Int) (a1_1 : Int) (a1_2 : Bs) (a1_3 : List ae) (a1_4 : Bss) (a2 : Int) (a3 : Bs) (a4 : Int) (r : ah8) : Prop := aP Try.prog uF [.ptr 0 0, .agg [.int .i64 a1_0, .int .i64 a1_1, .str a1_2, .sl .jnode (.may false) a1_3, .sl .str (.may false) a1_4], .int .i64 a2, .str a3, .int .i64 a4] [[.ul .atype o0_0, .int .i64 o0_1]] (.tup []) [[.ul .atype r.1, .int .i64 r.2]] ∧ da o0_0 o0_1 a1_0 a1_1 a1_2 a1_3 a1_4 a2 a3 a4 r
noncomputable def ah9 : fI Try.prog := ⟨144, fun us css => match us, css with
 | [.ptr 0 0, .agg [.int .i64 a1_0, .int .i64 a1_1, .str a1_2, .sl .jnode (.may _) a1_3, .sl .str (.may _) a1_4], .int .i64 a2, .str a3, .int .i64 a4], [[.ul .atype o0_0, .int .i64 o0_1]] => let r := pick (gj o0_0 o0_1 a1_0 a1_1 a1_2 a1_3 a1_4 a2 a3 a4); some (can (gj o0_0 o0_1 a1_0 a1_1 a1_2 a1_3 a1_4 a2 a3 a4), .tup [], [[.ul .atype r.1, .int .i64 r.2]])
 | _, _ => none, by
 intro _ _ _ _ h; split at h; exact cR h fun h => h.1.dim rfl; cases h⟩
abbrev afP := List ac × Int
noncomputable def fL (o0_0 : List ac) (o0_1 : Int) (a1_0 : Int) (a1_1 : Int) (a1_2 : Bs) (a1_3 : List ae) (a1_4 : Bss) (a2 : Int) (r : afP) : Prop := aP Try.prog tz [.ptr 0 0, .agg [.int .i64 a1_0, .int .i64 a1_1, .str a1_2, .sl .jnode (.may false) a1_3, .sl .str (.may false) a1_4], .int .i64 a2] [[.ul .atype o0_0, .int .i64 o0_1]] (.tup []) [[.ul .atype r.1, .int .i64 r.2]] ∧ cS o0_0 o0_1 a1_0 a1_1 a1_2 a1_3 a1_4 a2 r
noncomputable def afQ : fI Try.prog := ⟨145, fun us css => match us, css with
 | [.ptr 0 0, .agg [.int .i64 a1_0, .int .i64 a1_1, .str a1_2, .sl .jnode (.may _) a1_3, .sl .str (.may _) a1_4], .int .i64 a2], [[.ul .atype o0_0, .int .i64 o0_1]] => let r := pick (fL o0_0 o0_1 a1_0 a1_1 a1_2 a1_3 a1_4 a2); some (can (fL o0_0 o0_1 a1_0 a1_1 a1_2 a1_3 a1_4 a2), .tup [], [[.ul .atype r.1, .int .i64 r.2]])
 | _, _ => none, by
 intro _ _ _ _ h; split at h; exact cR h fun h => h.1.dim rfl; cases h⟩
abbrev alD := Int × Int × Bs × List ae × Bss × Bs × Int × Bss
noncomputable def jo (o0_0 : Bs) (o0_1 : Int) (o1_0 : Bss) (a1 : Int) (r : alD) : Prop := aP Try.prog wu [.ptr 0 0, .int .i64 a1, .ptr 1 0] [[.sl .u8 (.may false) o0_0, .int .i64 o0_1], [.sl .str .own o1_0]] (.agg [.int .i64 r.1, .int .i64 r.2.1, .str r.2.2.1, .sl .jnode (.may false) r.2.2.2.1, .sl .str (.may false) r.2.2.2.2.1]) [[.sl .u8 (.may false) r.2.2.2.2.2.1, .int .i64 r.2.2.2.2.2.2.1], [.sl .str .own r.2.2.2.2.2.2.2]] ∧ tv o0_0 o0_1 o1_0 a1 r
noncomputable def alE : fI Try.prog := ⟨146, fun us css => match us, css with
 | [.ptr 0 0, .int .i64 a1, .ptr 1 0], [[.sl .u8 (.may false) o0_0, .int .i64 o0_1], [.sl .str .own o1_0]] => let r := pick (jo o0_0 o0_1 o1_0 a1); some (can (jo o0_0 o0_1 o1_0 a1), .agg [.int .i64 r.1, .int .i64 r.2.1, .str r.2.2.1, .sl .jnode (.may false) r.2.2.2.1, .sl .str (.may false) r.2.2.2.2.1], [[.sl .u8 (.may false) r.2.2.2.2.2.1, .int .i64 r.2.2.2.2.2.2.1], [.sl .str .own r.2.2.2.2.2.2.2]])
 | _, _ => none, by
 intro _ _ _ _ h; split at h; exact cR h fun h => h.1.dim rfl; cases h⟩
abbrev aBE := Bs × Bool
noncomputable def rW (a0 : Bs) (r : aBE) : Prop := aj Try.prog anV [.str a0] (.tup [.str r.1, .bool r.2])
noncomputable def aBF : cN Try.prog := ⟨147, fun us => match us with
 | [.str a0] => let r := pick (rW a0); some (can (rW a0), .tup [.str r.1, .bool r.2])
 | _ => none, by
 intro _ _ h; split at h; exact bC h (fun h => h.dim rfl) rfl rfl; cases h⟩
abbrev aia := Int × Bs × List ab × Bss × Int × Int × List ac × Int
noncomputable def gl (o0_0 : List ac) (o0_1 : Int) (a1_0 : Int) (a1_1 : Bs) (a1_2 : Bss) (a1_3 : Int) (a1_4 : Bss) (a1_5 : Bool) (a1_6 : Bs) (a1_7 : Int) (a1_8 : List ao) (a1_9 : List Int) (a2_0 : Int) (a2_1 : Int) (a2_2 : Bs) (a2_3 : List ae) (a2_4 : Bss) (a3 : Int) (r : aia) : Prop := aP Try.prog uG [.ptr 0 0, .agg [.int .i64 a1_0, .str a1_1, .sl .str (.may false) a1_2, .int .i64 a1_3, .sl .str (.may false) a1_4, .bool a1_5, .str a1_6, .int .i64 a1_7, .sl .afield (.may false) a1_8, .sl (.num .i64) (.may false) a1_9], .agg [.int .i64 a2_0, .int .i64 a2_1, .str a2_2, .sl .jnode (.may false) a2_3, .sl .str (.may false) a2_4], .int .i64 a3] [[.sl .atype (.may false) o0_0, .int .i64 o0_1]] (.tup [.agg [.int .u64 r.1, .str r.2.1, .sl .aval (.may false) r.2.2.1, .sl .str (.may false) r.2.2.2.1, .int .i64 r.2.2.2.2.1], .int .i64 r.2.2.2.2.2.1]) [[.sl .atype (.may false) r.2.2.2.2.2.2.1, .int .i64 r.2.2.2.2.2.2.2]] ∧ ry o0_0 o0_1 a1_0 a1_1 a1_2 a1_3 a1_4 a1_5 a1_6 a1_7 a1_8 a1_9 a2_0 a2_1 a2_2 a2_3 a2_4 a3 r
noncomputable def aib : fI Try.prog := ⟨148, fun us css => match us, css with
 | [.ptr 0 0, .agg [.int .i64 a1_0, .str a1_1, .sl .str (.may _) a1_2, .int .i64 a1_3, .sl .str (.may _) a1_4, .bool a1_5, .str a1_6, .int .i64 a1_7, .sl .afield (.may _) a1_8, .sl (.num .i64) (.may _) a1_9], .agg [.int .i64 a2_0, .int .i64 a2_1, .str a2_2, .sl .jnode (.may _) a2_3, .sl .str (.may _) a2_4], .int .i64 a3], [[.sl .atype (.may false) o0_0, .int .i64 o0_1]] => let r := pick (gl o0_0 o0_1 a1_0 a1_1 a1_2 a1_3 a1_4 a1_5 a1_6 a1_7 a1_8 a1_9 a2_0 a2_1 a2_2 a2_3 a2_4 a3); some (can (gl o0_0 o0_1 a1_0 a1_1 a1_2 a1_3 a1_4 a1_5 a1_6 a1_7 a1_8 a1_9 a2_0 a2_1 a2_2 a2_3 a2_4 a3), .tup [.agg [.int .u64 r.1, .str r.2.1, .sl .aval (.may false) r.2.2.1, .sl .str (.may false) r.2.2.2.1, .int .i64 r.2.2.2.2.1], .int .i64 r.2.2.2.2.2.1], [[.sl .atype (.may false) r.2.2.2.2.2.2.1, .int .i64 r.2.2.2.2.2.2.2]])
 | _, _ => none, by
 intro _ _ _ _ h; split at h; exact cR h fun h => h.1.dim rfl; cases h⟩
abbrev afR := Int × Bs × List ab × Bss × Int × Int × List ac × Int
noncomputable def fM (o0_0 : List ac) (o0_1 : Int) (a1_0 : Int) (a1_1 : Bs) (a1_2 : Bss) (a1_3 : Int) (a1_4 : Bss) (a1_5 : Bool) (a1_6 : Bs) (a1_7 : Int) (a1_8 : List ao) (a1_9 : List Int) (a2_0 : Int) (a2_1 : Int) (a2_2 : Bs) (a2_3 : List ae) (a2_4 : Bss) (a3 : Int) (r : afR) : Prop := aP Try.prog tA [.ptr 0 0, .agg [.int .i64 a1_0, .str a1_1, .sl .str (.may false) a1_2, .int .i64 a1_3, .sl .str (.may false) a1_4, .bool a1_5, .str a1_6, .int .i64 a1_7, .sl .afield (.may false) a1_8, .sl (.num .i64) (.may false) a1_9], .agg [.int .i64 a2_0, .int .i64 a2_1, .str a2_2, .sl .jnode (.may false) a2_3, .sl .str (.may false) a2_4], .int .i64 a3] [[.sl .atype (.may false) o0_0, .int .i64 o0_1]] (.tup [.agg [.int .u64 r.1, .str r.2.1, .sl .aval (.may false) r.2.2.1, .sl .str (.may false) r.2.2.2.1, .int .i64 r.2.2.2.2.1], .int .i64 r.2.2.2.2.2.1]) [[.sl .atype (.may false) r.2.2.2.2.2.2.1, .int .i64 r.2.2.2.2.2.2.2]] ∧ qd o0_0 o0_1 a1_0 a1_1 a1_2 a1_3 a1_4 a1_5 a1_6 a1_7 a1_8 a1_9 a2_0 a2_1 a2_2 a2_3 a2_4 a3 r
noncomputable def afS : fI Try.prog := ⟨149, fun us css => match us, css with
 | [.ptr 0 0, .agg [.int .i64 a1_0, .str a1_1, .sl .str (.may _) a1_2, .int .i64 a1_3, .sl .str (.may _) a1_4, .bool a1_5, .str a1_6, .int .i64 a1_7, .sl .afield (.may _) a1_8, .sl (.num .i64) (.may _) a1_9], .agg [.int .i64 a2_0, .int .i64 a2_1, .str a2_2, .sl .jnode (.may _) a2_3, .sl .str (.may _) a2_4], .int .i64 a3], [[.sl .atype (.may false) o0_0, .int .i64 o0_1]] => let r := pick (fM o0_0 o0_1 a1_0 a1_1 a1_2 a1_3 a1_4 a1_5 a1_6 a1_7 a1_8 a1_9 a2_0 a2_1 a2_2 a2_3 a2_4 a3); some (can (fM o0_0 o0_1 a1_0 a1_1 a1_2 a1_3 a1_4 a1_5 a1_6 a1_7 a1_8 a1_9 a2_0 a2_1 a2_2 a2_3 a2_4 a3), .tup [.agg [.int .u64 r.1, .str r.2.1, .sl .aval (.may false) r.2.2.1, .sl .str (.may false) r.2.2.2.1, .int .i64 r.2.2.2.2.1], .int .i64 r.2.2.2.2.2.1], [[.sl .atype (.may false) r.2.2.2.2.2.2.1, .int .i64 r.2.2.2.2.2.2.2]])
 | _, _ => none, by
 intro _ _ _ _ h; split at h; exact cR h fun h => h.1.dim rfl; cases h⟩
abbrev aBG := Int
noncomputable def kI (a0 : Int) (a1 : Int) (a2 : Int) (r : aBG) : Prop := aj Try.prog anS [.int .u64 a0, .int .i64 a1, .int .i64 a2] (.int .u64 r)
noncomputable def anY : cN Try.prog := ⟨154, fun us => match us with
 | [.int .u64 a0, .int .i64 a1, .int .i64 a2] => let r := pick (kI a0 a1 a2); some (can (kI a0 a1 a2), .int .u64 r)
 | _ => none, by
 intro _ _ h; split at h; exact bC h (fun h => h.dim rfl) rfl rfl; cases h⟩
abbrev aAz := Bs
noncomputable def qh (a0 : Int) (r : aAz) : Prop := aj Try.prog alh [.int .i64 a0] (.str r)
noncomputable def aAA : cN Try.prog := ⟨158, fun us => match us with
 | [.int .i64 a0] => let r := pick (qh a0); some (can (qh a0), .str r)
 | _ => none, by
 intro _ _ h; split at h; exact bC h (fun h => h.dim rfl) rfl rfl; cases h⟩
abbrev aBH := Bs
noncomputable def rX (a0 : Bs) (a1 : Bs) (r : aBH) : Prop := aj Try.prog anX [.str a0, .str a1] (.str r) ∧ rf a0 a1 r
noncomputable def aBI : cN Try.prog := ⟨159, fun us => match us with
 | [.str a0, .str a1] => let r := pick (rX a0 a1); some (can (rX a0 a1), .str r)
 | _ => none, by
 intro _ _ h; split at h; exact bC h (fun h => h.1.dim rfl) rfl rfl; cases h⟩
abbrev aAB := Bool
noncomputable def qi (a0 : Bs) (r : aAB) : Prop := aj Try.prog alo [.str a0] (.bool r)
noncomputable def aAC : cN Try.prog := ⟨160, fun us => match us with
 | [.str a0] => let r := pick (qi a0); some (can (qi a0), .bool r)
 | _ => none, by
 intro _ _ h; split at h; exact bC h (fun h => h.dim rfl) rfl rfl; cases h⟩
abbrev aBJ := Bool
noncomputable def iP (a0 : Bs) (r : aBJ) : Prop := aj Try.prog anW [.str a0] (.bool r)
noncomputable def adB : cN Try.prog := ⟨161, fun us => match us with
 | [.str a0] => let r := pick (iP a0); some (can (iP a0), .bool r)
 | _ => none, by
 intro _ _ h; split at h; exact bC h (fun h => h.dim rfl) rfl rfl; cases h⟩
abbrev aAD := Int × Int
noncomputable def qj (a0 : Bs) (r : aAD) : Prop := aj Try.prog ald [.str a0] (.tup [.int .u32 r.1, .int .i64 r.2]) ∧ adg a0 r
noncomputable def aAE : cN Try.prog := ⟨162, fun us => match us with
 | [.str a0] => let r := pick (qj a0); some (can (qj a0), .tup [.int .u32 r.1, .int .i64 r.2])
 | _ => none, by
 intro _ _ h; split at h; exact bC h (fun h => h.1.dim rfl) rfl rfl; cases h⟩
abbrev ayE := Bool
noncomputable def oO (a0 : Int) (r : ayE) : Prop := aj Try.prog ajm [.int .u8 a0] (.bool r)
noncomputable def ayF : cN Try.prog := ⟨164, fun us => match us with
 | [.int .u8 a0] => let r := pick (oO a0); some (can (oO a0), .bool r)
 | _ => none, by
 intro _ _ h; split at h; exact bC h (fun h => h.dim rfl) rfl rfl; cases h⟩
abbrev aAF := Bool
noncomputable def qk (a0 : Int) (r : aAF) : Prop := aj Try.prog aln [.int .u8 a0] (.bool r)
noncomputable def aAG : cN Try.prog := ⟨165, fun us => match us with
 | [.int .u8 a0] => let r := pick (qk a0); some (can (qk a0), .bool r)
 | _ => none, by
 intro _ _ h; split at h; exact bC h (fun h => h.dim rfl) rfl rfl; cases h⟩
end Go.Proofs.Ytdpajabhmmmjoaa
end
section
namespace Go.Proofs.Ytdpajabhmmmjoaa
open Go.AM
set_option autoImplicit false
set_option linter.unusedVariables false
set_option maxRecDepth 100000
noncomputable def zb : au := tab (P := Try.prog) [] [] [] []
noncomputable def aj2 : IR := .ret
noncomputable def aj3 : IR := (.cond (.t 14) (.seq (.reg [Pp (.mov 4 (.c (.int .i64 0)))] []) aj2) .skip)
noncomputable def aj4 : IR := .ret
noncomputable def aj5 : IR := (.seq (.reg [Mv 22 0, Nk 23 22, Fa 24 0 23, ⟨none, .ld 25 1 false false (.t 24), some ([0], [])⟩, Mv 26 0, Nk 27 26, Fa 28 1 27, ⟨none, .ld 29 1 false false (.t 28), some ([0], [])⟩, Bc 30 .sub 29 1, Pp (.ixa 31 .u8 (.t 25) (.t 30)), Ld 32 1 false 31, Pp (.cvi 33 .i64 (.t 32)), Mv 34 1, Bi 35 .rem 33 34, Mv 4 35] [[], [0], [0, 1], [0, 1, 2], [], [4], [4, 5], [4, 5, 6], [4, 5, 6, 7], [0, 1, 2, 3, 4, 5, 6, 7, 8], [0, 1, 2, 3, 4, 5, 6, 7, 8, 9], [0, 1, 2, 3, 4, 5, 6, 7, 8, 9, 10], [], [0, 1, 2, 3, 4, 5, 6, 7, 8, 9, 10, 11, 12], [0, 1, 2, 3, 4, 5, 6, 7, 8, 9, 10, 11, 12, 13]]) aj4)
noncomputable def aj6 : IR := (.seq (.reg [Mv 15 0, Nk 16 15, Fa 17 1 16, Pp (.ld 18 1 false false (.t 17)), Bc 19 .add 18 1, Nk 20 15, Fa 21 1 20, Pp (.st none 1 (.t 21) (.t 19))] []) aj5)
noncomputable def aj7 : IR := (.seq (.seq (.reg [Mv 5 0, Nk 6 5, Fa 7 1 6, ⟨none, .ld 8 1 false false (.t 7), some ([0], [])⟩, Mv 9 0, Nk 10 9, Fa 11 0 10, ⟨none, .ld 12 1 false false (.t 11), some ([0], [])⟩, Pp (.lenl 13 (.t 12)), Bi 14 .geq 8 13] [[], [0], [0, 1], [0, 1, 2], [], [4], [4, 5], [4, 5, 6], [4, 5, 6, 7], [0, 1, 2, 3, 4, 5, 6, 7, 8]]) aj3) aj6)
noncomputable def xO : IR := (.seq (.reg [Pp (.mov 4 (.c (.int .i64 0)))] []) aj7)
noncomputable def xP : List RV := [.t 4]
theorem amV : FnC Try.prog zb [] 1 za Try.f60 xO xP := fnC (by kernel_rfl) Try.func60 (by kernel_rfl) (by kernel_rfl) (by decide)
noncomputable def xQ (N : Nat) (o0_0 : Bs) (o0_1 : Int) (p1 : Int)  : Ro :=
 let x1 : Int := (↑(List.length o0_0) : Int)
 cond (decide (x1 ≤ o0_1)) (
  some (.int .i64 0, [some [.sl .u8 (.may false) o0_0, .int .i64 o0_1]])) (
  let x2 : Int := (IntKind.wrap .i64 (o0_1 + 1))
  let x3 : Int := (IntKind.wrap .i64 (x2 - 1))
  chk ((decide (0 ≤ x3) && decide (x3 < ↑(List.length o0_0)))) (
   let x4 : Int := (List.getD o0_0 (Int.toNat x3) (af .u8)).toNat
   chk ((!(p1 == 0))) (
    let x5 : Int := (Int.tmod (IntKind.wrap .i64 x4) p1)
    some (.int .i64 x5, [some [.sl .u8 (.may false) o0_0, .int .i64 x2]]))))
noncomputable def rH (N : Nat) (o0_0 : Bs) (o0_1 : Int) (p1 : Int) : Ro := xQ N o0_0 o0_1 p1
theorem alF (N : Nat) (o0_0 : Bs) (o0_1 : Int) (p1 : Int) : aE zb N 36 xP xO [.ptr 0 0, .int .i64 p1] [some [.sl .u8 (.may false) o0_0, .int .i64 o0_1]] = rH N o0_0 o0_1 p1 := by kernel_rfl
theorem alG (N : Nat) (o0_0 : Bs) (o0_1 : Int) (p1 : Int) (h : Tot (rH N o0_0 o0_1 p1) (fun z => ∃ (y0 : Int) (y1 : Bs) (y2 : Int) (rest : List an), z.1.dimR = .int .i64 y0 ∧ z.2 = some [.sl .u8 (.may false) y1, .int .i64 y2] :: rest ∧ u5 o0_0 o0_1 p1 (y0, y1, y2))) : ∃ r, aU o0_0 o0_1 p1 r := by
 obtain ⟨⟨v, hp⟩, hz, y0, y1, y2, rest, e1, e2, hq⟩ := h
 simp only at e1 e2
 subst e2
 exact ⟨(y0, y1, y2), aP.dimR (FnC.objs (css := [[.sl .u8 (.may false) o0_0, .int .i64 o0_1]]) (css' := [[.sl .u8 (.may false) y1, .int .i64 y2]]) amV (alF N o0_0 o0_1 p1) hz rfl) e1, hq⟩
noncomputable def xR : au := tab (P := Try.prog) [] [] [] []
noncomputable def aic : IR := .ret
noncomputable def aid : IR := (.seq (.reg [Mv 3 0, Nk 4 3, Fa 5 1 4, ⟨none, .ld 6 1 false false (.t 5), some ([0], [])⟩, Mv 7 0, Nk 8 7, Fa 9 0 8, ⟨none, .ld 10 1 false false (.t 9), some ([0], [])⟩, Pp (.lenl 11 (.t 10)), Bi 12 .geq 6 11, Mv 2 12] [[], [0], [0, 1], [0, 1, 2], [], [4], [4, 5], [4, 5, 6], [4, 5, 6, 7], [0, 1, 2, 3, 4, 5, 6, 7, 8], [0, 1, 2, 3, 4, 5, 6, 7, 8, 9]]) aic)
noncomputable def wD : IR := (.seq (.reg [Pp (.mov 2 (.c (.bool false)))] []) aid)
noncomputable def wE : List RV := [.t 2]
theorem alH : FnC Try.prog xR [] 1 xL Try.f59 wD wE := fnC (by kernel_rfl) Try.func59 (by kernel_rfl) (by kernel_rfl) (by decide)
noncomputable def wF (N : Nat) (o0_0 : Bs) (o0_1 : Int)  : Ro :=
 let x1 : Int := (↑(List.length o0_0) : Int)
 some (.bool (decide (x1 ≤ o0_1)), [some [.sl .u8 (.may false) o0_0, .int .i64 o0_1]])
noncomputable def ql (N : Nat) (o0_0 : Bs) (o0_1 : Int) : Ro := wF N o0_0 o0_1
theorem aj8 (N : Nat) (o0_0 : Bs) (o0_1 : Int) : aE xR N 13 wE wD [.ptr 0 0] [some [.sl .u8 (.may false) o0_0, .int .i64 o0_1]] = ql N o0_0 o0_1 := by kernel_rfl
theorem aj9 (N : Nat) (o0_0 : Bs) (o0_1 : Int) (h : Tot (ql N o0_0 o0_1) (fun z => ∃ (y0 : Bool) (y1 : Bs) (y2 : Int) (rest : List an), z.1.dimR = .bool y0 ∧ z.2 = some [.sl .u8 (.may false) y1, .int .i64 y2] :: rest ∧ uA o0_0 o0_1 (y0, y1, y2))) : ∃ r, ke o0_0 o0_1 r := by
 obtain ⟨⟨v, hp⟩, hz, y0, y1, y2, rest, e1, e2, hq⟩ := h
 simp only at e1 e2
 subst e2
 exact ⟨(y0, y1, y2), aP.dimR (FnC.objs (css := [[.sl .u8 (.may false) o0_0, .int .i64 o0_1]]) (css' := [[.sl .u8 (.may false) y1, .int .i64 y2]]) alH (aj8 N o0_0 o0_1) hz rfl) e1, hq⟩
noncomputable def anZ : au := tab (P := Try.prog) [] [] [] []
noncomputable def av4 : IR := .ret
noncomputable def av5 : IR := (.seq (.reg [Mv 3 0, Pp (.bld 4 [.sl .u8 (.may true) ([] : Bs), .int .i64 0] [(0, 1, (.t 3))]), Pp (.box 5 (.t 4)), Mv 2 5] []) av4)
noncomputable def alI : IR := (.seq (.reg [Pp (.mov 2 (.c (.nilp)))] []) av5)
noncomputable def alJ : List RV := [.t 2]
theorem aAH : FnC Try.prog anZ [] 0 anQ Try.f14 alI alJ := fnC (by kernel_rfl) Try.func14 (by kernel_rfl) (by kernel_rfl) (by decide)
noncomputable def alK (N : Nat) (p0 : Bs)  : Ro :=
 some (.ptr 0 0, [some [.sl .u8 (.may false) p0, .int .i64 0]])
noncomputable def zc (N : Nat) (p0 : Bs) : Ro := alK N p0
theorem ayG (N : Nat) (p0 : Bs) : aE anZ N 6 alJ alI [.sl .u8 (.may false) p0] [] = zc N p0 := by kernel_rfl
theorem ayH (N : Nat) (p0 : Bs) (h : Tot (zc N p0) (fun z => ∃ (y0 : Bs) (y1 : Int) (rest : List an), z = (.ptr 0 0, [some [.sl .u8 (.may false) y0, .int .i64 y1]]) ∧ afL p0 (y0, y1))) : ∃ r, rV p0 r := by
 obtain ⟨z, hz, y0, y1, rest, rfl, hq⟩ := h
 exact ⟨(y0, y1), aAH.newFn (ayG N p0) hz, hq⟩
noncomputable def an0 : au := tab (P := Try.prog) [] [] [] []
noncomputable def av6 : IR := .ret
noncomputable def av7 : IR := (.seq (.reg [Mv 3 0, Pp (.bld 4 [.int .i64 0, .int .i64 0, .str ([] : Bs), .sl .jnode .own ([] : List ae), .sl .str .own ([] : Bss)] [(0, 1, (.c (.int .i64 4))), (2, 1, (.t 3))]), Pp (.st none 5 (.t 2) (.t 4))] []) av6)
noncomputable def alL : IR := (.seq (.reg [Pp (.new 2 [.int .i64 0, .int .i64 0, .str ([] : Bs), .sl .jnode .own ([] : List ae), .sl .str .own ([] : Bss)])] []) av7)
noncomputable def alM : List RV := [.cell 2 5 true]
theorem aAI : FnC Try.prog an0 [] 0 anR Try.f86 alL alM := fnC (by kernel_rfl) Try.func86 (by kernel_rfl) (by kernel_rfl) (by decide)
noncomputable def alN (N : Nat) (p0 : Bs)  : Ro :=
 some (.agg [.int .i64 4, .int .i64 0, .str p0, .sl .jnode (.may false) ([] : List ae), .sl .str (.may false) ([] : Bss)], [some [.int .i64 4, .int .i64 0, .str p0, .sl .jnode .own ([] : List ae), .sl .str .own ([] : Bss)]])
noncomputable def zd (N : Nat) (p0 : Bs) : Ro := alN N p0
theorem ayI (N : Nat) (p0 : Bs) : aE an0 N 5 alM alL [.str p0] [] = zd N p0 := by kernel_rfl
theorem ayJ (N : Nat) (p0 : Bs) (h : Tot (zd N p0) (fun z => ∃ (y0 : Int) (y1 : Int) (y2 : Bs) (y3 : List ae) (y4 : Bss) (rest : List an), z.1.dimR = .agg [.int .i64 y0, .int .i64 y1, .str y2, .sl .jnode (.may false) y3, .sl .str (.may false) y4] ∧ z.2 = rest ∧ afM p0 (y0, y1, y2, y3, y4))) : ∃ r, be p0 r := by
 obtain ⟨⟨v, hp⟩, hz, y0, y1, y2, y3, y4, rest, e1, e2, hq⟩ := h
 simp only at e1 e2
 subst e2
 exact ⟨(y0, y1, y2, y3, y4), aj.dimR (aAI.pure (ayI N p0) hz) e1, hq⟩
noncomputable def alO : au := tab (P := Try.prog) [] [] [] []
noncomputable def ask : IR := .ret
noncomputable def asl : IR := (.seq (.reg [Mv 5 0, Mv 6 1, Pp (.bld 7 [.int .i64 0, .int .i64 0, .str ([] : Bs), .sl .jnode .own ([] : List ae), .sl .str .own ([] : Bss)] [(0, 1, (.c (.int .i64 6))), (4, 1, (.t 5)), (3, 1, (.t 6))]), Pp (.st none 5 (.t 4) (.t 7))] []) ask)
noncomputable def ajn : IR := (.seq (.reg [Pp (.new 4 [.int .i64 0, .int .i64 0, .str ([] : Bs), .sl .jnode .own ([] : List ae), .sl .str .own ([] : Bss)])] []) asl)
noncomputable def ajo : List RV := [.cell 4 5 true]
theorem ayK : FnC Try.prog alO [] 0 alb Try.f118 ajn ajo := fnC (by kernel_rfl) Try.func118 (by kernel_rfl) (by kernel_rfl) (by decide)
noncomputable def ajp (N : Nat) (p0f : Bool) (p0 : Bss) (p1f : Bool) (p1 : List ae)  : Ro :=
 some (.agg [.int .i64 6, .int .i64 0, .str ([] : Bs), .sl .jnode (.may p1f) p1, .sl .str (.may p0f) p0], [some [.int .i64 6, .int .i64 0, .str ([] : Bs), .sl .jnode (.may p1f) p1, .sl .str (.may p0f) p0]])
noncomputable def xi (N : Nat) (p0f : Bool) (p0 : Bss) (p1f : Bool) (p1 : List ae) : Ro := ajp N p0f p0 p1f p1
theorem av8 (N : Nat) (p0f : Bool) (p0 : Bss) (p1f : Bool) (p1 : List ae) : aE alO N 8 ajo ajn [.sl .str (.may p0f) p0, .sl .jnode (.may p1f) p1] [] = xi N p0f p0 p1f p1 := by kernel_rfl
theorem av9 (N : Nat) (p0f : Bool) (p0 : Bss) (p1f : Bool) (p1 : List ae) (h : Tot (xi N p0f p0 p1f p1) (fun z => ∃ (y0 : Int) (y1 : Int) (y2 : Bs) (y3 : Bool) (y4 : List ae) (y5 : Bool) (y6 : Bss) (rest : List an), z.1 = .agg [.int .i64 y0, .int .i64 y1, .str y2, .sl .jnode (.may y3) y4, .sl .str (.may y5) y6] ∧ z.2 = rest ∧ ade p0f p0 p1f p1 (y0, y1, y2, y3, y4, y5, y6))) : ∃ r, dY p0f p0 p1f p1 r := by
 obtain ⟨⟨v, hp⟩, hz, y0, y1, y2, y3, y4, y5, y6, rest, e1, e2, hq⟩ := h
 simp only at e1 e2
 subst e2
 subst e1
 exact ⟨(y0, y1, y2, y3, y4, y5, y6), ayK.pure (av8 N p0f p0 p1f p1) hz, hq⟩
noncomputable def uI : au := tab (P := Try.prog) [] [] [] []
noncomputable def ayL : IR := (.cond (.t 11) .skip (.exit 0))
noncomputable def ayM : IR := .ret
noncomputable def ayN : IR := (.cond (.t 20) (.seq (.reg [Fa 21 3 2, Ld 22 1 false 21, Mv 23 6, Pp (.ixa 24 .jnode (.t 22) (.t 23)), Ld 25 5 true 24, Pp (.st none 5 (.t 4) (.t 25)), Pp (.mov 5 (.c (.bool true)))] []) ayM) .skip)
noncomputable def ayO : IR := (.reg [Mv 12 6, Bc 13 .add 12 1, Mv 6 13] [])
noncomputable def ayP : IR := (.seq (.block 1 (.seq (.reg [Fa 14 4 2, Ld 15 1 false 14, Mv 16 6, Pp (.ixa 17 .str (.t 15) (.t 16)), Ld 18 1 false 17, Mv 19 1, Bi 20 .eql 18 19] []) ayN)) ayO)
noncomputable def ajq : IR := (.seq (.seq (.reg [Mv 7 6, Fa 8 4 2, Ld 9 1 false 8, Pp (.lenl 10 (.t 9)), Bi 11 .lss 7 10] []) ayL) ayP)
noncomputable def ayQ : IR := (.block 0 (.loop [1, 2, 4, 6, 1000000] 1 ajq))
noncomputable def ayR : IR := .ret
noncomputable def ajr : IR := (.seq (.reg [Pp (.bld 26 [.int .i64 0, .int .i64 0, .str ([] : Bs), .sl .jnode .own ([] : List ae), .sl .str .own ([] : Bss)] []), Pp (.st none 5 (.t 4) (.t 26)), Pp (.mov 5 (.c (.bool false)))] []) ayR)
noncomputable def ayS : IR := (.seq (.seq (.reg [Pp (.mov 6 (.c (.int .i64 0)))] []) ayQ) ajr)
noncomputable def adC : IR := (.seq (.reg [Pp (.boxe 2 (.t 0)), Pp (.new 4 [.int .i64 0, .int .i64 0, .str ([] : Bs), .sl .jnode .own ([] : List ae), .sl .str .own ([] : Bss)]), Pp (.mov 5 (.c (.bool false)))] []) ayS)
noncomputable def wj : List RV := [.cell 4 5 true, .t 5]
theorem aBK : FnC Try.prog uI [] 0 asg Try.f87 adC wj := fnC (by kernel_rfl) Try.func87 (by kernel_rfl) (by kernel_rfl) (by decide)
noncomputable def aAJ (R : IR → (Ex → St → Ro) → St → Ro) (again0 : St → Ro) : Ex → St → Ro := (br again0 [1, 2, 4, 6, 1000000] 1 (aD 0 (bo (R ajr) (fin wj))))
abbrev qm : Type := (Bs × Int × Int × Bs × List ae × Bss × Int × Int × Int × Bs × List ae × Bss)
noncomputable def oP (x : qm) : St := { env := (.undef :: .str x.1 :: .ea [.int .i64 x.2.1, .int .i64 x.2.2.1, .str x.2.2.2.1, .sl .jnode (.may false) x.2.2.2.2.1, .sl .str (.may false) x.2.2.2.2.2.1] :: .undef :: .ptr 0 0 :: .undef :: .int .i64 x.2.2.2.2.2.2.1 :: (U 20 [])), hp := [some [.int .i64 x.2.2.2.2.2.2.2.1, .int .i64 x.2.2.2.2.2.2.2.2.1, .str x.2.2.2.2.2.2.2.2.2.1, .sl .jnode .own x.2.2.2.2.2.2.2.2.2.2.1, .sl .str .own x.2.2.2.2.2.2.2.2.2.2.2]] }
noncomputable def ze (N : Nat) : (St → Ro) → St → Ro := fun again0 s => run uI N ajq (aAJ (run uI N) again0) s
noncomputable def uJ (N : Nat) (again0 : qm → Ro) (x : qm) : Ro :=
 let v1 : Bs := x.1
 let v2_0 : Int := x.2.1
 let v2_1 : Int := x.2.2.1
 let v2_2 : Bs := x.2.2.2.1
 let v2_3 : List ae := x.2.2.2.2.1
 let v2_4 : Bss := x.2.2.2.2.2.1
 let v6 : Int := x.2.2.2.2.2.2.1
 let o0_0 : Int := x.2.2.2.2.2.2.2.1
 let o0_1 : Int := x.2.2.2.2.2.2.2.2.1
 let o0_2 : Bs := x.2.2.2.2.2.2.2.2.2.1
 let o0_3 : List ae := x.2.2.2.2.2.2.2.2.2.2.1
 let o0_4 : Bss := x.2.2.2.2.2.2.2.2.2.2.2
 let x1 : Int := (↑(List.length v2_4) : Int)
 cond (decide (v6 < x1)) (
  chk ((decide (0 ≤ v6) && decide (v6 < ↑(List.length v2_4)))) (
   let x2 : Bs := List.getD v2_4 (Int.toNat v6) (af .str)
   cond (decide (x2 = v1)) (
    chk ((decide (0 ≤ v6) && decide (v6 < ↑(List.length v2_3)))) (
     let x3 : Int := (List.getD v2_3 (Int.toNat v6) (af .jnode)).kind
     let x4 : Int := (List.getD v2_3 (Int.toNat v6) (af .jnode)).n
     let x5 : Bs := (List.getD v2_3 (Int.toNat v6) (af .jnode)).s
     let x6 : List ae := (List.getD v2_3 (Int.toNat v6) (af .jnode)).l
     let x7 : Bss := (List.getD v2_3 (Int.toNat v6) (af .jnode)).names
     some (.tup [.agg [.int .i64 x3, .int .i64 x4, .str x5, .sl .jnode (.may false) x6, .sl .str (.may false) x7], .bool true], [some [.int .i64 x3, .int .i64 x4, .str x5, .sl .jnode (.may false) x6, .sl .str (.may false) x7]]))) (
    let x8 : Int := (IntKind.wrap .i64 (v6 + 1))
    again0 (v1, v2_0, v2_1, v2_2, v2_3, v2_4, x8, o0_0, o0_1, o0_2, o0_3, o0_4)))) (
  some (.tup [.agg [.int .i64 0, .int .i64 0, .str ([] : Bs), .sl .jnode (.may false) ([] : List ae), .sl .str (.may false) ([] : Bss)], .bool false], [some [.int .i64 0, .int .i64 0, .str ([] : Bs), .sl .jnode .own ([] : List ae), .sl .str .own ([] : Bss)]]))
theorem ayT (N : Nat) : ∀ (again0 : St → Ro) (x : qm), ze N again0 (oP x) = uJ N (fun y => again0 (oP y)) x := by
 intro again0 x
 kernel_rfl
noncomputable def rY (N : Nat) (p0_0 : Int) (p0_1 : Int) (p0_2 : Bs) (p0_3 : List ae) (p0_4 : Bss) (p1 : Bs) (q0 : qm → Ro) : Ro :=
 q0 (p1, p0_0, p0_1, p0_2, p0_3, p0_4, 0, 0, 0, ([] : Bs), ([] : List ae), ([] : Bss))
noncomputable def adD (N : Nat) (p0_0 : Int) (p0_1 : Int) (p0_2 : Bs) (p0_3 : List ae) (p0_4 : Bss) (p1 : Bs) : Ro := rY N p0_0 p0_1 p0_2 p0_3 p0_4 p1 (fun z => aB N (uJ N) z)
noncomputable def aCL (N : Nat) : List (Nat × (St → Ro)) := aI uI N adC (fin wj) ++ []
theorem aAK (N : Nat) (p0_0 : Int) (p0_1 : Int) (p0_2 : Bs) (p0_3 : List ae) (p0_4 : Bss) (p1 : Bs) : aE uI N 27 wj adC [.agg [.int .i64 p0_0, .int .i64 p0_1, .str p0_2, .sl .jnode (.may false) p0_3, .sl .str (.may false) p0_4], .str p1] [] = adD N p0_0 p0_1 p0_2 p0_3 p0_4 p1 :=
 (bx (aCL N) (by kernel_rfl) rfl (fun C => rY N p0_0 p0_1 p0_2 p0_3 p0_4 p1 (fun z => C 1000000 (oP z))) (fun C => by kernel_rfl)).trans (Eq.trans (b := rY N p0_0 p0_1 p0_2 p0_3 p0_4 p1 (fun z => aW N (ze N) (oP z))) (by kernel_rfl) (congrArg (rY N p0_0 p0_1 p0_2 p0_3 p0_4 p1) (funext fun z => aT (oP) (ze N) (uJ N) (ayT N) N z)))
theorem aAL (N : Nat) (p0_0 : Int) (p0_1 : Int) (p0_2 : Bs) (p0_3 : List ae) (p0_4 : Bss) (p1 : Bs) (h : Tot (adD N p0_0 p0_1 p0_2 p0_3 p0_4 p1) (fun z => ∃ (y0 : Int) (y1 : Int) (y2 : Bs) (y3 : List ae) (y4 : Bss) (y5 : Bool) (rest : List an), z.1.dimR = .tup [.agg [.int .i64 y0, .int .i64 y1, .str y2, .sl .jnode (.may false) y3, .sl .str (.may false) y4], .bool y5] ∧ z.2 = rest ∧ sR p0_0 p0_1 p0_2 p0_3 p0_4 p1 (y0, y1, y2, y3, y4, y5))) : ∃ r, rh p0_0 p0_1 p0_2 p0_3 p0_4 p1 r := by
 obtain ⟨⟨v, hp⟩, hz, y0, y1, y2, y3, y4, y5, rest, e1, e2, hq⟩ := h
 simp only at e1 e2
 subst e2
 exact ⟨(y0, y1, y2, y3, y4, y5), aj.dimR (aBK.pure (aAK N p0_0 p0_1 p0_2 p0_3 p0_4 p1) hz) e1, hq⟩
noncomputable def asm : au := tab (P := Try.prog) [] [] [] []
noncomputable def ayU : IR := .ret
noncomputable def ayV : IR := (.seq (.reg [Mv 5 1, Bc 6 .geq 5 0, Mv 7 6, Pg (7, true) (.mov 8 (.t 1)), Pg (7, true) (.fad 9 0 (.t 2)), Pg (7, true) (.lde 10 1 false (.t 9)), Pg (7, true) (.lenl 11 (.t 10)), Pg (7, true) (.bin 12 .lss (.t 8) (.t 11)), Pa 13 7 12, Mv 4 13] []) ayU)
noncomputable def an1 : IR := (.seq (.reg [Pp (.boxe 2 (.t 0)), Pp (.mov 4 (.c (.bool false)))] []) ayV)
noncomputable def an2 : List RV := [.t 4]
theorem aBL : FnC Try.prog asm [] 0 ash Try.f45 an1 an2 := fnC (by kernel_rfl) Try.func45 (by kernel_rfl) (by kernel_rfl) (by decide)
noncomputable def an3 (N : Nat) (p0_0 : List ac) (p1 : Int)  : Ro :=
 cond (decide (0 ≤ p1)) (
  let x1 : Int := (↑(List.length p0_0) : Int)
  some (.bool (decide (p1 < x1)), [])) (
  some (.bool false, []))
noncomputable def adE (N : Nat) (p0_0 : List ac) (p1 : Int) : Ro := an3 N p0_0 p1
theorem aAM (N : Nat) (p0_0 : List ac) (p1 : Int) : aE asm N 14 an2 an1 [.agg [.sl .atype (.may false) p0_0], .int .i64 p1] [] = adE N p0_0 p1 := by kernel_rfl
theorem aAN (N : Nat) (p0_0 : List ac) (p1 : Int) (h : Tot (adE N p0_0 p1) (fun z => ∃ (y0 : Bool) (rest : List an), z.1.dimR = .bool y0 ∧ z.2 = rest ∧ sS p0_0 p1 (y0))) : ∃ r, rg p0_0 p1 r := by
 obtain ⟨⟨v, hp⟩, hz, y0, rest, e1, e2, hq⟩ := h
 simp only at e1 e2
 subst e2
 exact ⟨(y0), aj.dimR (aBL.pure (aAM N p0_0 p1) hz) e1, hq⟩
noncomputable def qn : au := tab (P := Try.prog) [] [] [] []
noncomputable def asn : IR := (.cond (.t 9) .skip (.exit 0))
noncomputable def aso : IR := .ret
noncomputable def asp : IR := (.cond (.t 17) (.seq (.reg [Mv 18 4, Bc 19 .add 18 1, Mv 2 19] []) aso) .skip)
noncomputable def asq : IR := (.reg [Mv 10 4, Bc 11 .add 10 1, Mv 4 11] [])
noncomputable def asr : IR := (.seq (.block 1 (.seq (.reg [Mv 12 3, Mv 13 4, Pp (.ixa 14 .str (.t 12) (.t 13)), Ld 15 1 false 14, Mv 16 0, Bi 17 .eql 15 16] []) asp)) asq)
noncomputable def adi : IR := (.seq (.seq (.reg [Mv 6 4, Mv 7 3, Pp (.lenl 8 (.t 7)), Bi 9 .lss 6 8] []) asn) asr)
noncomputable def ass : IR := (.block 0 (.loop [0, 3, 4, 1000000] 0 adi))
noncomputable def ast : IR := .ret
noncomputable def adj : IR := (.seq (.reg [Pp (.mov 2 (.c (.int .i64 0)))] []) ast)
noncomputable def asu : IR := (.seq (.seq (.reg [Pp (.mov 4 (.c (.int .i64 0)))] []) ass) adj)
noncomputable def api : IR := (.seq (.reg [Pp (.bsl 5 .str [(.c (.str ([110, 117, 108, 108] : Bs))), (.c (.str ([98, 111, 111, 108, 101, 97, 110] : Bs))), (.c (.str ([105, 110, 116] : Bs))), (.c (.str ([108, 111, 110, 103] : Bs))), (.c (.str ([102, 108, 111, 97, 116] : Bs))), (.c (.str ([100, 111, 117, 98, 108, 101] : Bs))), (.c (.str ([98, 121, 116, 101, 115] : Bs))), (.c (.str ([115, 116, 114, 105, 110, 103] : Bs))), (.c (.str ([114, 101, 99, 111, 114, 100] : Bs))), (.c (.str ([101, 110, 117, 109] : Bs))), (.c (.str ([102, 105, 120, 101, 100] : Bs))), (.c (.str ([97, 114, 114, 97, 121] : Bs))), (.c (.str ([109, 97, 112] : Bs))), (.c (.str ([117, 110, 105, 111, 110] : Bs)))] true), Mv 3 5] []) asu)
noncomputable def xj : IR := (.seq (.reg [Pp (.mov 2 (.c (.int .i64 0)))] []) api)
noncomputable def sT : List RV := [.t 2]
theorem ayW : FnC Try.prog qn [] 0 ali Try.f115 xj sT := fnC (by kernel_rfl) Try.func115 (by kernel_rfl) (by kernel_rfl) (by decide)
noncomputable def awa (R : IR → (Ex → St → Ro) → St → Ro) (again0 : St → Ro) : Ex → St → Ro := (br again0 [0, 3, 4, 1000000] 0 (aD 0 (bo (R adj) (fin sT))))
abbrev mW : Type := (Bs × Bool × Bss × Int)
noncomputable def lQ (x : mW) : St := { env := (.str x.1 :: .undef :: .undef :: .sl .str (.may x.2.1) x.2.2.1 :: .int .i64 x.2.2.2 :: (U 15 [])), hp := [] }
noncomputable def vD (N : Nat) : (St → Ro) → St → Ro := fun again0 s => run qn N adi (awa (run qn N) again0) s
noncomputable def ri (N : Nat) (again0 : mW → Ro) (x : mW) : Ro :=
 let v0 : Bs := x.1
 let v3_f : Bool := x.2.1
 let v3 : Bss := x.2.2.1
 let v4 : Int := x.2.2.2
 let x1 : Int := (↑(List.length v3) : Int)
 cond (decide (v4 < x1)) (
  chk ((decide (0 ≤ v4) && decide (v4 < ↑(List.length v3)))) (
   let x2 : Bs := List.getD v3 (Int.toNat v4) (af .str)
   cond (decide (x2 = v0)) (
    let x3 : Int := (IntKind.wrap .i64 (v4 + 1))
    some (.int .i64 x3, [])) (
    let x4 : Int := (IntKind.wrap .i64 (v4 + 1))
    again0 (v0, v3_f, v3, x4)))) (
  some (.int .i64 0, []))
theorem asv (N : Nat) : ∀ (again0 : St → Ro) (x : mW), vD N again0 (lQ x) = ri N (fun y => again0 (lQ y)) x := by
 intro again0 x
 kernel_rfl
noncomputable def oQ (N : Nat) (p0 : Bs) (q0 : mW → Ro) : Ro :=
 q0 (p0, true, ([([110, 117, 108, 108] : Bs), ([98, 111, 111, 108, 101, 97, 110] : Bs), ([105, 110, 116] : Bs), ([108, 111, 110, 103] : Bs), ([102, 108, 111, 97, 116] : Bs), ([100, 111, 117, 98, 108, 101] : Bs), ([98, 121, 116, 101, 115] : Bs), ([115, 116, 114, 105, 110, 103] : Bs), ([114, 101, 99, 111, 114, 100] : Bs), ([101, 110, 117, 109] : Bs), ([102, 105, 120, 101, 100] : Bs), ([97, 114, 114, 97, 121] : Bs), ([109, 97, 112] : Bs), ([117, 110, 105, 111, 110] : Bs)] : Bss), 0)
noncomputable def xk (N : Nat) (p0 : Bs) : Ro := oQ N p0 (fun z => aB N (ri N) z)
noncomputable def aAO (N : Nat) : List (Nat × (St → Ro)) := aI qn N xj (fin sT) ++ []
theorem awb (N : Nat) (p0 : Bs) : aE qn N 20 sT xj [.str p0] [] = xk N p0 :=
 (bx (aAO N) (by kernel_rfl) rfl (fun C => oQ N p0 (fun z => C 1000000 (lQ z))) (fun C => by kernel_rfl)).trans (Eq.trans (b := oQ N p0 (fun z => aW N (vD N) (lQ z))) (by kernel_rfl) (congrArg (oQ N p0) (funext fun z => aT (lQ) (vD N) (ri N) (asv N) N z)))
theorem awc (N : Nat) (p0 : Bs) (h : Tot (xk N p0) (fun z => ∃ (y0 : Int) (rest : List an), z.1.dimR = .int .i64 y0 ∧ z.2 = rest ∧ adf p0 (y0))) : ∃ r, kX p0 r := by
 obtain ⟨⟨v, hp⟩, hz, y0, rest, e1, e2, hq⟩ := h
 simp only at e1 e2
 subst e2
 exact ⟨(y0), aj.dimR (ayW.pure (awb N p0) hz) e1, hq⟩
noncomputable def alP : au := tab (P := Try.prog) [] [] [] []
noncomputable def asw : IR := .ret
noncomputable def asx : IR := (.cond (.t 10) (.seq (.reg [Pp (.mov 2 (.c (.str ([] : Bs))))] []) asw) .skip)
noncomputable def asy : IR := .ret
noncomputable def asz : IR := (.seq (.reg [Mv 11 3, Mv 12 0, Pp (.ixa 13 .str (.t 11) (.t 12)), Ld 14 1 false 13, Mv 2 14] []) asy)
noncomputable def asA : IR := (.seq (.seq (.reg [Mv 5 0, Bc 6 .lss 5 1, Mv 7 6, Pg (7, false) (.mov 8 (.t 0)), Pg (7, false) (.bin 9 .gtr (.t 8) (.c (.int .i64 14))), Po 10 7 9] []) asx) asz)
noncomputable def asB : IR := (.seq (.reg [Pp (.bsl 4 .str [(.c (.str ([] : Bs))), (.c (.str ([110, 117, 108, 108] : Bs))), (.c (.str ([98, 111, 111, 108, 101, 97, 110] : Bs))), (.c (.str ([105, 110, 116] : Bs))), (.c (.str ([108, 111, 110, 103] : Bs))), (.c (.str ([102, 108, 111, 97, 116] : Bs))), (.c (.str ([100, 111, 117, 98, 108, 101] : Bs))), (.c (.str ([98, 121, 116, 101, 115] : Bs))), (.c (.str ([115, 116, 114, 105, 110, 103] : Bs))), (.c (.str ([114, 101, 99, 111, 114, 100] : Bs))), (.c (.str ([101, 110, 117, 109] : Bs))), (.c (.str ([102, 105, 120, 101, 100] : Bs))), (.c (.str ([97, 114, 114, 97, 121] : Bs))), (.c (.str ([109, 97, 112] : Bs))), (.c (.str ([117, 110, 105, 111, 110] : Bs)))] true), Mv 3 4] []) asA)
noncomputable def ajs : IR := (.seq (.reg [Pp (.mov 2 (.c (.str ([] : Bs))))] []) asB)
noncomputable def ajt : List RV := [.t 2]
theorem ayX : FnC Try.prog alP [] 0 alh Try.f158 ajs ajt := fnC (by kernel_rfl) Try.func158 (by kernel_rfl) (by kernel_rfl) (by decide)
noncomputable def aju (N : Nat) (p0 : Int)  : Ro :=
 cond (decide (p0 < 1)) (
  some (.str ([] : Bs), [])) (
  cond (decide (14 < p0)) (
   some (.str ([] : Bs), [])) (
   chk ((decide (0 ≤ p0) && decide (p0 < ↑(List.length ([([] : Bs), ([110, 117, 108, 108] : Bs), ([98, 111, 111, 108, 101, 97, 110] : Bs), ([105, 110, 116] : Bs), ([108, 111, 110, 103] : Bs), ([102, 108, 111, 97, 116] : Bs), ([100, 111, 117, 98, 108, 101] : Bs), ([98, 121, 116, 101, 115] : Bs), ([115, 116, 114, 105, 110, 103] : Bs), ([114, 101, 99, 111, 114, 100] : Bs), ([101, 110, 117, 109] : Bs), ([102, 105, 120, 101, 100] : Bs), ([97, 114, 114, 97, 121] : Bs), ([109, 97, 112] : Bs), ([117, 110, 105, 111, 110] : Bs)] : Bss))))) (
    let x1 : Bs := List.getD ([([] : Bs), ([110, 117, 108, 108] : Bs), ([98, 111, 111, 108, 101, 97, 110] : Bs), ([105, 110, 116] : Bs), ([108, 111, 110, 103] : Bs), ([102, 108, 111, 97, 116] : Bs), ([100, 111, 117, 98, 108, 101] : Bs), ([98, 121, 116, 101, 115] : Bs), ([115, 116, 114, 105, 110, 103] : Bs), ([114, 101, 99, 111, 114, 100] : Bs), ([101, 110, 117, 109] : Bs), ([102, 105, 120, 101, 100] : Bs), ([97, 114, 114, 97, 121] : Bs), ([109, 97, 112] : Bs), ([117, 110, 105, 111, 110] : Bs)] : Bss) (Int.toNat p0) (af .str)
    some (.str x1, []))))
noncomputable def xl (N : Nat) (p0 : Int) : Ro := aju N p0
theorem awd (N : Nat) (p0 : Int) : aE alP N 15 ajt ajs [.int .i64 p0] [] = xl N p0 := by kernel_rfl
theorem awe (N : Nat) (p0 : Int) (h : Tot (xl N p0) (fun z => ∃ (y0 : Bs) (rest : List an), z.1.dimR = .str y0 ∧ z.2 = rest)) : ∃ r, qh p0 r := by
 obtain ⟨⟨v, hp⟩, hz, y0, rest, e1, e2⟩ := h
 simp only at e1 e2
 subst e2
 exact ⟨(y0), aj.dimR (ayX.pure (awd N p0) hz) e1⟩
noncomputable def rZ : au := tab (P := Try.prog) [] [] [] []
noncomputable def awf : IR := (.cond (.t 21) .skip (.exit 0))
noncomputable def awg : IR := (.block 1 (.reg [Mv 22 7, Bc 23 .add 22 1, Mv 7 23] []))
noncomputable def afT : IR := (.seq (.seq (.reg [Mv 8 7, Fa 9 3 3, Pp (.ld 10 1 false false (.t 9)), Pp (.lenl 11 (.t 10)), Bi 12 .lss 8 11, Mv 13 12, Pg (13, true) (.fad 14 3 (.t 3)), Pg (13, true) (.ld 15 1 false false (.t 14)), Pg (13, true) (.mov 16 (.t 7)), Pg (13, true) (.ixa 17 .str (.t 15) (.t 16)), Pg (13, true) (.lde 18 1 false (.t 17)), Pg (13, true) (.mov 19 (.t 1)), Pg (13, true) (.bin 20 .lss (.t 18) (.t 19)), Pa 21 13 20] []) awf) awg)
noncomputable def awh : IR := .ret
noncomputable def awi : IR := (.seq (.gh (.fz (.cell 0 2)) (.reg [Pp (.ld 48 5 true false (.t 3)), Pp (.st none 5 (.t 6) (.t 48))] [])) awh)
noncomputable def awj : IR := (.seq (.gh (.opn (.cell 0 2)) (.ghp (.cls (.cell 0 2)) (.reg [Fa 43 2 3, Pp (.ld 44 1 false false (.t 43)), Mv 45 7, Ld 46 5 true 5, Pp (.ixw 47 .aval (.t 44) (.t 45)), Pp (.stw none 5 (.t 47) (.t 46))] []))) awi)
noncomputable def awk : IR := (.cond (.t 37) (.seq (.reg [Pp (.blu 38 .aval), Fa 39 2 3, Pp (.ld 40 1 false false (.t 39)), Pp (.apu 41 .aval (.tk 38) (.t 40)), Fa 42 2 3, Pp (.st none 1 (.t 42) (.tk 41))] []) awj) .skip)
noncomputable def awl : IR := .ret
noncomputable def awm : IR := (.seq (.gh (.fz (.cell 0 2)) (.reg [Pp (.ld 79 5 true false (.t 3)), Pp (.st none 5 (.t 6) (.t 79))] [])) awl)
noncomputable def awn : IR := (.seq (.reg [Pp (.blu 64 .aval), Fa 65 2 3, ⟨none, .ld 66 1 false false (.t 65), some ([0], [])⟩, Mv 67 7, Pp (.subl 68 .aval (.t 66) none (some (.t 67))), Pp (.apu 69 .aval (.tk 64) (.t 68)), Ld 70 5 true 5, Pp (.bsl 71 .aval [(.t 70)] true), Pp (.apu 72 .aval (.tk 69) (.t 71)), Fa 73 2 3, ⟨none, .ld 74 1 false false (.t 73), some ([0], [])⟩, Mv 75 7, Pp (.subl 76 .aval (.t 74) (some (.t 75)) none), Pp (.apu 77 .aval (.tk 72) (.t 76)), Fa 78 2 3, ⟨none, .st none 1 (.t 78) (.tk 77), some ([], [0])⟩] [[], [], [1], [], [1, 2, 3], [0, 1, 2, 3, 4], [], [6], [0, 1, 2, 3, 4, 5, 6, 7], [], [9], [], [9, 10, 11], [0, 1, 2, 3, 4, 5, 6, 7, 8, 9, 10, 11, 12], [0, 1, 2, 3, 4, 5, 6, 7, 8, 9, 10, 11, 12, 13], [0, 1, 2, 3, 4, 5, 6, 7, 8, 9, 10, 11, 12, 13, 14]]) awm)
noncomputable def asC : IR := (.seq (.reg [Pp (.bsl 49 .str [] false), Fa 50 3 3, ⟨none, .ld 51 1 false false (.t 50), some ([0], [])⟩, Mv 52 7, Pp (.subl 53 .str (.t 51) none (some (.t 52))), Pp (.app 54 .str (.tk 49) (.t 53)), Mv 55 1, Pp (.bsl 56 .str [(.t 55)] true), Pp (.app 57 .str (.tk 54) (.t 56)), Fa 58 3 3, ⟨none, .ld 59 1 false false (.t 58), some ([0], [])⟩, Mv 60 7, Pp (.subl 61 .str (.t 59) (some (.t 60)) none), Pp (.app 62 .str (.tk 57) (.t 61)), Fa 63 3 3, ⟨none, .st none 1 (.t 63) (.tk 62), some ([], [0])⟩] [[], [], [1], [], [1, 2, 3], [0, 1, 2, 3, 4], [], [6], [0, 1, 2, 3, 4, 5, 6, 7], [], [9], [], [9, 10, 11], [0, 1, 2, 3, 4, 5, 6, 7, 8, 9, 10, 11, 12], [0, 1, 2, 3, 4, 5, 6, 7, 8, 9, 10, 11, 12, 13], [0, 1, 2, 3, 4, 5, 6, 7, 8, 9, 10, 11, 12, 13, 14]]) awn)
noncomputable def adk : IR := (.seq (.seq (.reg [Mv 24 7, Fa 25 3 3, Pp (.ld 26 1 false false (.t 25)), Pp (.lenl 27 (.t 26)), Bi 28 .lss 24 27, Mv 29 28, Pg (29, true) (.fad 30 3 (.t 3)), Pg (29, true) (.ld 31 1 false false (.t 30)), Pg (29, true) (.mov 32 (.t 7)), Pg (29, true) (.ixa 33 .str (.t 31) (.t 32)), Pg (29, true) (.lde 34 1 false (.t 33)), Pg (29, true) (.mov 35 (.t 1)), Pg (29, true) (.bin 36 .eql (.t 34) (.t 35)), Pa 37 29 36] []) awk) asC)
noncomputable def asD : IR := (.seq (.block 0 (.loop [1, 3, 5, 6, 7, 1000000] 2 afT)) adk)
noncomputable def asE : IR := (.seq (.reg [Pp (.mov 7 (.c (.int .i64 0)))] []) asD)
noncomputable def zf : IR := (.seq (.reg [Pp (.box 3 (.t 0)), Pp (.boxe 5 (.t 2)), Pp (.new 6 [.int .u64 0, .str ([] : Bs), .sl .aval .own ([] : List ab), .sl .str .own ([] : Bss), .int .i64 0])] []) asE)
noncomputable def uK : List RV := [.cell 6 5 true]
theorem aAP : FnC Try.prog rZ [] 0 anT Try.f61 zf uK := fnC (by kernel_rfl) Try.func61 (by kernel_rfl) (by kernel_rfl) (by decide)
noncomputable def ayY (R : IR → (Ex → St → Ro) → St → Ro) (again0 : St → Ro) : Ex → St → Ro := (br again0 [1, 3, 5, 6, 7, 1000000] 2 (aD 0 (bo (R adk) (fin uK))))
abbrev oR : Type := (Bs × Int × Bs × List ab × Bss × Int × Int × Int × Bs × List ab × Bss × Int × Int × Bs × List ab × Bss × Int)
noncomputable def mX (x : oR) : St := { env := (.undef :: .str x.1 :: .undef :: .ptr 0 0 :: .undef :: .ea [.int .u64 x.2.1, .str x.2.2.1, .sl .aval (.may false) x.2.2.2.1, .sl .str (.may false) x.2.2.2.2.1, .int .i64 x.2.2.2.2.2.1] :: .ptr 1 0 :: .int .i64 x.2.2.2.2.2.2.1 :: (U 72 [])), hp := [some [.int .u64 x.2.2.2.2.2.2.2.1, .str x.2.2.2.2.2.2.2.2.1, .sl .aval (.may false) x.2.2.2.2.2.2.2.2.2.1, .sl .str (.may false) x.2.2.2.2.2.2.2.2.2.2.1, .int .i64 x.2.2.2.2.2.2.2.2.2.2.2.1], some [.int .u64 x.2.2.2.2.2.2.2.2.2.2.2.2.1, .str x.2.2.2.2.2.2.2.2.2.2.2.2.2.1, .sl .aval .own x.2.2.2.2.2.2.2.2.2.2.2.2.2.2.1, .sl .str .own x.2.2.2.2.2.2.2.2.2.2.2.2.2.2.2.1, .int .i64 x.2.2.2.2.2.2.2.2.2.2.2.2.2.2.2.2]] }
noncomputable def xm (N : Nat) : (St → Ro) → St → Ro := fun again0 s => run rZ N afT (ayY (run rZ N) again0) s
noncomputable def sU (N : Nat) (again0 : oR → Ro) (x : oR) : Ro :=
 let v1 : Bs := x.1
 let v5_0 : Int := x.2.1
 let v5_1 : Bs := x.2.2.1
 let v5_2 : List ab := x.2.2.2.1
 let v5_3 : Bss := x.2.2.2.2.1
 let v5_4 : Int := x.2.2.2.2.2.1
 let v7 : Int := x.2.2.2.2.2.2.1
 let o0_0 : Int := x.2.2.2.2.2.2.2.1
 let o0_1 : Bs := x.2.2.2.2.2.2.2.2.1
 let o0_2 : List ab := x.2.2.2.2.2.2.2.2.2.1
 let o0_3 : Bss := x.2.2.2.2.2.2.2.2.2.2.1
 let o0_4 : Int := x.2.2.2.2.2.2.2.2.2.2.2.1
 let o1_0 : Int := x.2.2.2.2.2.2.2.2.2.2.2.2.1
 let o1_1 : Bs := x.2.2.2.2.2.2.2.2.2.2.2.2.2.1
 let o1_2 : List ab := x.2.2.2.2.2.2.2.2.2.2.2.2.2.2.1
 let o1_3 : Bss := x.2.2.2.2.2.2.2.2.2.2.2.2.2.2.2.1
 let o1_4 : Int := x.2.2.2.2.2.2.2.2.2.2.2.2.2.2.2.2
 let x1 : Int := (↑(List.length o0_3) : Int)
 cond (decide (v7 < x1)) (
  chk ((decide (0 ≤ v7) && decide (v7 < ↑(List.length o0_3)))) (
   let x2 : Bs := List.getD o0_3 (Int.toNat v7) (af .str)
   cond (Op.bytesLess x2 v1) (
    let x3 : Int := (IntKind.wrap .i64 (v7 + 1))
    again0 (v1, v5_0, v5_1, v5_2, v5_3, v5_4, x3, o0_0, o0_1, o0_2, o0_3, o0_4, o1_0, o1_1, o1_2, o1_3, o1_4)) (
    let x4 : Int := (↑(List.length o0_3) : Int)
    cond (decide (v7 < x4)) (
     chk ((decide (0 ≤ v7) && decide (v7 < ↑(List.length o0_3)))) (
      let x5 : Bs := List.getD o0_3 (Int.toNat v7) (af .str)
      cond (decide (x5 = v1)) (
       chk (decide ((List.length ([] : List ab) + List.length o0_2) * 80 ≤ 140737488355328)) (
        let x6 : List ab := (([] : List ab) ++ o0_2)
        chk (decide (0 < List.length x6)) (
         chk ((decide (0 ≤ v7) && decide (v7 < ↑(List.length x6)))) (
          chk (decide ((Int.toNat v7) < List.length x6)) (
           let x7 : List ab := (List.set x6 (Int.toNat v7) ⟨v5_0, v5_1, v5_2, v5_3, v5_4⟩)
           chk (Nat.beq (List.length x6) (List.length x7)) (
            some (.agg [.int .u64 o0_0, .str o0_1, .sl .aval (.may false) x7, .sl .str (.may false) o0_3, .int .i64 o0_4], [some [.int .u64 o0_0, .str o0_1, .sl .aval .own x7, .sl .str (.may false) o0_3, .int .i64 o0_4], some [.int .u64 o0_0, .str o0_1, .sl .aval (.may false) x7, .sl .str (.may false) o0_3, .int .i64 o0_4], none, none]))))))) (
       chk ((decide (0 ≤ v7) && decide (v7 ≤ (↑(List.length o0_3) : Int)))) (
        let x8 : Bss := (List.drop 0 (List.take (Int.toNat v7) o0_3))
        chk (decide ((List.length ([] : Bss) + List.length x8) * 16 ≤ 140737488355328)) (
         let x9 : Bss := (([] : Bss) ++ x8)
         chk (decide ((List.length x9 + List.length ([v1] : Bss)) * 16 ≤ 140737488355328)) (
          let x10 : Bss := (x9 ++ ([v1] : Bss))
          chk ((decide (0 ≤ v7) && decide (v7 ≤ (↑(List.length o0_3) : Int)))) (
           let x11 : Bss := (List.drop (Int.toNat v7) (List.take (List.length o0_3) o0_3))
           chk (decide ((List.length x10 + List.length x11) * 16 ≤ 140737488355328)) (
            chk ((decide (0 ≤ v7) && decide (v7 ≤ (↑(List.length o0_2) : Int)))) (
             let x12 : List ab := (List.drop 0 (List.take (Int.toNat v7) o0_2))
             chk (decide ((List.length ([] : List ab) + List.length x12) * 80 ≤ 140737488355328)) (
              let x13 : List ab := (([] : List ab) ++ x12)
              chk (decide ((List.length x13 + List.length ([⟨v5_0, v5_1, v5_2, v5_3, v5_4⟩] : List ab)) * 80 ≤ 140737488355328)) (
               let x14 : List ab := (x13 ++ ([⟨v5_0, v5_1, v5_2, v5_3, v5_4⟩] : List ab))
               chk ((decide (0 ≤ v7) && decide (v7 ≤ (↑(List.length o0_2) : Int)))) (
                let x15 : List ab := (List.drop (Int.toNat v7) (List.take (List.length o0_2) o0_2))
                chk (decide ((List.length x14 + List.length x15) * 80 ≤ 140737488355328)) (
                 some (.agg [.int .u64 o0_0, .str o0_1, .sl .aval (.may false) (x14 ++ x15), .sl .str (.may false) (x10 ++ x11), .int .i64 o0_4], [some [.int .u64 o0_0, .str o0_1, .sl .aval .own (x14 ++ x15), .sl .str .own (x10 ++ x11), .int .i64 o0_4], some [.int .u64 o0_0, .str o0_1, .sl .aval (.may false) (x14 ++ x15), .sl .str (.may false) (x10 ++ x11), .int .i64 o0_4]])))))))))))))) (
     chk ((decide (0 ≤ v7) && decide (v7 ≤ (↑(List.length o0_3) : Int)))) (
      let x16 : Bss := (List.drop 0 (List.take (Int.toNat v7) o0_3))
      chk (decide ((List.length ([] : Bss) + List.length x16) * 16 ≤ 140737488355328)) (
       let x17 : Bss := (([] : Bss) ++ x16)
       chk (decide ((List.length x17 + List.length ([v1] : Bss)) * 16 ≤ 140737488355328)) (
        let x18 : Bss := (x17 ++ ([v1] : Bss))
        chk ((decide (0 ≤ v7) && decide (v7 ≤ (↑(List.length o0_3) : Int)))) (
         let x19 : Bss := (List.drop (Int.toNat v7) (List.take (List.length o0_3) o0_3))
         chk (decide ((List.length x18 + List.length x19) * 16 ≤ 140737488355328)) (
          chk ((decide (0 ≤ v7) && decide (v7 ≤ (↑(List.length o0_2) : Int)))) (
           let x20 : List ab := (List.drop 0 (List.take (Int.toNat v7) o0_2))
           chk (decide ((List.length ([] : List ab) + List.length x20) * 80 ≤ 140737488355328)) (
            let x21 : List ab := (([] : List ab) ++ x20)
            chk (decide ((List.length x21 + List.length ([⟨v5_0, v5_1, v5_2, v5_3, v5_4⟩] : List ab)) * 80 ≤ 140737488355328)) (
             let x22 : List ab := (x21 ++ ([⟨v5_0, v5_1, v5_2, v5_3, v5_4⟩] : List ab))
             chk ((decide (0 ≤ v7) && decide (v7 ≤ (↑(List.length o0_2) : Int)))) (
              let x23 : List ab := (List.drop (Int.toNat v7) (List.take (List.length o0_2) o0_2))
              chk (decide ((List.length x22 + List.length x23) * 80 ≤ 140737488355328)) (
               some (.agg [.int .u64 o0_0, .str o0_1, .sl .aval (.may false) (x22 ++ x23), .sl .str (.may false) (x18 ++ x19), .int .i64 o0_4], [some [.int .u64 o0_0, .str o0_1, .sl .aval .own (x22 ++ x23), .sl .str .own (x18 ++ x19), .int .i64 o0_4], some [.int .u64 o0_0, .str o0_1, .sl .aval (.may false) (x22 ++ x23), .sl .str (.may false) (x18 ++ x19), .int .i64 o0_4]]))))))))))))))) (
  let x24 : Int := (↑(List.length o0_3) : Int)
  cond (decide (v7 < x24)) (
   chk ((decide (0 ≤ v7) && decide (v7 < ↑(List.length o0_3)))) (
    let x25 : Bs := List.getD o0_3 (Int.toNat v7) (af .str)
    cond (decide (x25 = v1)) (
     chk (decide ((List.length ([] : List ab) + List.length o0_2) * 80 ≤ 140737488355328)) (
      let x26 : List ab := (([] : List ab) ++ o0_2)
      chk (decide (0 < List.length x26)) (
       chk ((decide (0 ≤ v7) && decide (v7 < ↑(List.length x26)))) (
        chk (decide ((Int.toNat v7) < List.length x26)) (
         let x27 : List ab := (List.set x26 (Int.toNat v7) ⟨v5_0, v5_1, v5_2, v5_3, v5_4⟩)
         chk (Nat.beq (List.length x26) (List.length x27)) (
          some (.agg [.int .u64 o0_0, .str o0_1, .sl .aval (.may false) x27, .sl .str (.may false) o0_3, .int .i64 o0_4], [some [.int .u64 o0_0, .str o0_1, .sl .aval .own x27, .sl .str (.may false) o0_3, .int .i64 o0_4], some [.int .u64 o0_0, .str o0_1, .sl .aval (.may false) x27, .sl .str (.may false) o0_3, .int .i64 o0_4], none, none]))))))) (
     chk ((decide (0 ≤ v7) && decide (v7 ≤ (↑(List.length o0_3) : Int)))) (
      let x28 : Bss := (List.drop 0 (List.take (Int.toNat v7) o0_3))
      chk (decide ((List.length ([] : Bss) + List.length x28) * 16 ≤ 140737488355328)) (
       let x29 : Bss := (([] : Bss) ++ x28)
       chk (decide ((List.length x29 + List.length ([v1] : Bss)) * 16 ≤ 140737488355328)) (
        let x30 : Bss := (x29 ++ ([v1] : Bss))
        chk ((decide (0 ≤ v7) && decide (v7 ≤ (↑(List.length o0_3) : Int)))) (
         let x31 : Bss := (List.drop (Int.toNat v7) (List.take (List.length o0_3) o0_3))
         chk (decide ((List.length x30 + List.length x31) * 16 ≤ 140737488355328)) (
          chk ((decide (0 ≤ v7) && decide (v7 ≤ (↑(List.length o0_2) : Int)))) (
           let x32 : List ab := (List.drop 0 (List.take (Int.toNat v7) o0_2))
           chk (decide ((List.length ([] : List ab) + List.length x32) * 80 ≤ 140737488355328)) (
            let x33 : List ab := (([] : List ab) ++ x32)
            chk (decide ((List.length x33 + List.length ([⟨v5_0, v5_1, v5_2, v5_3, v5_4⟩] : List ab)) * 80 ≤ 140737488355328)) (
             let x34 : List ab := (x33 ++ ([⟨v5_0, v5_1, v5_2, v5_3, v5_4⟩] : List ab))
             chk ((decide (0 ≤ v7) && decide (v7 ≤ (↑(List.length o0_2) : Int)))) (
              let x35 : List ab := (List.drop (Int.toNat v7) (List.take (List.length o0_2) o0_2))
              chk (decide ((List.length x34 + List.length x35) * 80 ≤ 140737488355328)) (
               some (.agg [.int .u64 o0_0, .str o0_1, .sl .aval (.may false) (x34 ++ x35), .sl .str (.may false) (x30 ++ x31), .int .i64 o0_4], [some [.int .u64 o0_0, .str o0_1, .sl .aval .own (x34 ++ x35), .sl .str .own (x30 ++ x31), .int .i64 o0_4], some [.int .u64 o0_0, .str o0_1, .sl .aval (.may false) (x34 ++ x35), .sl .str (.may false) (x30 ++ x31), .int .i64 o0_4]])))))))))))))) (
   chk ((decide (0 ≤ v7) && decide (v7 ≤ (↑(List.length o0_3) : Int)))) (
    let x36 : Bss := (List.drop 0 (List.take (Int.toNat v7) o0_3))
    chk (decide ((List.length ([] : Bss) + List.length x36) * 16 ≤ 140737488355328)) (
     let x37 : Bss := (([] : Bss) ++ x36)
     chk (decide ((List.length x37 + List.length ([v1] : Bss)) * 16 ≤ 140737488355328)) (
      let x38 : Bss := (x37 ++ ([v1] : Bss))
      chk ((decide (0 ≤ v7) && decide (v7 ≤ (↑(List.length o0_3) : Int)))) (
       let x39 : Bss := (List.drop (Int.toNat v7) (List.take (List.length o0_3) o0_3))
       chk (decide ((List.length x38 + List.length x39) * 16 ≤ 140737488355328)) (
        chk ((decide (0 ≤ v7) && decide (v7 ≤ (↑(List.length o0_2) : Int)))) (
         let x40 : List ab := (List.drop 0 (List.take (Int.toNat v7) o0_2))
         chk (decide ((List.length ([] : List ab) + List.length x40) * 80 ≤ 140737488355328)) (
          let x41 : List ab := (([] : List ab) ++ x40)
          chk (decide ((List.length x41 + List.length ([⟨v5_0, v5_1, v5_2, v5_3, v5_4⟩] : List ab)) * 80 ≤ 140737488355328)) (
           let x42 : List ab := (x41 ++ ([⟨v5_0, v5_1, v5_2, v5_3, v5_4⟩] : List ab))
           chk ((decide (0 ≤ v7) && decide (v7 ≤ (↑(List.length o0_2) : Int)))) (
            let x43 : List ab := (List.drop (Int.toNat v7) (List.take (List.length o0_2) o0_2))
            chk (decide ((List.length x42 + List.length x43) * 80 ≤ 140737488355328)) (
             some (.agg [.int .u64 o0_0, .str o0_1, .sl .aval (.may false) (x42 ++ x43), .sl .str (.may false) (x38 ++ x39), .int .i64 o0_4], [some [.int .u64 o0_0, .str o0_1, .sl .aval .own (x42 ++ x43), .sl .str .own (x38 ++ x39), .int .i64 o0_4], some [.int .u64 o0_0, .str o0_1, .sl .aval (.may false) (x42 ++ x43), .sl .str (.may false) (x38 ++ x39), .int .i64 o0_4]])))))))))))))
theorem awo (N : Nat) : ∀ (again0 : St → Ro) (x : oR), xm N again0 (mX x) = sU N (fun y => again0 (mX y)) x := by
 intro again0 x
 kernel_rfl
noncomputable def qo (N : Nat) (p0_0 : Int) (p0_1 : Bs) (p0_2 : List ab) (p0_3 : Bss) (p0_4 : Int) (p1 : Bs) (p2_0 : Int) (p2_1 : Bs) (p2_2 : List ab) (p2_3 : Bss) (p2_4 : Int) (q0 : oR → Ro) : Ro :=
 q0 (p1, p2_0, p2_1, p2_2, p2_3, p2_4, 0, p0_0, p0_1, p0_2, p0_3, p0_4, 0, ([] : Bs), ([] : List ab), ([] : Bss), 0)
noncomputable def zg (N : Nat) (p0_0 : Int) (p0_1 : Bs) (p0_2 : List ab) (p0_3 : Bss) (p0_4 : Int) (p1 : Bs) (p2_0 : Int) (p2_1 : Bs) (p2_2 : List ab) (p2_3 : Bss) (p2_4 : Int) : Ro := qo N p0_0 p0_1 p0_2 p0_3 p0_4 p1 p2_0 p2_1 p2_2 p2_3 p2_4 (fun z => aB N (sU N) z)
noncomputable def aBM (N : Nat) : List (Nat × (St → Ro)) := aI rZ N zf (fin uK) ++ []
theorem ayZ (N : Nat) (p0_0 : Int) (p0_1 : Bs) (p0_2 : List ab) (p0_3 : Bss) (p0_4 : Int) (p1 : Bs) (p2_0 : Int) (p2_1 : Bs) (p2_2 : List ab) (p2_3 : Bss) (p2_4 : Int) : aE rZ N 80 uK zf [.agg [.int .u64 p0_0, .str p0_1, .sl .aval (.may false) p0_2, .sl .str (.may false) p0_3, .int .i64 p0_4], .str p1, .agg [.int .u64 p2_0, .str p2_1, .sl .aval (.may false) p2_2, .sl .str (.may false) p2_3, .int .i64 p2_4]] [] = zg N p0_0 p0_1 p0_2 p0_3 p0_4 p1 p2_0 p2_1 p2_2 p2_3 p2_4 :=
 (bx (aBM N) (by kernel_rfl) rfl (fun C => qo N p0_0 p0_1 p0_2 p0_3 p0_4 p1 p2_0 p2_1 p2_2 p2_3 p2_4 (fun z => C 1000000 (mX z))) (fun C => by kernel_rfl)).trans (Eq.trans (b := qo N p0_0 p0_1 p0_2 p0_3 p0_4 p1 p2_0 p2_1 p2_2 p2_3 p2_4 (fun z => aW N (xm N) (mX z))) (by kernel_rfl) (congrArg (qo N p0_0 p0_1 p0_2 p0_3 p0_4 p1 p2_0 p2_1 p2_2 p2_3 p2_4) (funext fun z => aT (mX) (xm N) (sU N) (awo N) N z)))
theorem ay0 (N : Nat) (p0_0 : Int) (p0_1 : Bs) (p0_2 : List ab) (p0_3 : Bss) (p0_4 : Int) (p1 : Bs) (p2_0 : Int) (p2_1 : Bs) (p2_2 : List ab) (p2_3 : Bss) (p2_4 : Int) (h : Tot (zg N p0_0 p0_1 p0_2 p0_3 p0_4 p1 p2_0 p2_1 p2_2 p2_3 p2_4) (fun z => ∃ (y0 : Int) (y1 : Bs) (y2 : List ab) (y3 : Bss) (y4 : Int) (rest : List an), z.1.dimR = .agg [.int .u64 y0, .str y1, .sl .aval (.may false) y2, .sl .str (.may false) y3, .int .i64 y4] ∧ z.2 = rest ∧ afN p0_0 p0_1 p0_2 p0_3 p0_4 p1 p2_0 p2_1 p2_2 p2_3 p2_4 (y0, y1, y2, y3, y4))) : ∃ r, pi p0_0 p0_1 p0_2 p0_3 p0_4 p1 p2_0 p2_1 p2_2 p2_3 p2_4 r := by
 obtain ⟨⟨v, hp⟩, hz, y0, y1, y2, y3, y4, rest, e1, e2, hq⟩ := h
 simp only at e1 e2
 subst e2
 exact ⟨(y0, y1, y2, y3, y4), aj.dimR (aAP.pure (ayZ N p0_0 p0_1 p0_2 p0_3 p0_4 p1 p2_0 p2_1 p2_2 p2_3 p2_4) hz) e1, hq⟩
noncomputable def wG : au := tab (P := Try.prog) [] [] [] []
noncomputable def afU : IR := (.cond (.t 9) (.reg [Mv 10 0, Mv 11 1, Nk 12 10, Fa 13 1 12, Pp (.st none 1 (.t 13) (.t 11))] []) .skip)
noncomputable def afV : IR := .ret
noncomputable def afW : IR := (.seq (.reg [Pp (.mov 4 (.c (.int .i64 0)))] []) afV)
noncomputable def afX : IR := (.seq (.seq (.reg [Mv 5 0, Nk 6 5, Fa 7 1 6, Pp (.ld 8 1 false false (.t 7)), Bc 9 .eql 8 0] []) afU) afW)
noncomputable def ve : IR := (.seq (.reg [Pp (.mov 4 (.c (.int .i64 0)))] []) afX)
noncomputable def vf : List RV := [.t 4]
theorem aka : FnC Try.prog wG [] 1 wv Try.f110 ve vf := fnC (by kernel_rfl) Try.func110 (by kernel_rfl) (by kernel_rfl) (by decide)
noncomputable def vg (N : Nat) (o0_0 : List ac) (o0_1 : Int) (p1 : Int)  : Ro :=
 cond (o0_1 == 0) (
  some (.int .i64 0, [some [.ul .atype o0_0, .int .i64 p1]])) (
  some (.int .i64 0, [some [.ul .atype o0_0, .int .i64 o0_1]]))
noncomputable def pl (N : Nat) (o0_0 : List ac) (o0_1 : Int) (p1 : Int) : Ro := vg N o0_0 o0_1 p1
theorem aie (N : Nat) (o0_0 : List ac) (o0_1 : Int) (p1 : Int) : aE wG N 14 vf ve [.ptr 0 0, .int .i64 p1] [some [.ul .atype o0_0, .int .i64 o0_1]] = pl N o0_0 o0_1 p1 := by kernel_rfl
theorem aif (N : Nat) (o0_0 : List ac) (o0_1 : Int) (p1 : Int) (h : Tot (pl N o0_0 o0_1 p1) (fun z => ∃ (y0 : Int) (y1 : List ac) (y2 : Int) (rest : List an), z.1.dimR = .int .i64 y0 ∧ z.2 = some [.ul .atype y1, .int .i64 y2] :: rest ∧ jy o0_0 o0_1 p1 (y0, y1, y2))) : ∃ r, am o0_0 o0_1 p1 r := by
 obtain ⟨⟨v, hp⟩, hz, y0, y1, y2, rest, e1, e2, hq⟩ := h
 simp only at e1 e2
 subst e2
 exact ⟨(y0, y1, y2), aP.dimR (FnC.objs (css := [[.ul .atype o0_0, .int .i64 o0_1]]) (css' := [[.ul .atype y1, .int .i64 y2]]) aka (aie N o0_0 o0_1 p1) hz rfl) e1, hq⟩
noncomputable def xS : au := tab (P := Try.prog) [] [cd] [] []
noncomputable def aig : IR := .ret
noncomputable def aih : IR := (.cond (.t 11) (.seq (.reg [Mv 12 0, Pp (.call (some 13) 110 [(.t 12), (.c (.int .i64 3))]), Mv 4 13] []) aig) .skip)
noncomputable def aii : IR := .ret
noncomputable def aij : IR := (.seq (.reg [Mv 26 0, Nk 27 26, Fa 28 0 27, Fa 29 0 28, Pp (.ld 30 1 false false (.t 29)), Pp (.lnw 31 (.t 30)), Bc 32 .sub 31 1, Mv 4 32] []) aii)
noncomputable def aik : IR := (.seq (.reg [Mv 14 0, Mv 15 0, Nk 16 15, Fa 17 0 16, Fa 18 0 17, ⟨none, .ld 19 1 false true (.t 18), some ([], [0])⟩, Ld 20 10 true 3, Pp (.bsl 21 .atype [(.t 20)] true), Pp (.apu 22 .atype (.tk 19) (.t 21)), Nk 23 14, Fa 24 0 23, Fa 25 0 24, ⟨none, .st none 1 (.t 25) (.tk 22), some ([], [0])⟩] [[], [], [1], [1, 2], [1, 2, 3], [1, 2, 3, 4], [], [6], [1, 2, 3, 4, 5, 6, 7], [0, 1, 2, 3, 4, 5, 6, 7, 8], [0, 1, 2, 3, 4, 5, 6, 7, 8, 9], [0, 1, 2, 3, 4, 5, 6, 7, 8, 9, 10], [0, 1, 2, 3, 4, 5, 6, 7, 8, 9, 10, 11]]) aij)
noncomputable def ail : IR := (.seq (.seq (.reg [Mv 5 0, Nk 6 5, Fa 7 0 6, Fa 8 0 7, Pp (.ld 9 1 false false (.t 8)), Pp (.lnw 10 (.t 9)), Bc 11 .geq 10 60] []) aih) aik)
noncomputable def wH : IR := (.seq (.reg [Pp (.boxe 3 (.t 1)), Pp (.mov 4 (.c (.int .i64 0)))] []) ail)
noncomputable def wI : List RV := [.t 4]
theorem alQ : FnC Try.prog xS [110, 2000110] 1 xN Try.f116 wH wI := fnC (by kernel_rfl) Try.func116 (by kernel_rfl) (by kernel_rfl) (by decide)
noncomputable def wJ (N : Nat) (o0_0 : List ac) (o0_1 : Int) (p1_0 : Int) (p1_1 : Bs) (p1_2 : Bss) (p1_3 : Int) (p1_4 : Bss) (p1_5 : Bool) (p1_6 : Bs) (p1_7 : Int) (p1_8 : List ao) (p1_9 : List Int)  : Ro :=
 let x1 : Int := (↑(List.length o0_0) : Int)
 cond (decide (60 ≤ x1)) (
  ai (am o0_0 o0_1 3) (fun r1 =>
   some (.int .i64 r1.1, [some [.ul .atype r1.2.1, .int .i64 r1.2.2]]))) (
  chk (decide ((List.length o0_0 + List.length ([⟨p1_0, p1_1, p1_2, p1_3, p1_4, p1_5, p1_6, p1_7, p1_8, p1_9⟩] : List ac)) * 160 ≤ 140737488355328)) (
   let x2 : List ac := (o0_0 ++ ([⟨p1_0, p1_1, p1_2, p1_3, p1_4, p1_5, p1_6, p1_7, p1_8, p1_9⟩] : List ac))
   let x3 : Int := (↑(List.length x2) : Int)
   let x4 : Int := (IntKind.wrap .i64 (x3 - 1))
   some (.int .i64 x4, [some [.ul .atype x2, .int .i64 o0_1]])))
noncomputable def qp (N : Nat) (o0_0 : List ac) (o0_1 : Int) (p1_0 : Int) (p1_1 : Bs) (p1_2 : Bss) (p1_3 : Int) (p1_4 : Bss) (p1_5 : Bool) (p1_6 : Bs) (p1_7 : Int) (p1_8 : List ao) (p1_9 : List Int) : Ro := wJ N o0_0 o0_1 p1_0 p1_1 p1_2 p1_3 p1_4 p1_5 p1_6 p1_7 p1_8 p1_9
theorem akb (N : Nat) (o0_0 : List ac) (o0_1 : Int) (p1_0 : Int) (p1_1 : Bs) (p1_2 : Bss) (p1_3 : Int) (p1_4 : Bss) (p1_5 : Bool) (p1_6 : Bs) (p1_7 : Int) (p1_8 : List ao) (p1_9 : List Int) : aE xS N 33 wI wH [.ptr 0 0, .agg [.int .i64 p1_0, .str p1_1, .sl .str (.may false) p1_2, .int .i64 p1_3, .sl .str (.may false) p1_4, .bool p1_5, .str p1_6, .int .i64 p1_7, .sl .afield (.may false) p1_8, .sl (.num .i64) (.may false) p1_9]] [some [.ul .atype o0_0, .int .i64 o0_1]] = qp N o0_0 o0_1 p1_0 p1_1 p1_2 p1_3 p1_4 p1_5 p1_6 p1_7 p1_8 p1_9 := by kernel_rfl
theorem akc (N : Nat) (o0_0 : List ac) (o0_1 : Int) (p1_0 : Int) (p1_1 : Bs) (p1_2 : Bss) (p1_3 : Int) (p1_4 : Bss) (p1_5 : Bool) (p1_6 : Bs) (p1_7 : Int) (p1_8 : List ao) (p1_9 : List Int) (h : Tot (qp N o0_0 o0_1 p1_0 p1_1 p1_2 p1_3 p1_4 p1_5 p1_6 p1_7 p1_8 p1_9) (fun z => ∃ (y0 : Int) (y1 : List ac) (y2 : Int) (rest : List an), z.1.dimR = .int .i64 y0 ∧ z.2 = some [.ul .atype y1, .int .i64 y2] :: rest ∧ kn o0_0 o0_1 p1_0 p1_1 p1_2 p1_3 p1_4 p1_5 p1_6 p1_7 p1_8 p1_9 (y0, y1, y2))) : ∃ r, dH o0_0 o0_1 p1_0 p1_1 p1_2 p1_3 p1_4 p1_5 p1_6 p1_7 p1_8 p1_9 r := by
 obtain ⟨⟨v, hp⟩, hz, y0, y1, y2, rest, e1, e2, hq⟩ := h
 simp only at e1 e2
 subst e2
 exact ⟨(y0, y1, y2), aP.dimR (FnC.objs (css := [[.ul .atype o0_0, .int .i64 o0_1]]) (css' := [[.ul .atype y1, .int .i64 y2]]) alQ (akb N o0_0 o0_1 p1_0 p1_1 p1_2 p1_3 p1_4 p1_5 p1_6 p1_7 p1_8 p1_9) hz rfl) e1, hq⟩
noncomputable def jp : au := tab (P := Try.prog) [] [] [] []
noncomputable def afY : IR := (.cond (.t 15) .skip (.exit 0))
noncomputable def afZ : IR := .ret
noncomputable def af0 : IR := (.cond (.t 39) (.seq (.reg [Mv 40 6, Mv 4 40, Pp (.mov 5 (.c (.bool true)))] []) afZ) .skip)
noncomputable def af1 : IR := (.seq (.reg [Fa 26 1 7, Ld 27 1 false 26, Mv 28 1, Bi 29 .eql 27 28, Mv 30 29, Pg (30, true) (.fad 31 0 (.t 7)), Pg (30, true) (.lde 32 1 false (.t 31)), Pg (30, true) (.bin 33 .geq (.t 32) (.c (.int .i64 9))), Pa 34 30 33, Mv 35 34, Pg (35, true) (.fad 36 0 (.t 7)), Pg (35, true) (.lde 37 1 false (.t 36)), Pg (35, true) (.bin 38 .leq (.t 37) (.c (.int .i64 11))), Pa 39 35 38] []) af0)
noncomputable def af2 : IR := (.reg [Mv 16 6, Bc 17 .add 16 1, Mv 6 17] [])
noncomputable def af3 : IR := (.seq (.block 1 (.seq (.gh (.opn (.cell 0 0)) (.ghp (.cls (.cell 0 0)) (.reg [Mv 18 0, Nk 19 18, Fa 20 0 19, Fa 21 0 20, Pp (.ld 22 1 false false (.t 21)), Mv 23 6, Pp (.ixw 24 .atype (.t 22) (.t 23)), Pp (.ldw 25 10 true (.t 24)), Pp (.alr 7 10), Pp (.frz none 7 10 (.t 25))] []))) af1)) af2)
noncomputable def tB : IR := (.seq (.seq (.reg [Mv 8 6, Mv 9 0, Nk 10 9, Fa 11 0 10, Fa 12 0 11, Pp (.ld 13 1 false false (.t 12)), Pp (.lnw 14 (.t 13)), Bi 15 .lss 8 14] []) afY) af3)
noncomputable def af4 : IR := (.block 0 (.loop [0, 1, 6, 1000000] 1 tB))
noncomputable def af5 : IR := .ret
noncomputable def tC : IR := (.seq (.reg [Pp (.mov 4 (.c (.int .i64 0))), Pp (.mov 5 (.c (.bool false)))] []) af5)
noncomputable def adF : IR := (.seq (.seq (.reg [Pp (.mov 6 (.c (.int .i64 0)))] []) af4) tC)
noncomputable def pm : IR := (.seq (.reg [Pp (.mov 4 (.c (.int .i64 0))), Pp (.mov 5 (.c (.bool false)))] []) adF)
noncomputable def ll : List RV := [.t 4, .t 5]
theorem akd : FnC Try.prog jp [] 1 ww Try.f138 pm ll := fnC (by kernel_rfl) Try.func138 (by kernel_rfl) (by kernel_rfl) (by decide)
noncomputable def aim (R : IR → (Ex → St → Ro) → St → Ro) (again0 : St → Ro) : Ex → St → Ro := (br again0 [0, 1, 6, 1000000] 1 (aD 0 (bo (R tC) (fin ll))))
abbrev gm : Type := (Bs × Int × List ac × Int)
noncomputable def fN (x : gm) : St := { env := (.ptr 0 0 :: .str x.1 :: (U 4 (.int .i64 x.2.1 :: (U 34 [])))), hp := [some [.ul .atype x.2.2.1, .int .i64 x.2.2.2]] }
noncomputable def nX (N : Nat) : (St → Ro) → St → Ro := fun again0 s => run jp N tB (aim (run jp N) again0) s
noncomputable def kp (N : Nat) (again0 : gm → Ro) (x : gm) : Ro :=
 let v1 : Bs := x.1
 let v6 : Int := x.2.1
 let o0_0 : List ac := x.2.2.1
 let o0_1 : Int := x.2.2.2
 let x1 : Int := (↑(List.length o0_0) : Int)
 cond (decide (v6 < x1)) (
  chk (decide (0 < List.length o0_0)) (
   chk ((decide (0 ≤ v6) && decide (v6 < ↑(List.length o0_0)))) (
    chk (decide ((Int.toNat v6) < List.length o0_0)) (
     let x2 : Int := (List.getD o0_0 (Int.toNat v6) (af .atype)).kind
     let x3 : Bs := (List.getD o0_0 (Int.toNat v6) (af .atype)).name
     let x4 : Bss := (List.getD o0_0 (Int.toNat v6) (af .atype)).aliases
     let x5 : Int := (List.getD o0_0 (Int.toNat v6) (af .atype)).items
     let x6 : Bss := (List.getD o0_0 (Int.toNat v6) (af .atype)).syms
     let x7 : Bool := (List.getD o0_0 (Int.toNat v6) (af .atype)).hasdef
     let x8 : Bs := (List.getD o0_0 (Int.toNat v6) (af .atype)).df
     let x9 : Int := (List.getD o0_0 (Int.toNat v6) (af .atype)).size
     let x10 : List ao := (List.getD o0_0 (Int.toNat v6) (af .atype)).fields
     let x11 : List Int := (List.getD o0_0 (Int.toNat v6) (af .atype)).branches
     chk (Nat.beq (List.length o0_0) (List.length o0_0)) (
      cond (decide (x3 = v1)) (
       cond (decide (9 ≤ x2)) (
        cond (decide (x2 ≤ 11)) (
         some (.tup [.int .i64 v6, .bool true], [some [.ul .atype o0_0, .int .i64 o0_1], none, none])) (
         let x12 : Int := (IntKind.wrap .i64 (v6 + 1))
         again0 (v1, x12, o0_0, o0_1))) (
        let x13 : Int := (IntKind.wrap .i64 (v6 + 1))
        again0 (v1, x13, o0_0, o0_1))) (
       let x14 : Int := (IntKind.wrap .i64 (v6 + 1))
       again0 (v1, x14, o0_0, o0_1))))))) (
  some (.tup [.int .i64 0, .bool false], [some [.ul .atype o0_0, .int .i64 o0_1]]))
theorem af6 (N : Nat) : ∀ (again0 : St → Ro) (x : gm), nX N again0 (fN x) = kp N (fun y => again0 (fN y)) x := by
 intro again0 x
 kernel_rfl
noncomputable def il (N : Nat) (o0_0 : List ac) (o0_1 : Int) (p1 : Bs) (q0 : gm → Ro) : Ro :=
 q0 (p1, 0, o0_0, o0_1)
noncomputable def pn (N : Nat) (o0_0 : List ac) (o0_1 : Int) (p1 : Bs) : Ro := il N o0_0 o0_1 p1 (fun z => aB N (kp N) z)
noncomputable def alR (N : Nat) : List (Nat × (St → Ro)) := aI jp N pm (fin ll) ++ []
theorem ain (N : Nat) (o0_0 : List ac) (o0_1 : Int) (p1 : Bs) : aE jp N 41 ll pm [.ptr 0 0, .str p1] [some [.ul .atype o0_0, .int .i64 o0_1]] = pn N o0_0 o0_1 p1 :=
 (bx (alR N) (by kernel_rfl) rfl (fun C => il N o0_0 o0_1 p1 (fun z => C 1000000 (fN z))) (fun C => by kernel_rfl)).trans (Eq.trans (b := il N o0_0 o0_1 p1 (fun z => aW N (nX N) (fN z))) (by kernel_rfl) (congrArg (il N o0_0 o0_1 p1) (funext fun z => aT (fN) (nX N) (kp N) (af6 N) N z)))
theorem aio (N : Nat) (o0_0 : List ac) (o0_1 : Int) (p1 : Bs) (h : Tot (pn N o0_0 o0_1 p1) (fun z => ∃ (y0 : Int) (y1 : Bool) (y2 : List ac) (y3 : Int) (rest : List an), z.1.dimR = .tup [.int .i64 y0, .bool y1] ∧ z.2 = some [.ul .atype y2, .int .i64 y3] :: rest ∧ tw o0_0 o0_1 p1 (y0, y1, y2, y3))) : ∃ r, ce o0_0 o0_1 p1 r := by
 obtain ⟨⟨v, hp⟩, hz, y0, y1, y2, y3, rest, e1, e2, hq⟩ := h
 simp only at e1 e2
 subst e2
 exact ⟨(y0, y1, y2, y3), aP.dimR (FnC.objs (css := [[.ul .atype o0_0, .int .i64 o0_1]]) (css' := [[.ul .atype y2, .int .i64 y3]]) akd (ain N o0_0 o0_1 p1) hz rfl) e1, hq⟩
noncomputable def vh : au := tab (P := Try.prog) [] [vd] [] []
noncomputable def adG : IR := .ret
noncomputable def adH : IR := (.seq (.reg [Mv 5 0, Pp (.call (some 6) 73 [(.t 5), (.c (.str ([84, 111, 112] : Bs))), (.c (.int .i64 0)), (.t 3)]), Pp (.st none 5 (.t 2) (.t 6))] []) adG)
noncomputable def adI : IR := (.seq (.reg [Pp (.bsl 4 .str [(.c (.str ([84, 111, 112] : Bs)))] false), Pp (.new 3 [.sl .str .own ([] : Bss)]), Pp (.st none 1 (.t 3) (.tk 4))] []) adH)
noncomputable def uL : IR := (.seq (.reg [Pp (.new 2 [.int .i64 0, .int .i64 0, .str ([] : Bs), .sl .jnode .own ([] : List ae), .sl .str .own ([] : Bss)])] []) adI)
noncomputable def uM : List RV := [.cell 2 5 true]
theorem aip : FnC Try.prog vh [73, 2000073] 1 u6 Try.f40 uL uM := fnC (by kernel_rfl) Try.func40 (by kernel_rfl) (by kernel_rfl) (by decide)
noncomputable def uN (N : Nat) (o0_0 : Bs) (o0_1 : Int)  : Ro :=
 ai (eX o0_0 o0_1 ([([84, 111, 112] : Bs)] : Bss) ([84, 111, 112] : Bs) 0) (fun r1 =>
  some (.agg [.int .i64 r1.1, .int .i64 r1.2.1, .str r1.2.2.1, .sl .jnode (.may false) r1.2.2.2.1, .sl .str (.may false) r1.2.2.2.2.1], [some [.sl .u8 (.may false) r1.2.2.2.2.2.1, .int .i64 r1.2.2.2.2.2.2.1], some [.int .i64 r1.1, .int .i64 r1.2.1, .str r1.2.2.1, .sl .jnode (.may false) r1.2.2.2.1, .sl .str (.may false) r1.2.2.2.2.1], some [.sl .str .own r1.2.2.2.2.2.2.2]]))
noncomputable def nY (N : Nat) (o0_0 : Bs) (o0_1 : Int) : Ro := uN N o0_0 o0_1
theorem af7 (N : Nat) (o0_0 : Bs) (o0_1 : Int) : aE vh N 7 uM uL [.ptr 0 0] [some [.sl .u8 (.may false) o0_0, .int .i64 o0_1]] = nY N o0_0 o0_1 := by kernel_rfl
theorem af8 (N : Nat) (o0_0 : Bs) (o0_1 : Int) (h : Tot (nY N o0_0 o0_1) (fun z => ∃ (y0 : Int) (y1 : Int) (y2 : Bs) (y3 : List ae) (y4 : Bss) (y5 : Bs) (y6 : Int) (rest : List an), z.1.dimR = .agg [.int .i64 y0, .int .i64 y1, .str y2, .sl .jnode (.may false) y3, .sl .str (.may false) y4] ∧ z.2 = some [.sl .u8 (.may false) y5, .int .i64 y6] :: rest ∧ rS o0_0 o0_1 (y0, y1, y2, y3, y4, y5, y6))) : ∃ r, ii o0_0 o0_1 r := by
 obtain ⟨⟨v, hp⟩, hz, y0, y1, y2, y3, y4, y5, y6, rest, e1, e2, hq⟩ := h
 simp only at e1 e2
 subst e2
 exact ⟨(y0, y1, y2, y3, y4, y5, y6), aP.dimR (FnC.objs (css := [[.sl .u8 (.may false) o0_0, .int .i64 o0_1]]) (css' := [[.sl .u8 (.may false) y5, .int .i64 y6]]) aip (af7 N o0_0 o0_1) hz rfl) e1, hq⟩
end Go.Proofs.Ytdpajabhmmmjoaa
end
section
namespace Go.Proofs.Ytdpajabhmmmjoaa
open Go.AM
set_option autoImplicit false
set_option linter.unusedVariables false
set_option maxRecDepth 100000
noncomputable def uO : au := tab (P := Try.prog) [] [] [] []
noncomputable def ay1 : IR := (.cond (.t 23) .skip (.exit 0))
noncomputable def ay2 : IR := .ret
noncomputable def ay3 : IR := (.cond (.t 32) (.seq (.reg [Fa 33 3 2, Ld 34 1 false 33, Mv 35 6, Pp (.ixa 36 .jnode (.t 34) (.t 35)), Ld 37 5 true 36, Pp (.st none 5 (.t 4) (.t 37)), Pp (.mov 5 (.c (.bool true)))] []) ay2) .skip)
noncomputable def ay4 : IR := (.reg [Mv 24 6, Bc 25 .add 24 1, Mv 6 25] [])
noncomputable def ay5 : IR := (.seq (.block 1 (.seq (.reg [Fa 26 4 2, Ld 27 1 false 26, Mv 28 6, Pp (.ixa 29 .str (.t 27) (.t 28)), Ld 30 1 false 29, Mv 31 1, Bi 32 .eql 30 31] []) ay3)) ay4)
noncomputable def ajv : IR := (.seq (.seq (.reg [Fa 7 0 2, Ld 8 1 false 7, Bc 9 .eql 8 6, Mv 10 9, Pg (10, true) (.mov 11 (.t 6)), Pg (10, true) (.fad 12 4 (.t 2)), Pg (10, true) (.lde 13 1 false (.t 12)), Pg (10, true) (.lenl 14 (.t 13)), Pg (10, true) (.bin 15 .lss (.t 11) (.t 14)), Pa 16 10 15, Mv 17 16, Pg (17, true) (.mov 18 (.t 6)), Pg (17, true) (.fad 19 3 (.t 2)), Pg (17, true) (.lde 20 1 false (.t 19)), Pg (17, true) (.lenl 21 (.t 20)), Pg (17, true) (.bin 22 .lss (.t 18) (.t 21)), Pa 23 17 22] []) ay1) ay5)
noncomputable def ay6 : IR := (.block 0 (.loop [1, 2, 4, 6, 1000000] 1 ajv))
noncomputable def ay7 : IR := .ret
noncomputable def ajw : IR := (.seq (.reg [Pp (.bld 38 [.int .i64 0, .int .i64 0, .str ([] : Bs), .sl .jnode .own ([] : List ae), .sl .str .own ([] : Bss)] []), Pp (.st none 5 (.t 4) (.t 38)), Pp (.mov 5 (.c (.bool false)))] []) ay7)
noncomputable def ay8 : IR := (.seq (.seq (.reg [Pp (.mov 6 (.c (.int .i64 0)))] []) ay6) ajw)
noncomputable def adJ : IR := (.seq (.reg [Pp (.boxe 2 (.t 0)), Pp (.new 4 [.int .i64 0, .int .i64 0, .str ([] : Bs), .sl .jnode .own ([] : List ae), .sl .str .own ([] : Bss)]), Pp (.mov 5 (.c (.bool false)))] []) ay8)
noncomputable def wl : List RV := [.cell 4 5 true, .t 5]
theorem aBN : FnC Try.prog uO [] 0 asi Try.f113 adJ wl := fnC (by kernel_rfl) Try.func113 (by kernel_rfl) (by kernel_rfl) (by decide)
noncomputable def aAQ (R : IR → (Ex → St → Ro) → St → Ro) (again0 : St → Ro) : Ex → St → Ro := (br again0 [1, 2, 4, 6, 1000000] 1 (aD 0 (bo (R ajw) (fin wl))))
abbrev qq : Type := (Bs × Int × Int × Bs × List ae × Bss × Int × Int × Int × Bs × List ae × Bss)
noncomputable def oS (x : qq) : St := { env := (.undef :: .str x.1 :: .ea [.int .i64 x.2.1, .int .i64 x.2.2.1, .str x.2.2.2.1, .sl .jnode (.may false) x.2.2.2.2.1, .sl .str (.may false) x.2.2.2.2.2.1] :: .undef :: .ptr 0 0 :: .undef :: .int .i64 x.2.2.2.2.2.2.1 :: (U 32 [])), hp := [some [.int .i64 x.2.2.2.2.2.2.2.1, .int .i64 x.2.2.2.2.2.2.2.2.1, .str x.2.2.2.2.2.2.2.2.2.1, .sl .jnode .own x.2.2.2.2.2.2.2.2.2.2.1, .sl .str .own x.2.2.2.2.2.2.2.2.2.2.2]] }
noncomputable def zh (N : Nat) : (St → Ro) → St → Ro := fun again0 s => run uO N ajv (aAQ (run uO N) again0) s
noncomputable def uP (N : Nat) (again0 : qq → Ro) (x : qq) : Ro :=
 let v1 : Bs := x.1
 let v2_0 : Int := x.2.1
 let v2_1 : Int := x.2.2.1
 let v2_2 : Bs := x.2.2.2.1
 let v2_3 : List ae := x.2.2.2.2.1
 let v2_4 : Bss := x.2.2.2.2.2.1
 let v6 : Int := x.2.2.2.2.2.2.1
 let o0_0 : Int := x.2.2.2.2.2.2.2.1
 let o0_1 : Int := x.2.2.2.2.2.2.2.2.1
 let o0_2 : Bs := x.2.2.2.2.2.2.2.2.2.1
 let o0_3 : List ae := x.2.2.2.2.2.2.2.2.2.2.1
 let o0_4 : Bss := x.2.2.2.2.2.2.2.2.2.2.2
 cond (v2_0 == 6) (
  let x1 : Int := (↑(List.length v2_4) : Int)
  cond (decide (v6 < x1)) (
   let x2 : Int := (↑(List.length v2_3) : Int)
   cond (decide (v6 < x2)) (
    chk ((decide (0 ≤ v6) && decide (v6 < ↑(List.length v2_4)))) (
     let x3 : Bs := List.getD v2_4 (Int.toNat v6) (af .str)
     cond (decide (x3 = v1)) (
      chk ((decide (0 ≤ v6) && decide (v6 < ↑(List.length v2_3)))) (
       let x4 : Int := (List.getD v2_3 (Int.toNat v6) (af .jnode)).kind
       let x5 : Int := (List.getD v2_3 (Int.toNat v6) (af .jnode)).n
       let x6 : Bs := (List.getD v2_3 (Int.toNat v6) (af .jnode)).s
       let x7 : List ae := (List.getD v2_3 (Int.toNat v6) (af .jnode)).l
       let x8 : Bss := (List.getD v2_3 (Int.toNat v6) (af .jnode)).names
       some (.tup [.agg [.int .i64 x4, .int .i64 x5, .str x6, .sl .jnode (.may false) x7, .sl .str (.may false) x8], .bool true], [some [.int .i64 x4, .int .i64 x5, .str x6, .sl .jnode (.may false) x7, .sl .str (.may false) x8]]))) (
      let x9 : Int := (IntKind.wrap .i64 (v6 + 1))
      again0 (v1, v2_0, v2_1, v2_2, v2_3, v2_4, x9, o0_0, o0_1, o0_2, o0_3, o0_4)))) (
    some (.tup [.agg [.int .i64 0, .int .i64 0, .str ([] : Bs), .sl .jnode (.may false) ([] : List ae), .sl .str (.may false) ([] : Bss)], .bool false], [some [.int .i64 0, .int .i64 0, .str ([] : Bs), .sl .jnode .own ([] : List ae), .sl .str .own ([] : Bss)]]))) (
   some (.tup [.agg [.int .i64 0, .int .i64 0, .str ([] : Bs), .sl .jnode (.may false) ([] : List ae), .sl .str (.may false) ([] : Bss)], .bool false], [some [.int .i64 0, .int .i64 0, .str ([] : Bs), .sl .jnode .own ([] : List ae), .sl .str .own ([] : Bss)]]))) (
  some (.tup [.agg [.int .i64 0, .int .i64 0, .str ([] : Bs), .sl .jnode (.may false) ([] : List ae), .sl .str (.may false) ([] : Bss)], .bool false], [some [.int .i64 0, .int .i64 0, .str ([] : Bs), .sl .jnode .own ([] : List ae), .sl .str .own ([] : Bss)]]))
theorem ay9 (N : Nat) : ∀ (again0 : St → Ro) (x : qq), zh N again0 (oS x) = uP N (fun y => again0 (oS y)) x := by
 intro again0 x
 kernel_rfl
noncomputable def sa (N : Nat) (p0_0 : Int) (p0_1 : Int) (p0_2 : Bs) (p0_3 : List ae) (p0_4 : Bss) (p1 : Bs) (q0 : qq → Ro) : Ro :=
 q0 (p1, p0_0, p0_1, p0_2, p0_3, p0_4, 0, 0, 0, ([] : Bs), ([] : List ae), ([] : Bss))
noncomputable def adK (N : Nat) (p0_0 : Int) (p0_1 : Int) (p0_2 : Bs) (p0_3 : List ae) (p0_4 : Bss) (p1 : Bs) : Ro := sa N p0_0 p0_1 p0_2 p0_3 p0_4 p1 (fun z => aB N (uP N) z)
noncomputable def aCM (N : Nat) : List (Nat × (St → Ro)) := aI uO N adJ (fin wl) ++ []
theorem aAR (N : Nat) (p0_0 : Int) (p0_1 : Int) (p0_2 : Bs) (p0_3 : List ae) (p0_4 : Bss) (p1 : Bs) : aE uO N 39 wl adJ [.agg [.int .i64 p0_0, .int .i64 p0_1, .str p0_2, .sl .jnode (.may false) p0_3, .sl .str (.may false) p0_4], .str p1] [] = adK N p0_0 p0_1 p0_2 p0_3 p0_4 p1 :=
 (bx (aCM N) (by kernel_rfl) rfl (fun C => sa N p0_0 p0_1 p0_2 p0_3 p0_4 p1 (fun z => C 1000000 (oS z))) (fun C => by kernel_rfl)).trans (Eq.trans (b := sa N p0_0 p0_1 p0_2 p0_3 p0_4 p1 (fun z => aW N (zh N) (oS z))) (by kernel_rfl) (congrArg (sa N p0_0 p0_1 p0_2 p0_3 p0_4 p1) (funext fun z => aT (oS) (zh N) (uP N) (ay9 N) N z)))
theorem aAS (N : Nat) (p0_0 : Int) (p0_1 : Int) (p0_2 : Bs) (p0_3 : List ae) (p0_4 : Bss) (p1 : Bs) (h : Tot (adK N p0_0 p0_1 p0_2 p0_3 p0_4 p1) (fun z => ∃ (y0 : Int) (y1 : Int) (y2 : Bs) (y3 : List ae) (y4 : Bss) (y5 : Bool) (rest : List an), z.1.dimR = .tup [.agg [.int .i64 y0, .int .i64 y1, .str y2, .sl .jnode (.may false) y3, .sl .str (.may false) y4], .bool y5] ∧ z.2 = rest ∧ bW p0_0 p0_1 p0_2 p0_3 p0_4 p1 (y0, y1, y2, y3, y4, y5))) : ∃ r, co p0_0 p0_1 p0_2 p0_3 p0_4 p1 r := by
 obtain ⟨⟨v, hp⟩, hz, y0, y1, y2, y3, y4, y5, rest, e1, e2, hq⟩ := h
 simp only at e1 e2
 subst e2
 exact ⟨(y0, y1, y2, y3, y4, y5), aj.dimR (aBN.pure (aAR N p0_0 p0_1 p0_2 p0_3 p0_4 p1) hz) e1, hq⟩
noncomputable def sb : au := tab (P := Try.prog) [] [] [] [ayF, aAG]
noncomputable def awp : IR := (.cond (.t 7) .skip (.exit 0))
noncomputable def awq : IR := .ret
noncomputable def awr : IR := (.cond (.t 25) (.seq (.reg [Pp (.mov 2 (.c (.bool false)))] []) awq) .skip)
noncomputable def aws : IR := (.reg [Mv 8 3, Bc 9 .add 8 1, Mv 3 9] [])
noncomputable def awt : IR := (.seq (.block 1 (.seq (.reg [Mv 10 0, Mv 11 3, Pp (.idx 12 (.t 10) (.t 11)), Pp (.call (some 13) 164 [(.t 12)]), Pp (.un 14 .not (.t 13)), Mv 15 14, Pg (15, true) (.mov 16 (.t 3)), Pg (15, true) (.bin 17 .eql (.t 16) (.c (.int .i64 0))), Pg (15, true) (.mov 18 (.t 17)), Pg (18, false) (.mov 19 (.t 0)), Pg (18, false) (.mov 20 (.t 3)), Pg (18, false) (.idx 21 (.t 19) (.t 20)), Pg (18, false) (.call (some 22) 165 [(.t 21)]), Pg (18, false) (.un 23 .not (.t 22)), Pg (15, true) (.pick 24 (.t 18) (.c (.bool true)) (.t 23)), Pa 25 15 24] []) awr)) aws)
noncomputable def af9 : IR := (.seq (.seq (.reg [Mv 4 3, Mv 5 0, Pp (.lens 6 (.t 5)), Bi 7 .lss 4 6] []) awp) awt)
noncomputable def awu : IR := (.block 0 (.loop [0, 3, 1000000] 0 af9))
noncomputable def awv : IR := .ret
noncomputable def aga : IR := (.seq (.reg [Mv 26 0, Pp (.lens 27 (.t 26)), Bc 28 .gtr 27 0, Mv 2 28] []) awv)
noncomputable def aww : IR := (.seq (.seq (.reg [Pp (.mov 3 (.c (.int .i64 0)))] []) awu) aga)
noncomputable def zi : IR := (.seq (.reg [Pp (.mov 2 (.c (.bool false)))] []) aww)
noncomputable def uQ : List RV := [.t 2]
theorem aAT : FnC Try.prog sb [] 0 anW Try.f161 zi uQ := fnC (by kernel_rfl) Try.func161 (by kernel_rfl) (by kernel_rfl) (by decide)
noncomputable def aza (R : IR → (Ex → St → Ro) → St → Ro) (again0 : St → Ro) : Ex → St → Ro := (br again0 [0, 3, 1000000] 0 (aD 0 (bo (R aga) (fin uQ))))
abbrev oT : Type := (Bs × Int)
noncomputable def mY (x : oT) : St := { env := (.str x.1 :: .undef :: .undef :: .int .i64 x.2 :: (U 25 [])), hp := [] }
noncomputable def xn (N : Nat) : (St → Ro) → St → Ro := fun again0 s => run sb N af9 (aza (run sb N) again0) s
noncomputable def sV (N : Nat) (again0 : oT → Ro) (x : oT) : Ro :=
 let v0 : Bs := x.1
 let v3 : Int := x.2
 let x1 : Int := (↑(List.length v0) : Int)
 cond (decide (v3 < x1)) (
  chk ((decide (0 ≤ v3) && decide (v3 < ↑(List.length v0)))) (
   let x2 : Int := (↑(UInt8.toNat (List.getD v0 (Int.toNat v3) 0)) : Int)
   ai (oO x2) (fun (r1 : Bool) =>
    cond (!r1) (
     cond (v3 == 0) (
      some (.bool false, [])) (
      chk ((decide (0 ≤ v3) && decide (v3 < ↑(List.length v0)))) (
       let x3 : Int := (↑(UInt8.toNat (List.getD v0 (Int.toNat v3) 0)) : Int)
       ai (qk x3) (fun (r2 : Bool) =>
        cond (!r2) (
         some (.bool false, [])) (
         let x4 : Int := (IntKind.wrap .i64 (v3 + 1))
         again0 (v0, x4)))))) (
     let x5 : Int := (IntKind.wrap .i64 (v3 + 1))
     again0 (v0, x5))))) (
  let x6 : Int := (↑(List.length v0) : Int)
  some (.bool (decide (0 < x6)), []))
theorem awx (N : Nat) : ∀ (again0 : St → Ro) (x : oT), xn N again0 (mY x) = sV N (fun y => again0 (mY y)) x := by
 intro again0 x
 kernel_rfl
noncomputable def qr (N : Nat) (p0 : Bs) (q0 : oT → Ro) : Ro :=
 q0 (p0, 0)
noncomputable def zj (N : Nat) (p0 : Bs) : Ro := qr N p0 (fun z => aB N (sV N) z)
noncomputable def aBO (N : Nat) : List (Nat × (St → Ro)) := aI sb N zi (fin uQ) ++ []
theorem azb (N : Nat) (p0 : Bs) : aE sb N 29 uQ zi [.str p0] [] = zj N p0 :=
 (bx (aBO N) (by kernel_rfl) rfl (fun C => qr N p0 (fun z => C 1000000 (mY z))) (fun C => by kernel_rfl)).trans (Eq.trans (b := qr N p0 (fun z => aW N (xn N) (mY z))) (by kernel_rfl) (congrArg (qr N p0) (funext fun z => aT (mY) (xn N) (sV N) (awx N) N z)))
theorem azc (N : Nat) (p0 : Bs) (h : Tot (zj N p0) (fun z => ∃ (y0 : Bool) (rest : List an), z.1.dimR = .bool y0 ∧ z.2 = rest)) : ∃ r, iP p0 r := by
 obtain ⟨⟨v, hp⟩, hz, y0, rest, e1, e2⟩ := h
 simp only at e1 e2
 subst e2
 exact ⟨(y0), aj.dimR (aAT.pure (azb N p0) hz) e1⟩
noncomputable def ajx : au := tab (P := Try.prog) [] [] [] []
noncomputable def apj : IR := .ret
noncomputable def apk : IR := (.seq (.reg [Mv 3 0, Pp (.bin 4 .geq (.t 3) (.c (.int .u8 97))), Mv 5 4, Pg (5, true) (.mov 6 (.t 0)), Pg (5, true) (.bin 7 .leq (.t 6) (.c (.int .u8 122))), Pa 8 5 7, Mv 9 8, Pg (9, false) (.mov 10 (.t 0)), Pg (9, false) (.bin 11 .geq (.t 10) (.c (.int .u8 65))), Pg (9, false) (.mov 12 (.t 11)), Pg (12, true) (.mov 13 (.t 0)), Pg (12, true) (.bin 14 .leq (.t 13) (.c (.int .u8 90))), Pg (9, false) (.pick 15 (.t 12) (.t 14) (.c (.bool false))), Po 16 9 15, Mv 17 16, Pg (17, false) (.mov 18 (.t 0)), Pg (17, false) (.bin 19 .eql (.t 18) (.c (.int .u8 95))), Po 20 17 19, Mv 2 20] []) apj)
noncomputable def agb : IR := (.seq (.reg [Pp (.mov 2 (.c (.bool false)))] []) apk)
noncomputable def agc : List RV := [.t 2]
theorem awy : FnC Try.prog ajx [] 0 ajm Try.f164 agb agc := fnC (by kernel_rfl) Try.func164 (by kernel_rfl) (by kernel_rfl) (by decide)
noncomputable def agd (N : Nat) (p0 : Int)  : Ro :=
 cond (decide (97 ≤ p0)) (
  cond (decide (p0 ≤ 122)) (
   some (.bool true, [])) (
   cond (decide (65 ≤ p0)) (
    cond (decide (p0 ≤ 90)) (
     some (.bool true, [])) (
     some (.bool (p0 == 95), []))) (
    some (.bool (p0 == 95), [])))) (
  cond (decide (65 ≤ p0)) (
   cond (decide (p0 ≤ 90)) (
    some (.bool true, [])) (
    some (.bool (p0 == 95), []))) (
   some (.bool (p0 == 95), [])))
noncomputable def vE (N : Nat) (p0 : Int) : Ro := agd N p0
theorem asF (N : Nat) (p0 : Int) : aE ajx N 21 agc agb [.int .u8 p0] [] = vE N p0 := by kernel_rfl
theorem asG (N : Nat) (p0 : Int) (h : Tot (vE N p0) (fun z => ∃ (y0 : Bool) (rest : List an), z.1.dimR = .bool y0 ∧ z.2 = rest)) : ∃ r, oO p0 r := by
 obtain ⟨⟨v, hp⟩, hz, y0, rest, e1, e2⟩ := h
 simp only at e1 e2
 subst e2
 exact ⟨(y0), aj.dimR (awy.pure (asF N p0) hz) e1⟩
noncomputable def alS : au := tab (P := Try.prog) [] [] [] []
noncomputable def asH : IR := .ret
noncomputable def asI : IR := (.seq (.reg [Mv 3 0, Pp (.bin 4 .geq (.t 3) (.c (.int .u8 48))), Mv 5 4, Pg (5, true) (.mov 6 (.t 0)), Pg (5, true) (.bin 7 .leq (.t 6) (.c (.int .u8 57))), Pa 8 5 7, Mv 2 8] []) asH)
noncomputable def ajy : IR := (.seq (.reg [Pp (.mov 2 (.c (.bool false)))] []) asI)
noncomputable def ajz : List RV := [.t 2]
theorem azd : FnC Try.prog alS [] 0 aln Try.f165 ajy ajz := fnC (by kernel_rfl) Try.func165 (by kernel_rfl) (by kernel_rfl) (by decide)
noncomputable def ajA (N : Nat) (p0 : Int)  : Ro :=
 cond (decide (48 ≤ p0)) (
  some (.bool (decide (p0 ≤ 57)), [])) (
  some (.bool false, []))
noncomputable def xo (N : Nat) (p0 : Int) : Ro := ajA N p0
theorem awz (N : Nat) (p0 : Int) : aE alS N 9 ajz ajy [.int .u8 p0] [] = xo N p0 := by kernel_rfl
theorem awA (N : Nat) (p0 : Int) (h : Tot (xo N p0) (fun z => ∃ (y0 : Bool) (rest : List an), z.1.dimR = .bool y0 ∧ z.2 = rest)) : ∃ r, qk p0 r := by
 obtain ⟨⟨v, hp⟩, hz, y0, rest, e1, e2⟩ := h
 simp only at e1 e2
 subst e2
 exact ⟨(y0), aj.dimR (azd.pure (awz N p0) hz) e1⟩
noncomputable def an4 : au := tab (P := Try.prog) [] [] [] []
noncomputable def awB : IR := .ret
noncomputable def awC : IR := (.cond (.t 10) (.seq (.reg [Mv 11 0, Mv 12 1, Bi 13 .add 11 12, Mv 4 13] []) awB) .skip)
noncomputable def awD : IR := .ret
noncomputable def awE : IR := (.seq (.reg [Mv 14 0, Pp (.bin 15 .add (.t 14) (.c (.str ([46] : Bs)))), Mv 16 1, Bi 17 .add 15 16, Mv 4 17] []) awD)
noncomputable def awF : IR := (.seq (.seq (.reg [Mv 5 0, Pp (.bin 6 .eql (.t 5) (.c (.str ([] : Bs)))), Mv 7 6, Pg (7, false) (.mov 8 (.t 1)), Pg (7, false) (.bin 9 .eql (.t 8) (.c (.str ([] : Bs)))), Po 10 7 9] []) awC) awE)
noncomputable def alT : IR := (.seq (.reg [Pp (.mov 4 (.c (.str ([] : Bs))))] []) awF)
noncomputable def alU : List RV := [.t 4]
theorem aAU : FnC Try.prog an4 [] 0 anX Try.f159 alT alU := fnC (by kernel_rfl) Try.func159 (by kernel_rfl) (by kernel_rfl) (by decide)
noncomputable def alV (N : Nat) (p0 : Bs) (p1 : Bs)  : Ro :=
 let x1 : Bool := decide (p0 = ([] : Bs))
 cond x1 (
  chk (decide (List.length p0 + List.length p1 ≤ 9223372036854775807)) (
   some (.str (p0 ++ p1), []))) (
  let x2 : Bool := decide (p1 = ([] : Bs))
  cond x2 (
   chk (decide (List.length p0 + List.length p1 ≤ 9223372036854775807)) (
    some (.str (p0 ++ p1), []))) (
   chk (decide (List.length p0 + List.length ([46] : Bs) ≤ 9223372036854775807)) (
    let x3 : Bs := (p0 ++ ([46] : Bs))
    chk (decide (List.length x3 + List.length p1 ≤ 9223372036854775807)) (
     some (.str (x3 ++ p1), [])))))
noncomputable def zk (N : Nat) (p0 : Bs) (p1 : Bs) : Ro := alV N p0 p1
theorem aze (N : Nat) (p0 : Bs) (p1 : Bs) : aE an4 N 18 alU alT [.str p0, .str p1] [] = zk N p0 p1 := by kernel_rfl
theorem azf (N : Nat) (p0 : Bs) (p1 : Bs) (h : Tot (zk N p0 p1) (fun z => ∃ (y0 : Bs) (rest : List an), z.1.dimR = .str y0 ∧ z.2 = rest ∧ rf p0 p1 (y0))) : ∃ r, rX p0 p1 r := by
 obtain ⟨⟨v, hp⟩, hz, y0, rest, e1, e2, hq⟩ := h
 simp only at e1 e2
 subst e2
 exact ⟨(y0), aj.dimR (aAU.pure (aze N p0 p1) hz) e1, hq⟩
noncomputable def qt : au := tab (P := Try.prog) [] [] [] [adB]
noncomputable def asJ : IR := (.cond (.t 8) .skip (.exit 0))
noncomputable def asK : IR := (.exit 1)
noncomputable def asL : IR := (.cond (.t 20) (.seq (.reg [Mv 21 3, Mv 22 0, Mv 23 4, Mv 24 4, Bc 25 .add 24 1, Pp (.subs 26 (.t 22) (some (.t 23)) (some (.t 25))), Bi 27 .add 21 26, Mv 3 27] []) asK) .skip)
noncomputable def asM : IR := .ret
noncomputable def asN : IR := (.cond (.t 30) (.seq (.reg [Pp (.mov 2 (.c (.bool false)))] []) asM) .skip)
noncomputable def asO : IR := (.reg [Pp (.mov 3 (.c (.str ([] : Bs))))] [])
noncomputable def asP : IR := (.seq (.seq (.reg [Mv 28 3, Pp (.call (some 29) 161 [(.t 28)]), Pp (.un 30 .not (.t 29))] []) asN) asO)
noncomputable def asQ : IR := (.reg [Mv 9 4, Bc 10 .add 9 1, Mv 4 10] [])
noncomputable def asR : IR := (.seq (.block 1 (.seq (.seq (.reg [Mv 11 4, Mv 12 0, Pp (.lens 13 (.t 12)), Bi 14 .lss 11 13, Mv 15 14, Pg (15, true) (.mov 16 (.t 0)), Pg (15, true) (.mov 17 (.t 4)), Pg (15, true) (.idx 18 (.t 16) (.t 17)), Pg (15, true) (.bin 19 .neq (.t 18) (.c (.int .u8 46))), Pa 20 15 19] []) asL) asP)) asQ)
noncomputable def adl : IR := (.seq (.seq (.reg [Mv 5 4, Mv 6 0, Pp (.lens 7 (.t 6)), Bi 8 .leq 5 7] []) asJ) asR)
noncomputable def apl : IR := (.block 0 (.loop [0, 3, 4, 1000000] 0 adl))
noncomputable def apm : IR := .ret
noncomputable def zl : IR := (.seq (.reg [Pp (.mov 2 (.c (.bool true)))] []) apm)
noncomputable def apn : IR := (.seq (.seq (.reg [Pp (.mov 4 (.c (.int .i64 0)))] []) apl) zl)
noncomputable def apo : IR := (.seq (.reg [Pp (.mov 3 (.c (.str ([] : Bs))))] []) apn)
noncomputable def xp : IR := (.seq (.reg [Pp (.mov 2 (.c (.bool false)))] []) apo)
noncomputable def sW : List RV := [.t 2]
theorem azg : FnC Try.prog qt [] 0 alo Try.f160 xp sW := fnC (by kernel_rfl) Try.func160 (by kernel_rfl) (by kernel_rfl) (by decide)
noncomputable def awG (R : IR → (Ex → St → Ro) → St → Ro) (again0 : St → Ro) : Ex → St → Ro := (br again0 [0, 3, 4, 1000000] 0 (aD 0 (bo (R zl) (fin sW))))
abbrev mZ : Type := (Bs × Bs × Int)
noncomputable def lR (x : mZ) : St := { env := (.str x.1 :: .undef :: .undef :: .str x.2.1 :: .int .i64 x.2.2 :: (U 26 [])), hp := [] }
noncomputable def vF (N : Nat) : (St → Ro) → St → Ro := fun again0 s => run qt N adl (awG (run qt N) again0) s
noncomputable def rj (N : Nat) (again0 : mZ → Ro) (x : mZ) : Ro :=
 let v0 : Bs := x.1
 let v3 : Bs := x.2.1
 let v4 : Int := x.2.2
 let x1 : Int := (↑(List.length v0) : Int)
 cond (decide (v4 ≤ x1)) (
  let x2 : Int := (↑(List.length v0) : Int)
  cond (decide (v4 < x2)) (
   chk ((decide (0 ≤ v4) && decide (v4 < ↑(List.length v0)))) (
    let x3 : Int := (↑(UInt8.toNat (List.getD v0 (Int.toNat v4) 0)) : Int)
    cond (!(x3 == 46)) (
     let x4 : Int := (IntKind.wrap .i64 (v4 + 1))
     chk ((decide (0 ≤ x4) && decide (x4 ≤ (↑(List.length v0) : Int)) && (decide (0 ≤ v4) && decide (v4 ≤ x4)))) (
      let x5 : Bs := (List.drop (Int.toNat v4) (List.take (Int.toNat x4) v0))
      chk (decide (List.length v3 + List.length x5 ≤ 9223372036854775807)) (
       let x6 : Int := (IntKind.wrap .i64 (v4 + 1))
       again0 (v0, (v3 ++ x5), x6)))) (
     ai (iP v3) (fun (r1 : Bool) =>
      cond (!r1) (
       some (.bool false, [])) (
       let x7 : Int := (IntKind.wrap .i64 (v4 + 1))
       again0 (v0, ([] : Bs), x7)))))) (
   ai (iP v3) (fun (r2 : Bool) =>
    cond (!r2) (
     some (.bool false, [])) (
     let x8 : Int := (IntKind.wrap .i64 (v4 + 1))
     again0 (v0, ([] : Bs), x8))))) (
  some (.bool true, []))
theorem asS (N : Nat) : ∀ (again0 : St → Ro) (x : mZ), vF N again0 (lR x) = rj N (fun y => again0 (lR y)) x := by
 intro again0 x
 kernel_rfl
noncomputable def oU (N : Nat) (p0 : Bs) (q0 : mZ → Ro) : Ro :=
 q0 (p0, ([] : Bs), 0)
noncomputable def xq (N : Nat) (p0 : Bs) : Ro := oU N p0 (fun z => aB N (rj N) z)
noncomputable def aAV (N : Nat) : List (Nat × (St → Ro)) := aI qt N xp (fin sW) ++ []
theorem awH (N : Nat) (p0 : Bs) : aE qt N 31 sW xp [.str p0] [] = xq N p0 :=
 (bx (aAV N) (by kernel_rfl) rfl (fun C => oU N p0 (fun z => C 1000000 (lR z))) (fun C => by kernel_rfl)).trans (Eq.trans (b := oU N p0 (fun z => aW N (vF N) (lR z))) (by kernel_rfl) (congrArg (oU N p0) (funext fun z => aT (lR) (vF N) (rj N) (asS N) N z)))
theorem awI (N : Nat) (p0 : Bs) (h : Tot (xq N p0) (fun z => ∃ (y0 : Bool) (rest : List an), z.1.dimR = .bool y0 ∧ z.2 = rest)) : ∃ r, qi p0 r := by
 obtain ⟨⟨v, hp⟩, hz, y0, rest, e1, e2⟩ := h
 simp only at e1 e2
 subst e2
 exact ⟨(y0), aj.dimR (azg.pure (awH N p0) hz) e1⟩
noncomputable def alW : au := tab (P := Try.prog) [] [] [] [alv]
noncomputable def asT : IR := .ret
noncomputable def asU : IR := (.seq (.reg [Mv 4 0, Pp (.call (some 5) 79 [(.t 4)]), Ex_ 6 0 5, Ex_ 7 1 5, Mv 2 6, Mv 3 7] []) asT)
noncomputable def ajB : IR := (.seq (.reg [Pp (.mov 2 (.c (.int .u32 0))), Pp (.mov 3 (.c (.int .i64 0)))] []) asU)
noncomputable def ajC : List RV := [.t 2, .t 3]
theorem azh : FnC Try.prog alW [] 0 ald Try.f162 ajB ajC := fnC (by kernel_rfl) Try.func162 (by kernel_rfl) (by kernel_rfl) (by decide)
noncomputable def ajD (N : Nat) (p0 : Bs)  : Ro :=
 ai (kW p0) (fun r1 =>
  some (.tup [.int .u32 r1.1, .int .i64 r1.2], []))
noncomputable def xr (N : Nat) (p0 : Bs) : Ro := ajD N p0
theorem awJ (N : Nat) (p0 : Bs) : aE alW N 8 ajC ajB [.str p0] [] = xr N p0 := by kernel_rfl
theorem awK (N : Nat) (p0 : Bs) (h : Tot (xr N p0) (fun z => ∃ (y0 : Int) (y1 : Int) (rest : List an), z.1.dimR = .tup [.int .u32 y0, .int .i64 y1] ∧ z.2 = rest ∧ adg p0 (y0, y1))) : ∃ r, qj p0 r := by
 obtain ⟨⟨v, hp⟩, hz, y0, y1, rest, e1, e2, hq⟩ := h
 simp only at e1 e2
 subst e2
 exact ⟨(y0, y1), aj.dimR (azh.pure (awJ N p0) hz) e1, hq⟩
noncomputable def qu : au := tab (P := Try.prog) [] [] [] []
noncomputable def asV : IR := .ret
noncomputable def asW : IR := (.cond (.t 11) (.seq (.reg [Pp (.mov 2 (.c (.int .u32 0))), Pp (.mov 3 (.c (.int .i64 0)))] []) asV) .skip)
noncomputable def asX : IR := .ret
noncomputable def asY : IR := .ret
noncomputable def asZ : IR := (.cond (.t 37) (.reg [Mv 44 4, Pp (.bin 45 .sub (.t 44) (.c (.int .u32 240))), Pp (.mov 5 (.c (.int .i64 4))), Mv 6 45, Pp (.mov 7 (.c (.int .u32 65536)))] []) (.seq (.reg [Pp (.mov 2 (.c (.int .u32 0))), Pp (.mov 3 (.c (.int .i64 0)))] []) asY))
noncomputable def as0 : IR := (.cond (.t 28) (.reg [Mv 35 4, Pp (.bin 36 .sub (.t 35) (.c (.int .u32 224))), Pp (.mov 5 (.c (.int .i64 3))), Mv 6 36, Pp (.mov 7 (.c (.int .u32 2048)))] []) (.seq (.reg [Mv 38 4, Pp (.bin 39 .geq (.t 38) (.c (.int .u32 240))), Mv 40 39, Pg (40, true) (.mov 41 (.t 4)), Pg (40, true) (.bin 42 .lss (.t 41) (.c (.int .u32 248))), Pa 43 40 42, Mv 37 43] []) asZ))
noncomputable def as1 : IR := (.cond (.t 19) (.reg [Mv 26 4, Pp (.bin 27 .sub (.t 26) (.c (.int .u32 192))), Pp (.mov 5 (.c (.int .i64 2))), Mv 6 27, Pp (.mov 7 (.c (.int .u32 128)))] []) (.seq (.reg [Mv 29 4, Pp (.bin 30 .geq (.t 29) (.c (.int .u32 224))), Mv 31 30, Pg (31, true) (.mov 32 (.t 4)), Pg (31, true) (.bin 33 .lss (.t 32) (.c (.int .u32 240))), Pa 34 31 33, Mv 28 34] []) as0))
noncomputable def as2 : IR := (.cond (.t 15) (.seq (.reg [Mv 18 4, Mv 2 18, Pp (.mov 3 (.c (.int .i64 1)))] []) asX) (.seq (.reg [Mv 20 4, Pp (.bin 21 .geq (.t 20) (.c (.int .u32 192))), Mv 22 21, Pg (22, true) (.mov 23 (.t 4)), Pg (22, true) (.bin 24 .lss (.t 23) (.c (.int .u32 224))), Pa 25 22 24, Mv 19 25] []) as1))
noncomputable def as3 : IR := .ret
noncomputable def as4 : IR := (.cond (.t 49) (.seq (.reg [Pp (.mov 2 (.c (.int .u32 0))), Pp (.mov 3 (.c (.int .i64 0)))] []) as3) .skip)
noncomputable def apq : IR := (.cond (.t 52) .skip (.exit 1))
noncomputable def apr : IR := .ret
noncomputable def aps : IR := (.cond (.t 64) (.seq (.reg [Pp (.mov 2 (.c (.int .u32 0))), Pp (.mov 3 (.c (.int .i64 0)))] []) apr) .skip)
noncomputable def apt : IR := (.reg [Mv 65 6, Pp (.bin 66 .mul (.t 65) (.c (.int .u32 64))), Mv 67 0, Mv 68 8, Pp (.idx 69 (.t 67) (.t 68)), Pp (.bin 70 .sub (.t 69) (.c (.int .u8 128))), Pp (.cvi 71 .u32 (.t 70)), Bi 72 .add 66 71, Mv 6 72] [])
noncomputable def apv : IR := (.reg [Mv 53 8, Bc 54 .add 53 1, Mv 8 54] [])
noncomputable def apx : IR := (.seq (.block 2 (.seq (.seq (.reg [Mv 55 0, Mv 56 8, Pp (.idx 57 (.t 55) (.t 56)), Pp (.bin 58 .lss (.t 57) (.c (.int .u8 128))), Mv 59 58, Pg (59, false) (.mov 60 (.t 0)), Pg (59, false) (.mov 61 (.t 8)), Pg (59, false) (.idx 62 (.t 60) (.t 61)), Pg (59, false) (.bin 63 .gtr (.t 62) (.c (.int .u8 191))), Po 64 59 63] []) aps) apt)) apv)
noncomputable def zm : IR := (.seq (.seq (.reg [Mv 50 8, Mv 51 5, Bi 52 .lss 50 51] []) apq) apx)
noncomputable def apy : IR := (.block 1 (.loop [0, 5, 6, 7, 8, 1000000] 0 zm))
noncomputable def apz : IR := .ret
noncomputable def apA : IR := (.cond (.t 87) (.seq (.reg [Pp (.mov 2 (.c (.int .u32 0))), Pp (.mov 3 (.c (.int .i64 0)))] []) apz) .skip)
noncomputable def apB : IR := .ret
noncomputable def apC : IR := (.seq (.reg [Mv 88 6, Mv 89 5, Mv 2 88, Mv 3 89] []) apB)
noncomputable def zn : IR := (.seq (.seq (.reg [Mv 73 6, Mv 74 7, Bi 75 .lss 73 74, Mv 76 75, Pg (76, false) (.mov 77 (.t 6)), Pg (76, false) (.bin 78 .gtr (.t 77) (.c (.int .u32 1114111))), Po 79 76 78, Mv 80 79, Pg (80, false) (.mov 81 (.t 6)), Pg (80, false) (.bin 82 .geq (.t 81) (.c (.int .u32 55296))), Pg (80, false) (.mov 83 (.t 82)), Pg (83, true) (.mov 84 (.t 6)), Pg (83, true) (.bin 85 .leq (.t 84) (.c (.int .u32 57343))), Pg (80, false) (.pick 86 (.t 83) (.t 85) (.c (.bool false))), Po 87 80 86] []) apA) apC)
noncomputable def apD : IR := (.seq (.seq (.reg [Pp (.mov 8 (.c (.int .i64 1)))] []) apy) zn)
noncomputable def apE : IR := (.seq (.seq (.reg [Mv 46 0, Pp (.lens 47 (.t 46)), Mv 48 5, Bi 49 .lss 47 48] []) as4) apD)
noncomputable def apF : IR := (.seq (.block 0 (.seq (.reg [Mv 16 4, Pp (.bin 17 .lss (.t 16) (.c (.int .u32 128))), Mv 15 17] []) as2)) apE)
noncomputable def apG : IR := (.seq (.reg [Pp (.mov 5 (.c (.int .i64 0))), Pp (.mov 6 (.c (.int .u32 0))), Pp (.mov 7 (.c (.int .u32 0)))] []) apF)
noncomputable def apH : IR := (.seq (.reg [Mv 12 0, Pp (.idx 13 (.t 12) (.c (.int .i64 0))), Pp (.cvi 14 .u32 (.t 13)), Mv 4 14] []) apG)
noncomputable def apI : IR := (.seq (.seq (.reg [Mv 9 0, Pp (.lens 10 (.t 9)), Bc 11 .eql 10 0] []) asW) apH)
noncomputable def xt : IR := (.seq (.reg [Pp (.mov 2 (.c (.int .u32 0))), Pp (.mov 3 (.c (.int .i64 0)))] []) apI)
noncomputable def sX : List RV := [.t 2, .t 3]
theorem azi : FnC Try.prog qu [] 0 alf Try.f79 xt sX := fnC (by kernel_rfl) Try.func79 (by kernel_rfl) (by kernel_rfl) (by decide)
noncomputable def awL (R : IR → (Ex → St → Ro) → St → Ro) (again0 : St → Ro) : Ex → St → Ro := (br again0 [0, 5, 6, 7, 8, 1000000] 0 (aD 1 (bo (R zn) (fin sX))))
abbrev m0 : Type := (Bs × Int × Int × Int × Int)
noncomputable def lS (x : m0) : St := { env := (.str x.1 :: (U 4 (.int .i64 x.2.1 :: .int .u32 x.2.2.1 :: .int .u32 x.2.2.2.1 :: .int .i64 x.2.2.2.2 :: (U 81 [])))), hp := [] }
noncomputable def vG (N : Nat) : (St → Ro) → St → Ro := fun again0 s => run qu N zm (awL (run qu N) again0) s
noncomputable def dB (N : Nat) (again0 : m0 → Ro) (x : m0) : Ro :=
 let v0 : Bs := x.1
 let v5 : Int := x.2.1
 let v6 : Int := x.2.2.1
 let v7 : Int := x.2.2.2.1
 let v8 : Int := x.2.2.2.2
 cond (decide (v8 < v5)) (
  chk ((decide (0 ≤ v8) && decide (v8 < ↑(List.length v0)))) (
   let x8 : Int := (↑(UInt8.toNat (List.getD v0 (Int.toNat v8) 0)) : Int)
   cond (decide (x8 < 128)) (
    some (.tup [.int .u32 0, .int .i64 0], [])) (
    chk ((decide (0 ≤ v8) && decide (v8 < ↑(List.length v0)))) (
     let x9 : Int := (↑(UInt8.toNat (List.getD v0 (Int.toNat v8) 0)) : Int)
     cond (decide (191 < x9)) (
      some (.tup [.int .u32 0, .int .i64 0], [])) (
      let x10 : Int := (IntKind.wrap .u32 (v6 * 64))
      chk ((decide (0 ≤ v8) && decide (v8 < ↑(List.length v0)))) (
       let x11 : Int := (↑(UInt8.toNat (List.getD v0 (Int.toNat v8) 0)) : Int)
       let x12 : Int := (IntKind.wrap .u8 (x11 - 128))
       let x13 : Int := (IntKind.wrap .u32 (x10 + (IntKind.wrap .u32 x12)))
       let x14 : Int := (IntKind.wrap .i64 (v8 + 1))
       again0 (v0, v5, x13, v7, x14))))))) (
  cond (decide (v6 < v7)) (
   some (.tup [.int .u32 0, .int .i64 0], [])) (
   cond (decide (1114111 < v6)) (
    some (.tup [.int .u32 0, .int .i64 0], [])) (
    cond (decide (55296 ≤ v6)) (
     cond (decide (v6 ≤ 57343)) (
      some (.tup [.int .u32 0, .int .i64 0], [])) (
      some (.tup [.int .u32 v6, .int .i64 v5], []))) (
     some (.tup [.int .u32 v6, .int .i64 v5], [])))))
theorem as5 (N : Nat) : ∀ (again0 : St → Ro) (x : m0), vG N again0 (lS x) = dB N (fun y => again0 (lS y)) x := by
 intro again0 x
 kernel_rfl
noncomputable def oV (N : Nat) (p0 : Bs) (q0 : m0 → Ro) : Ro :=
 let x1 : Int := (↑(List.length p0) : Int)
 cond (x1 == 0) (
  some (.tup [.int .u32 0, .int .i64 0], [])) (
  chk (decide ((0 : Int) < ↑(List.length p0))) (
   let x2 : Int := (↑(UInt8.toNat (List.getD p0 (Int.toNat 0) 0)) : Int)
   let x3 : Bool := decide ((IntKind.wrap .u32 x2) < 128)
   cond x3 (
    some (.tup [.int .u32 (IntKind.wrap .u32 x2), .int .i64 1], [])) (
    let x4 : Bool := decide (192 ≤ (IntKind.wrap .u32 x2))
    cond x4 (
     let x5 : Bool := decide ((IntKind.wrap .u32 x2) < 224)
     cond x5 (
      let x6 : Int := (IntKind.wrap .u32 ((IntKind.wrap .u32 x2) - 192))
      let x7 : Int := (↑(List.length p0) : Int)
      cond (decide (x7 < 2)) (
       some (.tup [.int .u32 0, .int .i64 0], [])) (
       q0 (p0, 2, x6, 128, 1))) (
      let x15 : Bool := decide (224 ≤ (IntKind.wrap .u32 x2))
      cond x15 (
       let x16 : Bool := decide ((IntKind.wrap .u32 x2) < 240)
       cond x16 (
        let x17 : Int := (IntKind.wrap .u32 ((IntKind.wrap .u32 x2) - 224))
        let x18 : Int := (↑(List.length p0) : Int)
        cond (decide (x18 < 3)) (
         some (.tup [.int .u32 0, .int .i64 0], [])) (
         q0 (p0, 3, x17, 2048, 1))) (
        let x19 : Bool := decide (240 ≤ (IntKind.wrap .u32 x2))
        cond x19 (
         let x20 : Bool := decide ((IntKind.wrap .u32 x2) < 248)
         cond x20 (
          let x21 : Int := (IntKind.wrap .u32 ((IntKind.wrap .u32 x2) - 240))
          let x22 : Int := (↑(List.length p0) : Int)
          cond (decide (x22 < 4)) (
           some (.tup [.int .u32 0, .int .i64 0], [])) (
           q0 (p0, 4, x21, 65536, 1))) (
          some (.tup [.int .u32 0, .int .i64 0], []))) (
         some (.tup [.int .u32 0, .int .i64 0], [])))) (
       let x23 : Bool := decide (240 ≤ (IntKind.wrap .u32 x2))
       cond x23 (
        let x24 : Bool := decide ((IntKind.wrap .u32 x2) < 248)
        cond x24 (
         let x25 : Int := (IntKind.wrap .u32 ((IntKind.wrap .u32 x2) - 240))
         let x26 : Int := (↑(List.length p0) : Int)
         cond (decide (x26 < 4)) (
          some (.tup [.int .u32 0, .int .i64 0], [])) (
          q0 (p0, 4, x25, 65536, 1))) (
         some (.tup [.int .u32 0, .int .i64 0], []))) (
        some (.tup [.int .u32 0, .int .i64 0], []))))) (
     let x27 : Bool := decide (224 ≤ (IntKind.wrap .u32 x2))
     cond x27 (
      let x28 : Bool := decide ((IntKind.wrap .u32 x2) < 240)
      cond x28 (
       let x29 : Int := (IntKind.wrap .u32 ((IntKind.wrap .u32 x2) - 224))
       let x30 : Int := (↑(List.length p0) : Int)
       cond (decide (x30 < 3)) (
        some (.tup [.int .u32 0, .int .i64 0], [])) (
        q0 (p0, 3, x29, 2048, 1))) (
       let x31 : Bool := decide (240 ≤ (IntKind.wrap .u32 x2))
       cond x31 (
        let x32 : Bool := decide ((IntKind.wrap .u32 x2) < 248)
        cond x32 (
         let x33 : Int := (IntKind.wrap .u32 ((IntKind.wrap .u32 x2) - 240))
         let x34 : Int := (↑(List.length p0) : Int)
         cond (decide (x34 < 4)) (
          some (.tup [.int .u32 0, .int .i64 0], [])) (
          q0 (p0, 4, x33, 65536, 1))) (
         some (.tup [.int .u32 0, .int .i64 0], []))) (
        some (.tup [.int .u32 0, .int .i64 0], [])))) (
      let x35 : Bool := decide (240 ≤ (IntKind.wrap .u32 x2))
      cond x35 (
       let x36 : Bool := decide ((IntKind.wrap .u32 x2) < 248)
       cond x36 (
        let x37 : Int := (IntKind.wrap .u32 ((IntKind.wrap .u32 x2) - 240))
        let x38 : Int := (↑(List.length p0) : Int)
        cond (decide (x38 < 4)) (
         some (.tup [.int .u32 0, .int .i64 0], [])) (
         q0 (p0, 4, x37, 65536, 1))) (
        some (.tup [.int .u32 0, .int .i64 0], []))) (
       some (.tup [.int .u32 0, .int .i64 0], [])))))))
noncomputable def sY (N : Nat) (p0 : Bs) : Ro := oV N p0 (fun z => aB N (dB N) z)
noncomputable def aAW (N : Nat) : List (Nat × (St → Ro)) := aI qu N xt (fin sX) ++ []
theorem awM (N : Nat) (p0 : Bs) : aE qu N 90 sX xt [.str p0] [] = sY N p0 :=
 (bx (aAW N) (by kernel_rfl) rfl (fun C => oV N p0 (fun z => C 1000000 (lS z))) (fun C => by kernel_rfl)).trans (Eq.trans (b := oV N p0 (fun z => aW N (vG N) (lS z))) (by kernel_rfl) (congrArg (oV N p0) (funext fun z => aT (lS) (vG N) (dB N) (as5 N) N z)))
theorem age (N : Nat) (p0 : Bs) (h : Tot (sY N p0) (fun z => ∃ (y0 : Int) (y1 : Int) (rest : List an), z.1.dimR = .tup [.int .u32 y0, .int .i64 y1] ∧ z.2 = rest ∧ adh p0 (y0, y1))) : ∃ r, kW p0 r := by
 obtain ⟨⟨v, hp⟩, hz, y0, y1, rest, e1, e2, hq⟩ := h
 simp only at e1 e2
 subst e2
 exact ⟨(y0, y1), aj.dimR (azi.pure (awM N p0) hz) e1, hq⟩
noncomputable def sc : au := tab (P := Try.prog) [] [] [] []
noncomputable def awN : IR := .ret
noncomputable def awO : IR := (.cond (.t 13) (.seq (.reg [Pp (.mov 6 (.c (.int .u64 0)))] []) awN) .skip)
noncomputable def awP : IR := (.cond (.t 17) .skip (.exit 0))
noncomputable def awQ : IR := (.block 1 (.reg [Mv 18 7, Bc 19 .sub 18 1, Mv 7 19] []))
noncomputable def agf : IR := (.seq (.seq (.reg [Mv 14 0, Mv 15 7, Bi 16 .shr 14 15, Pp (.bin 17 .eql (.t 16) (.c (.int .u64 0)))] []) awP) awQ)
noncomputable def awR : IR := (.cond (.t 54) (.reg [Mv 55 8, Pp (.bin 56 .add (.t 55) (.c (.int .u64 1))), Mv 8 56] []) .skip)
noncomputable def awS : IR := (.seq (.reg [Mv 42 11, Mv 43 10, Bi 44 .gtr 42 43, Mv 45 44, Pg (45, false) (.mov 46 (.t 11)), Pg (45, false) (.mov 47 (.t 10)), Pg (45, false) (.bin 48 .eql (.t 46) (.t 47)), Pg (45, false) (.mov 49 (.t 48)), Pg (49, true) (.mov 50 (.t 8)), Pg (49, true) (.bin 51 .rem (.t 50) (.c (.int .u64 2))), Pg (49, true) (.bin 52 .eql (.t 51) (.c (.int .u64 1))), Pg (45, false) (.pick 53 (.t 49) (.t 52) (.c (.bool false))), Po 54 45 53] []) awR)
noncomputable def awT : IR := (.seq (.reg [Mv 39 0, Mv 40 9, Bi 41 .shr 39 40, Mv 8 41] []) awS)
noncomputable def awU : IR := (.seq (.reg [Mv 35 0, Mv 36 9, Pp (.bin 37 .shl (.c (.int .u64 1)) (.t 36)), Bi 38 .rem 35 37, Mv 11 38] []) awT)
noncomputable def awV : IR := (.seq (.reg [Mv 32 9, Bc 33 .sub 32 1, Pp (.bin 34 .shl (.c (.int .u64 1)) (.t 33)), Mv 10 34] []) awU)
noncomputable def as6 : IR := (.cond (.t 23) (.reg [Mv 24 0, Mv 25 1, Mv 26 7, Bi 27 .sub 25 26, Bi 28 .shl 24 27, Mv 8 28] []) (.seq (.reg [Mv 29 7, Mv 30 1, Bi 31 .sub 29 30, Mv 9 31] []) awV))
noncomputable def as7 : IR := .ret
noncomputable def as8 : IR := (.seq (.reg [Mv 57 7, Mv 58 2, Bi 59 .add 57 58, Pp (.cvi 60 .u64 (.t 59)), Mv 61 1, Bi 62 .shl 60 61, Mv 63 8, Mv 64 1, Pp (.bin 65 .shl (.c (.int .u64 1)) (.t 64)), Bi 66 .sub 63 65, Bi 67 .add 62 66, Mv 6 67] [[], [], [0, 1], [0, 1, 2], [], [0, 1, 2, 3, 4], [], [], [7], [6, 7, 8], [0, 1, 2, 3, 4, 5, 6, 7, 8, 9], [0, 1, 2, 3, 4, 5, 6, 7, 8, 9, 10]]) as7)
noncomputable def as9 : IR := (.seq (.seq (.reg [Mv 21 7, Mv 22 1, Bi 23 .leq 21 22] []) as6) as8)
noncomputable def adm : IR := (.seq (.reg [Mv 20 0, Mv 8 20] []) as9)
noncomputable def ata : IR := (.seq (.block 0 (.loop [0, 1, 2, 7, 1000000] 0 agf)) adm)
noncomputable def atb : IR := (.seq (.reg [Pp (.mov 7 (.c (.int .i64 63)))] []) ata)
noncomputable def atc : IR := (.seq (.seq (.reg [Mv 12 0, Pp (.bin 13 .eql (.t 12) (.c (.int .u64 0)))] []) awO) atb)
noncomputable def zo : IR := (.seq (.reg [Pp (.mov 6 (.c (.int .u64 0)))] []) atc)
noncomputable def uR : List RV := [.t 6]
theorem aAX : FnC Try.prog sc [] 0 anS Try.f154 zo uR := fnC (by kernel_rfl) Try.func154 (by kernel_rfl) (by kernel_rfl) (by decide)
noncomputable def azj (R : IR → (Ex → St → Ro) → St → Ro) (again0 : St → Ro) : Ex → St → Ro := (br again0 [0, 1, 2, 7, 1000000] 0 (aD 0 (bo (R adm) (fin uR))))
abbrev oW : Type := (Int × Int × Int × Int)
noncomputable def na (x : oW) : St := { env := (.int .u64 x.1 :: .int .i64 x.2.1 :: .int .i64 x.2.2.1 :: (U 4 (.int .i64 x.2.2.2 :: (U 60 [])))), hp := [] }
noncomputable def xu (N : Nat) : (St → Ro) → St → Ro := fun again0 s => run sc N agf (azj (run sc N) again0) s
noncomputable def sZ (N : Nat) (again0 : oW → Ro) (x : oW) : Ro :=
 let v0 : Int := x.1
 let v1 : Int := x.2.1
 let v2 : Int := x.2.2.1
 let v7 : Int := x.2.2.2
 chk (decide (0 ≤ v7)) (
  cond ((dV .u64 v0 v7) == 0) (
   let x1 : Int := (IntKind.wrap .i64 (v7 - 1))
   again0 (v0, v1, v2, x1)) (
   cond (decide (v7 ≤ v1)) (
    let x2 : Int := (IntKind.wrap .i64 (v1 - v7))
    chk (decide (0 ≤ x2)) (
     let x3 : Int := (IntKind.wrap .i64 (v7 + v2))
     chk (decide (0 ≤ v1)) (
      let x4 : Int := (gT .u64 (IntKind.wrap .u64 x3) v1)
      chk (decide (0 ≤ v1)) (
       let x5 : Int := (IntKind.wrap .u64 ((gT .u64 v0 x2) - (gT .u64 1 v1)))
       let x6 : Int := (IntKind.wrap .u64 (x4 + x5))
       some (.int .u64 x6, []))))) (
    let x7 : Int := (IntKind.wrap .i64 (v7 - v1))
    let x8 : Int := (IntKind.wrap .i64 (x7 - 1))
    chk (decide (0 ≤ x8)) (
     chk (decide (0 ≤ x7)) (
      chk ((!((gT .u64 1 x7) == 0))) (
       let x9 : Int := (Int.tmod v0 (gT .u64 1 x7))
       chk (decide (0 ≤ x7)) (
        let x10 : Bool := decide ((gT .u64 1 x8) < x9)
        cond x10 (
         let x11 : Int := (IntKind.wrap .u64 ((dV .u64 v0 x7) + 1))
         let x12 : Int := (IntKind.wrap .i64 (v7 + v2))
         chk (decide (0 ≤ v1)) (
          let x13 : Int := (gT .u64 (IntKind.wrap .u64 x12) v1)
          chk (decide (0 ≤ v1)) (
           let x14 : Int := (IntKind.wrap .u64 (x11 - (gT .u64 1 v1)))
           let x15 : Int := (IntKind.wrap .u64 (x13 + x14))
           some (.int .u64 x15, [])))) (
         cond (x9 == (gT .u64 1 x8)) (
          let x16 : Int := (Int.tmod (dV .u64 v0 x7) 2)
          cond (x16 == 1) (
           let x17 : Int := (IntKind.wrap .u64 ((dV .u64 v0 x7) + 1))
           let x18 : Int := (IntKind.wrap .i64 (v7 + v2))
           chk (decide (0 ≤ v1)) (
            let x19 : Int := (gT .u64 (IntKind.wrap .u64 x18) v1)
            chk (decide (0 ≤ v1)) (
             let x20 : Int := (IntKind.wrap .u64 (x17 - (gT .u64 1 v1)))
             let x21 : Int := (IntKind.wrap .u64 (x19 + x20))
             some (.int .u64 x21, [])))) (
           let x22 : Int := (IntKind.wrap .i64 (v7 + v2))
           chk (decide (0 ≤ v1)) (
            let x23 : Int := (gT .u64 (IntKind.wrap .u64 x22) v1)
            chk (decide (0 ≤ v1)) (
             let x24 : Int := (IntKind.wrap .u64 ((dV .u64 v0 x7) - (gT .u64 1 v1)))
             let x25 : Int := (IntKind.wrap .u64 (x23 + x24))
             some (.int .u64 x25, []))))) (
          let x26 : Int := (IntKind.wrap .i64 (v7 + v2))
          chk (decide (0 ≤ v1)) (
           let x27 : Int := (gT .u64 (IntKind.wrap .u64 x26) v1)
           chk (decide (0 ≤ v1)) (
            let x28 : Int := (IntKind.wrap .u64 ((dV .u64 v0 x7) - (gT .u64 1 v1)))
            let x29 : Int := (IntKind.wrap .u64 (x27 + x28))
            some (.int .u64 x29, []))))))))))))
theorem awW (N : Nat) : ∀ (again0 : St → Ro) (x : oW), xu N again0 (na x) = sZ N (fun y => again0 (na y)) x := by
 intro again0 x
 kernel_rfl
noncomputable def qv (N : Nat) (p0 : Int) (p1 : Int) (p2 : Int) (q0 : oW → Ro) : Ro :=
 cond (p0 == 0) (
  some (.int .u64 0, [])) (
  q0 (p0, p1, p2, 63))
noncomputable def zp (N : Nat) (p0 : Int) (p1 : Int) (p2 : Int) : Ro := qv N p0 p1 p2 (fun z => aB N (sZ N) z)
noncomputable def aBP (N : Nat) : List (Nat × (St → Ro)) := aI sc N zo (fin uR) ++ []
theorem azk (N : Nat) (p0 : Int) (p1 : Int) (p2 : Int) : aE sc N 68 uR zo [.int .u64 p0, .int .i64 p1, .int .i64 p2] [] = zp N p0 p1 p2 :=
 (bx (aBP N) (by kernel_rfl) rfl (fun C => qv N p0 p1 p2 (fun z => C 1000000 (na z))) (fun C => by kernel_rfl)).trans (Eq.trans (b := qv N p0 p1 p2 (fun z => aW N (xu N) (na z))) (by kernel_rfl) (congrArg (qv N p0 p1 p2) (funext fun z => aT (na) (xu N) (sZ N) (awW N) N z)))
theorem azl (N : Nat) (p0 : Int) (p1 : Int) (p2 : Int) (h : Tot (zp N p0 p1 p2) (fun z => ∃ (y0 : Int) (rest : List an), z.1.dimR = .int .u64 y0 ∧ z.2 = rest)) : ∃ r, kI p0 p1 p2 r := by
 obtain ⟨⟨v, hp⟩, hz, y0, rest, e1, e2⟩ := h
 simp only at e1 e2
 subst e2
 exact ⟨(y0), aj.dimR (aAX.pure (azk N p0 p1 p2) hz) e1⟩
noncomputable def alX : au := tab (P := Try.prog) [] [] [] [anY]
noncomputable def atd : IR := .ret
noncomputable def ate : IR := (.cond (.t 4) (.seq (.reg [Mv 5 0, Bc 6 .add 5 1, Pp (.un 7 .neg (.t 6)), Pp (.cvi 8 .u64 (.t 7)), Pp (.bin 9 .add (.t 8) (.c (.int .u64 1))), Pp (.call (some 10) 154 [(.t 9), (.c (.int .i64 23)), (.c (.int .i64 127))]), Pp (.cvi 11 .u32 (.t 10)), Pp (.bin 12 .or (.c (.int .u32 2147483648)) (.t 11)), Mv 2 12] []) atd) .skip)
noncomputable def atf : IR := .ret
noncomputable def atg : IR := (.seq (.reg [Mv 13 0, Pp (.cvi 14 .u64 (.t 13)), Pp (.call (some 15) 154 [(.t 14), (.c (.int .i64 23)), (.c (.int .i64 127))]), Pp (.cvi 16 .u32 (.t 15)), Mv 2 16] []) atf)
noncomputable def ath : IR := (.seq (.seq (.reg [Mv 3 0, Bc 4 .lss 3 0] []) ate) atg)
noncomputable def ajE : IR := (.seq (.reg [Pp (.mov 2 (.c (.int .u32 0)))] []) ath)
noncomputable def ajF : List RV := [.t 2]
theorem azm : FnC Try.prog alX [] 0 alc Try.f132 ajE ajF := fnC (by kernel_rfl) Try.func132 (by kernel_rfl) (by kernel_rfl) (by decide)
noncomputable def ajG (N : Nat) (p0 : Int)  : Ro :=
 cond (decide (p0 < 0)) (
  let x1 : Int := (IntKind.wrap .i64 (p0 + 1))
  let x2 : Int := (IntKind.wrap .i64 (0 - x1))
  let x3 : Int := (IntKind.wrap .u64 ((IntKind.wrap .u64 x2) + 1))
  ai (kI x3 23 127) (fun (r1 : Int) =>
   let x4 : Int := (bK .or .u32 2147483648 (IntKind.wrap .u32 r1))
   some (.int .u32 x4, []))) (
  ai (kI (IntKind.wrap .u64 p0) 23 127) (fun (r2 : Int) =>
   some (.int .u32 (IntKind.wrap .u32 r2), [])))
noncomputable def xv (N : Nat) (p0 : Int) : Ro := ajG N p0
theorem awX (N : Nat) (p0 : Int) : aE alX N 17 ajF ajE [.int .i64 p0] [] = xv N p0 := by kernel_rfl
theorem awY (N : Nat) (p0 : Int) (h : Tot (xv N p0) (fun z => ∃ (y0 : Int) (rest : List an), z.1.dimR = .int .u32 y0 ∧ z.2 = rest)) : ∃ r, qf p0 r := by
 obtain ⟨⟨v, hp⟩, hz, y0, rest, e1, e2⟩ := h
 simp only at e1 e2
 subst e2
 exact ⟨(y0), aj.dimR (azm.pure (awX N p0) hz) e1⟩
noncomputable def ajH : au := tab (P := Try.prog) [] [] [] [anY]
noncomputable def apJ : IR := .ret
noncomputable def apK : IR := (.cond (.t 4) (.seq (.reg [Mv 5 0, Bc 6 .add 5 1, Pp (.un 7 .neg (.t 6)), Pp (.cvi 8 .u64 (.t 7)), Pp (.bin 9 .add (.t 8) (.c (.int .u64 1))), Pp (.call (some 10) 154 [(.t 9), (.c (.int .i64 52)), (.c (.int .i64 1023))]), Pp (.bin 11 .or (.c (.int .u64 9223372036854775808)) (.t 10)), Mv 2 11] []) apJ) .skip)
noncomputable def apL : IR := .ret
noncomputable def apM : IR := (.seq (.reg [Mv 12 0, Pp (.cvi 13 .u64 (.t 12)), Pp (.call (some 14) 154 [(.t 13), (.c (.int .i64 52)), (.c (.int .i64 1023))]), Mv 2 14] []) apL)
noncomputable def apN : IR := (.seq (.seq (.reg [Mv 3 0, Bc 4 .lss 3 0] []) apK) apM)
noncomputable def agh : IR := (.seq (.reg [Pp (.mov 2 (.c (.int .u64 0)))] []) apN)
noncomputable def agi : List RV := [.t 2]
theorem awZ : FnC Try.prog ajH [] 0 aji Try.f133 agh agi := fnC (by kernel_rfl) Try.func133 (by kernel_rfl) (by kernel_rfl) (by decide)
noncomputable def agj (N : Nat) (p0 : Int)  : Ro :=
 cond (decide (p0 < 0)) (
  let x1 : Int := (IntKind.wrap .i64 (p0 + 1))
  let x2 : Int := (IntKind.wrap .i64 (0 - x1))
  let x3 : Int := (IntKind.wrap .u64 ((IntKind.wrap .u64 x2) + 1))
  ai (kI x3 52 1023) (fun (r1 : Int) =>
   let x4 : Int := (bK .or .u64 9223372036854775808 r1)
   some (.int .u64 x4, []))) (
  ai (kI (IntKind.wrap .u64 p0) 52 1023) (fun (r2 : Int) =>
   some (.int .u64 r2, [])))
noncomputable def vH (N : Nat) (p0 : Int) : Ro := agj N p0
theorem ati (N : Nat) (p0 : Int) : aE ajH N 15 agi agh [.int .i64 p0] [] = vH N p0 := by kernel_rfl
theorem atj (N : Nat) (p0 : Int) (h : Tot (vH N p0) (fun z => ∃ (y0 : Int) (rest : List an), z.1.dimR = .int .u64 y0 ∧ z.2 = rest)) : ∃ r, lD p0 r := by
 obtain ⟨⟨v, hp⟩, hz, y0, rest, e1, e2⟩ := h
 simp only at e1 e2
 subst e2
 exact ⟨(y0), aj.dimR (awZ.pure (ati N p0) hz) e1⟩
end Go.Proofs.Ytdpajabhmmmjoaa
end
section
namespace Go.Proofs.Ytdpajabhmmmjoaa
open Go.AM
set_option autoImplicit false
set_option linter.unusedVariables false
set_option linter.unusedSimpArgs false
set_option maxRecDepth 100000
theorem nZ {α R : Type} (n : Nat) (B : (α → Option R) → α → Option R) (x : α) : aB (n + 1) B x = B (aB n B) x := rfl
theorem nc (N : Nat) (rec : (List UInt8 × Int × Int × Int × Int) → Option (V × List an)) (s : List UInt8) (v n i : Nat) (l : Int) (x : UInt8) (hx : s.getD i 0 = x) (hv : v < 2 ^ 20) (hi : i < n) (hn : n ≤ s.length) (h4 : n ≤ 4) :
  dB N rec (s, (n : Int), (v : Int), l, (i : Int)) = if 128 ≤ x.toNat ∧ x.toNat ≤ 191 then rec (s, (n : Int), ((v * 64 + x.toNat % 64 : Nat) : Int), l, ((i + 1 : Nat) : Int)) else some (.tup [.int .u32 0, .int .i64 0], []) := by
 have hb := UInt8.toNat_lt x
 simp only [dB, Int.toNat_natCast, hx]
 by_cases h1 : x.toNat < 128
 ·rw [if_neg (by omega)]
  simp (disch := omega) only [aA, ]
 by_cases h2 : 191 < x.toNat
 ·rw [if_neg (by omega)]
  simp (disch := omega) only [aA, ]
 ·rw [if_pos (by omega)]
  simp (disch := omega) only [aA, ]
  rw [show (v : Int) * 64 + ((x.toNat : Int) - 128) = ((v * 64 + x.toNat % 64 : Nat) : Int) by omega]
  rfl
theorem aiq (N : Nat) (rec : (List UInt8 × Int × Int × Int × Int) → Option (V × List an)) (s : List UInt8) (v n l : Nat) :
  dB N rec (s, (n : Int), (v : Int), (l : Int), (n : Int)) = if l ≤ v ∧ v ≤ 1114111 ∧ ¬ (55296 ≤ v ∧ v ≤ 57343) then some (.tup [.int .u32 v, .int .i64 n], []) else some (.tup [.int .u32 0, .int .i64 0], []) := by
 simp only [dB]
 by_cases h1 : v < l
 ·rw [if_neg (by omega)]; simp (disch := omega) only [aA, ]
 by_cases h2 : 1114111 < v
 ·rw [if_neg (by omega)]; simp (disch := omega) only [aA, ]
 by_cases h3 : 55296 ≤ v
 ·by_cases h4 : v ≤ 57343
  ·rw [if_neg (by omega)]; simp (disch := omega) only [aA, ]
  ·rw [if_pos (by omega)]; simp (disch := omega) only [aA, ]
 ·rw [if_pos (by omega)]; simp (disch := omega) only [aA, ]
theorem aD3 (M : Nat) (a b : UInt8) (t : List UInt8) (v : Nat) (hv : v < 32) (ha : a.toNat = 192 + v) :
  aB (M + 5) (dB (M + 5)) (a :: b :: t, ((2 : Nat) : Int), (v : Int), ((128 : Nat) : Int), ((1 : Nat) : Int)) = some (.tup [.int .u32 (cC 2 v (a :: b :: t)).1, .int .i64 (cC 2 v (a :: b :: t)).2], []) := by
 have hg := aFs a b v hv ha
 rw [nZ, nc _ _ _ _ 2 1 _ b rfl (by omega) (by omega) (by simp) (by omega), nZ, aiq]
 simp only [cC]
 rw [if_neg (show ¬ (a :: b :: t).length < 2 by simp)]
 simp only [List.take_succ_cons, List.take_zero, List.tail_cons, List.foldl_cons, List.foldl_nil, hg]
 by_cases h1 : 128 ≤ b.toNat ∧ b.toNat ≤ 191
 ·rw [if_pos h1]
  by_cases h2 : 128 ≤ v * 64 + b.toNat % 64
  ·rw [if_pos (by omega), if_pos (by omega)]
  ·rw [if_neg (by omega), if_neg (by omega)]; rfl
 ·rw [if_neg h1, if_neg (by omega)]; rfl
theorem aD4 (M : Nat) (a b c : UInt8) (t : List UInt8) (v : Nat) (hv : v < 16) (ha : a.toNat = 224 + v) :
  aB (M + 5) (dB (M + 5)) (a :: b :: c :: t, ((3 : Nat) : Int), (v : Int), ((2048 : Nat) : Int), ((1 : Nat) : Int)) = some (.tup [.int .u32 (cC 3 v (a :: b :: c :: t)).1, .int .i64 (cC 3 v (a :: b :: c :: t)).2], []) := by
 have hg := aFt a b c v hv ha _ rfl
 rw [nZ, nc _ _ _ _ 3 1 _ b rfl (by omega) (by omega) (by simp) (by omega), nZ, nc _ _ _ _ 3 2 _ c rfl (by omega) (by omega) (by simp) (by omega), nZ, aiq]
 simp only [cC]
 rw [if_neg (show ¬ (a :: b :: c :: t).length < 3 by simp)]
 simp only [List.take_succ_cons, List.take_zero, List.tail_cons, List.foldl_cons, List.foldl_nil, hg]
 by_cases h1 : 128 ≤ b.toNat ∧ b.toNat ≤ 191
 ·rw [if_pos h1]
  by_cases h2 : 128 ≤ c.toNat ∧ c.toNat ≤ 191
  ·rw [if_pos h2]
   by_cases h3 : 2048 ≤ (v * 64 + b.toNat % 64) * 64 + c.toNat % 64 ∧ ¬ (55296 ≤ (v * 64 + b.toNat % 64) * 64 + c.toNat % 64 ∧ (v * 64 + b.toNat % 64) * 64 + c.toNat % 64 ≤ 57343)
   ·rw [if_pos (by omega), if_pos (by omega)]
   ·rw [if_neg (by omega), if_neg (by omega)]; rfl
  ·rw [if_neg h2, if_neg (by omega)]; rfl
 ·rw [if_neg h1, if_neg (by omega)]; rfl
theorem aD5 (M : Nat) (a b c d : UInt8) (t : List UInt8) (v : Nat) (hv : v < 8) (ha : a.toNat = 240 + v) :
  aB (M + 5) (dB (M + 5)) (a :: b :: c :: d :: t, ((4 : Nat) : Int), (v : Int), ((65536 : Nat) : Int), ((1 : Nat) : Int)) = some (.tup [.int .u32 (cC 4 v (a :: b :: c :: d :: t)).1, .int .i64 (cC 4 v (a :: b :: c :: d :: t)).2], []) := by
 have hg := aFu a b c d v hv ha _ rfl
 rw [nZ, nc _ _ _ _ 4 1 _ b rfl (by omega) (by omega) (by simp) (by omega), nZ, nc _ _ _ _ 4 2 _ c rfl (by omega) (by omega) (by simp) (by omega), nZ, nc _ _ _ _ 4 3 _ d rfl (by omega) (by omega) (by simp) (by omega), nZ, aiq]
 simp only [cC]
 rw [if_neg (show ¬ (a :: b :: c :: d :: t).length < 4 by simp)]
 simp only [List.take_succ_cons, List.take_zero, List.tail_cons, List.foldl_cons, List.foldl_nil, hg]
 by_cases h1 : 128 ≤ b.toNat ∧ b.toNat ≤ 191
 ·rw [if_pos h1]
  by_cases h2 : 128 ≤ c.toNat ∧ c.toNat ≤ 191
  ·rw [if_pos h2]
   by_cases h3 : 128 ≤ d.toNat ∧ d.toNat ≤ 191
   ·rw [if_pos h3]
    by_cases h4 : 65536 ≤ ((v * 64 + b.toNat % 64) * 64 + c.toNat % 64) * 64 + d.toNat % 64 ∧ ((v * 64 + b.toNat % 64) * 64 + c.toNat % 64) * 64 + d.toNat % 64 ≤ 1114111
    ·rw [if_pos (by omega), if_pos (by omega)]
    ·rw [if_neg (by omega), if_neg (by omega)]; rfl
   ·rw [if_neg h3, if_neg (by omega)]; rfl
  ·rw [if_neg h2, if_neg (by omega)]; rfl
 ·rw [if_neg h1, if_neg (by omega)]; rfl
theorem zq (M : Nat) (s : List UInt8) (hl : s.length ≤ 9223372036854775807) :
  sY (M + 5) s = some (.tup [.int .u32 (dq s).1, .int .i64 (dq s).2], []) := by
 match s with
 | [] => rfl
 | c :: t =>
   have hc : c.toNat < 256 := UInt8.toNat_lt _
   rw [List.length_cons] at hl
   simp only [sY, oV, dq, eh, List.length_cons, Int.toNat_zero, List.getD_cons_zero]
   by_cases h1 : c.toNat < 128
   ·simp (disch := omega) only [aA, ]
    rfl
   by_cases h0 : c.toNat < 192
   ·simp (disch := omega) only [aA, ]
    rfl
   by_cases h2 : c.toNat < 224
   ·have e : c.toNat / 32 = 6 := by omega
    match t with
    | [] => simp (disch := omega) only [aA, cC, List.length_cons, List.length_nil]; rfl
    | b :: t =>
      rw [List.length_cons] at hl
      simp (disch := omega) only [aA, e, List.length_cons]
      rw [show (c.toNat : Int) - 192 = ((c.toNat % 32 : Nat) : Int) by omega]
      exact aD3 M c b t _ (by omega) (by omega)
   by_cases h3 : c.toNat < 240
   ·have e : c.toNat / 16 = 14 := by omega
    match t with
    | [] => simp (disch := omega) only [aA, cC, List.length_cons, List.length_nil]; rfl
    | [b] => simp (disch := omega) only [aA, cC, List.length_cons, List.length_nil]; rfl
    | b :: d :: t =>
      rw [List.length_cons, List.length_cons] at hl
      simp (disch := omega) only [aA, e, List.length_cons]
      rw [show (c.toNat : Int) - 224 = ((c.toNat % 16 : Nat) : Int) by omega]
      exact aD4 M c b d t _ (by omega) (by omega)
   by_cases h4 : c.toNat < 248
   ·have e : c.toNat / 8 = 30 := by omega
    match t with
    | [] => simp (disch := omega) only [aA, cC, List.length_cons, List.length_nil]; rfl
    | [b] => simp (disch := omega) only [aA, cC, List.length_cons, List.length_nil]; rfl
    | [b, d] => simp (disch := omega) only [aA, cC, List.length_cons, List.length_nil]; rfl
    | b :: d :: f :: t =>
      rw [List.length_cons, List.length_cons, List.length_cons] at hl
      simp (disch := omega) only [aA, e, List.length_cons]
      rw [show (c.toNat : Int) - 240 = ((c.toNat % 8 : Nat) : Int) by omega]
      exact aD5 M c b d f t _ (by omega) (by omega)
   ·simp (disch := omega) only [aA, ]
    rfl
end Go.Proofs.Ytdpajabhmmmjoaa
end
section
namespace Go.Proofs.Ytdpajabhmmmjoaa
open Go.AM
set_option autoImplicit false
set_option linter.unusedVariables false
theorem qb.mono {m m' : Nat} {t : ac} (h : qb m t) (hm : m ≤ m') : qb m' t :=
 ⟨⟨h.items.1, by have := h.items.2; omega⟩, fun f hf => ⟨(h.fields f hf).1, by have := (h.fields f hf).2.1; omega, (h.fields f hf).2.2⟩, h.nf,
   fun b hb => ⟨(h.branches b hb).1, by have := (h.branches b hb).2; omega⟩, h.nb, h.ns, h.size, h.done, h.kind, h.enum⟩
theorem bj.refl {ts : List ac} {e : Int} (h : ts.length ≤ 60) : bj ts e ts e :=
 ⟨Nat.le_refl _, h, fun h => h, fun _ _ _ => rfl, fun _ i t hi ht => by
  have := (List.getElem?_eq_some_iff.1 ht).1; omega⟩
theorem bj.bad {ts : List ac} {e e' : Int} (h : ts.length ≤ 60) (he : e' ≠ 0) : bj ts e ts e' :=
 ⟨Nat.le_refl _, h, fun h => absurd h he, fun h => absurd h he, fun h => absurd h he⟩
theorem bj.fail {ts ts' : List ac} {e e' : Int} (h : bj ts e ts' e') (c : Int) (hc : c ≠ 0) : bj ts e ts' (if e' = 0 then c else e') := by
 have : (if e' = 0 then c else e') ≠ 0 := by split <;> assumption
 exact ⟨h.len, h.cap, fun h => absurd h this, fun h => absurd h this, fun h => absurd h this⟩
theorem bj.trans {ts ts1 ts2 : List ac} {e e1 e2 : Int} (h : bj ts e ts1 e1) (h' : bj ts1 e1 ts2 e2) : bj ts e ts2 e2 where
 len := Nat.le_trans h.len h'.len
 cap := h'.cap
 err := fun he => h.err (h'.err he)
 old := fun he i hi => by
  have := h.len
  rw [h'.old he i (by omega), h.old (h'.err he) i hi]
 new := fun he i t hi ht => by
  rcases Nat.lt_or_ge i ts1.length with hl | hl
  ·rw [h'.old he i hl] at ht
   exact (h.new (h'.err he) i t hi ht).mono h'.len
  ·exact h'.new he i t hl ht
theorem bj.weak {ts ts' : List ac} {e e1 e' : Int} (h : bj ts e1 ts' e') (he : e1 = 0 → e = 0) : bj ts e ts' e' :=
 ⟨h.len, h.cap, fun h' => he (h.err h'), h.old, h.new⟩
theorem bj.push {ts : List ac} {e : Int} (h : ts.length < 60) (t : ac) (ht : qb (ts.length + 1) t) : bj ts e (ts ++ [t]) e where
 len := by simp
 cap := by simp; omega
 err := fun h => h
 old := fun _ i hi => by rw [List.getElem?_append_left hi]
 new := fun _ i t' hi ht' => by
  rw [List.getElem?_append_right hi] at ht'
  have hl := (List.getElem?_eq_some_iff.1 ht').1
  simp only [List.length_singleton] at hl
  have : i - ts.length = 0 := by omega
  rw [this] at ht'
  simp only [List.getElem?_cons_zero, Option.some.injEq] at ht'
  subst ht'
  simpa using ht
theorem bj.close {ts ts2 : List ac} {e e2 : Int} {t0 t : ac} (h : bj (ts ++ [t0]) e ts2 e2) (ht : qb ts2.length t) : bj ts e (ts2.set ts.length t) e2 where
 len := by have := h.len; simp at this ⊢; omega
 cap := by simpa using h.cap
 err := h.err
 old := fun he i hi => by
  rw [List.getElem?_set_ne (by omega), h.old he i (by simp; omega), List.getElem?_append_left hi]
 new := fun he i t' hi ht' => by
  have hlen := h.len
  simp only [List.length_append, List.length_singleton] at hlen
  simp only [List.length_set] at ht' ⊢
  rcases Nat.lt_or_eq_of_le hi with hl | hl
  ·rw [List.getElem?_set_ne (by omega)] at ht'
   exact h.new he i t' (by simp; omega) ht'
  ·subst hl
   rw [List.getElem?_set_self (by omega)] at ht'
   cases ht'
   exact ht
theorem bj.at_open {ts ts2 : List ac} {e e2 : Int} {t0 : ac} (h : bj (ts ++ [t0]) e ts2 e2) (he : e2 = 0) : ts2[ts.length]? = some t0 := by
 rw [h.old he ts.length (by simp), List.getElem?_append_right (Nat.le_refl _)]
 simp
theorem bj.sch {ts : List ac} (h : bj [] 0 ts 0) : wh ts := by
 refine ⟨h.cap, fun t ht => ?_⟩
 obtain ⟨i, hi, rfl⟩ := List.mem_iff_getElem.1 ht
 exact h.new rfl i _ (by simp) (List.getElem?_eq_getElem hi)
theorem aK.kids {k n : Int} {s : List UInt8} {l : List ae} {names : List (List UInt8)} (h : aK (.mk k n s l names)) :
  s.length ≤ 100 ∧ l.length ≤ 100 ∧ names.length ≤ l.length ∧ (∀ x ∈ names, x.length ≤ 100) ∧ (k = 6 → names.length = l.length) ∧ ∀ c ∈ l, aK c := by
 cases h with
 | mk _ _ _ _ _ h1 h2 h3 h4 h5 h6 => exact ⟨h1, h2, h3, h4, h5, h6⟩
theorem aK.eta {c : ae} : aK (.mk c.kind c.n c.s c.l c.names) ↔ aK c := by
 cases c; exact Iff.rfl
theorem aK.zero : aK (.mk 0 0 [] [] []) := .mk _ _ _ _ _ (by simp) (by simp) (by simp) (by simp) (by simp) (by simp)
theorem aK.getD {l : List ae} (h : ∀ c ∈ l, aK c) (i : Nat) : aK (l.getD i (af .jnode)) := by
 rw [List.getD_eq_getElem?_getD]
 cases hi : l[i]? with
 | none => exact aK.zero
 | some c => exact h c (List.mem_of_getElem? hi)
theorem aAY : ∀ {names : List (List UInt8)} {l : List ae} {name : List UInt8} {c : ae}, mg names l name = some c → c ∈ l
 | [], l, _, _, h => by simp [mg] at h
 | x :: ns, [], _, _, h => by simp [mg] at h
 | x :: ns, d :: l, name, c, h => by
   simp only [mg] at h
   split at h
   ·simp at h; simp [h]
   ·exact List.mem_cons_of_mem _ (aAY h)
theorem aED {o : Option ae} {l : List ae} (h : ∀ c ∈ l, aK c) (ho : ∀ c, o = some c → c ∈ l) : aK (.mk (xh o).1 (xh o).2.1 (xh o).2.2.1 (xh o).2.2.2.1 (xh o).2.2.2.2.1) := by
 cases o with
 | none => exact aK.zero
 | some c => exact aK.eta.2 (h c (ho c rfl))
theorem rk {k : Int} {names : List (List UInt8)} {l : List ae} {name : List UInt8} (h : ∀ c ∈ l, aK c) :
  aK (.mk (xh (if k = 6 then mg names l name else none)).1 (xh (if k = 6 then mg names l name else none)).2.1 (xh (if k = 6 then mg names l name else none)).2.2.1 (xh (if k = 6 then mg names l name else none)).2.2.2.1 (xh (if k = 6 then mg names l name else none)).2.2.2.2.1) :=
 aED h fun c hc => by
  split at hc
  ·exact aAY hc
  ·cases hc
end Go.Proofs.Ytdpajabhmmmjoaa
end
section
namespace Go.Proofs.Ytdpajabhmmmjoaa
open Go.AM
set_option autoImplicit false
set_option linter.unusedVariables false
set_option linter.unusedSimpArgs false
set_option maxRecDepth 100000
theorem aAZ (l : List UInt8) (n m : Int) (h : nU l n) (hm : 0 < m) : ∃ r, aU l n m r := by
 obtain ⟨h1, h2, h3⟩ := h
 apply alG 1
 unfold rH xQ
 repeat' (first | (with_reducible refine ah ?_ ?_ <;> (intro hb; (try simp only [bnl] at hb); (try revert hb; intro _))) | with_reducible refine aq ?_ ?_ | with_reducible refine ak ?_ | fail)
 ·exact ⟨_, _, _, _, rfl, rfl, by simp, by simpa using hm, rfl, h1, h2, h3⟩
 ·simp (disch := omega) only [aA, bnl]
 ·simp only [bnl]; omega
 ·refine ⟨_, _, _, _, rfl, rfl, ?_, ?_, rfl, ?_, ?_, h3⟩
  ·simp only
   have := UInt8.toNat_lt (l.getD (IntKind.i64.wrap (IntKind.i64.wrap (n + 1) - 1)).toNat (af .u8))
   rw [ap _ (by omega)]
   exact Int.tmod_nonneg _ (by omega)
  ·simp only
   exact Int.tmod_lt_of_pos _ hm
  ·simp only; rw [ap _ (by omega)]; omega
  ·simp only; rw [ap _ (by omega)]; omega
theorem rl (l : List UInt8) (n m : Int) (h : nU l n) (hm : 0 < m) (hm2 : m ≤ 1000) : ∃ r, aU l n m r := aAZ l n m h hm
theorem aD6 (l : List UInt8) (n : Int) : ∃ r, ke l n r := by
 apply aj9 1
 unfold ql wF
 repeat' (first | (with_reducible refine ah ?_ ?_ <;> (intro hb; (try simp only [bnl] at hb); (try revert hb; intro _))) | with_reducible refine aq ?_ ?_ | with_reducible refine ak ?_ | fail)
 exact ⟨_, _, _, _, rfl, rfl, rfl, rfl⟩
theorem aD7 (l : List UInt8) : ∃ r, rV l r := by
 apply ayH 1
 unfold zc alK
 repeat' (first | (with_reducible refine ah ?_ ?_ <;> (intro hb; (try simp only [bnl] at hb); (try revert hb; intro _))) | with_reducible refine aq ?_ ?_ | with_reducible refine ak ?_ | fail)
 exact ⟨_, _, [], rfl, rfl⟩
theorem cT (s : List UInt8) : ∃ r, be s r := by
 apply ayJ 1
 unfold zd alN
 repeat' (first | (with_reducible refine ah ?_ ?_ <;> (intro hb; (try simp only [bnl] at hb); (try revert hb; intro _))) | with_reducible refine aq ?_ ?_ | with_reducible refine ak ?_ | fail)
 exact ⟨_, _, _, _, _, _, rfl, rfl, rfl⟩
theorem wK (f0 : Bool) (names : List (List UInt8)) (f1 : Bool) (l : List ae) : ∃ r, dY f0 names f1 l r := by
 apply av9 1
 unfold xi ajp
 repeat' (first | (with_reducible refine ah ?_ ?_ <;> (intro hb; (try simp only [bnl] at hb); (try revert hb; intro _))) | with_reducible refine aq ?_ ?_ | with_reducible refine ak ?_ | fail)
 exact ⟨_, _, _, _, _, _, _, _, rfl, rfl, rfl⟩
theorem aw0 : ∀ (names : List (List UInt8)) (l : List ae) (name : List UInt8) (i : Nat), (∀ j, j < i → names.getD j [] ≠ name) → mg names l name = mg (names.drop i) (l.drop i) name
 | names, l, name, 0, _ => rfl
 | [], l, name, i + 1, h => by simp [mg]
 | x :: ns, [], name, i + 1, h => by
   have : ∀ ns : List (List UInt8), mg ns [] name = none := fun ns => by cases ns <;> rfl
   simp [mg, this]
 | x :: ns, c :: l, name, i + 1, h => by
   have h0 := h 0 (by omega)
   simp only [List.getD_cons_zero] at h0
   simp only [mg, if_neg h0, List.drop_succ_cons]
   exact aw0 ns l name i fun j hj => by simpa using h (j + 1) (by omega)
theorem aA0 {names : List (List UInt8)} {l : List ae} {name : List UInt8} {i : Nat} (h1 : i < names.length) (h2 : i < l.length) (h : ∀ j, j < i → names.getD j [] ≠ name) (he : names.getD i [] = name) :
  mg names l name = some (l.getD i (af .jnode)) := by
 rw [aw0 names l name i h, List.drop_eq_getElem_cons h1, List.drop_eq_getElem_cons h2]
 simp only [mg]
 rw [List.getD_eq_getElem?_getD, List.getElem?_eq_getElem h1, Option.getD_some] at he
 rw [if_pos he, List.getD_eq_getElem?_getD, List.getElem?_eq_getElem h2, Option.getD_some]
theorem alY {names : List (List UInt8)} {l : List ae} {name : List UInt8} {i : Nat} (h : ∀ j, j < i → names.getD j [] ≠ name) (hi : names.length ≤ i ∨ l.length ≤ i) : mg names l name = none := by
 rw [aw0 names l name i h]
 rcases hi with hi | hi
 ·rw [List.drop_eq_nil_of_le hi]; rfl
 ·rw [List.drop_of_length_le (l := l) hi]
  cases names.drop i <;> rfl
theorem aCf (k n : Int) (s : List UInt8) (l : List ae) (names : List (List UInt8)) (name : List UInt8) (h : names.length ≤ l.length) (hl : names.length ≤ 1000) : ∃ r, rh k n s l names name r := by
 apply aAL 2000
 unfold adD rY
 refine bi (fun x => x.1 = name ∧ x.2.2.2.2.1 = l ∧ x.2.2.2.2.2.1 = names ∧ 0 ≤ x.2.2.2.2.2.2.1 ∧ x.2.2.2.2.2.2.1 ≤ (names.length : Int) ∧ ∀ j : Nat, (j : Int) < x.2.2.2.2.2.2.1 → names.getD j [] ≠ name)
  (fun x => ((names.length : Int) - x.2.2.2.2.2.2.1).toNat) ?_ _ _ ⟨rfl, rfl, rfl, by simp, by simp, fun j hj => by simp at hj; omega⟩ (by simp; omega)
 rintro again ⟨a0, a1, a2, a3, a4, a5, i, b0, b1, b2, b3, b4⟩ ⟨rfl, rfl, rfl, i1, i2, i3⟩ ih
 simp only at i1 i2 i3 ih h hl ⊢
 unfold uJ
 repeat' (first | (with_reducible refine ah ?_ ?_ <;> (intro hb; (try simp only [bnl] at hb); (try revert hb; intro _))) | with_reducible refine aq ?_ ?_ | with_reducible refine ak ?_ | fail)
 ·simp only [bnl]; omega
 ·simp only [bnl]; omega
 ·rename_i hb hb2
  have e := aA0 (names := a5) (l := a4) (name := a0) (i := i.toNat) (by omega) (by omega) (fun j hj => i3 j (by omega)) hb2
  refine ⟨_, _, _, _, _, _, _, rfl, rfl, ?_⟩
  simp only [sR]
  rw [e]; rfl
 ·rename_i hb hb2
  have ew := ap (i + 1) (by omega)
  refine ih _ ⟨rfl, rfl, rfl, ?_, ?_, ?_⟩ ?_
  ·simp only [ew]; omega
  ·simp only [ew]; omega
  ·simp only [ew]
   intro j hj
   by_cases e : (j : Int) = i
   ·have : i.toNat = j := by omega
    rw [this] at hb2
    exact hb2
   ·exact i3 j (by omega)
  ·simp only [ew]; omega
 ·rename_i hb
  refine ⟨_, _, _, _, _, _, _, rfl, rfl, ?_⟩
  simp only [sR]
  rw [alY (i := i.toNat) (fun j hj => i3 j (by omega)) (.inl (by omega))]
  rfl
theorem bR (ts : List ac) (e c : Int) : ∃ r, am ts e c r := by
 apply aif 1
 unfold pl vg
 repeat' (first | (with_reducible refine ah ?_ ?_ <;> (intro hb; (try simp only [bnl] at hb); (try revert hb; intro _))) | with_reducible refine aq ?_ ?_ | with_reducible refine ak ?_ | fail)
 ·rename_i hb; exact ⟨_, _, _, _, rfl, rfl, by simp [jy, hb]⟩
 ·rename_i hb; exact ⟨_, _, _, _, rfl, rfl, by simp [jy, hb]⟩
end Go.Proofs.Ytdpajabhmmmjoaa
end
section
namespace Go.Proofs.Ytdpajabhmmmjoaa
open Go.AM
set_option autoImplicit false
set_option linter.unusedVariables false
set_option linter.unusedSimpArgs false
set_option maxRecDepth 100000
theorem aDm (ts : List ac) (t : Int) : ∃ r, rg ts t r := by
 apply aAN 1
 unfold adE an3
 repeat' (first | (with_reducible refine ah ?_ ?_ <;> (intro hb; (try simp only [bnl] at hb); (try revert hb; intro _))) | with_reducible refine aq ?_ ?_ | with_reducible refine ak ?_ | fail)
 all_goals rename_i h
 ·exact ⟨_, _, rfl, rfl, by simp [sS, isT, h]⟩
 ·exact ⟨_, _, rfl, rfl, by simp only [sS, isT]; rw [decide_eq_false (by omega)]; rfl⟩
theorem apO (s : List UInt8) : ∃ r, kX s r := by
 apply awc 100
 unfold xk oQ
 refine bi (fun x => match x with | (a, f, w, i) => a = s ∧ w = asf ∧ 0 ≤ i ∧ i ≤ 14 ∧ ∀ j : Nat, (j : Int) < i → asf.getD j [] ≠ s) (fun x => (14 - x.2.2.2).toNat) ?_ _ _ ⟨rfl, rfl, by simp, by simp, fun j hj => by omega⟩ (by simp)
 rintro again ⟨a, f, w, i⟩ ⟨rfl, rfl, i1, i2, i3⟩ ih
 dsimp only at ih
 have e := ap (i + 1) (by omega)
 unfold ri
 dsimp only
 have hw : asf.length = 14 := rfl
 rw [hw]
 repeat' (first | (with_reducible refine ah ?_ ?_ <;> (intro hb; (try simp only [bnl] at hb); (try revert hb; intro _))) | with_reducible refine aq ?_ ?_ | with_reducible refine ak ?_ | fail)
 ·simp only [bnl]; omega
 ·rename_i h1 h2
  refine ⟨_, _, rfl, rfl, ?_, ?_, ?_, ?_, ?_⟩
  ·simp only [e]; omega
  ·simp only [e]; omega
  ·simp only [e]
   intro h3
   have : i = 13 := by omega
   subst this
   rw [← h2]; rfl
  ·simp only [e]
   intro h3; omega
  ·simp only [e]
   intro h3
   have : i = 9 := by omega
   subst this
   rw [← h2]; rfl
 ·rename_i h1 h2
  refine ih (a, f, asf, _) ?_ ?_
  ·simp only [e]
   refine ⟨trivial, trivial, by omega, by omega, fun j hj => ?_⟩
   by_cases hji : (j : Int) = i
   ·have : i.toNat = j := by omega
    rw [this] at h2
    exact h2
   ·exact i3 j (by omega)
  ·simp only [e]; omega
 ·rename_i h1
  exact ⟨_, _, rfl, rfl, by simp, by simp, by simp, fun _ j hj => i3 j (by omega), by simp⟩
theorem aD8 (k : Int) : ∃ r, qh k r := by
 apply awe 1
 unfold xl aju
 dsimp only
 repeat' (first | (with_reducible refine ah ?_ ?_ <;> (intro hb; (try simp only [bnl] at hb); (try revert hb; intro _))) | with_reducible refine aq ?_ ?_ | with_reducible refine ak ?_ | fail)
 ·exact ⟨_, _, rfl, rfl⟩
 ·exact ⟨_, _, rfl, rfl⟩
 ·simp only [bnl, List.length_cons, List.length_nil]; omega
 ·exact ⟨_, _, rfl, rfl⟩
theorem amo (ts : List ac) (e : Int) (a0 : Int) (a1 : List UInt8) (a2 : List (List UInt8)) (a3 : Int) (a4 : List (List UInt8)) (a5 : Bool) (a6 : List UInt8) (a7 : Int) (a8 : List ao) (a9 : List Int) (h : ts.length ≤ 60) :
  ∃ r, dH ts e a0 a1 a2 a3 a4 a5 a6 a7 a8 a9 r := by
 apply akc 1
 unfold qp wJ
 dsimp only
 repeat' (first | (with_reducible refine ah ?_ ?_ <;> (intro hb; (try simp only [bnl] at hb); (try revert hb; intro _))) | with_reducible refine aq ?_ ?_ | with_reducible refine ak ?_ | (refine ag (bR _ _ _) ?_; rintro _ ⟨-, rfl⟩; try dsimp only) | fail)
 ·rename_i hb
  refine ⟨_, _, _, _, rfl, rfl, ?_⟩
  simp only [kn]
  simp only [if_pos (show 60 ≤ ts.length by omega)]
 ·first | (simp only [bnl, lnl]; done) | (simp only [bnl, lnl]; omega)
 ·rename_i hb
  refine ⟨_, _, _, _, rfl, rfl, ?_⟩
  simp only [kn, List.length_append, List.length_cons, List.length_nil]
  rw [if_neg (by omega), ap _ (by omega)]
  simp
theorem aA1 (ts : List ac) (e : Int) (s : List UInt8) (h : ts.length ≤ 60) : ∃ r, ce ts e s r := by
 apply aio 100
 unfold pn il
 refine bi (fun x => x.1 = s ∧ x.2.2.1 = ts ∧ x.2.2.2 = e ∧ 0 ≤ x.2.1 ∧ x.2.1 ≤ (ts.length : Int)) (fun x => ((ts.length : Int) - x.2.1).toNat) ?_ _ _ ⟨rfl, rfl, rfl, by simp, by simp⟩ (by simp; omega)
 rintro again ⟨s, i, ts, e⟩ ⟨rfl, rfl, rfl, i1, i2⟩ ih
 simp only at i1 i2 ih h ⊢
 unfold kp
 dsimp only
 have next : i < ts.length → Tot (again (s, IntKind.i64.wrap (i + 1), ts, e)) _ := fun hl => ih (s, IntKind.i64.wrap (i + 1), ts, e) (by simp only [ap (i + 1) (by omega)]; exact ⟨trivial, trivial, trivial, by omega, by omega⟩) (by simp only [ap (i + 1) (by omega)]; omega)
 repeat' (first | (with_reducible refine ah ?_ ?_ <;> (intro hb; (try simp only [bnl] at hb); (try revert hb; intro _))) | with_reducible refine aq ?_ ?_ | with_reducible refine ak ?_ | (exact next (by omega)) | fail)
 all_goals first | (first | (simp only [bnl, lnl]; done) | (simp only [bnl, lnl]; omega)) | (refine ⟨_, _, _, _, _, rfl, rfl, rfl, ?_⟩; simp; try omega)
theorem aCg (n : Int) (s : List UInt8) (l : List ab) (ks : List (List UInt8)) (b : Int) (key : List UInt8) (w0 : Int) (w1 : List UInt8) (w2 : List ab) (w3 : List (List UInt8)) (w4 : Int) (h : ks.length = l.length) (hl : l.length ≤ 10000) :
  ∃ r, pi n s l ks b key w0 w1 w2 w3 w4 r := by
 apply ay0 20000
 unfold zg qo
 refine bi (fun x => 0 ≤ x.2.2.2.2.2.2.1 ∧ x.2.2.2.2.2.2.1 ≤ (l.length : Int) ∧ x.2.2.2.2.2.2.2.2.2.2.1 = ks ∧ x.2.2.2.2.2.2.2.2.2.1 = l) (fun x => ((l.length : Int) - x.2.2.2.2.2.2.1).toNat) ?_ _ _ ⟨by simp, by simp, rfl, rfl⟩ (by simp; omega)
 rintro again ⟨c0, c1, c2, c3, c4, c5, i, c6, c7, l, ks, c8, c9, c10, c11, c12, c13⟩ ⟨i1, i2, rfl, rfl⟩ ih
 simp only at i1 i2 ih h hl ⊢
 unfold sU
 dsimp only
 have next : i < l.length → Tot (again (c0, c1, c2, c3, c4, c5, IntKind.i64.wrap (i + 1), c6, c7, l, ks, c8, c9, c10, c11, c12, c13)) _ := fun hl => ih (c0, c1, c2, c3, c4, c5, IntKind.i64.wrap (i + 1), c6, c7, l, ks, c8, c9, c10, c11, c12, c13)
  (by simp only [ap (i + 1) (by omega)]; exact ⟨by omega, by omega, trivial, trivial⟩) (by simp only [ap (i + 1) (by omega)]; omega)
 repeat' (first | (with_reducible refine ah ?_ ?_ <;> (intro hb; (try simp only [bnl] at hb); (try revert hb; intro _))) | with_reducible refine aq ?_ ?_ | with_reducible refine ak ?_ | (exact next (by omega)) | fail)
 all_goals first | (first | (simp only [bnl, lnl]; done) | (simp only [bnl, lnl]; omega)) | skip
 all_goals
  refine ⟨_, _, _, _, _, _, rfl, rfl, ?_, ?_⟩ <;> simp only [List.length_append, List.length_cons, List.length_nil, List.length_drop, List.length_take, List.length_set] <;> omega
end Go.Proofs.Ytdpajabhmmmjoaa
end
section
namespace Go.Proofs.Ytdpajabhmmmjoaa
open Go.AM
set_option autoImplicit false
set_option linter.unusedVariables false
set_option linter.unusedSimpArgs false
set_option maxRecDepth 100000
theorem aCN (c : Int) : ∃ r, oO c r := by
 apply asG 1
 unfold vE agd
 repeat' (first | (with_reducible refine ah ?_ ?_ <;> (intro hb; (try simp only [bnl] at hb); (try revert hb; intro _))) | with_reducible refine aq ?_ ?_ | with_reducible refine ak ?_ | fail)
 all_goals exact ⟨_, _, rfl, rfl⟩
theorem aDn (c : Int) : ∃ r, qk c r := by
 apply awA 1
 unfold xo ajA
 repeat' (first | (with_reducible refine ah ?_ ?_ <;> (intro hb; (try simp only [bnl] at hb); (try revert hb; intro _))) | with_reducible refine aq ?_ ?_ | with_reducible refine ak ?_ | fail)
 all_goals exact ⟨_, _, rfl, rfl⟩
theorem air (s : List UInt8) (hs : s.length ≤ 1000000) : ∃ r, iP s r := by
 apply azc 2000000
 unfold zj qr
 refine bi (fun x => x.1 = s ∧ 0 ≤ x.2 ∧ x.2 ≤ (s.length : Int)) (fun x => ((s.length : Int) - x.2).toNat) ?_ _ _ ⟨rfl, by simp, by simp⟩ (by simp; omega)
 rintro again ⟨a, i⟩ ⟨rfl, i1, i2⟩ ih
 simp only at i1 i2 ih hs ⊢
 have next : i < a.length → Tot (again (a, IntKind.i64.wrap (i + 1))) _ := fun h => ih (a, IntKind.i64.wrap (i + 1)) (by simp only [ap (i + 1) (by omega)]; exact ⟨trivial, by omega, by omega⟩) (by simp only [ap (i + 1) (by omega)]; omega)
 unfold sV
 dsimp only
 repeat' (first | (with_reducible refine ah ?_ ?_ <;> (intro hb; (try simp only [bnl] at hb); (try revert hb; intro _))) | with_reducible refine aq ?_ ?_ | with_reducible refine ak ?_ | (refine ag (aCN _) ?_; intro _ _) | (refine ag (aDn _) ?_; intro _ _) | (exact next (by assumption)) | fail)
 all_goals first | exact ⟨_, _, rfl, rfl⟩ | (simp only [bnl]; omega)
theorem aD9 (a b : List UInt8) (ha : a.length ≤ 1000000) (hb : b.length ≤ 1000000) : ∃ r, rX a b r := by
 apply azf 1
 unfold zk alV
 repeat' (first | (with_reducible refine ah ?_ ?_ <;> (intro hb; (try simp only [bnl] at hb); (try revert hb; intro _))) | with_reducible refine aq ?_ ?_ | with_reducible refine ak ?_ | fail)
 all_goals first | exact ⟨_, _, rfl, rfl, by simp only [rf, List.length_append, List.length_cons, List.length_nil]; omega⟩ | (simp only [bnl, List.length_append, List.length_cons, List.length_nil]; omega)
theorem aDo (s : List UInt8) (hs : s.length ≤ 1000000) : ∃ r, qi s r := by
 apply awI 2000000
 unfold xq oU
 refine bi (fun x => x.1 = s ∧ 0 ≤ x.2.2 ∧ x.2.2 ≤ (s.length : Int) + 1 ∧ (x.2.1.length : Int) ≤ x.2.2) (fun x => ((s.length : Int) + 1 - x.2.2).toNat) ?_ _ _ ⟨rfl, by simp, by simp; omega, by simp⟩ (by simp; omega)
 rintro again ⟨a, p, i⟩ ⟨rfl, i1, i2, i3⟩ ih
 simp only at i1 i2 i3 ih hs ⊢
 have next : ∀ q : List UInt8, i ≤ a.length → (q.length : Int) ≤ i + 1 → Tot (again (a, q, IntKind.i64.wrap (i + 1))) _ := fun q h hq => ih (a, q, IntKind.i64.wrap (i + 1)) (by simp only [ap (i + 1) (by omega)]; exact ⟨trivial, by omega, by omega, by omega⟩) (by simp only [ap (i + 1) (by omega)]; omega)
 unfold rj
 dsimp only
 repeat' (first | (with_reducible refine ah ?_ ?_ <;> (intro hb; (try simp only [bnl] at hb); (try revert hb; intro _))) | with_reducible refine aq ?_ ?_ | with_reducible refine ak ?_ | (refine ag (air _ (by omega)) ?_; intro _ _) | fail)
 all_goals first | exact ⟨_, _, rfl, rfl⟩ | (refine next _ (by omega) ?_) | skip
 all_goals try simp (disch := omega) only [aA, bnl, List.length_append, List.length_cons, List.length_nil, List.length_drop, List.length_take]
 all_goals first | omega | skip
theorem aFv (v k : Int) (hk : 0 ≤ k) (h : (dV .u64 v k == 0) = true) (hv : 0 < v) : 0 < k := by
 rcases Int.lt_or_eq_of_le hk with h1 | h1
 ·exact h1
 ·subst h1
  simp [dV] at h
  omega
theorem aFj : ∀ k : Nat, k < 64 → (!(gT .u64 1 (k : Int) == 0)) = true := by
 intro k hk
 have : ∀ k : Fin 64, (!(gT .u64 1 ((k : Nat) : Int) == 0)) = true := by decide
 exact this ⟨k, hk⟩
theorem aA2 (v a b : Int) (hv : 0 ≤ v) (ha : 0 ≤ a) (ha2 : a ≤ 60) (hb : 0 ≤ b) (hb2 : b ≤ 2000) : ∃ r, kI v a b r := by
 apply azl 100
 unfold zp qv
 repeat' (first | (with_reducible refine ah ?_ ?_ <;> (intro hb; (try simp only [bnl] at hb); (try revert hb; intro _))) | with_reducible refine aq ?_ ?_ | with_reducible refine ak ?_ | fail)
 ·exact ⟨_, _, rfl, rfl⟩
 rename_i hne
 refine bi (fun x => x.1 = v ∧ x.2.1 = a ∧ x.2.2.1 = b ∧ 0 ≤ x.2.2.2 ∧ x.2.2.2 ≤ 63) (fun x => x.2.2.2.toNat) ?_ _ _ ⟨rfl, rfl, rfl, by simp, by simp⟩ (by simp)
 rintro again ⟨v, a, b, k⟩ ⟨rfl, rfl, rfl, i1, i2⟩ ih
 simp only at i1 i2 ih hne hv ha ha2 hb hb2 ⊢
 unfold sZ
 dsimp only
 have e1 := ap (k - 1) (by omega)
 have e2 := ap (a - k) (by omega)
 have e3 := ap (k - a) (by omega)
 refine aq (by simp only [bnl]; omega) (ah (fun h => ?_) (fun h => ah (fun h1 => ?_) (fun h1 => ?_)))
 ·have := aFv v k i1 h (by omega)
  exact ih (v, a, b, _) (by simp only [e1]; exact ⟨trivial, trivial, trivial, by omega, by omega⟩) (by simp only [e1]; omega)
 ·simp only [bnl] at h1
  repeat' (first | (with_reducible refine ah ?_ ?_ <;> (intro hb; (try simp only [bnl] at hb); (try revert hb; intro _))) | with_reducible refine aq ?_ ?_ | with_reducible refine ak ?_ | fail)
  all_goals first | exact ⟨_, _, rfl, rfl⟩ | (simp only [bnl, e2]; omega)
 ·simp only [bnl] at h1
  have e4 := ap (k - a - 1) (by omega)
  have := aFj (k - a).toNat (by omega)
  rw [Int.toNat_of_nonneg (by omega)] at this
  simp only [e3, e4]
  repeat' (first | (with_reducible refine ah ?_ ?_ <;> (intro hb; (try simp only [bnl] at hb); (try revert hb; intro _))) | with_reducible refine aq ?_ ?_ | with_reducible refine ak ?_ | fail)
  all_goals first | exact ⟨_, _, rfl, rfl⟩ | exact this | (simp only [bnl]; omega)
theorem adn (n : Int) : 0 ≤ IntKind.u64.wrap n := by
 simp only [IntKind.wrap, IntKind.signed, IntKind.bits, Bool.false_and, Bool.false_eq_true, if_false]
 exact Int.emod_nonneg _ (by decide)
theorem aDp (n : Int) : ∃ r, qf n r := by
 apply awY 1
 unfold xv ajG
 repeat' (first | (with_reducible refine ah ?_ ?_ <;> (intro hb; (try simp only [bnl] at hb); (try revert hb; intro _))) | with_reducible refine aq ?_ ?_ | with_reducible refine ak ?_ | (refine ag (aA2 _ _ _ (adn _) (by omega) (by omega) (by omega) (by omega)) ?_; intro _ _) | fail)
 all_goals exact ⟨_, _, rfl, rfl⟩
theorem aCO (n : Int) : ∃ r, lD n r := by
 apply atj 1
 unfold vH agj
 repeat' (first | (with_reducible refine ah ?_ ?_ <;> (intro hb; (try simp only [bnl] at hb); (try revert hb; intro _))) | with_reducible refine aq ?_ ?_ | with_reducible refine ak ?_ | (refine ag (aA2 _ _ _ (adn _) (by omega) (by omega) (by omega) (by omega)) ?_; intro _ _) | fail)
 all_goals exact ⟨_, _, rfl, rfl⟩
theorem aDq (s : List UInt8) (hs : s.length ≤ 1000000) : ∃ r, kW s r := by
 apply age 100
 exact ⟨_, zq 95 s (by omega), _, _, _, rfl, rfl, rfl⟩
theorem axX (s : List UInt8) : 0 ≤ (dq s).2 ∧ (dq s).2 ≤ s.length := by
 have := az8 s
 simp only [dq]
 omega
theorem aDr (s : List UInt8) (hs : s.length ≤ 1000000) : ∃ r, qj s r := by
 apply awK 1
 unfold xr ajD
 refine ag (aDq s hs) ?_
 rintro ⟨a, b⟩ ⟨-, h⟩
 exact ak ⟨_, _, _, rfl, rfl, h⟩
theorem nd (k n : Int) (s : List UInt8) (l : List ae) (names : List (List UInt8)) (name : List UInt8) (hl : names.length ≤ 1000) : ∃ r, co k n s l names name r := by
 apply aAS 2000
 unfold adK sa
 refine bi (fun x => x.1 = name ∧ x.2.1 = k ∧ x.2.2.2.2.1 = l ∧ x.2.2.2.2.2.1 = names ∧ 0 ≤ x.2.2.2.2.2.2.1 ∧ x.2.2.2.2.2.2.1 ≤ (names.length : Int) ∧ ∀ j : Nat, (j : Int) < x.2.2.2.2.2.2.1 → names.getD j [] ≠ name)
  (fun x => ((names.length : Int) - x.2.2.2.2.2.2.1).toNat) ?_ _ _ ⟨rfl, rfl, rfl, rfl, by simp, by simp, fun j hj => by simp at hj; omega⟩ (by simp; omega)
 rintro again ⟨a0, a1, a2, a3, a4, a5, i, b0, b1, b2, b3, b4⟩ ⟨rfl, rfl, rfl, rfl, i1, i2, i3⟩ ih
 simp only at i1 i2 i3 ih hl ⊢
 unfold uP
 repeat' (first | (with_reducible refine ah ?_ ?_ <;> (intro hb; (try simp only [bnl] at hb); (try revert hb; intro _))) | with_reducible refine aq ?_ ?_ | with_reducible refine ak ?_ | fail)
 ·simp only [bnl]; omega
 ·simp only [bnl]; omega
 ·rename_i hk hb hc hb2
  have e := aA0 (names := a5) (l := a4) (name := a0) (i := i.toNat) (by omega) (by omega) (fun j hj => i3 j (by omega)) hb2
  refine ⟨_, _, _, _, _, _, _, rfl, rfl, ?_⟩
  simp only [bW]
  rw [if_pos hk, e]; rfl
 ·rename_i hk hb hc hb2
  have ew := ap (i + 1) (by omega)
  refine ih _ ⟨rfl, rfl, rfl, rfl, ?_, ?_, ?_⟩ ?_
  ·simp only [ew]; omega
  ·simp only [ew]; omega
  ·simp only [ew]
   intro j hj
   by_cases e : (j : Int) = i
   ·have : i.toNat = j := by omega
    rw [this] at hb2
    exact hb2
   ·exact i3 j (by omega)
  ·simp only [ew]; omega
 ·rename_i hk hb hc
  refine ⟨_, _, _, _, _, _, _, rfl, rfl, ?_⟩
  simp only [bW]
  rw [if_pos hk, alY (i := i.toNat) (fun j hj => i3 j (by omega)) (.inr (by omega))]
  rfl
 ·rename_i hk hb
  refine ⟨_, _, _, _, _, _, _, rfl, rfl, ?_⟩
  simp only [bW]
  rw [if_pos hk, alY (i := i.toNat) (fun j hj => i3 j (by omega)) (.inl (by omega))]
  rfl
 ·rename_i hk
  refine ⟨_, _, _, _, _, _, _, rfl, rfl, ?_⟩
  simp only [bW]
  rw [if_neg hk]; rfl
end Go.Proofs.Ytdpajabhmmmjoaa
end
