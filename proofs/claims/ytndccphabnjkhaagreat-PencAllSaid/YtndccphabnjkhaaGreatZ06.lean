import Derived.Test.YtndccphabnjkhaaGreatZ05
set_option linter.all false
set_option maxRecDepth 100000
noncomputable section
namespace Go.Proofs.YtndccphabnjkhaaGreat
open Go.AM
abbrev txB:Bs:=[115,121,110,116,97,120,61,39,112,114,111,116,111,51,39,59,32,109,101,115,115,97,103,101,32,65,32,123,32,105,110,116,51,50,32,98,32,61,32,49,59,32,125]
def tkB:List Tok:=[⟨1,[115,121,110,116,97,120],0,0⟩,⟨4,[61],0,6⟩,⟨3,[112,114,111,116,111,51],0,7⟩,⟨4,[59],0,15⟩,⟨1,[109,101,115,115,97,103,101],0,17⟩,⟨1,[65],0,25⟩,⟨4,[123],0,27⟩,⟨1,[105,110,116,51,50],0,29⟩,⟨1,[98],0,35⟩,⟨4,[61],0,37⟩,⟨2,[],1,39⟩,⟨4,[59],0,40⟩,⟨4,[125],0,42⟩,⟨5,[],0,43⟩]
theorem w_0:bv Tryz.prog 228 [.ptr 0 0] [[.str txB,.int .i64 0,.int .i64 0,.int .i64 0]] (.agg [.int .i64 1,.str [115,121,110,116,97,120],.int .u64 0,.int .i64 0]) [[.str txB,.int .i64 6,.int .i64 0,.int .i64 0]]:=cC.objK kG 100 7 [] [] rfl rfl (by kernel_rfl)
theorem w_6:bv Tryz.prog 228 [.ptr 0 0] [[.str txB,.int .i64 6,.int .i64 0,.int .i64 0]] (.agg [.int .i64 4,.str [61],.int .u64 0,.int .i64 6]) [[.str txB,.int .i64 7,.int .i64 0,.int .i64 0]]:=cC.objK kG 100 7 [] [] rfl rfl (by kernel_rfl)
theorem w_7:bv Tryz.prog 228 [.ptr 0 0] [[.str txB,.int .i64 7,.int .i64 0,.int .i64 0]] (.agg [.int .i64 3,.str [112,114,111,116,111,51],.int .u64 0,.int .i64 7]) [[.str txB,.int .i64 15,.int .i64 0,.int .i64 0]]:=cC.objK kG 100 7 [] [] rfl rfl (by kernel_rfl)
theorem aOv:bv Tryz.prog 228 [.ptr 0 0] [[.str txB,.int .i64 15,.int .i64 0,.int .i64 0]] (.agg [.int .i64 4,.str [59],.int .u64 0,.int .i64 15]) [[.str txB,.int .i64 16,.int .i64 0,.int .i64 0]]:=cC.objK kG 100 7 [] [] rfl rfl (by kernel_rfl)
theorem aOw:bv Tryz.prog 228 [.ptr 0 0] [[.str txB,.int .i64 17,.int .i64 0,.int .i64 0]] (.agg [.int .i64 1,.str [109,101,115,115,97,103,101],.int .u64 0,.int .i64 17]) [[.str txB,.int .i64 24,.int .i64 0,.int .i64 0]]:=cC.objK kG 100 7 [] [] rfl rfl (by kernel_rfl)
theorem aOx:bv Tryz.prog 228 [.ptr 0 0] [[.str txB,.int .i64 25,.int .i64 0,.int .i64 0]] (.agg [.int .i64 1,.str [65],.int .u64 0,.int .i64 25]) [[.str txB,.int .i64 26,.int .i64 0,.int .i64 0]]:=cC.objK kG 100 7 [] [] rfl rfl (by kernel_rfl)
theorem aOy:bv Tryz.prog 228 [.ptr 0 0] [[.str txB,.int .i64 27,.int .i64 0,.int .i64 0]] (.agg [.int .i64 4,.str [123],.int .u64 0,.int .i64 27]) [[.str txB,.int .i64 28,.int .i64 0,.int .i64 0]]:=cC.objK kG 100 7 [] [] rfl rfl (by kernel_rfl)
theorem aOz:bv Tryz.prog 228 [.ptr 0 0] [[.str txB,.int .i64 29,.int .i64 0,.int .i64 0]] (.agg [.int .i64 1,.str [105,110,116,51,50],.int .u64 0,.int .i64 29]) [[.str txB,.int .i64 34,.int .i64 0,.int .i64 0]]:=cC.objK kG 100 7 [] [] rfl rfl (by kernel_rfl)
theorem aOA:bv Tryz.prog 228 [.ptr 0 0] [[.str txB,.int .i64 35,.int .i64 0,.int .i64 0]] (.agg [.int .i64 1,.str [98],.int .u64 0,.int .i64 35]) [[.str txB,.int .i64 36,.int .i64 0,.int .i64 0]]:=cC.objK kG 100 7 [] [] rfl rfl (by kernel_rfl)
theorem aOB:bv Tryz.prog 228 [.ptr 0 0] [[.str txB,.int .i64 37,.int .i64 0,.int .i64 0]] (.agg [.int .i64 4,.str [61],.int .u64 0,.int .i64 37]) [[.str txB,.int .i64 38,.int .i64 0,.int .i64 0]]:=cC.objK kG 100 7 [] [] rfl rfl (by kernel_rfl)
theorem aOC:bv Tryz.prog 228 [.ptr 0 0] [[.str txB,.int .i64 39,.int .i64 0,.int .i64 0]] (.agg [.int .i64 2,.str [],.int .u64 1,.int .i64 39]) [[.str txB,.int .i64 40,.int .i64 0,.int .i64 0]]:=cC.objK kG 100 7 [] [] rfl rfl (by kernel_rfl)
theorem aOD:bv Tryz.prog 228 [.ptr 0 0] [[.str txB,.int .i64 40,.int .i64 0,.int .i64 0]] (.agg [.int .i64 4,.str [59],.int .u64 0,.int .i64 40]) [[.str txB,.int .i64 41,.int .i64 0,.int .i64 0]]:=cC.objK kG 100 7 [] [] rfl rfl (by kernel_rfl)
theorem aOE:bv Tryz.prog 228 [.ptr 0 0] [[.str txB,.int .i64 42,.int .i64 0,.int .i64 0]] (.agg [.int .i64 4,.str [125],.int .u64 0,.int .i64 42]) [[.str txB,.int .i64 43,.int .i64 0,.int .i64 0]]:=cC.objK kG 100 7 [] [] rfl rfl (by kernel_rfl)
theorem aOF:bv Tryz.prog 228 [.ptr 0 0] [[.str txB,.int .i64 43,.int .i64 0,.int .i64 0]] (.agg [.int .i64 5,.str [],.int .u64 0,.int .i64 43]) [[.str txB,.int .i64 43,.int .i64 0,.int .i64 0]]:=cC.objK kG 100 7 [] [] rfl rfl (by kernel_rfl)
structure Wd where
 i:Int
 v:V
 j:Int
 ok:bv Tryz.prog 228 [.ptr 0 0] [[.str txB,.int .i64 i,.int .i64 0,.int .i64 0]] v [[.str txB,.int .i64 j,.int .i64 0,.int .i64 0]]
def wdL:List Wd->Int->Option Wd
 | [],_=>none
 |w::l,i=>cond (decide (w.i=i)) (some w) (wdL l i)
theorem aIX:∀(l:List Wd)(i:Int)(w:Wd),wdL l i=some w->w.i=i
 | [],_,_,h=>by cases h
 |x::l,i,w,h=>by
  unfold wdL at h;cases a:decide (x.i=i) with
  |true=>rw[a] at h;cases h;exact of_decide_eq_true a
  |false=>rw[a] at h;exact aIX l i w h
def wds:List Wd:=[⟨0,_,_,w_0⟩,⟨6,_,_,w_6⟩,⟨7,_,_,w_7⟩,⟨15,_,_,aOv⟩,⟨17,_,_,aOw⟩,⟨25,_,_,aOx⟩,⟨27,_,_,aOy⟩,⟨29,_,_,aOz⟩,⟨35,_,_,aOA⟩,⟨37,_,_,aOB⟩,⟨39,_,_,aOC⟩,⟨40,_,_,aOD⟩,⟨42,_,_,aOE⟩,⟨43,_,_,aOF⟩]
def rowW:db Tryz.prog where
 id:=228
 t us css:=match us,css with
   | [.ptr 0 0],[[.str s,.int .i64 i,.int .i64 0,.int .i64 0]]=>cond (decide (s=txB)) (match wdL wds i with|some w=>some (true,w.v,[[.str txB,.int .i64 w.j,.int .i64 0,.int .i64 0]])|none=>none) none
   |_,_=>none
 ok us css v css' h:=by
  split at h
  ·rename_i s i;cases hs:decide (s=txB) with
   |false=>rw[hs] at h;cases h
   |true=>
    rw[hs] at h;have hs:=of_decide_eq_true hs;subst hs;cases hw:wdL wds i with
    |none=>rw[hw] at h;cases h
    |some w=>rw[hw] at h;have:=aIX _ _ _ hw;subst this;cases h;exact w.ok
  ·cases h
theorem aOe:aH Tryz.prog 204 [.str txB] (.tup [.sl .tok (.may false) tkB,.int .i64 0,.int .i64 0]):=av8.pureK kG 100 4 [rowW] [] (by kernel_rfl) rfl (by kernel_rfl)
def aOG:bq Tryz.prog where
 id:=204
 t us:=match us with
   | [.str s]=>cond (decide (s=txB)) (some (true,.tup [.sl .tok (.may false) tkB,.int .i64 0,.int .i64 0])) none
   |_=>none
 ok us v h:=by
  split at h
  ·rename_i s;cases hs:decide (s=txB) with
   |false=>rw[hs] at h;cases h
   |true=>rw[hs] at h;have hs:=of_decide_eq_true hs;subst hs;cases h;exact⟨aOe,rfl,rfl⟩
  ·cases h
def msB:List bi:=[.mk [65] [⟨0,[105,110,116,51,50],[],[98],1,0,0⟩] [] [] [] [] []]
def scB:List PMs:=[⟨[65],[⟨1,[98],0,3,[],0,false,0⟩],[]⟩]
theorem aLJ:aH Tryz.prog 177 [.str txB] (.tup [.agg [.str [],.sl .str (.may false) [],.sl .fmsg (.may false) msB,.sl .pen (.may false) []],.int .i64 0,.int .i64 0]):=apX.pureK kG 100 7 [] [aOG] rfl rfl (by kernel_rfl)
def aOH:bq Tryz.prog where
 id:=177
 t us:=match us with
   | [.str s]=>cond (decide (s=txB)) (some (true,.tup [.agg [.str [],.sl .str (.may false) [],.sl .fmsg (.may false) msB,.sl .pen (.may false) []],.int .i64 0,.int .i64 0])) none
   |_=>none
 ok us v h:=by
  split at h
  ·rename_i s;cases hs:decide (s=txB) with
   |false=>rw[hs] at h;cases h
   |true=>rw[hs] at h;have hs:=of_decide_eq_true hs;subst hs;cases h;exact⟨aLJ,rfl,rfl⟩
  ·cases h
theorem aOI:aH Tryz.prog 39 [.str txB] (.tup [.agg [.sl .pms (.may false) scB,.sl .pen (.may false) []],.bool true]):=azB.pureK kG 100 9 [] [aOH] rfl rfl (by kernel_rfl)
end Go.Proofs.YtndccphabnjkhaaGreat
end
