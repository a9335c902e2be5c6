import Derived.Test.YtndccphabnjkhaaGreatZ05
set_option linter.all false
set_option maxRecDepth 100000
noncomputable section
namespace Go.Proofs.YtndccphabnjkhaaGreat
open Go.AM
abbrev txB:Bs:=[115,121,110,116,97,120,61,39,112,114,111,116,111,51,39,59,32,109,101,115,115,97,103,101,32,65,32,123,32,105,110,116,51,50,32,98,32,61,32,49,59,32,125]
def tkB:List Tok:=[⟨1,[115,121,110,116,97,120],0,0⟩,⟨4,[61],0,6⟩,⟨3,[112,114,111,116,111,51],0,7⟩,⟨4,[59],0,15⟩,⟨1,[109,101,115,115,97,103,101],0,17⟩,⟨1,[65],0,25⟩,⟨4,[123],0,27⟩,⟨1,[105,110,116,51,50],0,29⟩,⟨1,[98],0,35⟩,⟨4,[61],0,37⟩,⟨2,[],1,39⟩,⟨4,[59],0,40⟩,⟨4,[125],0,42⟩,⟨5,[],0,43⟩]
theorem w_0:bq Tryz.prog 228 [.ptr 0 0] [[.str txB,.int .i64 0,.int .i64 0,.int .i64 0]] (.agg [.int .i64 1,.str [115,121,110,116,97,120],.int .u64 0,.int .i64 0]) [[.str txB,.int .i64 6,.int .i64 0,.int .i64 0]]:=cz.objK kC 100 7 [] [] rfl rfl (by kernel_rfl)
theorem w_6:bq Tryz.prog 228 [.ptr 0 0] [[.str txB,.int .i64 6,.int .i64 0,.int .i64 0]] (.agg [.int .i64 4,.str [61],.int .u64 0,.int .i64 6]) [[.str txB,.int .i64 7,.int .i64 0,.int .i64 0]]:=cz.objK kC 100 7 [] [] rfl rfl (by kernel_rfl)
theorem w_7:bq Tryz.prog 228 [.ptr 0 0] [[.str txB,.int .i64 7,.int .i64 0,.int .i64 0]] (.agg [.int .i64 3,.str [112,114,111,116,111,51],.int .u64 0,.int .i64 7]) [[.str txB,.int .i64 15,.int .i64 0,.int .i64 0]]:=cz.objK kC 100 7 [] [] rfl rfl (by kernel_rfl)
theorem aM6:bq Tryz.prog 228 [.ptr 0 0] [[.str txB,.int .i64 15,.int .i64 0,.int .i64 0]] (.agg [.int .i64 4,.str [59],.int .u64 0,.int .i64 15]) [[.str txB,.int .i64 16,.int .i64 0,.int .i64 0]]:=cz.objK kC 100 7 [] [] rfl rfl (by kernel_rfl)
theorem aM7:bq Tryz.prog 228 [.ptr 0 0] [[.str txB,.int .i64 17,.int .i64 0,.int .i64 0]] (.agg [.int .i64 1,.str [109,101,115,115,97,103,101],.int .u64 0,.int .i64 17]) [[.str txB,.int .i64 24,.int .i64 0,.int .i64 0]]:=cz.objK kC 100 7 [] [] rfl rfl (by kernel_rfl)
theorem aM8:bq Tryz.prog 228 [.ptr 0 0] [[.str txB,.int .i64 25,.int .i64 0,.int .i64 0]] (.agg [.int .i64 1,.str [65],.int .u64 0,.int .i64 25]) [[.str txB,.int .i64 26,.int .i64 0,.int .i64 0]]:=cz.objK kC 100 7 [] [] rfl rfl (by kernel_rfl)
theorem aM9:bq Tryz.prog 228 [.ptr 0 0] [[.str txB,.int .i64 27,.int .i64 0,.int .i64 0]] (.agg [.int .i64 4,.str [123],.int .u64 0,.int .i64 27]) [[.str txB,.int .i64 28,.int .i64 0,.int .i64 0]]:=cz.objK kC 100 7 [] [] rfl rfl (by kernel_rfl)
theorem aNa:bq Tryz.prog 228 [.ptr 0 0] [[.str txB,.int .i64 29,.int .i64 0,.int .i64 0]] (.agg [.int .i64 1,.str [105,110,116,51,50],.int .u64 0,.int .i64 29]) [[.str txB,.int .i64 34,.int .i64 0,.int .i64 0]]:=cz.objK kC 100 7 [] [] rfl rfl (by kernel_rfl)
theorem aNb:bq Tryz.prog 228 [.ptr 0 0] [[.str txB,.int .i64 35,.int .i64 0,.int .i64 0]] (.agg [.int .i64 1,.str [98],.int .u64 0,.int .i64 35]) [[.str txB,.int .i64 36,.int .i64 0,.int .i64 0]]:=cz.objK kC 100 7 [] [] rfl rfl (by kernel_rfl)
theorem aNc:bq Tryz.prog 228 [.ptr 0 0] [[.str txB,.int .i64 37,.int .i64 0,.int .i64 0]] (.agg [.int .i64 4,.str [61],.int .u64 0,.int .i64 37]) [[.str txB,.int .i64 38,.int .i64 0,.int .i64 0]]:=cz.objK kC 100 7 [] [] rfl rfl (by kernel_rfl)
theorem aNd:bq Tryz.prog 228 [.ptr 0 0] [[.str txB,.int .i64 39,.int .i64 0,.int .i64 0]] (.agg [.int .i64 2,.str [],.int .u64 1,.int .i64 39]) [[.str txB,.int .i64 40,.int .i64 0,.int .i64 0]]:=cz.objK kC 100 7 [] [] rfl rfl (by kernel_rfl)
theorem aNe:bq Tryz.prog 228 [.ptr 0 0] [[.str txB,.int .i64 40,.int .i64 0,.int .i64 0]] (.agg [.int .i64 4,.str [59],.int .u64 0,.int .i64 40]) [[.str txB,.int .i64 41,.int .i64 0,.int .i64 0]]:=cz.objK kC 100 7 [] [] rfl rfl (by kernel_rfl)
theorem aNf:bq Tryz.prog 228 [.ptr 0 0] [[.str txB,.int .i64 42,.int .i64 0,.int .i64 0]] (.agg [.int .i64 4,.str [125],.int .u64 0,.int .i64 42]) [[.str txB,.int .i64 43,.int .i64 0,.int .i64 0]]:=cz.objK kC 100 7 [] [] rfl rfl (by kernel_rfl)
theorem aNg:bq Tryz.prog 228 [.ptr 0 0] [[.str txB,.int .i64 43,.int .i64 0,.int .i64 0]] (.agg [.int .i64 5,.str [],.int .u64 0,.int .i64 43]) [[.str txB,.int .i64 43,.int .i64 0,.int .i64 0]]:=cz.objK kC 100 7 [] [] rfl rfl (by kernel_rfl)
structure WdQ where
 i:Int
 v:V
 j:Int
 ok:bq Tryz.prog 228 [.ptr 0 0] [[.str txB,.int .i64 i,.int .i64 0,.int .i64 0]] v [[.str txB,.int .i64 j,.int .i64 0,.int .i64 0]]
def wdL:List WdQ->Int->Option WdQ
 | [],_=>none
 |w::l,i=>cond (decide (w.i=i)) (some w) (wdL l i)
theorem aG0:∀(l:List WdQ)(i:Int)(w:WdQ),wdL l i=some w->w.i=i
 | [],_,_,h=>by cases h
 |x::l,i,w,h=>by
  unfold wdL at h;cases a:decide (x.i=i) with
  |true=>rw[a] at h;cases h;exact of_decide_eq_true a
  |false=>rw[a] at h;exact aG0 l i w h
def wds:List WdQ:=[⟨0,_,_,w_0⟩,⟨6,_,_,w_6⟩,⟨7,_,_,w_7⟩,⟨15,_,_,aM6⟩,⟨17,_,_,aM7⟩,⟨25,_,_,aM8⟩,⟨27,_,_,aM9⟩,⟨29,_,_,aNa⟩,⟨35,_,_,aNb⟩,⟨37,_,_,aNc⟩,⟨39,_,_,aNd⟩,⟨40,_,_,aNe⟩,⟨42,_,_,aNf⟩,⟨43,_,_,aNg⟩]
def rowW:de Tryz.prog where
 id:=228
 t us css:=match us,css with
   | [.ptr 0 0],[[.str s,.int .i64 i,.int .i64 0,.int .i64 0]]=>cond (decide (s=txB)) (match wdL wds i with|some w=>some (true,w.v,[[.str txB,.int .i64 w.j,.int .i64 0,.int .i64 0]])|none=>none) none
   |_,_=>none
 ok us css v css' h:=by
  split at h
  ·rename_i s i;cases hs:decide (s=txB) with
   |false=>rw[hs] at h;cases h
   |true=>
    rw[hs] at h;have hs:=of_decide_eq_true hs;subst hs;cases hw:wdL wds i with
    |none=>rw[hw] at h;cases h
    |some w=>rw[hw] at h;have:=aG0 _ _ _ hw;subst this;cases h;exact w.ok
  ·cases h
theorem aMK:aH Tryz.prog 204 [.str txB] (.tup [.sl .tok (.may false) tkB,.int .i64 0,.int .i64 0]):=aul.pureK kC 100 4 [rowW] [] (by kernel_rfl) rfl (by kernel_rfl)
def aNh:bA Tryz.prog where
 id:=204
 t us:=match us with
   | [.str s]=>cond (decide (s=txB)) (some (true,.tup [.sl .tok (.may false) tkB,.int .i64 0,.int .i64 0])) none
   |_=>none
 ok us v h:=by
  split at h
  ·rename_i s;cases hs:decide (s=txB) with
   |false=>rw[hs] at h;cases h
   |true=>rw[hs] at h;have hs:=of_decide_eq_true hs;subst hs;cases h;exact⟨aMK,rfl,rfl⟩
  ·cases h
def msB:List aS:=[.mk [65] [⟨0,[105,110,116,51,50],[],[98],1,0,0⟩] [] [] [] [] []]
def scB:List PMs:=[⟨[65],[⟨1,[98],0,3,[],0,false,0⟩],[]⟩]
theorem aKd:aH Tryz.prog 177 [.str txB] (.tup [.agg [.str [],.sl .str (.may false) [],.sl .fmsg (.may false) msB,.sl .pen (.may false) []],.int .i64 0,.int .i64 0]):=aos.pureK kC 100 7 [] [aNh] rfl rfl (by kernel_rfl)
def aNi:bA Tryz.prog where
 id:=177
 t us:=match us with
   | [.str s]=>cond (decide (s=txB)) (some (true,.tup [.agg [.str [],.sl .str (.may false) [],.sl .fmsg (.may false) msB,.sl .pen (.may false) []],.int .i64 0,.int .i64 0])) none
   |_=>none
 ok us v h:=by
  split at h
  ·rename_i s;cases hs:decide (s=txB) with
   |false=>rw[hs] at h;cases h
   |true=>rw[hs] at h;have hs:=of_decide_eq_true hs;subst hs;cases h;exact⟨aKd,rfl,rfl⟩
  ·cases h
theorem aNj:aH Tryz.prog 39 [.str txB] (.tup [.agg [.sl .pms (.may false) scB,.sl .pen (.may false) []],.bool true]):=axu.pureK kC 100 9 [] [aNi] rfl rfl (by kernel_rfl)
end Go.Proofs.YtndccphabnjkhaaGreat
end
