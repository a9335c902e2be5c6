import Derived.KernelRfl
import Derived.Test.YtdpajabhmmmjoaaZ02
import Derived.Test.YtdpajabhmmmjoaaZ03
noncomputable section
namespace Go.Proofs.Ytdpajabhmmmjoaa
open Go.AM
set_option autoImplicit false
set_option linter.unusedVariables false
set_option maxRecDepth 100000
noncomputable def aa0 : aO := tab (P := Try.prog) [] [] [] []
def aab : IR := Rs [Mi 4 0] (Sq (Sq (.reg [Mv 5 0, Nk 6 5, Fa 7 1 6, Fo [0] [] (.ld 8 1 false false 7), Mv 9 0, Nk 10 9, Fa 11 0 10, Fo [0] [] (.ld 12 1 false false 11), Ll 13 12, Bi 14 .geq 8 13] [[], [0], [0, 1], [0, 1, 2], [], [4], [4, 5], [4, 5, 6], rg 4 7, rg 0 8]) (Cn 14 (Rs [Mi 4 0] .ret) .skip)) (Rs [Mv 15 0, Nk 16 15, Fa 17 1 16, Lo 18 17, Bc 19 .add 18 1, Nk 20 15, Fa 21 1 20, Sv 1 21 19] (Sq (.reg [Mv 22 0, Nk 23 22, Fa 24 0 23, Fo [0] [] (.ld 25 1 false false 24), Mv 26 0, Nk 27 26, Fa 28 1 27, Fo [0] [] (.ld 29 1 false false 28), Bc 30 .sub 29 1, Ix 31 .u8 25 30, Lq 32 31, Pp (.cvi 33 .i64 32), Mv 34 1, Bi 35 .rem 33 34, Mv 4 35] [[], [0], [0, 1], [0, 1, 2], [], [4], [4, 5], [4, 5, 6], rg 4 7, rg 0 8, rg 0 9, rg 0 10, [], rg 0 12, rg 0 13]) .ret)))
def aac : List RV := [.t 4]
theorem aiw : FnC Try.prog aa0 [] 1 aaZ Try.f60 aab aac := fnC (by kernel_rfl) Try.func60 (by kernel_rfl) (by kernel_rfl) (by decide)
def aad (N : Nat) (a : Bs) (b d : Int)  : Ro :=
 let f : Int := (↑(List.length a) : Int)
 cond (decide (f ≤ b)) (
 some (.int .i64 0, [some [.sl .u8 (.may false) a, .int .i64 b]])) (
 let e : Int := (IntKind.wrap .i64 (b + 1))
 let c : Int := (IntKind.wrap .i64 (e - 1))
 chk ((decide (0 ≤ c) && decide (c < ↑(List.length a)))) (
 let g : Int := (List.getD a (Int.toNat c) (aC .u8)).toNat
 chk ((!(d == 0))) (
 let h : Int := (Int.tmod (IntKind.wrap .i64 g) d)
 some (.int .i64 h, [some [.sl .u8 (.may false) a, .int .i64 e]]))))
def tO (N : Nat) (a : Bs) (b c : Int) : Ro := aad N a b c
theorem ahw (N : Nat) (a : Bs) (b c : Int) : bc aa0 N 36 aac aab [.ptr 0 0, .int .i64 c] [some [.sl .u8 (.may false) a, .int .i64 b]] = tO N a b c := by kernel_rfl
theorem ahx (N : Nat) (a : Bs) (b e : Int) (h : Tot (tO N a b e) (fun z => ∃ (f : Int) (c : Bs) (d : Int) (rest : List aL), z.1.dimR = .int .i64 f ∧ z.2 = some [.sl .u8 (.may false) c, .int .i64 d] :: rest ∧ xn a b e (f, c, d))) : ∃ r, aQ a b e r := by
 obtain ⟨⟨v, hp⟩, hz, f, c, d, rest, e1, e2, hq⟩ := h
 simp only at e1 e2
 subst e2
 exact ⟨(f, c, d), bl.dimR (FnC.objs (css := [[.sl .u8 (.may false) a, .int .i64 b]]) (css' := [[.sl .u8 (.may false) c, .int .i64 d]]) aiw (ahw N a b e) hz rfl) e1, hq⟩
noncomputable def aae : aO := tab (P := Try.prog) [] [] [] []
def yS : IR := Rs [Mb 2 false] (Sq (.reg [Mv 3 0, Nk 4 3, Fa 5 1 4, Fo [0] [] (.ld 6 1 false false 5), Mv 7 0, Nk 8 7, Fa 9 0 8, Fo [0] [] (.ld 10 1 false false 9), Ll 11 10, Bi 12 .geq 6 11, Mv 2 12] [[], [0], [0, 1], [0, 1, 2], [], [4], [4, 5], [4, 5, 6], rg 4 7, rg 0 8, rg 0 9]) .ret)
def yT : List RV := [.t 2]
theorem ahy : FnC Try.prog aae [] 1 z7 Try.f59 yS yT := fnC (by kernel_rfl) Try.func59 (by kernel_rfl) (by kernel_rfl) (by decide)
def yU (N : Nat) (a : Bs) (b : Int)  : Ro :=
 let c : Int := (↑(List.length a) : Int)
 some (.bool (decide (c ≤ b)), [some [.sl .u8 (.may false) a, .int .i64 b]])
def sF (N : Nat) (a : Bs) (b : Int) : Ro := yU N a b
theorem aga (N : Nat) (a : Bs) (b : Int) : bc aae N 13 yT yS [.ptr 0 0] [some [.sl .u8 (.may false) a, .int .i64 b]] = sF N a b := by kernel_rfl
theorem agb (N : Nat) (a : Bs) (b : Int) (h : Tot (sF N a b) (fun z => ∃ (e : Bool) (c : Bs) (d : Int) (rest : List aL), z.1.dimR = .bool e ∧ z.2 = some [.sl .u8 (.may false) c, .int .i64 d] :: rest ∧ wC a b (e, c, d))) : ∃ r, iA a b r := by
 obtain ⟨⟨v, hp⟩, hz, e, c, d, rest, e1, e2, hq⟩ := h
 simp only at e1 e2
 subst e2
 exact ⟨(e, c, d), bl.dimR (FnC.objs (css := [[.sl .u8 (.may false) a, .int .i64 b]]) (css' := [[.sl .u8 (.may false) c, .int .i64 d]]) ahy (aga N a b) hz rfl) e1, hq⟩
noncomputable def ajb : aO := tab (P := Try.prog) [] [] [] []
def ahz : IR := Rs [Pp (.mov 2 (.c .nilp))] (Rs [Mv 3 0, Pp (.bld 4 [fu .u8 true, vI 0] [(0, 1, 3)]), Pp (.box 5 4), Mv 2 5] .ret)
def ahA : List RV := [.t 2]
theorem aqm : FnC Try.prog ajb [] 0 ai1 Try.f14 ahz ahA := fnC (by kernel_rfl) Try.func14 (by kernel_rfl) (by kernel_rfl) (by decide)
def ahB (N : Nat) (a : Bs)  : Ro :=
 some (.ptr 0 0, [some [.sl .u8 (.may false) a, .int .i64 0]])
def aa1 (N : Nat) (a : Bs) : Ro := ahB N a
theorem aoD (N : Nat) (a : Bs) : bc ajb N 6 ahA ahz [.sl .u8 (.may false) a] [] = aa1 N a := by kernel_rfl
theorem aoE (N : Nat) (a : Bs) (h : Tot (aa1 N a) (fun z => ∃ (b : Bs) (c : Int) (rest : List aL), z = (.ptr 0 0, [some [.sl .u8 (.may false) b, .int .i64 c]]) ∧ ac7 a (b, c))) : ∃ r, ra a r := by
 obtain ⟨z, hz, b, c, rest, rfl, hq⟩ := h
 exact ⟨(b, c), aqm.newFn (aoD N a) hz, hq⟩
noncomputable def ajc : aO := tab (P := Try.prog) [] [] [] []
def ahC : IR := Rs [Pp (.new 2 [vI 0, vI 0, vS, nl .jnode, nl .str])] (Rs [Mv 3 0, Pp (.bld 4 [vI 0, vI 0, vS, nl .jnode, nl .str] [(0, 1, kI 4), (2, 1, 3)]), Sv 5 2 4] .ret)
def ahD : List RV := [.cell 2 5 true]
theorem aqn : FnC Try.prog ajc [] 0 ai2 Try.f86 ahC ahD := fnC (by kernel_rfl) Try.func86 (by kernel_rfl) (by kernel_rfl) (by decide)
def ahE (N : Nat) (a : Bs)  : Ro :=
 some (.agg [.int .i64 4, .int .i64 0, .str a, .sl .jnode (.may false) ([] : List aD), .sl .str (.may false) ([] : Bss)], [some [.int .i64 4, .int .i64 0, .str a, .sl .jnode .own ([] : List aD), .sl .str .own ([] : Bss)]])
def aa2 (N : Nat) (a : Bs) : Ro := ahE N a
theorem aoF (N : Nat) (a : Bs) : bc ajc N 5 ahD ahC [.str a] [] = aa2 N a := by kernel_rfl
theorem aoG (N : Nat) (a : Bs) (h : Tot (aa2 N a) (fun z => ∃ (b : Int) (c : Int) (d : Bs) (e : List aD) (f : Bss) (rest : List aL), z.1.dimR = .agg [.int .i64 b, .int .i64 c, .str d, .sl .jnode (.may false) e, .sl .str (.may false) f] ∧ z.2 = rest ∧ ac8 a (b, c, d, e, f))) : ∃ r, bJ a r := by
 obtain ⟨⟨v, hp⟩, hz, b, c, d, e, f, rest, e1, e2, hq⟩ := h
 simp only at e1 e2
 subst e2
 exact ⟨(b, c, d, e, f), aI.dimR (aqn.pure (aoF N a) hz) e1, hq⟩
noncomputable def ahF : aO := tab (P := Try.prog) [] [] [] []
def afu : IR := Rs [Pp (.new 4 [vI 0, vI 0, vS, nl .jnode, nl .str])] (Rs [Mv 5 0, Mv 6 1, Pp (.bld 7 [vI 0, vI 0, vS, nl .jnode, nl .str] [(0, 1, kI 6), (4, 1, 5), (3, 1, 6)]), Sv 5 4 7] .ret)
def afv : List RV := [.cell 4 5 true]
theorem aoH : FnC Try.prog ahF [] 0 ag8 Try.f118 afu afv := fnC (by kernel_rfl) Try.func118 (by kernel_rfl) (by kernel_rfl) (by decide)
def afw (N : Nat) (a : Bool) (c : Bss) (b : Bool) (d : List aD)  : Ro :=
 some (.agg [.int .i64 6, .int .i64 0, .str ([] : Bs), .sl .jnode (.may b) d, .sl .str (.may a) c], [some [.int .i64 6, .int .i64 0, .str ([] : Bs), .sl .jnode (.may b) d, .sl .str (.may a) c]])
def zJ (N : Nat) (a : Bool) (c : Bss) (b : Bool) (d : List aD) : Ro := afw N a c b d
theorem amK (N : Nat) (a : Bool) (c : Bss) (b : Bool) (d : List aD) : bc ahF N 8 afv afu [.sl .str (.may a) c, .sl .jnode (.may b) d] [] = zJ N a c b d := by kernel_rfl
theorem amL (N : Nat) (a : Bool) (c : Bss) (b : Bool) (d : List aD) (h : Tot (zJ N a c b d) (fun z => ∃ (e : Int) (f : Int) (g : Bs) (i : Bool) (j : List aD) (k : Bool) (l : Bss) (rest : List aL), z.1 = .agg [.int .i64 e, .int .i64 f, .str g, .sl .jnode (.may i) j, .sl .str (.may k) l] ∧ z.2 = rest ∧ ab1 a c b d (e, f, g, i, j, k, l))) : ∃ r, eW a c b d r := by
 obtain ⟨⟨v, hp⟩, hz, e, f, g, i, j, k, l, rest, e1, e2, hq⟩ := h
 simp only at e1 e2
 subst e2
 subst e1
 exact ⟨(e, f, g, i, j, k, l), aoH.pure (amK N a c b d) hz, hq⟩
noncomputable def wK : aO := tab (P := Try.prog) [] [] [] []
def afx : IR := Sq (Rs [Mv 7 6, Fa 8 4 2, Lq 9 8, Ll 10 9, Bi 11 .lss 7 10] (Cn 11 .skip (.exit 0))) (Sq (.block 1 (Rs [Fa 14 4 2, Lq 15 14, Mv 16 6, Ix 17 .str 15 16, Lq 18 17, Mv 19 1, Bi 20 .eql 18 19] (Cn 20 (Rs [Fa 21 3 2, Lq 22 21, Mv 23 6, Ix 24 .jnode 22 23, Ld 25 5 true 24, Sv 5 4 25, Mb 5 true] .ret) .skip))) (Rg [Mv 12 6, Bc 13 .add 12 1, Mv 6 13]))
def afy : IR := Rs [Pp (.bld 26 [vI 0, vI 0, vS, nl .jnode, nl .str] []), Sv 5 4 26, Mb 5 false] .ret
def acm : IR := Rs [Bx 2 0, Pp (.new 4 [vI 0, vI 0, vS, nl .jnode, nl .str]), Mb 5 false] (Sq (Rs [Mi 6 0] (.block 0 (.loop [1, 2, 4, 6, 1000000] 1 afx))) afy)
def yC : List RV := [.cell 4 5 true, .t 5]
theorem arq : FnC Try.prog wK [] 0 ald Try.f87 acm yC := fnC (by kernel_rfl) Try.func87 (by kernel_rfl) (by kernel_rfl) (by decide)
def aqo (R : IR → (Ex → St → Ro) → St → Ro) (a : St → Ro) : Ex → St → Ro := (bM a [1, 2, 4, 6, 1000000] 1 (aT 0 (bx (R afy) (fin yC))))
abbrev sG : Type := (Bs × Int × Int × Bs × List aD × Bss × Int × Int × Int × Bs × List aD × Bss)
def qJ : sG → St := fun (c, d, e, f, g, h, i, j, k, l, a, b) => { env := (.undef :: .str c :: .ea [.int .i64 d, .int .i64 e, .str f, .sl .jnode (.may false) g, .sl .str (.may false) h] :: .undef :: .ptr 0 0 :: .undef :: .int .i64 i :: (U 20 [])), hp := [some [.int .i64 j, .int .i64 k, .str l, .sl .jnode .own a, .sl .str .own b]] }
def aa3 (N : Nat) : (St → Ro) → St → Ro := fun a s => run wK N afx (aqo (run wK N) a) s
def wM (N : Nat) (d : sG → Ro) : sG → Ro := fun (o, e, f, g, a, b, c, h, i, j, k, m) =>
 let v : Int := (↑(List.length b) : Int)
 cond (decide (c < v)) (
 chk ((decide (0 ≤ c) && decide (c < ↑(List.length b)))) (
 let w : Bs := List.getD b (Int.toNat c) (aC .str)
 cond (decide (w = o)) (
 chk ((decide (0 ≤ c) && decide (c < ↑(List.length a)))) (
 let p : Int := (List.getD a (Int.toNat c) (aC .jnode)).kind
 let q : Int := (List.getD a (Int.toNat c) (aC .jnode)).n
 let r : Bs := (List.getD a (Int.toNat c) (aC .jnode)).s
 let t : List aD := (List.getD a (Int.toNat c) (aC .jnode)).l
 let u : Bss := (List.getD a (Int.toNat c) (aC .jnode)).names
 some (.tup [.agg [.int .i64 p, .int .i64 q, .str r, .sl .jnode (.may false) t, .sl .str (.may false) u], .bool true], [some [.int .i64 p, .int .i64 q, .str r, .sl .jnode (.may false) t, .sl .str (.may false) u]]))) (
 let x : Int := (IntKind.wrap .i64 (c + 1))
 d (o, e, f, g, a, b, x, h, i, j, k, m)))) (
 some (.tup [.agg [.int .i64 0, .int .i64 0, .str ([] : Bs), .sl .jnode (.may false) ([] : List aD), .sl .str (.may false) ([] : Bss)], .bool false], [some [.int .i64 0, .int .i64 0, .str ([] : Bs), .sl .jnode .own ([] : List aD), .sl .str .own ([] : Bss)]]))
theorem aoI (N : Nat) : ∀ (a : St → Ro) (x : sG), aa3 N a (qJ x) = wM N (fun y => a (qJ y)) x := by
 intro a x
 kernel_rfl
def ug (N : Nat) (a b : Int) (c : Bs) (d : List aD) (e : Bss) (f : Bs) (g : sG → Ro) : Ro :=
 g (f, a, b, c, d, e, 0, 0, 0, ([] : Bs), ([] : List aD), ([] : Bss))
def acn (N : Nat) (a b : Int) (c : Bs) (d : List aD) (e : Bss) (f : Bs) : Ro := ug N a b c d e f (fun z => aS N (wM N) z)
def asu (N : Nat) : List (Nat × (St → Ro)) := ba wK N acm (fin yC) ++ []
theorem aqp (N : Nat) (a c : Int) (d : Bs) (e : List aD) (f : Bss) (g : Bs) : bc wK N 27 yC acm [.agg [.int .i64 a, .int .i64 c, .str d, .sl .jnode (.may false) e, .sl .str (.may false) f], .str g] [] = acn N a c d e f g :=
 (bU (asu N) (by kernel_rfl) rfl (fun C => ug N a c d e f g (fun z => C 1000000 (qJ z))) (fun C => by kernel_rfl)).trans (Eq.trans (b := ug N a c d e f g (fun z => bo N (aa3 N) (qJ z))) (by kernel_rfl) (congrArg (ug N a c d e f g) (funext fun z => bj (qJ) (aa3 N) (wM N) (aoI N) N z)))
theorem aqq (N : Nat) (a b : Int) (c : Bs) (d : List aD) (e : Bss) (f : Bs) (h : Tot (acn N a b c d e f) (fun z => ∃ (g : Int) (i : Int) (j : Bs) (k : List aD) (l : Bss) (m : Bool) (rest : List aL), z.1.dimR = .tup [.agg [.int .i64 g, .int .i64 i, .str j, .sl .jnode (.may false) k, .sl .str (.may false) l], .bool m] ∧ z.2 = rest ∧ uX a b c d e f (g, i, j, k, l, m))) : ∃ r, tx a b c d e f r := by
 obtain ⟨⟨v, hp⟩, hz, g, i, j, k, l, m, rest, e1, e2, hq⟩ := h
 simp only at e1 e2
 subst e2
 exact ⟨(g, i, j, k, l, m), aI.dimR (arq.pure (aqp N a b c d e f) hz) e1, hq⟩
noncomputable def alg : aO := tab (P := Try.prog) [] [] [] []
def ajd : IR := Rs [Bx 2 0, Mb 4 false] (Rs [Mv 5 1, Bc 6 .geq 5 0, Mv 7 6, Gt 7 (.mov 8 1), Gt 7 (.fad 9 0 2), Gt 7 (.lde 10 1 false 9), Gt 7 (.lenl 11 10), Gt 7 (.bin 12 .lss 8 11), Pa 13 7 12, Mv 4 13] .ret)
def aje : List RV := [.t 4]
theorem ars : FnC Try.prog alg [] 0 ale Try.f45 ajd aje := fnC (by kernel_rfl) Try.func45 (by kernel_rfl) (by kernel_rfl) (by decide)
def ajf (N : Nat) (a : List aA) (b : Int)  : Ro :=
 cond (decide (0 ≤ b)) (
 let c : Int := (↑(List.length a) : Int)
 some (.bool (decide (b < c)), [])) (
 some (.bool false, []))
def aco (N : Nat) (a : List aA) (b : Int) : Ro := ajf N a b
theorem aqr (N : Nat) (a : List aA) (b : Int) : bc alg N 14 aje ajd [.agg [.sl .atype (.may false) a], .int .i64 b] [] = aco N a b := by kernel_rfl
theorem aqs (N : Nat) (a : List aA) (b : Int) (h : Tot (aco N a b) (fun z => ∃ (c : Bool) (rest : List aL), z.1.dimR = .bool c ∧ z.2 = rest ∧ uY a b (c))) : ∃ r, nh a b r := by
 obtain ⟨⟨v, hp⟩, hz, c, rest, e1, e2, hq⟩ := h
 simp only at e1 e2
 subst e2
 exact ⟨(c), aI.dimR (ars.pure (aqr N a b) hz) e1, hq⟩
noncomputable def sH : aO := tab (P := Try.prog) [] [] [] []
def ab5 : IR := Sq (Rs [Mv 6 4, Mv 7 3, Ll 8 7, Bi 9 .lss 6 8] (Cn 9 .skip (.exit 0))) (Sq (.block 1 (Rs [Mv 12 3, Mv 13 4, Ix 14 .str 12 13, Lq 15 14, Mv 16 0, Bi 17 .eql 15 16] (Cn 17 (Rs [Mv 18 4, Bc 19 .add 18 1, Mv 2 19] .ret) .skip))) (Rg [Mv 10 4, Bc 11 .add 10 1, Mv 4 11]))
def ab6 : IR := Rs [Mi 2 0] .ret
def zK : IR := Rs [Mi 2 0] (Rs [Pp (.bsl 5 .str [kS [110, 117, 108, 108], kS [98, 111, 111, 108, 101, 97, 110], kS [105, 110, 116], kS [108, 111, 110, 103], kS [102, 108, 111, 97, 116], kS [100, 111, 117, 98, 108, 101], kS [98, 121, 116, 101, 115], kS [115, 116, 114, 105, 110, 103], kS [114, 101, 99, 111, 114, 100], kS [101, 110, 117, 109], kS [102, 105, 120, 101, 100], kS [97, 114, 114, 97, 121], kS [109, 97, 112], kS [117, 110, 105, 111, 110]] true), Mv 3 5] (Sq (Rs [Mi 4 0] (.block 0 (.loop [0, 3, 4, 1000000] 0 ab5))) ab6))
def uZ : List RV := [.t 2]
theorem aoJ : FnC Try.prog sH [] 0 ahf Try.f115 zK uZ := fnC (by kernel_rfl) Try.func115 (by kernel_rfl) (by kernel_rfl) (by decide)
def amM (R : IR → (Ex → St → Ro) → St → Ro) (a : St → Ro) : Ex → St → Ro := (bM a [0, 3, 4, 1000000] 0 (aT 0 (bx (R ab6) (fin uZ))))
abbrev oV : Type := (Bs × Bool × Bss × Int)
def nj : oV → St := fun (a, b, c, d) => { env := (.str a :: .undef :: .undef :: .sl .str (.may b) c :: .int .i64 d :: (U 15 [])), hp := [] }
def xW (N : Nat) : (St → Ro) → St → Ro := fun a s => run sH N ab5 (amM (run sH N) a) s
def tz (N : Nat) (a : oV → Ro) : oV → Ro := fun (e, c, d, b) =>
 let f : Int := (↑(List.length d) : Int)
 cond (decide (b < f)) (
 chk ((decide (0 ≤ b) && decide (b < ↑(List.length d)))) (
 let g : Bs := List.getD d (Int.toNat b) (aC .str)
 cond (decide (g = e)) (
 let h : Int := (IntKind.wrap .i64 (b + 1))
 some (.int .i64 h, [])) (
 let i : Int := (IntKind.wrap .i64 (b + 1))
 a (e, c, d, i)))) (
 some (.int .i64 0, []))
theorem alh (N : Nat) : ∀ (a : St → Ro) (x : oV), xW N a (nj x) = tz N (fun y => a (nj y)) x := by
 intro a x
 kernel_rfl
def qK (N : Nat) (a : Bs) (b : oV → Ro) : Ro :=
 b (a, true, ([([110, 117, 108, 108] : Bs), ([98, 111, 111, 108, 101, 97, 110] : Bs), ([105, 110, 116] : Bs), ([108, 111, 110, 103] : Bs), ([102, 108, 111, 97, 116] : Bs), ([100, 111, 117, 98, 108, 101] : Bs), ([98, 121, 116, 101, 115] : Bs), ([115, 116, 114, 105, 110, 103] : Bs), ([114, 101, 99, 111, 114, 100] : Bs), ([101, 110, 117, 109] : Bs), ([102, 105, 120, 101, 100] : Bs), ([97, 114, 114, 97, 121] : Bs), ([109, 97, 112] : Bs), ([117, 110, 105, 111, 110] : Bs)] : Bss), 0)
def zL (N : Nat) (a : Bs) : Ro := qK N a (fun z => aS N (tz N) z)
def aqt (N : Nat) : List (Nat × (St → Ro)) := ba sH N zK (fin uZ) ++ []
theorem amN (N : Nat) (a : Bs) : bc sH N 20 uZ zK [.str a] [] = zL N a :=
 (bU (aqt N) (by kernel_rfl) rfl (fun C => qK N a (fun z => C 1000000 (nj z))) (fun C => by kernel_rfl)).trans (Eq.trans (b := qK N a (fun z => bo N (xW N) (nj z))) (by kernel_rfl) (congrArg (qK N a) (funext fun z => bj (nj) (xW N) (tz N) (alh N) N z)))
theorem amO (N : Nat) (a : Bs) (h : Tot (zL N a) (fun z => ∃ (b : Int) (rest : List aL), z.1.dimR = .int .i64 b ∧ z.2 = rest ∧ ab2 a (b))) : ∃ r, mh a r := by
 obtain ⟨⟨v, hp⟩, hz, b, rest, e1, e2, hq⟩ := h
 simp only at e1 e2
 subst e2
 exact ⟨(b), aI.dimR (aoJ.pure (amN N a) hz) e1, hq⟩
noncomputable def ahG : aO := tab (P := Try.prog) [] [] [] []
def afz : IR := Rs [Ms 2 []] (Rs [Pp (.bsl 4 .str [kS [], kS [110, 117, 108, 108], kS [98, 111, 111, 108, 101, 97, 110], kS [105, 110, 116], kS [108, 111, 110, 103], kS [102, 108, 111, 97, 116], kS [100, 111, 117, 98, 108, 101], kS [98, 121, 116, 101, 115], kS [115, 116, 114, 105, 110, 103], kS [114, 101, 99, 111, 114, 100], kS [101, 110, 117, 109], kS [102, 105, 120, 101, 100], kS [97, 114, 114, 97, 121], kS [109, 97, 112], kS [117, 110, 105, 111, 110]] true), Mv 3 4] (Sq (Rs [Mv 5 0, Bc 6 .lss 5 1, Mv 7 6, Gf 7 (.mov 8 0), Gf 7 (.bin 9 .gtr 8 (kI 14)), Po 10 7 9] (Cn 10 (Rs [Ms 2 []] .ret) .skip)) (Rs [Mv 11 3, Mv 12 0, Ix 13 .str 11 12, Lq 14 13, Mv 2 14] .ret)))
def afA : List RV := [.t 2]
theorem aoK : FnC Try.prog ahG [] 0 ahe Try.f158 afz afA := fnC (by kernel_rfl) Try.func158 (by kernel_rfl) (by kernel_rfl) (by decide)
def afB (N : Nat) (a : Int)  : Ro :=
 cond (decide (a < 1)) (
 some (.str ([] : Bs), [])) (
 cond (decide (14 < a)) (
 some (.str ([] : Bs), [])) (
 chk ((decide (0 ≤ a) && decide (a < ↑(List.length ([([] : Bs), ([110, 117, 108, 108] : Bs), ([98, 111, 111, 108, 101, 97, 110] : Bs), ([105, 110, 116] : Bs), ([108, 111, 110, 103] : Bs), ([102, 108, 111, 97, 116] : Bs), ([100, 111, 117, 98, 108, 101] : Bs), ([98, 121, 116, 101, 115] : Bs), ([115, 116, 114, 105, 110, 103] : Bs), ([114, 101, 99, 111, 114, 100] : Bs), ([101, 110, 117, 109] : Bs), ([102, 105, 120, 101, 100] : Bs), ([97, 114, 114, 97, 121] : Bs), ([109, 97, 112] : Bs), ([117, 110, 105, 111, 110] : Bs)] : Bss))))) (
 let b : Bs := List.getD ([([] : Bs), ([110, 117, 108, 108] : Bs), ([98, 111, 111, 108, 101, 97, 110] : Bs), ([105, 110, 116] : Bs), ([108, 111, 110, 103] : Bs), ([102, 108, 111, 97, 116] : Bs), ([100, 111, 117, 98, 108, 101] : Bs), ([98, 121, 116, 101, 115] : Bs), ([115, 116, 114, 105, 110, 103] : Bs), ([114, 101, 99, 111, 114, 100] : Bs), ([101, 110, 117, 109] : Bs), ([102, 105, 120, 101, 100] : Bs), ([97, 114, 114, 97, 121] : Bs), ([109, 97, 112] : Bs), ([117, 110, 105, 111, 110] : Bs)] : Bss) (Int.toNat a) (aC .str)
 some (.str b, []))))
def zM (N : Nat) (a : Int) : Ro := afB N a
theorem amP (N : Nat) (a : Int) : bc ahG N 15 afA afz [.int .i64 a] [] = zM N a := by kernel_rfl
theorem amQ (N : Nat) (a : Int) (h : Tot (zM N a) (fun z => ∃ (b : Bs) (rest : List aL), z.1.dimR = .str b ∧ z.2 = rest)) : ∃ r, sB a r := by
 obtain ⟨⟨v, hp⟩, hz, b, rest, e1, e2⟩ := h
 simp only at e1 e2
 subst e2
 exact ⟨(b), aI.dimR (aoK.pure (amP N a) hz) e1⟩
noncomputable def uh : aO := tab (P := Try.prog) [] [] [] []
def adg : IR := Sq (Rs [Mv 8 7, Fa 9 3 3, Lo 10 9, Ll 11 10, Bi 12 .lss 8 11, Mv 13 12, Gt 13 (.fad 14 3 3), Gt 13 (.ld 15 1 false false 14), Gt 13 (.mov 16 7), Gt 13 (.ixa 17 .str 15 16), Gt 13 (.lde 18 1 false 17), Gt 13 (.mov 19 1), Gt 13 (.bin 20 .lss 18 19), Pa 21 13 20] (Cn 21 .skip (.exit 0))) (.block 1 (Rg [Mv 22 7, Bc 23 .add 22 1, Mv 7 23]))
def ab7 : IR := Sq (Rs [Mv 24 7, Fa 25 3 3, Lo 26 25, Ll 27 26, Bi 28 .lss 24 27, Mv 29 28, Gt 29 (.fad 30 3 3), Gt 29 (.ld 31 1 false false 30), Gt 29 (.mov 32 7), Gt 29 (.ixa 33 .str 31 32), Gt 29 (.lde 34 1 false 33), Gt 29 (.mov 35 1), Gt 29 (.bin 36 .eql 34 35), Pa 37 29 36] (Cn 37 (Rs [Pp (.blu 38 .aval), Fa 39 2 3, Lo 40 39, Pp (.apu 41 .aval (.tk 38) 40), Fa 42 2 3, Sk 1 42 41] (Sq (.gh (.opn (.cell 0 2)) (.ghp (.cls (.cell 0 2)) (Rg [Fa 43 2 3, Lo 44 43, Mv 45 7, Ld 46 5 true 5, Pp (.ixw 47 .aval 44 45), Pp (.stw none 5 47 46)]))) (Sq (.gh (.fz (.cell 0 2)) (Rg [Pp (.ld 48 5 true false 3), Sv 5 6 48])) .ret))) .skip)) (Sq (.reg [Pp (.bsl 49 .str [] false), Fa 50 3 3, Fo [0] [] (.ld 51 1 false false 50), Mv 52 7, Pp (.subl 53 .str 51 none (some 52)), Pp (.app 54 .str (.tk 49) 53), Mv 55 1, Pp (.bsl 56 .str [55] true), Pp (.app 57 .str (.tk 54) 56), Fa 58 3 3, Fo [0] [] (.ld 59 1 false false 58), Mv 60 7, Pp (.subl 61 .str 59 (some 60) none), Pp (.app 62 .str (.tk 57) 61), Fa 63 3 3, Fo [] [0] (.st none 1 63 (.tk 62))] [[], [], [1], [], [1, 2, 3], rg 0 4, [], [6], rg 0 7, [], [9], [], [9, 10, 11], rg 0 12, rg 0 13, rg 0 14]) (Sq (.reg [Pp (.blu 64 .aval), Fa 65 2 3, Fo [0] [] (.ld 66 1 false false 65), Mv 67 7, Pp (.subl 68 .aval 66 none (some 67)), Pp (.apu 69 .aval (.tk 64) 68), Ld 70 5 true 5, Pp (.bsl 71 .aval [70] true), Pp (.apu 72 .aval (.tk 69) 71), Fa 73 2 3, Fo [0] [] (.ld 74 1 false false 73), Mv 75 7, Pp (.subl 76 .aval 74 (some 75) none), Pp (.apu 77 .aval (.tk 72) 76), Fa 78 2 3, Fo [] [0] (.st none 1 78 (.tk 77))] [[], [], [1], [], [1, 2, 3], rg 0 4, [], [6], rg 0 7, [], [9], [], [9, 10, 11], rg 0 12, rg 0 13, rg 0 14]) (Sq (.gh (.fz (.cell 0 2)) (Rg [Pp (.ld 79 5 true false 3), Sv 5 6 79])) .ret)))
def aa4 : IR := Rs [Pp (.box 3 0), Bx 5 2, Pp (.new 6 [vU 0, vS, nl .aval, nl .str, vI 0])] (Rs [Mi 7 0] (Sq (.block 0 (.loop [1, 3, 5, 6, 7, 1000000] 2 adg)) ab7))
def wN : List RV := [.cell 6 5 true]
theorem aqu : FnC Try.prog uh [] 0 ai4 Try.f61 aa4 wN := fnC (by kernel_rfl) Try.func61 (by kernel_rfl) (by kernel_rfl) (by decide)
def aoL (R : IR → (Ex → St → Ro) → St → Ro) (a : St → Ro) : Ex → St → Ro := (bM a [1, 3, 5, 6, 7, 1000000] 2 (aT 0 (bx (R ab7) (fin wN))))
abbrev qL : Type := (Bs × Int × Bs × List aB × Bss × Int × Int × Int × Bs × List aB × Bss × Int × Int × Bs × List aB × Bss × Int)
def oW : qL → St := fun (h, i, j, k, l, m, n, o, p, q, a, b, c, d, e, f, g) => { env := (.undef :: .str h :: .undef :: .ptr 0 0 :: .undef :: .ea [.int .u64 i, .str j, .sl .aval (.may false) k, .sl .str (.may false) l, .int .i64 m] :: .ptr 1 0 :: .int .i64 n :: (U 72 [])), hp := [some [.int .u64 o, .str p, .sl .aval (.may false) q, .sl .str (.may false) a, .int .i64 b], some [.int .u64 c, .str d, .sl .aval .own e, .sl .str .own f, .int .i64 g]] }
def zN (N : Nat) : (St → Ro) → St → Ro := fun a s => run uh N adg (aoL (run uh N) a) s
def u0 (N : Nat) (n : qL → Ro) : qL → Ro := fun (l, g, h, i, j, k, c, d, e, b, a, f, af, ag, ah, ai, aj) =>
 let x1 : Int := (↑(List.length a) : Int)
 cond (decide (c < x1)) (
 chk ((decide (0 ≤ c) && decide (c < ↑(List.length a)))) (
 let x2 : Bs := List.getD a (Int.toNat c) (aC .str)
 cond (Op.bytesLess x2 l) (
 let x3 : Int := (IntKind.wrap .i64 (c + 1))
 n (l, g, h, i, j, k, x3, d, e, b, a, f, af, ag, ah, ai, aj)) (
 let x4 : Int := (↑(List.length a) : Int)
 cond (decide (c < x4)) (
 chk ((decide (0 ≤ c) && decide (c < ↑(List.length a)))) (
 let x5 : Bs := List.getD a (Int.toNat c) (aC .str)
 cond (decide (x5 = l)) (
 chk (decide ((List.length ([] : List aB) + List.length b) * 80 ≤ 140737488355328)) (
 let x6 : List aB := (([] : List aB) ++ b)
 chk (decide (0 < List.length x6)) (
 chk ((decide (0 ≤ c) && decide (c < ↑(List.length x6)))) (
 chk (decide ((Int.toNat c) < List.length x6)) (
 let x7 : List aB := (List.set x6 (Int.toNat c) ⟨g, h, i, j, k⟩)
 chk (Nat.beq (List.length x6) (List.length x7)) (
 some (.agg [.int .u64 d, .str e, .sl .aval (.may false) x7, .sl .str (.may false) a, .int .i64 f], [some [.int .u64 d, .str e, .sl .aval .own x7, .sl .str (.may false) a, .int .i64 f], some [.int .u64 d, .str e, .sl .aval (.may false) x7, .sl .str (.may false) a, .int .i64 f], none, none]))))))) (
 chk ((decide (0 ≤ c) && decide (c ≤ (↑(List.length a) : Int)))) (
 let x8 : Bss := (List.drop 0 (List.take (Int.toNat c) a))
 chk (decide ((List.length ([] : Bss) + List.length x8) * 16 ≤ 140737488355328)) (
 let x9 : Bss := (([] : Bss) ++ x8)
 chk (decide ((List.length x9 + List.length ([l] : Bss)) * 16 ≤ 140737488355328)) (
 let o : Bss := (x9 ++ ([l] : Bss))
 chk ((decide (0 ≤ c) && decide (c ≤ (↑(List.length a) : Int)))) (
 let p : Bss := (List.drop (Int.toNat c) (List.take (List.length a) a))
 chk (decide ((List.length o + List.length p) * 16 ≤ 140737488355328)) (
 chk ((decide (0 ≤ c) && decide (c ≤ (↑(List.length b) : Int)))) (
 let al : List aB := (List.drop 0 (List.take (Int.toNat c) b))
 chk (decide ((List.length ([] : List aB) + List.length al) * 80 ≤ 140737488355328)) (
 let am : List aB := (([] : List aB) ++ al)
 chk (decide ((List.length am + List.length ([⟨g, h, i, j, k⟩] : List aB)) * 80 ≤ 140737488355328)) (
 let q : List aB := (am ++ ([⟨g, h, i, j, k⟩] : List aB))
 chk ((decide (0 ≤ c) && decide (c ≤ (↑(List.length b) : Int)))) (
 let r : List aB := (List.drop (Int.toNat c) (List.take (List.length b) b))
 chk (decide ((List.length q + List.length r) * 80 ≤ 140737488355328)) (
 some (.agg [.int .u64 d, .str e, .sl .aval (.may false) (q ++ r), .sl .str (.may false) (o ++ p), .int .i64 f], [some [.int .u64 d, .str e, .sl .aval .own (q ++ r), .sl .str .own (o ++ p), .int .i64 f], some [.int .u64 d, .str e, .sl .aval (.may false) (q ++ r), .sl .str (.may false) (o ++ p), .int .i64 f]])))))))))))))) (
 chk ((decide (0 ≤ c) && decide (c ≤ (↑(List.length a) : Int)))) (
 let an : Bss := (List.drop 0 (List.take (Int.toNat c) a))
 chk (decide ((List.length ([] : Bss) + List.length an) * 16 ≤ 140737488355328)) (
 let ao : Bss := (([] : Bss) ++ an)
 chk (decide ((List.length ao + List.length ([l] : Bss)) * 16 ≤ 140737488355328)) (
 let s : Bss := (ao ++ ([l] : Bss))
 chk ((decide (0 ≤ c) && decide (c ≤ (↑(List.length a) : Int)))) (
 let t : Bss := (List.drop (Int.toNat c) (List.take (List.length a) a))
 chk (decide ((List.length s + List.length t) * 16 ≤ 140737488355328)) (
 chk ((decide (0 ≤ c) && decide (c ≤ (↑(List.length b) : Int)))) (
 let ap : List aB := (List.drop 0 (List.take (Int.toNat c) b))
 chk (decide ((List.length ([] : List aB) + List.length ap) * 80 ≤ 140737488355328)) (
 let aq : List aB := (([] : List aB) ++ ap)
 chk (decide ((List.length aq + List.length ([⟨g, h, i, j, k⟩] : List aB)) * 80 ≤ 140737488355328)) (
 let u : List aB := (aq ++ ([⟨g, h, i, j, k⟩] : List aB))
 chk ((decide (0 ≤ c) && decide (c ≤ (↑(List.length b) : Int)))) (
 let v : List aB := (List.drop (Int.toNat c) (List.take (List.length b) b))
 chk (decide ((List.length u + List.length v) * 80 ≤ 140737488355328)) (
 some (.agg [.int .u64 d, .str e, .sl .aval (.may false) (u ++ v), .sl .str (.may false) (s ++ t), .int .i64 f], [some [.int .u64 d, .str e, .sl .aval .own (u ++ v), .sl .str .own (s ++ t), .int .i64 f], some [.int .u64 d, .str e, .sl .aval (.may false) (u ++ v), .sl .str (.may false) (s ++ t), .int .i64 f]]))))))))))))))) (
 let a2 : Int := (↑(List.length a) : Int)
 cond (decide (c < a2)) (
 chk ((decide (0 ≤ c) && decide (c < ↑(List.length a)))) (
 let a3 : Bs := List.getD a (Int.toNat c) (aC .str)
 cond (decide (a3 = l)) (
 chk (decide ((List.length ([] : List aB) + List.length b) * 80 ≤ 140737488355328)) (
 let m : List aB := (([] : List aB) ++ b)
 chk (decide (0 < List.length m)) (
 chk ((decide (0 ≤ c) && decide (c < ↑(List.length m)))) (
 chk (decide ((Int.toNat c) < List.length m)) (
 let w : List aB := (List.set m (Int.toNat c) ⟨g, h, i, j, k⟩)
 chk (Nat.beq (List.length m) (List.length w)) (
 some (.agg [.int .u64 d, .str e, .sl .aval (.may false) w, .sl .str (.may false) a, .int .i64 f], [some [.int .u64 d, .str e, .sl .aval .own w, .sl .str (.may false) a, .int .i64 f], some [.int .u64 d, .str e, .sl .aval (.may false) w, .sl .str (.may false) a, .int .i64 f], none, none]))))))) (
 chk ((decide (0 ≤ c) && decide (c ≤ (↑(List.length a) : Int)))) (
 let ar : Bss := (List.drop 0 (List.take (Int.toNat c) a))
 chk (decide ((List.length ([] : Bss) + List.length ar) * 16 ≤ 140737488355328)) (
 let au : Bss := (([] : Bss) ++ ar)
 chk (decide ((List.length au + List.length ([l] : Bss)) * 16 ≤ 140737488355328)) (
 let x : Bss := (au ++ ([l] : Bss))
 chk ((decide (0 ≤ c) && decide (c ≤ (↑(List.length a) : Int)))) (
 let y : Bss := (List.drop (Int.toNat c) (List.take (List.length a) a))
 chk (decide ((List.length x + List.length y) * 16 ≤ 140737488355328)) (
 chk ((decide (0 ≤ c) && decide (c ≤ (↑(List.length b) : Int)))) (
 let av : List aB := (List.drop 0 (List.take (Int.toNat c) b))
 chk (decide ((List.length ([] : List aB) + List.length av) * 80 ≤ 140737488355328)) (
 let aw : List aB := (([] : List aB) ++ av)
 chk (decide ((List.length aw + List.length ([⟨g, h, i, j, k⟩] : List aB)) * 80 ≤ 140737488355328)) (
 let z : List aB := (aw ++ ([⟨g, h, i, j, k⟩] : List aB))
 chk ((decide (0 ≤ c) && decide (c ≤ (↑(List.length b) : Int)))) (
 let aa : List aB := (List.drop (Int.toNat c) (List.take (List.length b) b))
 chk (decide ((List.length z + List.length aa) * 80 ≤ 140737488355328)) (
 some (.agg [.int .u64 d, .str e, .sl .aval (.may false) (z ++ aa), .sl .str (.may false) (x ++ y), .int .i64 f], [some [.int .u64 d, .str e, .sl .aval .own (z ++ aa), .sl .str .own (x ++ y), .int .i64 f], some [.int .u64 d, .str e, .sl .aval (.may false) (z ++ aa), .sl .str (.may false) (x ++ y), .int .i64 f]])))))))))))))) (
 chk ((decide (0 ≤ c) && decide (c ≤ (↑(List.length a) : Int)))) (
 let ax : Bss := (List.drop 0 (List.take (Int.toNat c) a))
 chk (decide ((List.length ([] : Bss) + List.length ax) * 16 ≤ 140737488355328)) (
 let ay : Bss := (([] : Bss) ++ ax)
 chk (decide ((List.length ay + List.length ([l] : Bss)) * 16 ≤ 140737488355328)) (
 let ab : Bss := (ay ++ ([l] : Bss))
 chk ((decide (0 ≤ c) && decide (c ≤ (↑(List.length a) : Int)))) (
 let ac : Bss := (List.drop (Int.toNat c) (List.take (List.length a) a))
 chk (decide ((List.length ab + List.length ac) * 16 ≤ 140737488355328)) (
 chk ((decide (0 ≤ c) && decide (c ≤ (↑(List.length b) : Int)))) (
 let az : List aB := (List.drop 0 (List.take (Int.toNat c) b))
 chk (decide ((List.length ([] : List aB) + List.length az) * 80 ≤ 140737488355328)) (
 let a0 : List aB := (([] : List aB) ++ az)
 chk (decide ((List.length a0 + List.length ([⟨g, h, i, j, k⟩] : List aB)) * 80 ≤ 140737488355328)) (
 let ad : List aB := (a0 ++ ([⟨g, h, i, j, k⟩] : List aB))
 chk ((decide (0 ≤ c) && decide (c ≤ (↑(List.length b) : Int)))) (
 let ae : List aB := (List.drop (Int.toNat c) (List.take (List.length b) b))
 chk (decide ((List.length ad + List.length ae) * 80 ≤ 140737488355328)) (
 some (.agg [.int .u64 d, .str e, .sl .aval (.may false) (ad ++ ae), .sl .str (.may false) (ab ++ ac), .int .i64 f], [some [.int .u64 d, .str e, .sl .aval .own (ad ++ ae), .sl .str .own (ab ++ ac), .int .i64 f], some [.int .u64 d, .str e, .sl .aval (.may false) (ad ++ ae), .sl .str (.may false) (ab ++ ac), .int .i64 f]])))))))))))))
theorem amR (N : Nat) : ∀ (a : St → Ro) (x : qL), zN N a (oW x) = u0 N (fun y => a (oW y)) x := by
 intro a x
 kernel_rfl
def sI (N : Nat) (a : Int) (b : Bs) (c : List aB) (d : Bss) (e : Int) (k : Bs) (f : Int) (g : Bs) (h : List aB) (i : Bss) (j : Int) (l : qL → Ro) : Ro :=
 l (k, f, g, h, i, j, 0, a, b, c, d, e, 0, ([] : Bs), ([] : List aB), ([] : Bss), 0)
def aa5 (N : Nat) (a : Int) (b : Bs) (c : List aB) (d : Bss) (e : Int) (k : Bs) (f : Int) (g : Bs) (h : List aB) (i : Bss) (j : Int) : Ro := sI N a b c d e k f g h i j (fun z => aS N (u0 N) z)
def art (N : Nat) : List (Nat × (St → Ro)) := ba uh N aa4 (fin wN) ++ []
theorem aoM (N : Nat) (a : Int) (c : Bs) (d : List aB) (e : Bss) (f : Int) (l : Bs) (g : Int) (h : Bs) (i : List aB) (j : Bss) (k : Int) : bc uh N 80 wN aa4 [.agg [.int .u64 a, .str c, .sl .aval (.may false) d, .sl .str (.may false) e, .int .i64 f], .str l, .agg [.int .u64 g, .str h, .sl .aval (.may false) i, .sl .str (.may false) j, .int .i64 k]] [] = aa5 N a c d e f l g h i j k :=
 (bU (art N) (by kernel_rfl) rfl (fun C => sI N a c d e f l g h i j k (fun z => C 1000000 (oW z))) (fun C => by kernel_rfl)).trans (Eq.trans (b := sI N a c d e f l g h i j k (fun z => bo N (zN N) (oW z))) (by kernel_rfl) (congrArg (sI N a c d e f l g h i j k) (funext fun z => bj (oW) (zN N) (u0 N) (amR N) N z)))
theorem aoN (N : Nat) (a : Int) (b : Bs) (c : List aB) (d : Bss) (e : Int) (l : Bs) (f : Int) (g : Bs) (i : List aB) (j : Bss) (k : Int) (h : Tot (aa5 N a b c d e l f g i j k) (fun z => ∃ (m : Int) (n : Bs) (o : List aB) (p : Bss) (q : Int) (rest : List aL), z.1.dimR = .agg [.int .u64 m, .str n, .sl .aval (.may false) o, .sl .str (.may false) p, .int .i64 q] ∧ z.2 = rest ∧ ac9 a b c d e l f g i j k (m, n, o, p, q))) : ∃ r, jO a b c d e l f g i j k r := by
 obtain ⟨⟨v, hp⟩, hz, m, n, o, p, q, rest, e1, e2, hq⟩ := h
 simp only at e1 e2
 subst e2
 exact ⟨(m, n, o, p, q), aI.dimR (aqu.pure (aoM N a b c d e l f g i j k) hz) e1, hq⟩
noncomputable def yV : aO := tab (P := Try.prog) [] [] [] []
def xw : IR := Rs [Mi 4 0] (Sq (Rs [Mv 5 0, Nk 6 5, Fa 7 1 6, Lo 8 7, Bc 9 .eql 8 0] (Cn 9 (Rg [Mv 10 0, Mv 11 1, Nk 12 10, Fa 13 1 12, Sv 1 13 11]) .skip)) (Rs [Mi 4 0] .ret))
def xx : List RV := [.t 4]
theorem agc : FnC Try.prog yV [] 1 yM Try.f110 xw xx := fnC (by kernel_rfl) Try.func110 (by kernel_rfl) (by kernel_rfl) (by decide)
def xy (N : Nat) (a : List aA) (b c : Int)  : Ro :=
 cond (b == 0) (
 some (.int .i64 0, [some [.ul .atype a, .int .i64 c]])) (
 some (.int .i64 0, [some [.ul .atype a, .int .i64 b]]))
def rh (N : Nat) (a : List aA) (b c : Int) : Ro := xy N a b c
theorem aeB (N : Nat) (a : List aA) (b c : Int) : bc yV N 14 xx xw [.ptr 0 0, .int .i64 c] [some [.ul .atype a, .int .i64 b]] = rh N a b c := by kernel_rfl
theorem aeC (N : Nat) (a : List aA) (b e : Int) (h : Tot (rh N a b e) (fun z => ∃ (f : Int) (c : List aA) (d : Int) (rest : List aL), z.1.dimR = .int .i64 f ∧ z.2 = some [.ul .atype c, .int .i64 d] :: rest ∧ kC a b e (f, c, d))) : ∃ r, aK a b e r := by
 obtain ⟨⟨v, hp⟩, hz, f, c, d, rest, e1, e2, hq⟩ := h
 simp only at e1 e2
 subst e2
 exact ⟨(f, c, d), bl.dimR (FnC.objs (css := [[.ul .atype a, .int .i64 b]]) (css' := [[.ul .atype c, .int .i64 d]]) agc (aeB N a b e) hz rfl) e1, hq⟩
noncomputable def aaf : aO := tab (P := Try.prog) [] [cS] [] []
def yW : IR := Rs [Bx 3 1, Mi 4 0] (Sq (Rs [Mv 5 0, Nk 6 5, Fa 7 0 6, Fa 8 0 7, Lo 9 8, Pp (.lnw 10 9), Bc 11 .geq 10 60] (Cn 11 (Rs [Mv 12 0, Ca 13 110 [12, kI 3], Mv 4 13] .ret) .skip)) (Sq (.reg [Mv 14 0, Mv 15 0, Nk 16 15, Fa 17 0 16, Fa 18 0 17, Fo [] [0] (.ld 19 1 false true 18), Ld 20 10 true 3, Pp (.bsl 21 .atype [20] true), Pp (.apu 22 .atype (.tk 19) 21), Nk 23 14, Fa 24 0 23, Fa 25 0 24, Fo [] [0] (.st none 1 25 (.tk 22))] [[], [], [1], [1, 2], [1, 2, 3], rg 1 4, [], [6], rg 1 7, rg 0 8, rg 0 9, rg 0 10, rg 0 11]) (Rs [Mv 26 0, Nk 27 26, Fa 28 0 27, Fa 29 0 28, Lo 30 29, Pp (.lnw 31 30), Bc 32 .sub 31 1, Mv 4 32] .ret)))
def yX : List RV := [.t 4]
theorem ahH : FnC Try.prog aaf [110, 2000110] 1 z9 Try.f116 yW yX := fnC (by kernel_rfl) Try.func116 (by kernel_rfl) (by kernel_rfl) (by decide)
def yY (N : Nat) (a : List aA) (b c : Int) (d : Bs) (e : Bss) (f : Int) (g : Bss) (h : Bool) (i : Bs) (j : Int) (k : List aM) (l : List Int)  : Ro :=
 let o : Int := (↑(List.length a) : Int)
 cond (decide (60 ≤ o)) (
 aG (aK a b 3) (fun m =>
 some (.int .i64 m.1, [some [.ul .atype m.2.1, .int .i64 m.2.2]]))) (
 chk (decide ((List.length a + List.length ([⟨c, d, e, f, g, h, i, j, k, l⟩] : List aA)) * 160 ≤ 140737488355328)) (
 let n : List aA := (a ++ ([⟨c, d, e, f, g, h, i, j, k, l⟩] : List aA))
 let p : Int := (↑(List.length n) : Int)
 let q : Int := (IntKind.wrap .i64 (p - 1))
 some (.int .i64 q, [some [.ul .atype n, .int .i64 b]])))
def sJ (N : Nat) (a : List aA) (b c : Int) (d : Bs) (e : Bss) (f : Int) (g : Bss) (h : Bool) (i : Bs) (j : Int) (k : List aM) (l : List Int) : Ro := yY N a b c d e f g h i j k l
theorem agd (N : Nat) (a : List aA) (b c : Int) (d : Bs) (e : Bss) (f : Int) (g : Bss) (h : Bool) (i : Bs) (j : Int) (k : List aM) (l : List Int) : bc aaf N 33 yX yW [.ptr 0 0, .agg [.int .i64 c, .str d, .sl .str (.may false) e, .int .i64 f, .sl .str (.may false) g, .bool h, .str i, .int .i64 j, .sl .afield (.may false) k, .sl (.num .i64) (.may false) l]] [some [.ul .atype a, .int .i64 b]] = sJ N a b c d e f g h i j k l := by kernel_rfl
theorem age (N : Nat) (a : List aA) (b c : Int) (d : Bs) (e : Bss) (f : Int) (g : Bss) (i : Bool) (j : Bs) (k : Int) (l : List aM) (m : List Int) (h : Tot (sJ N a b c d e f g i j k l m) (fun z => ∃ (p : Int) (n : List aA) (o : Int) (rest : List aL), z.1.dimR = .int .i64 p ∧ z.2 = some [.ul .atype n, .int .i64 o] :: rest ∧ lD a b c d e f g i j k l m (p, n, o))) : ∃ r, eB a b c d e f g i j k l m r := by
 obtain ⟨⟨v, hp⟩, hz, p, n, o, rest, e1, e2, hq⟩ := h
 simp only at e1 e2
 subst e2
 exact ⟨(p, n, o), bl.dimR (FnC.objs (css := [[.ul .atype a, .int .i64 b]]) (css' := [[.ul .atype n, .int .i64 o]]) ahH (agd N a b c d e f g i j k l m) hz rfl) e1, hq⟩
noncomputable def kp : aO := tab (P := Try.prog) [] [] [] []
def vH : IR := Sq (Rs [Mv 8 6, Mv 9 0, Nk 10 9, Fa 11 0 10, Fa 12 0 11, Lo 13 12, Pp (.lnw 14 13), Bi 15 .lss 8 14] (Cn 15 .skip (.exit 0))) (Sq (.block 1 (Sq (.gh (.opn (.cell 0 0)) (.ghp (.cls (.cell 0 0)) (Rg [Mv 18 0, Nk 19 18, Fa 20 0 19, Fa 21 0 20, Lo 22 21, Mv 23 6, Pp (.ixw 24 .atype 22 23), Pp (.ldw 25 10 true 24), Pp (.alr 7 10), Fz 7 10 25]))) (Rs [Fa 26 1 7, Lq 27 26, Mv 28 1, Bi 29 .eql 27 28, Mv 30 29, Gt 30 (.fad 31 0 7), Gt 30 (.lde 32 1 false 31), Gt 30 (.bin 33 .geq 32 (kI 9)), Pa 34 30 33, Mv 35 34, Gt 35 (.fad 36 0 7), Gt 35 (.lde 37 1 false 36), Gt 35 (.bin 38 .leq 37 (kI 11)), Pa 39 35 38] (Cn 39 (Rs [Mv 40 6, Mv 4 40, Mb 5 true] .ret) .skip)))) (Rg [Mv 16 6, Bc 17 .add 16 1, Mv 6 17]))
def vJ : IR := Rs [Mi 4 0, Mb 5 false] .ret
def ri : IR := Rs [Mi 4 0, Mb 5 false] (Sq (Rs [Mi 6 0] (.block 0 (.loop [0, 1, 6, 1000000] 1 vH))) vJ)
def mG : List RV := [.t 4, .t 5]
theorem agf : FnC Try.prog kp [] 1 yN Try.f138 ri mG := fnC (by kernel_rfl) Try.func138 (by kernel_rfl) (by kernel_rfl) (by decide)
def aeD (R : IR → (Ex → St → Ro) → St → Ro) (a : St → Ro) : Ex → St → Ro := (bM a [0, 1, 6, 1000000] 1 (aT 0 (bx (R vJ) (fin mG))))
abbrev gW : Type := (Bs × Int × List aA × Int)
def gq : gW → St := fun (a, b, c, d) => { env := (.ptr 0 0 :: .str a :: (U 4 (.int .i64 b :: (U 34 [])))), hp := [some [.ul .atype c, .int .i64 d]] }
def pT (N : Nat) : (St → Ro) → St → Ro := fun a s => run kp N vH (aeD (run kp N) a) s
def lF (N : Nat) (b : gW → Ro) : gW → Ro := fun (e, d, a, c) =>
 let j : Int := (↑(List.length a) : Int)
 cond (decide (d < j)) (
 chk (decide (0 < List.length a)) (
 chk ((decide (0 ≤ d) && decide (d < ↑(List.length a)))) (
 chk (decide ((Int.toNat d) < List.length a)) (
 let i : Int := (List.getD a (Int.toNat d) (aC .atype)).kind
 let k : Bs := (List.getD a (Int.toNat d) (aC .atype)).name
 chk (Nat.beq (List.length a) (List.length a)) (
 cond (decide (k = e)) (
 cond (decide (9 ≤ i)) (
 cond (decide (i ≤ 11)) (
 some (.tup [.int .i64 d, .bool true], [some [.ul .atype a, .int .i64 c], none, none])) (
 let f : Int := (IntKind.wrap .i64 (d + 1))
 b (e, f, a, c))) (
 let g : Int := (IntKind.wrap .i64 (d + 1))
 b (e, g, a, c))) (
 let h : Int := (IntKind.wrap .i64 (d + 1))
 b (e, h, a, c))))))) (
 some (.tup [.int .i64 0, .bool false], [some [.ul .atype a, .int .i64 c]]))
theorem adh (N : Nat) : ∀ (a : St → Ro) (x : gW), pT N a (gq x) = lF N (fun y => a (gq y)) x := by
 intro a x
 kernel_rfl
def ji (N : Nat) (a : List aA) (b : Int) (c : Bs) (d : gW → Ro) : Ro :=
 d (c, 0, a, b)
def rj (N : Nat) (a : List aA) (b : Int) (c : Bs) : Ro := ji N a b c (fun z => aS N (lF N) z)
def ahI (N : Nat) : List (Nat × (St → Ro)) := ba kp N ri (fin mG) ++ []
theorem aeE (N : Nat) (a : List aA) (c : Int) (d : Bs) : bc kp N 41 mG ri [.ptr 0 0, .str d] [some [.ul .atype a, .int .i64 c]] = rj N a c d :=
 (bU (ahI N) (by kernel_rfl) rfl (fun C => ji N a c d (fun z => C 1000000 (gq z))) (fun C => by kernel_rfl)).trans (Eq.trans (b := ji N a c d (fun z => bo N (pT N) (gq z))) (by kernel_rfl) (congrArg (ji N a c d) (funext fun z => bj (gq) (pT N) (lF N) (adh N) N z)))
theorem aeF (N : Nat) (a : List aA) (b : Int) (e : Bs) (h : Tot (rj N a b e) (fun z => ∃ (f : Int) (g : Bool) (c : List aA) (d : Int) (rest : List aL), z.1.dimR = .tup [.int .i64 f, .bool g] ∧ z.2 = some [.ul .atype c, .int .i64 d] :: rest ∧ vD a b e (f, g, c, d))) : ∃ r, cT a b e r := by
 obtain ⟨⟨v, hp⟩, hz, f, g, c, d, rest, e1, e2, hq⟩ := h
 simp only at e1 e2
 subst e2
 exact ⟨(f, g, c, d), bl.dimR (FnC.objs (css := [[.ul .atype a, .int .i64 b]]) (css' := [[.ul .atype c, .int .i64 d]]) agf (aeE N a b e) hz rfl) e1, hq⟩
noncomputable def xz : aO := tab (P := Try.prog) [] [xv] [] []
def wO : IR := Rs [Pp (.new 2 [vI 0, vI 0, vS, nl .jnode, nl .str])] (Rs [Pp (.bsl 4 .str [kS [84, 111, 112]] false), Pp (.new 3 [nl .str]), Sk 1 3 4] (Rs [Mv 5 0, Ca 6 73 [5, kS [84, 111, 112], kI 0, 3], Sv 5 2 6] .ret))
def wP : List RV := [.cell 2 5 true]
theorem aeG : FnC Try.prog xz [73, 2000073] 1 xo Try.f40 wO wP := fnC (by kernel_rfl) Try.func40 (by kernel_rfl) (by kernel_rfl) (by decide)
def wQ (N : Nat) (b : Bs) (c : Int)  : Ro :=
 aG (fF b c ([([84, 111, 112] : Bs)] : Bss) ([84, 111, 112] : Bs) 0) (fun a =>
 some (.agg [.int .i64 a.1, .int .i64 a.2.1, .str a.2.2.1, .sl .jnode (.may false) a.2.2.2.1, .sl .str (.may false) a.2.2.2.2.1], [some [.sl .u8 (.may false) a.2.2.2.2.2.1, .int .i64 a.2.2.2.2.2.2.1], some [.int .i64 a.1, .int .i64 a.2.1, .str a.2.2.1, .sl .jnode (.may false) a.2.2.2.1, .sl .str (.may false) a.2.2.2.2.1], some [.sl .str .own a.2.2.2.2.2.2.2]]))
def pU (N : Nat) (a : Bs) (b : Int) : Ro := wQ N a b
theorem adi (N : Nat) (a : Bs) (b : Int) : bc xz N 7 wP wO [.ptr 0 0] [some [.sl .u8 (.may false) a, .int .i64 b]] = pU N a b := by kernel_rfl
theorem adj (N : Nat) (a : Bs) (b : Int) (h : Tot (pU N a b) (fun z => ∃ (e : Int) (f : Int) (g : Bs) (i : List aD) (j : Bss) (c : Bs) (d : Int) (rest : List aL), z.1.dimR = .agg [.int .i64 e, .int .i64 f, .str g, .sl .jnode (.may false) i, .sl .str (.may false) j] ∧ z.2 = some [.sl .u8 (.may false) c, .int .i64 d] :: rest ∧ ua a b (e, f, g, i, j, c, d))) : ∃ r, jf a b r := by
 obtain ⟨⟨v, hp⟩, hz, e, f, g, i, j, c, d, rest, e1, e2, hq⟩ := h
 simp only at e1 e2
 subst e2
 exact ⟨(e, f, g, i, j, c, d), bl.dimR (FnC.objs (css := [[.sl .u8 (.may false) a, .int .i64 b]]) (css' := [[.sl .u8 (.may false) c, .int .i64 d]]) aeG (adi N a b) hz rfl) e1, hq⟩
end Go.Proofs.Ytdpajabhmmmjoaa
end
noncomputable section
namespace Go.Proofs.Ytdpajabhmmmjoaa
open Go.AM
set_option autoImplicit false
set_option linter.unusedVariables false
set_option maxRecDepth 100000
noncomputable def wR : aO := tab (P := Try.prog) [] [] [] []
def afC : IR := Sq (Rs [Fa 7 0 2, Lq 8 7, Bc 9 .eql 8 6, Mv 10 9, Gt 10 (.mov 11 6), Gt 10 (.fad 12 4 2), Gt 10 (.lde 13 1 false 12), Gt 10 (.lenl 14 13), Gt 10 (.bin 15 .lss 11 14), Pa 16 10 15, Mv 17 16, Gt 17 (.mov 18 6), Gt 17 (.fad 19 3 2), Gt 17 (.lde 20 1 false 19), Gt 17 (.lenl 21 20), Gt 17 (.bin 22 .lss 18 21), Pa 23 17 22] (Cn 23 .skip (.exit 0))) (Sq (.block 1 (Rs [Fa 26 4 2, Lq 27 26, Mv 28 6, Ix 29 .str 27 28, Lq 30 29, Mv 31 1, Bi 32 .eql 30 31] (Cn 32 (Rs [Fa 33 3 2, Lq 34 33, Mv 35 6, Ix 36 .jnode 34 35, Ld 37 5 true 36, Sv 5 4 37, Mb 5 true] .ret) .skip))) (Rg [Mv 24 6, Bc 25 .add 24 1, Mv 6 25]))
def afD : IR := Rs [Pp (.bld 38 [vI 0, vI 0, vS, nl .jnode, nl .str] []), Sv 5 4 38, Mb 5 false] .ret
def acp : IR := Rs [Bx 2 0, Pp (.new 4 [vI 0, vI 0, vS, nl .jnode, nl .str]), Mb 5 false] (Sq (Rs [Mi 6 0] (.block 0 (.loop [1, 2, 4, 6, 1000000] 1 afC))) afD)
def yD : List RV := [.cell 4 5 true, .t 5]
theorem aru : FnC Try.prog wR [] 0 alf Try.f113 acp yD := fnC (by kernel_rfl) Try.func113 (by kernel_rfl) (by kernel_rfl) (by decide)
def aqv (R : IR → (Ex → St → Ro) → St → Ro) (a : St → Ro) : Ex → St → Ro := (bM a [1, 2, 4, 6, 1000000] 1 (aT 0 (bx (R afD) (fin yD))))
abbrev sK : Type := (Bs × Int × Int × Bs × List aD × Bss × Int × Int × Int × Bs × List aD × Bss)
def qM : sK → St := fun (c, d, e, f, g, h, i, j, k, l, a, b) => { env := (.undef :: .str c :: .ea [.int .i64 d, .int .i64 e, .str f, .sl .jnode (.may false) g, .sl .str (.may false) h] :: .undef :: .ptr 0 0 :: .undef :: .int .i64 i :: (U 32 [])), hp := [some [.int .i64 j, .int .i64 k, .str l, .sl .jnode .own a, .sl .str .own b]] }
def aa6 (N : Nat) : (St → Ro) → St → Ro := fun a s => run wR N afC (aqv (run wR N) a) s
def wS (N : Nat) (d : sK → Ro) : sK → Ro := fun (o, e, f, g, a, b, c, h, i, j, k, m) =>
 cond (e == 6) (
 let v : Int := (↑(List.length b) : Int)
 cond (decide (c < v)) (
 let w : Int := (↑(List.length a) : Int)
 cond (decide (c < w)) (
 chk ((decide (0 ≤ c) && decide (c < ↑(List.length b)))) (
 let x : Bs := List.getD b (Int.toNat c) (aC .str)
 cond (decide (x = o)) (
 chk ((decide (0 ≤ c) && decide (c < ↑(List.length a)))) (
 let p : Int := (List.getD a (Int.toNat c) (aC .jnode)).kind
 let q : Int := (List.getD a (Int.toNat c) (aC .jnode)).n
 let r : Bs := (List.getD a (Int.toNat c) (aC .jnode)).s
 let t : List aD := (List.getD a (Int.toNat c) (aC .jnode)).l
 let u : Bss := (List.getD a (Int.toNat c) (aC .jnode)).names
 some (.tup [.agg [.int .i64 p, .int .i64 q, .str r, .sl .jnode (.may false) t, .sl .str (.may false) u], .bool true], [some [.int .i64 p, .int .i64 q, .str r, .sl .jnode (.may false) t, .sl .str (.may false) u]]))) (
 let y : Int := (IntKind.wrap .i64 (c + 1))
 d (o, e, f, g, a, b, y, h, i, j, k, m)))) (
 some (.tup [.agg [.int .i64 0, .int .i64 0, .str ([] : Bs), .sl .jnode (.may false) ([] : List aD), .sl .str (.may false) ([] : Bss)], .bool false], [some [.int .i64 0, .int .i64 0, .str ([] : Bs), .sl .jnode .own ([] : List aD), .sl .str .own ([] : Bss)]]))) (
 some (.tup [.agg [.int .i64 0, .int .i64 0, .str ([] : Bs), .sl .jnode (.may false) ([] : List aD), .sl .str (.may false) ([] : Bss)], .bool false], [some [.int .i64 0, .int .i64 0, .str ([] : Bs), .sl .jnode .own ([] : List aD), .sl .str .own ([] : Bss)]]))) (
 some (.tup [.agg [.int .i64 0, .int .i64 0, .str ([] : Bs), .sl .jnode (.may false) ([] : List aD), .sl .str (.may false) ([] : Bss)], .bool false], [some [.int .i64 0, .int .i64 0, .str ([] : Bs), .sl .jnode .own ([] : List aD), .sl .str .own ([] : Bss)]]))
theorem aoO (N : Nat) : ∀ (a : St → Ro) (x : sK), aa6 N a (qM x) = wS N (fun y => a (qM y)) x := by
 intro a x
 kernel_rfl
def ui (N : Nat) (a b : Int) (c : Bs) (d : List aD) (e : Bss) (f : Bs) (g : sK → Ro) : Ro :=
 g (f, a, b, c, d, e, 0, 0, 0, ([] : Bs), ([] : List aD), ([] : Bss))
def acq (N : Nat) (a b : Int) (c : Bs) (d : List aD) (e : Bss) (f : Bs) : Ro := ui N a b c d e f (fun z => aS N (wS N) z)
def asv (N : Nat) : List (Nat × (St → Ro)) := ba wR N acp (fin yD) ++ []
theorem aqw (N : Nat) (a c : Int) (d : Bs) (e : List aD) (f : Bss) (g : Bs) : bc wR N 39 yD acp [.agg [.int .i64 a, .int .i64 c, .str d, .sl .jnode (.may false) e, .sl .str (.may false) f], .str g] [] = acq N a c d e f g :=
 (bU (asv N) (by kernel_rfl) rfl (fun C => ui N a c d e f g (fun z => C 1000000 (qM z))) (fun C => by kernel_rfl)).trans (Eq.trans (b := ui N a c d e f g (fun z => bo N (aa6 N) (qM z))) (by kernel_rfl) (congrArg (ui N a c d e f g) (funext fun z => bj (qM) (aa6 N) (wS N) (aoO N) N z)))
theorem aqx (N : Nat) (a b : Int) (c : Bs) (d : List aD) (e : Bss) (f : Bs) (h : Tot (acq N a b c d e f) (fun z => ∃ (g : Int) (i : Int) (j : Bs) (k : List aD) (l : Bss) (m : Bool) (rest : List aL), z.1.dimR = .tup [.agg [.int .i64 g, .int .i64 i, .str j, .sl .jnode (.may false) k, .sl .str (.may false) l], .bool m] ∧ z.2 = rest ∧ cG a b c d e f (g, i, j, k, l, m))) : ∃ r, db a b c d e f r := by
 obtain ⟨⟨v, hp⟩, hz, g, i, j, k, l, m, rest, e1, e2, hq⟩ := h
 simp only at e1 e2
 subst e2
 exact ⟨(g, i, j, k, l, m), aI.dimR (aru.pure (aqw N a b c d e f) hz) e1, hq⟩
noncomputable def uj : aO := tab (P := Try.prog) [] [] [] [aoC, aql]
def adk : IR := Sq (Rs [Mv 4 3, Mv 5 0, Pp (.lens 6 5), Bi 7 .lss 4 6] (Cn 7 .skip (.exit 0))) (Sq (.block 1 (Rs [Mv 10 0, Mv 11 3, Pp (.idx 12 10 11), Ca 13 164 [12], Un 14 13, Mv 15 14, Gt 15 (.mov 16 3), Gt 15 (.bin 17 .eql 16 (kI 0)), Gt 15 (.mov 18 17), Gf 18 (.mov 19 0), Gf 18 (.mov 20 3), Gf 18 (.idx 21 19 20), Gf 18 (.call 22 165 [21]), Gf 18 (.un 23 .not 22), Gt 15 (.pick 24 18 (kB true) 23), Pa 25 15 24] (Cn 25 (Rs [Mb 2 false] .ret) .skip))) (Rg [Mv 8 3, Bc 9 .add 8 1, Mv 3 9]))
def adl : IR := Rs [Mv 26 0, Pp (.lens 27 26), Bc 28 .gtr 27 0, Mv 2 28] .ret
def aa7 : IR := Rs [Mb 2 false] (Sq (Rs [Mi 3 0] (.block 0 (.loop [0, 3, 1000000] 0 adk))) adl)
def wT : List RV := [.t 2]
theorem aqy : FnC Try.prog uj [] 0 ai7 Try.f161 aa7 wT := fnC (by kernel_rfl) Try.func161 (by kernel_rfl) (by kernel_rfl) (by decide)
def aoP (R : IR → (Ex → St → Ro) → St → Ro) (a : St → Ro) : Ex → St → Ro := (bM a [0, 3, 1000000] 0 (aT 0 (bx (R adl) (fin wT))))
abbrev qN : Type := (Bs × Int)
def oX : qN → St := fun (a, b) => { env := (.str a :: .undef :: .undef :: .int .i64 b :: (U 25 [])), hp := [] }
def zO (N : Nat) : (St → Ro) → St → Ro := fun a s => run uj N adk (aoP (run uj N) a) s
def u5 (N : Nat) (a : qN → Ro) : qN → Ro := fun (c, b) =>
 let d : Int := (↑(List.length c) : Int)
 cond (decide (b < d)) (
 chk ((decide (0 ≤ b) && decide (b < ↑(List.length c)))) (
 let e : Int := (↑(UInt8.toNat (List.getD c (Int.toNat b) 0)) : Int)
 aG (qI e) (fun (f : Bool) =>
 cond (!f) (
 cond (b == 0) (
 some (.bool false, [])) (
 chk ((decide (0 ≤ b) && decide (b < ↑(List.length c)))) (
 let g : Int := (↑(UInt8.toNat (List.getD c (Int.toNat b) 0)) : Int)
 aG (sE g) (fun (h : Bool) =>
 cond (!h) (
 some (.bool false, [])) (
 let i : Int := (IntKind.wrap .i64 (b + 1))
 a (c, i)))))) (
 let j : Int := (IntKind.wrap .i64 (b + 1))
 a (c, j))))) (
 let k : Int := (↑(List.length c) : Int)
 some (.bool (decide (0 < k)), []))
theorem amS (N : Nat) : ∀ (a : St → Ro) (x : qN), zO N a (oX x) = u5 N (fun y => a (oX y)) x := by
 intro a x
 kernel_rfl
def sL (N : Nat) (a : Bs) (b : qN → Ro) : Ro :=
 b (a, 0)
def aa8 (N : Nat) (a : Bs) : Ro := sL N a (fun z => aS N (u5 N) z)
def arv (N : Nat) : List (Nat × (St → Ro)) := ba uj N aa7 (fin wT) ++ []
theorem aoQ (N : Nat) (a : Bs) : bc uj N 29 wT aa7 [.str a] [] = aa8 N a :=
 (bU (arv N) (by kernel_rfl) rfl (fun C => sL N a (fun z => C 1000000 (oX z))) (fun C => by kernel_rfl)).trans (Eq.trans (b := sL N a (fun z => bo N (zO N) (oX z))) (by kernel_rfl) (congrArg (sL N a) (funext fun z => bj (oX) (zO N) (u5 N) (amS N) N z)))
theorem aoR (N : Nat) (a : Bs) (h : Tot (aa8 N a) (fun z => ∃ (b : Bool) (rest : List aL), z.1.dimR = .bool b ∧ z.2 = rest)) : ∃ r, jP a r := by
 obtain ⟨⟨v, hp⟩, hz, b, rest, e1, e2⟩ := h
 simp only at e1 e2
 subst e2
 exact ⟨(b), aI.dimR (aqy.pure (aoQ N a) hz) e1⟩
noncomputable def afE : aO := tab (P := Try.prog) [] [] [] []
def adm : IR := Rs [Mb 2 false] (Rs [Mv 3 0, Pp (.bin 4 .geq 3 (.c (.int .u8 97))), Mv 5 4, Gt 5 (.mov 6 0), Gt 5 (.bin 7 .leq 6 (.c (.int .u8 122))), Pa 8 5 7, Mv 9 8, Gf 9 (.mov 10 0), Gf 9 (.bin 11 .geq 10 (.c (.int .u8 65))), Gf 9 (.mov 12 11), Gt 12 (.mov 13 0), Gt 12 (.bin 14 .leq 13 (.c (.int .u8 90))), Gf 9 (.pick 15 12 14 (kB false)), Po 16 9 15, Mv 17 16, Gf 17 (.mov 18 0), Gf 17 (.bin 19 .eql 18 (.c (.int .u8 95))), Po 20 17 19, Mv 2 20] .ret)
def adn : List RV := [.t 2]
theorem amT : FnC Try.prog afE [] 0 afs Try.f164 adm adn := fnC (by kernel_rfl) Try.func164 (by kernel_rfl) (by kernel_rfl) (by decide)
def ado (N : Nat) (a : Int)  : Ro :=
 cond (decide (97 ≤ a)) (
 cond (decide (a ≤ 122)) (
 some (.bool true, [])) (
 cond (decide (65 ≤ a)) (
 cond (decide (a ≤ 90)) (
 some (.bool true, [])) (
 some (.bool (a == 95), []))) (
 some (.bool (a == 95), [])))) (
 cond (decide (65 ≤ a)) (
 cond (decide (a ≤ 90)) (
 some (.bool true, [])) (
 some (.bool (a == 95), []))) (
 some (.bool (a == 95), [])))
def xX (N : Nat) (a : Int) : Ro := ado N a
theorem ali (N : Nat) (a : Int) : bc afE N 21 adn adm [.int .u8 a] [] = xX N a := by kernel_rfl
theorem alj (N : Nat) (a : Int) (h : Tot (xX N a) (fun z => ∃ (b : Bool) (rest : List aL), z.1.dimR = .bool b ∧ z.2 = rest)) : ∃ r, qI a r := by
 obtain ⟨⟨v, hp⟩, hz, b, rest, e1, e2⟩ := h
 simp only at e1 e2
 subst e2
 exact ⟨(b), aI.dimR (amT.pure (ali N a) hz) e1⟩
noncomputable def ahJ : aO := tab (P := Try.prog) [] [] [] []
def afF : IR := Rs [Mb 2 false] (Rs [Mv 3 0, Pp (.bin 4 .geq 3 (.c (.int .u8 48))), Mv 5 4, Gt 5 (.mov 6 0), Gt 5 (.bin 7 .leq 6 (.c (.int .u8 57))), Pa 8 5 7, Mv 2 8] .ret)
def afG : List RV := [.t 2]
theorem aoS : FnC Try.prog ahJ [] 0 ahh Try.f165 afF afG := fnC (by kernel_rfl) Try.func165 (by kernel_rfl) (by kernel_rfl) (by decide)
def afH (N : Nat) (a : Int)  : Ro :=
 cond (decide (48 ≤ a)) (
 some (.bool (decide (a ≤ 57)), [])) (
 some (.bool false, []))
def zP (N : Nat) (a : Int) : Ro := afH N a
theorem amU (N : Nat) (a : Int) : bc ahJ N 9 afG afF [.int .u8 a] [] = zP N a := by kernel_rfl
theorem amV (N : Nat) (a : Int) (h : Tot (zP N a) (fun z => ∃ (b : Bool) (rest : List aL), z.1.dimR = .bool b ∧ z.2 = rest)) : ∃ r, sE a r := by
 obtain ⟨⟨v, hp⟩, hz, b, rest, e1, e2⟩ := h
 simp only at e1 e2
 subst e2
 exact ⟨(b), aI.dimR (aoS.pure (amU N a) hz) e1⟩
noncomputable def ajg : aO := tab (P := Try.prog) [] [] [] []
def ahK : IR := Rs [Ms 4 []] (Sq (Rs [Mv 5 0, Pp (.bin 6 .eql 5 (kS [])), Mv 7 6, Gf 7 (.mov 8 1), Gf 7 (.bin 9 .eql 8 (kS [])), Po 10 7 9] (Cn 10 (Rs [Mv 11 0, Mv 12 1, Bi 13 .add 11 12, Mv 4 13] .ret) .skip)) (Rs [Mv 14 0, Pp (.bin 15 .add 14 (kS [46])), Mv 16 1, Bi 17 .add 15 16, Mv 4 17] .ret))
def ahL : List RV := [.t 4]
theorem aqz : FnC Try.prog ajg [] 0 ai8 Try.f159 ahK ahL := fnC (by kernel_rfl) Try.func159 (by kernel_rfl) (by kernel_rfl) (by decide)
def ahM (N : Nat) (a b : Bs)  : Ro :=
 let d : Bool := decide (a = ([] : Bs))
 cond d (
 chk (decide (List.length a + List.length b ≤ 9223372036854775807)) (
 some (.str (a ++ b), []))) (
 let e : Bool := decide (b = ([] : Bs))
 cond e (
 chk (decide (List.length a + List.length b ≤ 9223372036854775807)) (
 some (.str (a ++ b), []))) (
 chk (decide (List.length a + List.length ([46] : Bs) ≤ 9223372036854775807)) (
 let c : Bs := (a ++ ([46] : Bs))
 chk (decide (List.length c + List.length b ≤ 9223372036854775807)) (
 some (.str (c ++ b), [])))))
def aa9 (N : Nat) (a b : Bs) : Ro := ahM N a b
theorem aoT (N : Nat) (a b : Bs) : bc ajg N 18 ahL ahK [.str a, .str b] [] = aa9 N a b := by kernel_rfl
theorem aoU (N : Nat) (a b : Bs) (h : Tot (aa9 N a b) (fun z => ∃ (c : Bs) (rest : List aL), z.1.dimR = .str c ∧ z.2 = rest ∧ tw a b (c))) : ∃ r, uf a b r := by
 obtain ⟨⟨v, hp⟩, hz, c, rest, e1, e2, hq⟩ := h
 simp only at e1 e2
 subst e2
 exact ⟨(c), aI.dimR (aqz.pure (aoT N a b) hz) e1, hq⟩
noncomputable def sM : aO := tab (P := Try.prog) [] [] [] [acl]
def ab8 : IR := Sq (Rs [Mv 5 4, Mv 6 0, Pp (.lens 7 6), Bi 8 .leq 5 7] (Cn 8 .skip (.exit 0))) (Sq (.block 1 (Sq (Rs [Mv 11 4, Mv 12 0, Pp (.lens 13 12), Bi 14 .lss 11 13, Mv 15 14, Gt 15 (.mov 16 0), Gt 15 (.mov 17 4), Gt 15 (.idx 18 16 17), Gt 15 (.bin 19 .neq 18 (.c (.int .u8 46))), Pa 20 15 19] (Cn 20 (Rs [Mv 21 3, Mv 22 0, Mv 23 4, Mv 24 4, Bc 25 .add 24 1, Pp (.subs 26 22 (some 23) (some 25)), Bi 27 .add 21 26, Mv 3 27] (.exit 1)) .skip)) (Sq (Rs [Mv 28 3, Ca 29 161 [28], Un 30 29] (Cn 30 (Rs [Mb 2 false] .ret) .skip)) (Rg [Ms 3 []])))) (Rg [Mv 9 4, Bc 10 .add 9 1, Mv 4 10]))
def aba : IR := Rs [Mb 2 true] .ret
def zQ : IR := Rs [Mb 2 false] (Rs [Ms 3 []] (Sq (Rs [Mi 4 0] (.block 0 (.loop [0, 3, 4, 1000000] 0 ab8))) aba))
def u6 : List RV := [.t 2]
theorem aoV : FnC Try.prog sM [] 0 ahi Try.f160 zQ u6 := fnC (by kernel_rfl) Try.func160 (by kernel_rfl) (by kernel_rfl) (by decide)
def amW (R : IR → (Ex → St → Ro) → St → Ro) (a : St → Ro) : Ex → St → Ro := (bM a [0, 3, 4, 1000000] 0 (aT 0 (bx (R aba) (fin u6))))
abbrev oY : Type := (Bs × Bs × Int)
def nk : oY → St := fun (a, b, c) => { env := (.str a :: .undef :: .undef :: .str b :: .int .i64 c :: (U 26 [])), hp := [] }
def xY (N : Nat) : (St → Ro) → St → Ro := fun a s => run sM N ab8 (amW (run sM N) a) s
def tA (N : Nat) (a : oY → Ro) : oY → Ro := fun (c, d, b) =>
 let g : Int := (↑(List.length c) : Int)
 cond (decide (b ≤ g)) (
 let h : Int := (↑(List.length c) : Int)
 cond (decide (b < h)) (
 chk ((decide (0 ≤ b) && decide (b < ↑(List.length c)))) (
 let i : Int := (↑(UInt8.toNat (List.getD c (Int.toNat b) 0)) : Int)
 cond (!(i == 46)) (
 let e : Int := (IntKind.wrap .i64 (b + 1))
 chk ((decide (0 ≤ e) && decide (e ≤ (↑(List.length c) : Int)) && (decide (0 ≤ b) && decide (b ≤ e)))) (
 let f : Bs := (List.drop (Int.toNat b) (List.take (Int.toNat e) c))
 chk (decide (List.length d + List.length f ≤ 9223372036854775807)) (
 let j : Int := (IntKind.wrap .i64 (b + 1))
 a (c, (d ++ f), j)))) (
 aG (jP d) (fun (k : Bool) =>
 cond (!k) (
 some (.bool false, [])) (
 let l : Int := (IntKind.wrap .i64 (b + 1))
 a (c, ([] : Bs), l)))))) (
 aG (jP d) (fun (m : Bool) =>
 cond (!m) (
 some (.bool false, [])) (
 let n : Int := (IntKind.wrap .i64 (b + 1))
 a (c, ([] : Bs), n))))) (
 some (.bool true, []))
theorem alk (N : Nat) : ∀ (a : St → Ro) (x : oY), xY N a (nk x) = tA N (fun y => a (nk y)) x := by
 intro a x
 kernel_rfl
def qO (N : Nat) (a : Bs) (b : oY → Ro) : Ro :=
 b (a, ([] : Bs), 0)
def zR (N : Nat) (a : Bs) : Ro := qO N a (fun z => aS N (tA N) z)
def aqA (N : Nat) : List (Nat × (St → Ro)) := ba sM N zQ (fin u6) ++ []
theorem amX (N : Nat) (a : Bs) : bc sM N 31 u6 zQ [.str a] [] = zR N a :=
 (bU (aqA N) (by kernel_rfl) rfl (fun C => qO N a (fun z => C 1000000 (nk z))) (fun C => by kernel_rfl)).trans (Eq.trans (b := qO N a (fun z => bo N (xY N) (nk z))) (by kernel_rfl) (congrArg (qO N a) (funext fun z => bj (nk) (xY N) (tA N) (alk N) N z)))
theorem amY (N : Nat) (a : Bs) (h : Tot (zR N a) (fun z => ∃ (b : Bool) (rest : List aL), z.1.dimR = .bool b ∧ z.2 = rest)) : ∃ r, sC a r := by
 obtain ⟨⟨v, hp⟩, hz, b, rest, e1, e2⟩ := h
 simp only at e1 e2
 subst e2
 exact ⟨(b), aI.dimR (aoV.pure (amX N a) hz) e1⟩
noncomputable def ahN : aO := tab (P := Try.prog) [] [] [] [ahm]
def afI : IR := Rs [Pp (.mov 2 (.c (.int .u32 0))), Mi 3 0] (Rs [Mv 4 0, Ca 5 79 [4], Ex_ 6 0 5, Ex_ 7 1 5, Mv 2 6, Mv 3 7] .ret)
def afJ : List RV := [.t 2, .t 3]
theorem aoW : FnC Try.prog ahN [] 0 aha Try.f162 afI afJ := fnC (by kernel_rfl) Try.func162 (by kernel_rfl) (by kernel_rfl) (by decide)
def afK (N : Nat) (b : Bs)  : Ro :=
 aG (mg b) (fun a =>
 some (.tup [.int .u32 a.1, .int .i64 a.2], []))
def zS (N : Nat) (a : Bs) : Ro := afK N a
theorem amZ (N : Nat) (a : Bs) : bc ahN N 8 afJ afI [.str a] [] = zS N a := by kernel_rfl
theorem am0 (N : Nat) (a : Bs) (h : Tot (zS N a) (fun z => ∃ (b : Int) (c : Int) (rest : List aL), z.1.dimR = .tup [.int .u32 b, .int .i64 c] ∧ z.2 = rest ∧ ab3 a (b, c))) : ∃ r, sD a r := by
 obtain ⟨⟨v, hp⟩, hz, b, c, rest, e1, e2, hq⟩ := h
 simp only at e1 e2
 subst e2
 exact ⟨(b, c), aI.dimR (aoW.pure (amZ N a) hz) e1, hq⟩
noncomputable def sN : aO := tab (P := Try.prog) [] [] [] []
def abb : IR := Sq (Rs [Mv 50 8, Mv 51 5, Bi 52 .lss 50 51] (Cn 52 .skip (.exit 1))) (Sq (.block 2 (Sq (Rs [Mv 55 0, Mv 56 8, Pp (.idx 57 55 56), Pp (.bin 58 .lss 57 (.c (.int .u8 128))), Mv 59 58, Gf 59 (.mov 60 0), Gf 59 (.mov 61 8), Gf 59 (.idx 62 60 61), Gf 59 (.bin 63 .gtr 62 (.c (.int .u8 191))), Po 64 59 63] (Cn 64 (Rs [Pp (.mov 2 (.c (.int .u32 0))), Mi 3 0] .ret) .skip)) (Rg [Mv 65 6, Pp (.bin 66 .mul 65 (.c (.int .u32 64))), Mv 67 0, Mv 68 8, Pp (.idx 69 67 68), Pp (.bin 70 .sub 69 (.c (.int .u8 128))), Pp (.cvi 71 .u32 70), Bi 72 .add 66 71, Mv 6 72]))) (Rg [Mv 53 8, Bc 54 .add 53 1, Mv 8 54]))
def abc : IR := Sq (Rs [Mv 73 6, Mv 74 7, Bi 75 .lss 73 74, Mv 76 75, Gf 76 (.mov 77 6), Gf 76 (.bin 78 .gtr 77 (.c (.int .u32 1114111))), Po 79 76 78, Mv 80 79, Gf 80 (.mov 81 6), Gf 80 (.bin 82 .geq 81 (.c (.int .u32 55296))), Gf 80 (.mov 83 82), Gt 83 (.mov 84 6), Gt 83 (.bin 85 .leq 84 (.c (.int .u32 57343))), Gf 80 (.pick 86 83 85 (kB false)), Po 87 80 86] (Cn 87 (Rs [Pp (.mov 2 (.c (.int .u32 0))), Mi 3 0] .ret) .skip)) (Rs [Mv 88 6, Mv 89 5, Mv 2 88, Mv 3 89] .ret)
def zT : IR := Rs [Pp (.mov 2 (.c (.int .u32 0))), Mi 3 0] (Sq (Rs [Mv 9 0, Pp (.lens 10 9), Bc 11 .eql 10 0] (Cn 11 (Rs [Pp (.mov 2 (.c (.int .u32 0))), Mi 3 0] .ret) .skip)) (Rs [Mv 12 0, Pp (.idx 13 12 (kI 0)), Pp (.cvi 14 .u32 13), Mv 4 14] (Rs [Mi 5 0, Pp (.mov 6 (.c (.int .u32 0))), Pp (.mov 7 (.c (.int .u32 0)))] (Sq (.block 0 (Rs [Mv 16 4, Pp (.bin 17 .lss 16 (.c (.int .u32 128))), Mv 15 17] (Cn 15 (Rs [Mv 18 4, Mv 2 18, Mi 3 1] .ret) (Rs [Mv 20 4, Pp (.bin 21 .geq 20 (.c (.int .u32 192))), Mv 22 21, Gt 22 (.mov 23 4), Gt 22 (.bin 24 .lss 23 (.c (.int .u32 224))), Pa 25 22 24, Mv 19 25] (Cn 19 (Rg [Mv 26 4, Pp (.bin 27 .sub 26 (.c (.int .u32 192))), Mi 5 2, Mv 6 27, Pp (.mov 7 (.c (.int .u32 128)))]) (Rs [Mv 29 4, Pp (.bin 30 .geq 29 (.c (.int .u32 224))), Mv 31 30, Gt 31 (.mov 32 4), Gt 31 (.bin 33 .lss 32 (.c (.int .u32 240))), Pa 34 31 33, Mv 28 34] (Cn 28 (Rg [Mv 35 4, Pp (.bin 36 .sub 35 (.c (.int .u32 224))), Mi 5 3, Mv 6 36, Pp (.mov 7 (.c (.int .u32 2048)))]) (Rs [Mv 38 4, Pp (.bin 39 .geq 38 (.c (.int .u32 240))), Mv 40 39, Gt 40 (.mov 41 4), Gt 40 (.bin 42 .lss 41 (.c (.int .u32 248))), Pa 43 40 42, Mv 37 43] (Cn 37 (Rg [Mv 44 4, Pp (.bin 45 .sub 44 (.c (.int .u32 240))), Mi 5 4, Mv 6 45, Pp (.mov 7 (.c (.int .u32 65536)))]) (Rs [Pp (.mov 2 (.c (.int .u32 0))), Mi 3 0] .ret)))))))))) (Sq (Rs [Mv 46 0, Pp (.lens 47 46), Mv 48 5, Bi 49 .lss 47 48] (Cn 49 (Rs [Pp (.mov 2 (.c (.int .u32 0))), Mi 3 0] .ret) .skip)) (Sq (Rs [Mi 8 1] (.block 1 (.loop [0, 5, 6, 7, 8, 1000000] 0 abb))) abc))))))
def u7 : List RV := [.t 2, .t 3]
theorem aoX : FnC Try.prog sN [] 0 ahc Try.f79 zT u7 := fnC (by kernel_rfl) Try.func79 (by kernel_rfl) (by kernel_rfl) (by decide)
def am1 (R : IR → (Ex → St → Ro) → St → Ro) (a : St → Ro) : Ex → St → Ro := (bM a [0, 5, 6, 7, 8, 1000000] 0 (aT 1 (bx (R abc) (fin u7))))
abbrev oZ : Type := (Bs × Int × Int × Int × Int)
def no : oZ → St := fun (a, b, c, d, e) => { env := (.str a :: (U 4 (.int .i64 b :: .int .u32 c :: .int .u32 d :: .int .i64 e :: (U 81 [])))), hp := [] }
def xZ (N : Nat) : (St → Ro) → St → Ro := fun a s => run sN N abb (am1 (run sN N) a) s
def eq (N : Nat) (b : oZ → Ro) : oZ → Ro := fun (c, e, d, k, a) =>
 cond (decide (a < e)) (
 chk ((decide (0 ≤ a) && decide (a < ↑(List.length c)))) (
 let l : Int := (↑(UInt8.toNat (List.getD c (Int.toNat a) 0)) : Int)
 cond (decide (l < 128)) (
 some (.tup [.int .u32 0, .int .i64 0], [])) (
 chk ((decide (0 ≤ a) && decide (a < ↑(List.length c)))) (
 let m : Int := (↑(UInt8.toNat (List.getD c (Int.toNat a) 0)) : Int)
 cond (decide (191 < m)) (
 some (.tup [.int .u32 0, .int .i64 0], [])) (
 let f : Int := (IntKind.wrap .u32 (d * 64))
 chk ((decide (0 ≤ a) && decide (a < ↑(List.length c)))) (
 let g : Int := (↑(UInt8.toNat (List.getD c (Int.toNat a) 0)) : Int)
 let h : Int := (IntKind.wrap .u8 (g - 128))
 let i : Int := (IntKind.wrap .u32 (f + (IntKind.wrap .u32 h)))
 let j : Int := (IntKind.wrap .i64 (a + 1))
 b (c, e, i, k, j))))))) (
 cond (decide (d < k)) (
 some (.tup [.int .u32 0, .int .i64 0], [])) (
 cond (decide (1114111 < d)) (
 some (.tup [.int .u32 0, .int .i64 0], [])) (
 cond (decide (55296 ≤ d)) (
 cond (decide (d ≤ 57343)) (
 some (.tup [.int .u32 0, .int .i64 0], [])) (
 some (.tup [.int .u32 d, .int .i64 e], []))) (
 some (.tup [.int .u32 d, .int .i64 e], [])))))
theorem alm (N : Nat) : ∀ (a : St → Ro) (x : oZ), xZ N a (no x) = eq N (fun y => a (no y)) x := by
 intro a x
 kernel_rfl
def qP (N : Nat) (b : Bs) (c : oZ → Ro) : Ro :=
 let x1 : Int := (↑(List.length b) : Int)
 cond (x1 == 0) (
 some (.tup [.int .u32 0, .int .i64 0], [])) (
 chk (decide ((0 : Int) < ↑(List.length b))) (
 let a : Int := (↑(UInt8.toNat (List.getD b (Int.toNat 0) 0)) : Int)
 let x3 : Bool := decide ((IntKind.wrap .u32 a) < 128)
 cond x3 (
 some (.tup [.int .u32 (IntKind.wrap .u32 a), .int .i64 1], [])) (
 let x4 : Bool := decide (192 ≤ (IntKind.wrap .u32 a))
 cond x4 (
 let x5 : Bool := decide ((IntKind.wrap .u32 a) < 224)
 cond x5 (
 let x6 : Int := (IntKind.wrap .u32 ((IntKind.wrap .u32 a) - 192))
 let x7 : Int := (↑(List.length b) : Int)
 cond (decide (x7 < 2)) (
 some (.tup [.int .u32 0, .int .i64 0], [])) (
 c (b, 2, x6, 128, 1))) (
 let d : Bool := decide (224 ≤ (IntKind.wrap .u32 a))
 cond d (
 let e : Bool := decide ((IntKind.wrap .u32 a) < 240)
 cond e (
 let f : Int := (IntKind.wrap .u32 ((IntKind.wrap .u32 a) - 224))
 let g : Int := (↑(List.length b) : Int)
 cond (decide (g < 3)) (
 some (.tup [.int .u32 0, .int .i64 0], [])) (
 c (b, 3, f, 2048, 1))) (
 let h : Bool := decide (240 ≤ (IntKind.wrap .u32 a))
 cond h (
 let i : Bool := decide ((IntKind.wrap .u32 a) < 248)
 cond i (
 let j : Int := (IntKind.wrap .u32 ((IntKind.wrap .u32 a) - 240))
 let k : Int := (↑(List.length b) : Int)
 cond (decide (k < 4)) (
 some (.tup [.int .u32 0, .int .i64 0], [])) (
 c (b, 4, j, 65536, 1))) (
 some (.tup [.int .u32 0, .int .i64 0], []))) (
 some (.tup [.int .u32 0, .int .i64 0], [])))) (
 let l : Bool := decide (240 ≤ (IntKind.wrap .u32 a))
 cond l (
 let m : Bool := decide ((IntKind.wrap .u32 a) < 248)
 cond m (
 let n : Int := (IntKind.wrap .u32 ((IntKind.wrap .u32 a) - 240))
 let o : Int := (↑(List.length b) : Int)
 cond (decide (o < 4)) (
 some (.tup [.int .u32 0, .int .i64 0], [])) (
 c (b, 4, n, 65536, 1))) (
 some (.tup [.int .u32 0, .int .i64 0], []))) (
 some (.tup [.int .u32 0, .int .i64 0], []))))) (
 let p : Bool := decide (224 ≤ (IntKind.wrap .u32 a))
 cond p (
 let q : Bool := decide ((IntKind.wrap .u32 a) < 240)
 cond q (
 let r : Int := (IntKind.wrap .u32 ((IntKind.wrap .u32 a) - 224))
 let s : Int := (↑(List.length b) : Int)
 cond (decide (s < 3)) (
 some (.tup [.int .u32 0, .int .i64 0], [])) (
 c (b, 3, r, 2048, 1))) (
 let t : Bool := decide (240 ≤ (IntKind.wrap .u32 a))
 cond t (
 let u : Bool := decide ((IntKind.wrap .u32 a) < 248)
 cond u (
 let v : Int := (IntKind.wrap .u32 ((IntKind.wrap .u32 a) - 240))
 let w : Int := (↑(List.length b) : Int)
 cond (decide (w < 4)) (
 some (.tup [.int .u32 0, .int .i64 0], [])) (
 c (b, 4, v, 65536, 1))) (
 some (.tup [.int .u32 0, .int .i64 0], []))) (
 some (.tup [.int .u32 0, .int .i64 0], [])))) (
 let x : Bool := decide (240 ≤ (IntKind.wrap .u32 a))
 cond x (
 let y : Bool := decide ((IntKind.wrap .u32 a) < 248)
 cond y (
 let z : Int := (IntKind.wrap .u32 ((IntKind.wrap .u32 a) - 240))
 let aa : Int := (↑(List.length b) : Int)
 cond (decide (aa < 4)) (
 some (.tup [.int .u32 0, .int .i64 0], [])) (
 c (b, 4, z, 65536, 1))) (
 some (.tup [.int .u32 0, .int .i64 0], []))) (
 some (.tup [.int .u32 0, .int .i64 0], [])))))))
def u9 (N : Nat) (a : Bs) : Ro := qP N a (fun z => aS N (eq N) z)
def aqB (N : Nat) : List (Nat × (St → Ro)) := ba sN N zT (fin u7) ++ []
theorem am2 (N : Nat) (a : Bs) : bc sN N 90 u7 zT [.str a] [] = u9 N a :=
 (bU (aqB N) (by kernel_rfl) rfl (fun C => qP N a (fun z => C 1000000 (no z))) (fun C => by kernel_rfl)).trans (Eq.trans (b := qP N a (fun z => bo N (xZ N) (no z))) (by kernel_rfl) (congrArg (qP N a) (funext fun z => bj (no) (xZ N) (eq N) (alm N) N z)))
theorem adp (N : Nat) (a : Bs) (h : Tot (u9 N a) (fun z => ∃ (b : Int) (c : Int) (rest : List aL), z.1.dimR = .tup [.int .u32 b, .int .i64 c] ∧ z.2 = rest ∧ ab4 a (b, c))) : ∃ r, mg a r := by
 obtain ⟨⟨v, hp⟩, hz, b, c, rest, e1, e2, hq⟩ := h
 simp only at e1 e2
 subst e2
 exact ⟨(b, c), aI.dimR (aoX.pure (am2 N a) hz) e1, hq⟩
noncomputable def uk : aO := tab (P := Try.prog) [] [] [] []
def adq : IR := Sq (Rs [Mv 14 0, Mv 15 7, Bi 16 .shr 14 15, Pp (.bin 17 .eql 16 (kU 0))] (Cn 17 .skip (.exit 0))) (.block 1 (Rg [Mv 18 7, Bc 19 .sub 18 1, Mv 7 19]))
def ab9 : IR := Rs [Mv 20 0, Mv 8 20] (Sq (Rs [Mv 21 7, Mv 22 1, Bi 23 .leq 21 22] (Cn 23 (Rg [Mv 24 0, Mv 25 1, Mv 26 7, Bi 27 .sub 25 26, Bi 28 .shl 24 27, Mv 8 28]) (Rs [Mv 29 7, Mv 30 1, Bi 31 .sub 29 30, Mv 9 31] (Rs [Mv 32 9, Bc 33 .sub 32 1, Pp (.bin 34 .shl (kU 1) 33), Mv 10 34] (Rs [Mv 35 0, Mv 36 9, Pp (.bin 37 .shl (kU 1) 36), Bi 38 .rem 35 37, Mv 11 38] (Rs [Mv 39 0, Mv 40 9, Bi 41 .shr 39 40, Mv 8 41] (Rs [Mv 42 11, Mv 43 10, Bi 44 .gtr 42 43, Mv 45 44, Gf 45 (.mov 46 11), Gf 45 (.mov 47 10), Gf 45 (.bin 48 .eql 46 47), Gf 45 (.mov 49 48), Gt 49 (.mov 50 8), Gt 49 (.bin 51 .rem 50 (kU 2)), Gt 49 (.bin 52 .eql 51 (kU 1)), Gf 45 (.pick 53 49 52 (kB false)), Po 54 45 53] (Cn 54 (Rg [Mv 55 8, Pp (.bin 56 .add 55 (kU 1)), Mv 8 56]) .skip)))))))) (Sq (.reg [Mv 57 7, Mv 58 2, Bi 59 .add 57 58, Pp (.cvi 60 .u64 59), Mv 61 1, Bi 62 .shl 60 61, Mv 63 8, Mv 64 1, Pp (.bin 65 .shl (kU 1) 64), Bi 66 .sub 63 65, Bi 67 .add 62 66, Mv 6 67] [[], [], [0, 1], [0, 1, 2], [], rg 0 4, [], [], [7], [6, 7, 8], rg 0 9, rg 0 10]) .ret))
def abd : IR := Rs [Pp (.mov 6 (kU 0))] (Sq (Rs [Mv 12 0, Pp (.bin 13 .eql 12 (kU 0))] (Cn 13 (Rs [Pp (.mov 6 (kU 0))] .ret) .skip)) (Rs [Mi 7 63] (Sq (.block 0 (.loop [0, 1, 2, 7, 1000000] 0 adq)) ab9)))
def wU : List RV := [.t 6]
theorem aqC : FnC Try.prog uk [] 0 ai3 Try.f154 abd wU := fnC (by kernel_rfl) Try.func154 (by kernel_rfl) (by kernel_rfl) (by decide)
def aoY (R : IR → (Ex → St → Ro) → St → Ro) (a : St → Ro) : Ex → St → Ro := (bM a [0, 1, 2, 7, 1000000] 0 (aT 0 (bx (R ab9) (fin wU))))
abbrev qQ : Type := (Int × Int × Int × Int)
def pa : qQ → St := fun (a, b, c, d) => { env := (.int .u64 a :: .int .i64 b :: .int .i64 c :: (U 4 (.int .i64 d :: (U 60 [])))), hp := [] }
def zU (N : Nat) : (St → Ro) → St → Ro := fun a s => run uk N adq (aoY (run uk N) a) s
def va (N : Nat) (d : qQ → Ro) : qQ → Ro := fun (e, a, f, b) =>
 chk (decide (0 ≤ b)) (
 cond ((eS .u64 e b) == 0) (
 let x1 : Int := (IntKind.wrap .i64 (b - 1))
 d (e, a, f, x1)) (
 cond (decide (b ≤ a)) (
 let x2 : Int := (IntKind.wrap .i64 (a - b))
 chk (decide (0 ≤ x2)) (
 let x3 : Int := (IntKind.wrap .i64 (b + f))
 chk (decide (0 ≤ a)) (
 let x4 : Int := (iJ .u64 (IntKind.wrap .u64 x3) a)
 chk (decide (0 ≤ a)) (
 let x5 : Int := (IntKind.wrap .u64 ((iJ .u64 e x2) - (iJ .u64 1 a)))
 let x6 : Int := (IntKind.wrap .u64 (x4 + x5))
 some (.int .u64 x6, []))))) (
 let c : Int := (IntKind.wrap .i64 (b - a))
 let g : Int := (IntKind.wrap .i64 (c - 1))
 chk (decide (0 ≤ g)) (
 chk (decide (0 ≤ c)) (
 chk ((!((iJ .u64 1 c) == 0))) (
 let x9 : Int := (Int.tmod e (iJ .u64 1 c))
 chk (decide (0 ≤ c)) (
 let h : Bool := decide ((iJ .u64 1 g) < x9)
 cond h (
 let i : Int := (IntKind.wrap .u64 ((eS .u64 e c) + 1))
 let j : Int := (IntKind.wrap .i64 (b + f))
 chk (decide (0 ≤ a)) (
 let k : Int := (iJ .u64 (IntKind.wrap .u64 j) a)
 chk (decide (0 ≤ a)) (
 let l : Int := (IntKind.wrap .u64 (i - (iJ .u64 1 a)))
 let m : Int := (IntKind.wrap .u64 (k + l))
 some (.int .u64 m, [])))) (
 cond (x9 == (iJ .u64 1 g)) (
 let n : Int := (Int.tmod (eS .u64 e c) 2)
 cond (n == 1) (
 let o : Int := (IntKind.wrap .u64 ((eS .u64 e c) + 1))
 let p : Int := (IntKind.wrap .i64 (b + f))
 chk (decide (0 ≤ a)) (
 let q : Int := (iJ .u64 (IntKind.wrap .u64 p) a)
 chk (decide (0 ≤ a)) (
 let r : Int := (IntKind.wrap .u64 (o - (iJ .u64 1 a)))
 let s : Int := (IntKind.wrap .u64 (q + r))
 some (.int .u64 s, [])))) (
 let t : Int := (IntKind.wrap .i64 (b + f))
 chk (decide (0 ≤ a)) (
 let u : Int := (iJ .u64 (IntKind.wrap .u64 t) a)
 chk (decide (0 ≤ a)) (
 let v : Int := (IntKind.wrap .u64 ((eS .u64 e c) - (iJ .u64 1 a)))
 let w : Int := (IntKind.wrap .u64 (u + v))
 some (.int .u64 w, []))))) (
 let x : Int := (IntKind.wrap .i64 (b + f))
 chk (decide (0 ≤ a)) (
 let y : Int := (iJ .u64 (IntKind.wrap .u64 x) a)
 chk (decide (0 ≤ a)) (
 let z : Int := (IntKind.wrap .u64 ((eS .u64 e c) - (iJ .u64 1 a)))
 let aa : Int := (IntKind.wrap .u64 (y + z))
 some (.int .u64 aa, []))))))))))))
theorem am3 (N : Nat) : ∀ (a : St → Ro) (x : qQ), zU N a (pa x) = va N (fun y => a (pa y)) x := by
 intro a x
 kernel_rfl
def sO (N : Nat) (a b c : Int) (d : qQ → Ro) : Ro :=
 cond (a == 0) (
 some (.int .u64 0, [])) (
 d (a, b, c, 63))
def abe (N : Nat) (a b c : Int) : Ro := sO N a b c (fun z => aS N (va N) z)
def arw (N : Nat) : List (Nat × (St → Ro)) := ba uk N abd (fin wU) ++ []
theorem aoZ (N : Nat) (a c d : Int) : bc uk N 68 wU abd [.int .u64 a, .int .i64 c, .int .i64 d] [] = abe N a c d :=
 (bU (arw N) (by kernel_rfl) rfl (fun C => sO N a c d (fun z => C 1000000 (pa z))) (fun C => by kernel_rfl)).trans (Eq.trans (b := sO N a c d (fun z => bo N (zU N) (pa z))) (by kernel_rfl) (congrArg (sO N a c d) (funext fun z => bj (pa) (zU N) (va N) (am3 N) N z)))
theorem ao0 (N : Nat) (a b c : Int) (h : Tot (abe N a b c) (fun z => ∃ (d : Int) (rest : List aL), z.1.dimR = .int .u64 d ∧ z.2 = rest)) : ∃ r, lV a b c r := by
 obtain ⟨⟨v, hp⟩, hz, d, rest, e1, e2⟩ := h
 simp only at e1 e2
 subst e2
 exact ⟨(d), aI.dimR (aqC.pure (aoZ N a b c) hz) e1⟩
noncomputable def ahO : aO := tab (P := Try.prog) [] [] [] [aja]
def afL : IR := Rs [Pp (.mov 2 (.c (.int .u32 0)))] (Sq (Rs [Mv 3 0, Bc 4 .lss 3 0] (Cn 4 (Rs [Mv 5 0, Bc 6 .add 5 1, Pp (.un 7 .neg 6), Pp (.cvi 8 .u64 7), Pp (.bin 9 .add 8 (kU 1)), Ca 10 154 [9, kI 23, kI 127], Pp (.cvi 11 .u32 10), Pp (.bin 12 .or (.c (.int .u32 2147483648)) 11), Mv 2 12] .ret) .skip)) (Rs [Mv 13 0, Pp (.cvi 14 .u64 13), Ca 15 154 [14, kI 23, kI 127], Pp (.cvi 16 .u32 15), Mv 2 16] .ret))
def afM : List RV := [.t 2]
theorem ao1 : FnC Try.prog ahO [] 0 ag9 Try.f132 afL afM := fnC (by kernel_rfl) Try.func132 (by kernel_rfl) (by kernel_rfl) (by decide)
def afN (N : Nat) (a : Int)  : Ro :=
 cond (decide (a < 0)) (
 let b : Int := (IntKind.wrap .i64 (a + 1))
 let c : Int := (IntKind.wrap .i64 (0 - b))
 let d : Int := (IntKind.wrap .u64 ((IntKind.wrap .u64 c) + 1))
 aG (lV d 23 127) (fun (e : Int) =>
 let f : Int := (cn .or .u32 2147483648 (IntKind.wrap .u32 e))
 some (.int .u32 f, []))) (
 aG (lV (IntKind.wrap .u64 a) 23 127) (fun (g : Int) =>
 some (.int .u32 (IntKind.wrap .u32 g), [])))
def zV (N : Nat) (a : Int) : Ro := afN N a
theorem am4 (N : Nat) (a : Int) : bc ahO N 17 afM afL [.int .i64 a] [] = zV N a := by kernel_rfl
theorem am5 (N : Nat) (a : Int) (h : Tot (zV N a) (fun z => ∃ (b : Int) (rest : List aL), z.1.dimR = .int .u32 b ∧ z.2 = rest)) : ∃ r, sv a r := by
 obtain ⟨⟨v, hp⟩, hz, b, rest, e1, e2⟩ := h
 simp only at e1 e2
 subst e2
 exact ⟨(b), aI.dimR (ao1.pure (am4 N a) hz) e1⟩
noncomputable def afO : aO := tab (P := Try.prog) [] [] [] [aja]
def adr : IR := Rs [Pp (.mov 2 (kU 0))] (Sq (Rs [Mv 3 0, Bc 4 .lss 3 0] (Cn 4 (Rs [Mv 5 0, Bc 6 .add 5 1, Pp (.un 7 .neg 6), Pp (.cvi 8 .u64 7), Pp (.bin 9 .add 8 (kU 1)), Ca 10 154 [9, kI 52, kI 1023], Pp (.bin 11 .or (kU 9223372036854775808) 10), Mv 2 11] .ret) .skip)) (Rs [Mv 12 0, Pp (.cvi 13 .u64 12), Ca 14 154 [13, kI 52, kI 1023], Mv 2 14] .ret))
def ads : List RV := [.t 2]
theorem am6 : FnC Try.prog afO [] 0 afo Try.f133 adr ads := fnC (by kernel_rfl) Try.func133 (by kernel_rfl) (by kernel_rfl) (by decide)
def adt (N : Nat) (a : Int)  : Ro :=
 cond (decide (a < 0)) (
 let b : Int := (IntKind.wrap .i64 (a + 1))
 let c : Int := (IntKind.wrap .i64 (0 - b))
 let d : Int := (IntKind.wrap .u64 ((IntKind.wrap .u64 c) + 1))
 aG (lV d 52 1023) (fun (e : Int) =>
 let f : Int := (cn .or .u64 9223372036854775808 e)
 some (.int .u64 f, []))) (
 aG (lV (IntKind.wrap .u64 a) 52 1023) (fun (g : Int) =>
 some (.int .u64 g, [])))
def ya (N : Nat) (a : Int) : Ro := adt N a
theorem aln (N : Nat) (a : Int) : bc afO N 15 ads adr [.int .i64 a] [] = ya N a := by kernel_rfl
theorem alo (N : Nat) (a : Int) (h : Tot (ya N a) (fun z => ∃ (b : Int) (rest : List aL), z.1.dimR = .int .u64 b ∧ z.2 = rest)) : ∃ r, mW a r := by
 obtain ⟨⟨v, hp⟩, hz, b, rest, e1, e2⟩ := h
 simp only at e1 e2
 subst e2
 exact ⟨(b), aI.dimR (am6.pure (aln N a) hz) e1⟩
end Go.Proofs.Ytdpajabhmmmjoaa
end
noncomputable section
namespace Go.Proofs.Ytdpajabhmmmjoaa
open Go.AM
set_option autoImplicit false
set_option linter.unusedVariables false
set_option linter.unusedSimpArgs false
set_option maxRecDepth 100000
theorem pV {α R : Type} (n : Nat) (B : (α → Option R) → α → Option R) (x : α) : aS (n + 1) B x = B (aS n B) x := rfl
theorem pb (N : Nat) (rec : (List UInt8 × Int × Int × Int × Int) → Option (V × List aL)) (s : List UInt8) (v n i : Nat) (l : Int) (x : UInt8) (hx : s.getD i 0 = x) (hv : v < 2 ^ 20) (hi : i < n) (hn : n ≤ s.length) (h4 : n ≤ 4) :
  eq N rec (s, (n : Int), (v : Int), l, (i : Int)) = if 128 ≤ x.toNat ∧ x.toNat ≤ 191 then rec (s, (n : Int), ((v * 64 + x.toNat % 64 : Nat) : Int), l, ((i + 1 : Nat) : Int)) else some (.tup [.int .u32 0, .int .i64 0], []) := by
 have hb := UInt8.toNat_lt x
 simp only [eq, Int.toNat_natCast, hx]
 by_cases h1 : x.toNat < 128
 ·rw [if_neg (by omega)]
  simp (disch := omega) only [aZ, ]
 by_cases h2 : 191 < x.toNat
 ·rw [if_neg (by omega)]
  simp (disch := omega) only [aZ, ]
 ·rw [if_pos (by omega)]
  simp (disch := omega) only [aZ, ]
  rw [show (v : Int) * 64 + ((x.toNat : Int) - 128) = ((v * 64 + x.toNat % 64 : Nat) : Int) by omega]
  rfl
theorem aeH (N : Nat) (rec : (List UInt8 × Int × Int × Int × Int) → Option (V × List aL)) (s : List UInt8) (v n l : Nat) :
  eq N rec (s, (n : Int), (v : Int), (l : Int), (n : Int)) = if l ≤ v ∧ v ≤ 1114111 ∧ ¬ (55296 ≤ v ∧ v ≤ 57343) then some (.tup [.int .u32 v, .int .i64 n], []) else some (.tup [.int .u32 0, .int .i64 0], []) := by
 simp only [eq]
 by_cases h1 : v < l
 ·rw [if_neg (by omega)]; simp (disch := omega) only [aZ, ]
 by_cases h2 : 1114111 < v
 ·rw [if_neg (by omega)]; simp (disch := omega) only [aZ, ]
 by_cases h3 : 55296 ≤ v
 ·by_cases h4 : v ≤ 57343
  ·rw [if_neg (by omega)]; simp (disch := omega) only [aZ, ]
  ·rw [if_pos (by omega)]; simp (disch := omega) only [aZ, ]
 ·rw [if_pos (by omega)]; simp (disch := omega) only [aZ, ]
theorem atV (M : Nat) (a b : UInt8) (t : List UInt8) (v : Nat) (hv : v < 32) (ha : a.toNat = 192 + v) :
  aS (M + 5) (eq (M + 5)) (a :: b :: t, ((2 : Nat) : Int), (v : Int), ((128 : Nat) : Int), ((1 : Nat) : Int)) = some (.tup [.int .u32 (dq 2 v (a :: b :: t)).1, .int .i64 (dq 2 v (a :: b :: t)).2], []) := by
 have hg := avt a b v hv ha
 rw [pV, pb _ _ _ _ 2 1 _ b rfl (by omega) (by omega) (by simp) (by omega), pV, aeH]
 simp only [dq]
 rw [if_neg (show ¬ (a :: b :: t).length < 2 by simp)]
 simp only [List.take_succ_cons, List.take_zero, List.tail_cons, List.foldl_cons, List.foldl_nil, hg]
 by_cases h1 : 128 ≤ b.toNat ∧ b.toNat ≤ 191
 ·rw [if_pos h1]
  by_cases h2 : 128 ≤ v * 64 + b.toNat % 64
  ·rw [if_pos (by omega), if_pos (by omega)]
  ·rw [if_neg (by omega), if_neg (by omega)]; rfl
 ·rw [if_neg h1, if_neg (by omega)]; rfl
theorem atW (M : Nat) (a b c : UInt8) (t : List UInt8) (v : Nat) (hv : v < 16) (ha : a.toNat = 224 + v) :
  aS (M + 5) (eq (M + 5)) (a :: b :: c :: t, ((3 : Nat) : Int), (v : Int), ((2048 : Nat) : Int), ((1 : Nat) : Int)) = some (.tup [.int .u32 (dq 3 v (a :: b :: c :: t)).1, .int .i64 (dq 3 v (a :: b :: c :: t)).2], []) := by
 have hg := avu a b c v hv ha _ rfl
 rw [pV, pb _ _ _ _ 3 1 _ b rfl (by omega) (by omega) (by simp) (by omega), pV, pb _ _ _ _ 3 2 _ c rfl (by omega) (by omega) (by simp) (by omega), pV, aeH]
 simp only [dq]
 rw [if_neg (show ¬ (a :: b :: c :: t).length < 3 by simp)]
 simp only [List.take_succ_cons, List.take_zero, List.tail_cons, List.foldl_cons, List.foldl_nil, hg]
 by_cases h1 : 128 ≤ b.toNat ∧ b.toNat ≤ 191
 ·rw [if_pos h1]
  by_cases h2 : 128 ≤ c.toNat ∧ c.toNat ≤ 191
  ·rw [if_pos h2]
   by_cases h3 : 2048 ≤ (v * 64 + b.toNat % 64) * 64 + c.toNat % 64 ∧ ¬ (55296 ≤ (v * 64 + b.toNat % 64) * 64 + c.toNat % 64 ∧ (v * 64 + b.toNat % 64) * 64 + c.toNat % 64 ≤ 57343)
   ·rw [if_pos (by omega), if_pos (by omega)]
   ·rw [if_neg (by omega), if_neg (by omega)]; rfl
  ·rw [if_neg h2, if_neg (by omega)]; rfl
 ·rw [if_neg h1, if_neg (by omega)]; rfl
theorem atX (M : Nat) (a b c d : UInt8) (t : List UInt8) (v : Nat) (hv : v < 8) (ha : a.toNat = 240 + v) :
  aS (M + 5) (eq (M + 5)) (a :: b :: c :: d :: t, ((4 : Nat) : Int), (v : Int), ((65536 : Nat) : Int), ((1 : Nat) : Int)) = some (.tup [.int .u32 (dq 4 v (a :: b :: c :: d :: t)).1, .int .i64 (dq 4 v (a :: b :: c :: d :: t)).2], []) := by
 have hg := avv a b c d v hv ha _ rfl
 rw [pV, pb _ _ _ _ 4 1 _ b rfl (by omega) (by omega) (by simp) (by omega), pV, pb _ _ _ _ 4 2 _ c rfl (by omega) (by omega) (by simp) (by omega), pV, pb _ _ _ _ 4 3 _ d rfl (by omega) (by omega) (by simp) (by omega), pV, aeH]
 simp only [dq]
 rw [if_neg (show ¬ (a :: b :: c :: d :: t).length < 4 by simp)]
 simp only [List.take_succ_cons, List.take_zero, List.tail_cons, List.foldl_cons, List.foldl_nil, hg]
 by_cases h1 : 128 ≤ b.toNat ∧ b.toNat ≤ 191
 ·rw [if_pos h1]
  by_cases h2 : 128 ≤ c.toNat ∧ c.toNat ≤ 191
  ·rw [if_pos h2]
   by_cases h3 : 128 ≤ d.toNat ∧ d.toNat ≤ 191
   ·rw [if_pos h3]
    by_cases h4 : 65536 ≤ ((v * 64 + b.toNat % 64) * 64 + c.toNat % 64) * 64 + d.toNat % 64 ∧ ((v * 64 + b.toNat % 64) * 64 + c.toNat % 64) * 64 + d.toNat % 64 ≤ 1114111
    ·rw [if_pos (by omega), if_pos (by omega)]
    ·rw [if_neg (by omega), if_neg (by omega)]; rfl
   ·rw [if_neg h3, if_neg (by omega)]; rfl
  ·rw [if_neg h2, if_neg (by omega)]; rfl
 ·rw [if_neg h1, if_neg (by omega)]; rfl
theorem abf (M : Nat) (s : List UInt8) (hl : s.length ≤ 9223372036854775807) :
  u9 (M + 5) s = some (.tup [.int .u32 (eg s).1, .int .i64 (eg s).2], []) := by
 match s with
 | [] => rfl
 | c :: t =>
   have hc : c.toNat < 256 := UInt8.toNat_lt _
   rw [List.length_cons] at hl
   simp only [u9, qP, eg, fb, List.length_cons, Int.toNat_zero, List.getD_cons_zero]
   by_cases h1 : c.toNat < 128
   ·simp (disch := omega) only [aZ, ]
    rfl
   by_cases h0 : c.toNat < 192
   ·simp (disch := omega) only [aZ, ]
    rfl
   by_cases h2 : c.toNat < 224
   ·have e : c.toNat / 32 = 6 := by omega
    match t with
    | [] => simp (disch := omega) only [aZ, dq, List.length_cons, List.length_nil]; rfl
    | b :: t =>
      rw [List.length_cons] at hl
      simp (disch := omega) only [aZ, e, List.length_cons]
      rw [show (c.toNat : Int) - 192 = ((c.toNat % 32 : Nat) : Int) by omega]
      exact atV M c b t _ (by omega) (by omega)
   by_cases h3 : c.toNat < 240
   ·have e : c.toNat / 16 = 14 := by omega
    match t with
    | [] => simp (disch := omega) only [aZ, dq, List.length_cons, List.length_nil]; rfl
    | [b] => simp (disch := omega) only [aZ, dq, List.length_cons, List.length_nil]; rfl
    | b :: d :: t =>
      rw [List.length_cons, List.length_cons] at hl
      simp (disch := omega) only [aZ, e, List.length_cons]
      rw [show (c.toNat : Int) - 224 = ((c.toNat % 16 : Nat) : Int) by omega]
      exact atW M c b d t _ (by omega) (by omega)
   by_cases h4 : c.toNat < 248
   ·have e : c.toNat / 8 = 30 := by omega
    match t with
    | [] => simp (disch := omega) only [aZ, dq, List.length_cons, List.length_nil]; rfl
    | [b] => simp (disch := omega) only [aZ, dq, List.length_cons, List.length_nil]; rfl
    | [b, d] => simp (disch := omega) only [aZ, dq, List.length_cons, List.length_nil]; rfl
    | b :: d :: f :: t =>
      rw [List.length_cons, List.length_cons, List.length_cons] at hl
      simp (disch := omega) only [aZ, e, List.length_cons]
      rw [show (c.toNat : Int) - 240 = ((c.toNat % 8 : Nat) : Int) by omega]
      exact atX M c b d f t _ (by omega) (by omega)
   ·simp (disch := omega) only [aZ, ]
    rfl
end Go.Proofs.Ytdpajabhmmmjoaa
end
noncomputable section
namespace Go.Proofs.Ytdpajabhmmmjoaa
open Go.AM
set_option autoImplicit false
set_option linter.unusedVariables false
theorem je.mono {m m' : Nat} {t : aA} (h : je m t) (hm : m ≤ m') : je m' t :=
 ⟨⟨h.items.1, by have := h.items.2; omega⟩, fun f hf => ⟨(h.fields f hf).1, by have := (h.fields f hf).2.1; omega, (h.fields f hf).2.2⟩, h.nf,
   fun b hb => ⟨(h.branches b hb).1, by have := (h.branches b hb).2; omega⟩, h.nb, h.ns, h.size, h.done, h.kind, h.enum⟩
theorem bN.refl {ts : List aA} {e : Int} (h : ts.length ≤ 60) : bN ts e ts e :=
 ⟨Nat.le_refl _, h, fun h => h, fun _ _ _ => rfl, fun _ i t hi ht => by
  have := (List.getElem?_eq_some_iff.1 ht).1; omega⟩
theorem bN.bad {ts : List aA} {e e' : Int} (h : ts.length ≤ 60) (he : e' ≠ 0) : bN ts e ts e' :=
 ⟨Nat.le_refl _, h, fun h => absurd h he, fun h => absurd h he, fun h => absurd h he⟩
theorem bN.fail {ts ts' : List aA} {e e' : Int} (h : bN ts e ts' e') (c : Int) (hc : c ≠ 0) : bN ts e ts' (if e' = 0 then c else e') := by
 have : (if e' = 0 then c else e') ≠ 0 := by split <;> assumption
 exact ⟨h.len, h.cap, fun h => absurd h this, fun h => absurd h this, fun h => absurd h this⟩
theorem bN.trans {ts ts1 ts2 : List aA} {e e1 e2 : Int} (h : bN ts e ts1 e1) (h' : bN ts1 e1 ts2 e2) : bN ts e ts2 e2 where
 len := Nat.le_trans h.len h'.len
 cap := h'.cap
 err := fun he => h.err (h'.err he)
 old := fun he i hi => by
  have := h.len
  rw [h'.old he i (by omega), h.old (h'.err he) i hi]
 new := fun he i t hi ht => by
  rcases Nat.lt_or_ge i ts1.length with hl | hl
  ·rw [h'.old he i hl] at ht
   exact (h.new (h'.err he) i t hi ht).mono h'.len
  ·exact h'.new he i t hl ht
theorem bN.weak {ts ts' : List aA} {e e1 e' : Int} (h : bN ts e1 ts' e') (he : e1 = 0 → e = 0) : bN ts e ts' e' :=
 ⟨h.len, h.cap, fun h' => he (h.err h'), h.old, h.new⟩
theorem bN.push {ts : List aA} {e : Int} (h : ts.length < 60) (t : aA) (ht : je (ts.length + 1) t) : bN ts e (ts ++ [t]) e where
 len := by simp
 cap := by simp; omega
 err := fun h => h
 old := fun _ i hi => by rw [List.getElem?_append_left hi]
 new := fun _ i t' hi ht' => by
  rw [List.getElem?_append_right hi] at ht'
  have hl := (List.getElem?_eq_some_iff.1 ht').1
  simp only [List.length_singleton] at hl
  have : i - ts.length = 0 := by omega
  rw [this] at ht'
  simp only [List.getElem?_cons_zero, Option.some.injEq] at ht'
  subst ht'
  simpa using ht
theorem bN.close {ts ts2 : List aA} {e e2 : Int} {t0 t : aA} (h : bN (ts ++ [t0]) e ts2 e2) (ht : je ts2.length t) : bN ts e (ts2.set ts.length t) e2 where
 len := by have := h.len; simp at this ⊢; omega
 cap := by simpa using h.cap
 err := h.err
 old := fun he i hi => by
  rw [List.getElem?_set_ne (by omega), h.old he i (by simp; omega), List.getElem?_append_left hi]
 new := fun he i t' hi ht' => by
  have hlen := h.len
  simp only [List.length_append, List.length_singleton] at hlen
  simp only [List.length_set] at ht' ⊢
  rcases Nat.lt_or_eq_of_le hi with hl | hl
  ·rw [List.getElem?_set_ne (by omega)] at ht'
   exact h.new he i t' (by simp; omega) ht'
  ·subst hl
   rw [List.getElem?_set_self (by omega)] at ht'
   cases ht'
   exact ht
theorem bN.at_open {ts ts2 : List aA} {e e2 : Int} {t0 : aA} (h : bN (ts ++ [t0]) e ts2 e2) (he : e2 = 0) : ts2[ts.length]? = some t0 := by
 rw [h.old he ts.length (by simp), List.getElem?_append_right (Nat.le_refl _)]
 simp
theorem bN.sch {ts : List aA} (h : bN [] 0 ts 0) (h0 : 0 < ts.length) : fx ts := by
 refine ⟨⟨h0, h.cap⟩, fun t ht => ?_⟩
 obtain ⟨i, hi, rfl⟩ := List.mem_iff_getElem.1 ht
 exact h.new rfl i _ (by simp) (List.getElem?_eq_getElem hi)
theorem bi.kids {k n : Int} {s : List UInt8} {l : List aD} {names : List (List UInt8)} (h : bi (.mk k n s l names)) :
  s.length ≤ 100 ∧ l.length ≤ 8 ∧ names.length ≤ l.length ∧ (∀ x ∈ names, x.length ≤ 100) ∧ (k = 6 → names.length = l.length) ∧ ∀ c ∈ l, bi c := by
 cases h with
 | mk _ _ _ _ _ h1 h2 h3 h4 h5 h6 => exact ⟨h1, h2, h3, h4, h5, h6⟩
theorem bi.eta {c : aD} : bi (.mk c.kind c.n c.s c.l c.names) ↔ bi c := by
 cases c; exact Iff.rfl
theorem bi.zero : bi (.mk 0 0 [] [] []) := .mk _ _ _ _ _ (by simp) (by simp) (by simp) (by simp) (by simp) (by simp)
theorem bi.getD {l : List aD} (h : ∀ c ∈ l, bi c) (i : Nat) : bi (l.getD i (aC .jnode)) := by
 rw [List.getD_eq_getElem?_getD]
 cases hi : l[i]? with
 | none => exact bi.zero
 | some c => exact h c (List.mem_of_getElem? hi)
theorem aqD : ∀ {names : List (List UInt8)} {l : List aD} {name : List UInt8} {c : aD}, nQ names l name = some c → c ∈ l
 | [], l, _, _, h => by simp [nQ] at h
 | x :: ns, [], _, _, h => by simp [nQ] at h
 | x :: ns, d :: l, name, c, h => by
   simp only [nQ] at h
   split at h
   ·simp at h; simp [h]
   ·exact List.mem_cons_of_mem _ (aqD h)
theorem auz {o : Option aD} {l : List aD} (h : ∀ c ∈ l, bi c) (ho : ∀ c, o = some c → c ∈ l) : bi (.mk (zI o).1 (zI o).2.1 (zI o).2.2.1 (zI o).2.2.2.1 (zI o).2.2.2.2.1) := by
 cases o with
 | none => exact bi.zero
 | some c => exact bi.eta.2 (h c (ho c rfl))
theorem tB {k : Int} {names : List (List UInt8)} {l : List aD} {name : List UInt8} (h : ∀ c ∈ l, bi c) :
  bi (.mk (zI (if k = 6 then nQ names l name else none)).1 (zI (if k = 6 then nQ names l name else none)).2.1 (zI (if k = 6 then nQ names l name else none)).2.2.1 (zI (if k = 6 then nQ names l name else none)).2.2.2.1 (zI (if k = 6 then nQ names l name else none)).2.2.2.2.1) :=
 auz h fun c hc => by
  split at hc
  ·exact aqD hc
  ·cases hc
end Go.Proofs.Ytdpajabhmmmjoaa
end
noncomputable section
namespace Go.Proofs.Ytdpajabhmmmjoaa
open Go.AM
set_option autoImplicit false
set_option linter.unusedVariables false
set_option linter.unusedSimpArgs false
set_option maxRecDepth 100000
theorem aqE (l : List UInt8) (n m : Int) (h : fp l n) (hm : 0 < m) : ∃ r, aQ l n m r := by
 obtain ⟨h1, h2, h3⟩ := h
 apply ahx 1
 unfold tO aad
 repeat' (first | (with_reducible refine aE ?_ ?_ <;> (intro hb; (try simp only [bnl] at hb); (try revert hb; intro _))) | with_reducible refine aU ?_ ?_ | with_reducible refine aH ?_ | fail)
 ·exact ⟨_, _, _, _, rfl, rfl, by simp, by simpa using hm, rfl, h1, h2, h3⟩
 ·simp (disch := omega) only [aZ, bnl]
 ·simp only [bnl]; omega
 ·refine ⟨_, _, _, _, rfl, rfl, ?_, ?_, rfl, ?_, ?_, h3⟩
  ·simp only
   have := UInt8.toNat_lt (l.getD (IntKind.i64.wrap (IntKind.i64.wrap (n + 1) - 1)).toNat (aC .u8))
   rw [aJ _ (by omega)]
   exact Int.tmod_nonneg _ (by omega)
  ·simp only
   exact Int.tmod_lt_of_pos _ hm
  ·simp only; rw [aJ _ (by omega)]; omega
  ·simp only; rw [aJ _ (by omega)]; omega
theorem dQ (l : List UInt8) (n m : Int) (h : fp l n) (hm : 0 < m) (hm2 : m ≤ 1000) : ∃ r, aQ l n m r := aqE l n m h hm
theorem aqF (l : List UInt8) (n : Int) : ∃ r, iA l n r := by
 apply agb 1
 unfold sF yU
 repeat' (first | (with_reducible refine aE ?_ ?_ <;> (intro hb; (try simp only [bnl] at hb); (try revert hb; intro _))) | with_reducible refine aU ?_ ?_ | with_reducible refine aH ?_ | fail)
 exact ⟨_, _, _, _, rfl, rfl, rfl, rfl⟩
theorem aqG (l : List UInt8) : ∃ r, ra l r := by
 apply aoE 1
 unfold aa1 ahB
 repeat' (first | (with_reducible refine aE ?_ ?_ <;> (intro hb; (try simp only [bnl] at hb); (try revert hb; intro _))) | with_reducible refine aU ?_ ?_ | with_reducible refine aH ?_ | fail)
 exact ⟨_, _, [], rfl, rfl⟩
theorem dH (s : List UInt8) : ∃ r, bJ s r := by
 apply aoG 1
 unfold aa2 ahE
 repeat' (first | (with_reducible refine aE ?_ ?_ <;> (intro hb; (try simp only [bnl] at hb); (try revert hb; intro _))) | with_reducible refine aU ?_ ?_ | with_reducible refine aH ?_ | fail)
 exact ⟨_, _, _, _, _, _, rfl, rfl, rfl⟩
theorem yZ (f0 : Bool) (names : List (List UInt8)) (f1 : Bool) (l : List aD) : ∃ r, eW f0 names f1 l r := by
 apply amL 1
 unfold zJ afw
 repeat' (first | (with_reducible refine aE ?_ ?_ <;> (intro hb; (try simp only [bnl] at hb); (try revert hb; intro _))) | with_reducible refine aU ?_ ?_ | with_reducible refine aH ?_ | fail)
 exact ⟨_, _, _, _, _, _, _, _, rfl, rfl, rfl⟩
theorem am7 : ∀ (names : List (List UInt8)) (l : List aD) (name : List UInt8) (i : Nat), (∀ j, j < i → names.getD j [] ≠ name) → nQ names l name = nQ (names.drop i) (l.drop i) name
 | names, l, name, 0, _ => rfl
 | [], l, name, i + 1, h => by simp [nQ]
 | x :: ns, [], name, i + 1, h => by
   have : ∀ ns : List (List UInt8), nQ ns [] name = none := fun ns => by cases ns <;> rfl
   simp [nQ, this]
 | x :: ns, c :: l, name, i + 1, h => by
   have h0 := h 0 (by omega)
   simp only [List.getD_cons_zero] at h0
   simp only [nQ, if_neg h0, List.drop_succ_cons]
   exact am7 ns l name i fun j hj => by simpa using h (j + 1) (by omega)
theorem aqH {names : List (List UInt8)} {l : List aD} {name : List UInt8} {i : Nat} (h1 : i < names.length) (h2 : i < l.length) (h : ∀ j, j < i → names.getD j [] ≠ name) (he : names.getD i [] = name) :
  nQ names l name = some (l.getD i (aC .jnode)) := by
 rw [am7 names l name i h, List.drop_eq_getElem_cons h1, List.drop_eq_getElem_cons h2]
 simp only [nQ]
 rw [List.getD_eq_getElem?_getD, List.getElem?_eq_getElem h1, Option.getD_some] at he
 rw [if_pos he, List.getD_eq_getElem?_getD, List.getElem?_eq_getElem h2, Option.getD_some]
theorem ahP {names : List (List UInt8)} {l : List aD} {name : List UInt8} {i : Nat} (h : ∀ j, j < i → names.getD j [] ≠ name) (hi : names.length ≤ i ∨ l.length ≤ i) : nQ names l name = none := by
 rw [am7 names l name i h]
 rcases hi with hi | hi
 ·rw [List.drop_eq_nil_of_le hi]; rfl
 ·rw [List.drop_of_length_le (l := l) hi]
  cases names.drop i <;> rfl
theorem arX (k n : Int) (s : List UInt8) (l : List aD) (names : List (List UInt8)) (name : List UInt8) (h : names.length ≤ l.length) (hl : names.length ≤ 1000) : ∃ r, tx k n s l names name r := by
 apply aqq 2000
 unfold acn ug
 refine bq (fun x => x.1 = name ∧ x.2.2.2.2.1 = l ∧ x.2.2.2.2.2.1 = names ∧ 0 ≤ x.2.2.2.2.2.2.1 ∧ x.2.2.2.2.2.2.1 ≤ (names.length : Int) ∧ ∀ j : Nat, (j : Int) < x.2.2.2.2.2.2.1 → names.getD j [] ≠ name)
  (fun x => ((names.length : Int) - x.2.2.2.2.2.2.1).toNat) ?_ _ _ ⟨rfl, rfl, rfl, by simp, by simp, fun j hj => by simp at hj; omega⟩ (by simp; omega)
 rintro again ⟨a0, a1, a2, a3, a4, a5, i, b0, b1, b2, b3, b4⟩ ⟨rfl, rfl, rfl, i1, i2, i3⟩ ih
 simp only at i1 i2 i3 ih h hl ⊢
 unfold wM
 repeat' (first | (with_reducible refine aE ?_ ?_ <;> (intro hb; (try simp only [bnl] at hb); (try revert hb; intro _))) | with_reducible refine aU ?_ ?_ | with_reducible refine aH ?_ | fail)
 ·simp only [bnl]; omega
 ·simp only [bnl]; omega
 ·rename_i hb hb2
  have e := aqH (names := a5) (l := a4) (name := a0) (i := i.toNat) (by omega) (by omega) (fun j hj => i3 j (by omega)) hb2
  refine ⟨_, _, _, _, _, _, _, rfl, rfl, ?_⟩
  simp only [uX]
  rw [e]; rfl
 ·rename_i hb hb2
  have ew := aJ (i + 1) (by omega)
  refine ih _ ⟨rfl, rfl, rfl, ?_, ?_, ?_⟩ ?_
  ·simp only [ew]; omega
  ·simp only [ew]; omega
  ·simp only [ew]
   intro j hj
   by_cases e : (j : Int) = i
   ·have : i.toNat = j := by omega
    rw [this] at hb2
    exact hb2
   ·exact i3 j (by omega)
  ·simp only [ew]; omega
 ·rename_i hb
  refine ⟨_, _, _, _, _, _, _, rfl, rfl, ?_⟩
  simp only [uX]
  rw [ahP (i := i.toNat) (fun j hj => i3 j (by omega)) (.inl (by omega))]
  rfl
theorem cA (ts : List aA) (e c : Int) : ∃ r, aK ts e c r := by
 apply aeC 1
 unfold rh xy
 repeat' (first | (with_reducible refine aE ?_ ?_ <;> (intro hb; (try simp only [bnl] at hb); (try revert hb; intro _))) | with_reducible refine aU ?_ ?_ | with_reducible refine aH ?_ | fail)
 ·rename_i hb; exact ⟨_, _, _, _, rfl, rfl, by simp [kC, hb]⟩
 ·rename_i hb; exact ⟨_, _, _, _, rfl, rfl, by simp [kC, hb]⟩
end Go.Proofs.Ytdpajabhmmmjoaa
end
noncomputable section
namespace Go.Proofs.Ytdpajabhmmmjoaa
open Go.AM
set_option autoImplicit false
set_option linter.unusedVariables false
set_option linter.unusedSimpArgs false
set_option maxRecDepth 100000
theorem aqI (ts : List aA) (t : Int) : ∃ r, nh ts t r := by
 apply aqs 1
 unfold aco ajf
 repeat' (first | (with_reducible refine aE ?_ ?_ <;> (intro hb; (try simp only [bnl] at hb); (try revert hb; intro _))) | with_reducible refine aU ?_ ?_ | with_reducible refine aH ?_ | fail)
 all_goals rename_i h
 ·exact ⟨_, _, rfl, rfl, by simp [uY, isT, h]⟩
 ·exact ⟨_, _, rfl, rfl, by simp only [uY, isT]; rw [decide_eq_false (by omega)]; rfl⟩
theorem ajT (s : List UInt8) : ∃ r, mh s r := by
 apply amO 100
 unfold zL qK
 refine bq (fun x => match x with | (a, f, w, i) => a = s ∧ w = alc ∧ 0 ≤ i ∧ i ≤ 14 ∧ ∀ j : Nat, (j : Int) < i → alc.getD j [] ≠ s) (fun x => (14 - x.2.2.2).toNat) ?_ _ _ ⟨rfl, rfl, by simp, by simp, fun j hj => by omega⟩ (by simp)
 rintro again ⟨a, f, w, i⟩ ⟨rfl, rfl, i1, i2, i3⟩ ih
 dsimp only at ih
 have e := aJ (i + 1) (by omega)
 unfold tz
 dsimp only
 have hw : alc.length = 14 := rfl
 rw [hw]
 repeat' (first | (with_reducible refine aE ?_ ?_ <;> (intro hb; (try simp only [bnl] at hb); (try revert hb; intro _))) | with_reducible refine aU ?_ ?_ | with_reducible refine aH ?_ | fail)
 ·simp only [bnl]; omega
 ·rename_i h1 h2
  refine ⟨_, _, rfl, rfl, ?_, ?_, ?_, ?_, ?_⟩
  ·simp only [e]; omega
  ·simp only [e]; omega
  ·simp only [e]
   intro h3
   have : i = 13 := by omega
   subst this
   rw [← h2]; rfl
  ·simp only [e]
   intro h3; omega
  ·simp only [e]
   intro h3
   have : i = 9 := by omega
   subst this
   rw [← h2]; rfl
 ·rename_i h1 h2
  refine ih (a, f, alc, _) ?_ ?_
  ·simp only [e]
   refine ⟨trivial, trivial, by omega, by omega, fun j hj => ?_⟩
   by_cases hji : (j : Int) = i
   ·have : i.toNat = j := by omega
    rw [this] at h2
    exact h2
   ·exact i3 j (by omega)
  ·simp only [e]; omega
 ·rename_i h1
  exact ⟨_, _, rfl, rfl, by simp, by simp, by simp, fun _ j hj => i3 j (by omega), by simp⟩
theorem atY (k : Int) : ∃ r, sB k r := by
 apply amQ 1
 unfold zM afB
 dsimp only
 repeat' (first | (with_reducible refine aE ?_ ?_ <;> (intro hb; (try simp only [bnl] at hb); (try revert hb; intro _))) | with_reducible refine aU ?_ ?_ | with_reducible refine aH ?_ | fail)
 ·exact ⟨_, _, rfl, rfl⟩
 ·exact ⟨_, _, rfl, rfl⟩
 ·simp only [bnl, List.length_cons, List.length_nil]; omega
 ·exact ⟨_, _, rfl, rfl⟩
theorem aie (ts : List aA) (e a0 : Int) (a1 : List UInt8) (a2 : List (List UInt8)) (a3 : Int) (a4 : List (List UInt8)) (a5 : Bool) (a6 : List UInt8) (a7 : Int) (a8 : List aM) (a9 : List Int) (h : ts.length ≤ 60) :
  ∃ r, eB ts e a0 a1 a2 a3 a4 a5 a6 a7 a8 a9 r := by
 apply age 1
 unfold sJ yY
 dsimp only
 repeat' (first | (with_reducible refine aE ?_ ?_ <;> (intro hb; (try simp only [bnl] at hb); (try revert hb; intro _))) | with_reducible refine aU ?_ ?_ | with_reducible refine aH ?_ | (refine aF (cA _ _ _) ?_; rintro _ ⟨-, rfl⟩; try dsimp only) | fail)
 ·rename_i hb
  refine ⟨_, _, _, _, rfl, rfl, ?_⟩
  simp only [lD]
  simp only [if_pos (show 60 ≤ ts.length by omega)]
 ·first | (simp only [bnl, lnl]; done) | (simp only [bnl, lnl]; omega)
 ·rename_i hb
  refine ⟨_, _, _, _, rfl, rfl, ?_⟩
  simp only [lD, List.length_append, List.length_cons, List.length_nil]
  rw [if_neg (by omega), aJ _ (by omega)]
  simp
theorem aqJ (ts : List aA) (e : Int) (s : List UInt8) (h : ts.length ≤ 60) : ∃ r, cT ts e s r := by
 apply aeF 100
 unfold rj ji
 refine bq (fun x => x.1 = s ∧ x.2.2.1 = ts ∧ x.2.2.2 = e ∧ 0 ≤ x.2.1 ∧ x.2.1 ≤ (ts.length : Int)) (fun x => ((ts.length : Int) - x.2.1).toNat) ?_ _ _ ⟨rfl, rfl, rfl, by simp, by simp⟩ (by simp; omega)
 rintro again ⟨s, i, ts, e⟩ ⟨rfl, rfl, rfl, i1, i2⟩ ih
 simp only at i1 i2 ih h ⊢
 unfold lF
 dsimp only
 have next : i < ts.length → Tot (again (s, IntKind.i64.wrap (i + 1), ts, e)) _ := fun hl => ih (s, IntKind.i64.wrap (i + 1), ts, e) (by simp only [aJ (i + 1) (by omega)]; exact ⟨trivial, trivial, trivial, by omega, by omega⟩) (by simp only [aJ (i + 1) (by omega)]; omega)
 repeat' (first | (with_reducible refine aE ?_ ?_ <;> (intro hb; (try simp only [bnl] at hb); (try revert hb; intro _))) | with_reducible refine aU ?_ ?_ | with_reducible refine aH ?_ | (exact next (by omega)) | fail)
 all_goals first | (first | (simp only [bnl, lnl]; done) | (simp only [bnl, lnl]; omega)) | (refine ⟨_, _, _, _, _, rfl, rfl, rfl, ?_⟩; simp; try omega)
theorem as8 {a b : List UInt8} (h1 : Op.bytesLess a b = false) (h2 : ¬ a = b) : Op.bytesLess b a = true := by
 have h := aes a b
 rw [h1, decide_eq_false h2] at h
 simpa using h.symm
theorem anR : ∀ (i : Nat) (ks : List (List UInt8)) (p key : List UInt8), pR p ks = true → Op.bytesLess p key = true → dj key = true → (∀ j, j < i → j < ks.length → Op.bytesLess (ks.getD j []) key = true) →
  (∀ _ : i < ks.length, Op.bytesLess key (ks.getD i []) = true) → pR p (ks.take i ++ (key :: ks.drop i)) = true
 | 0, [], p, key, h, hp, hv, _, _ => by simp [pR, hv, hp]
 | 0, k :: ks, p, key, h, hp, hv, _, hl => by
   have := hl (by simp)
   simp only [pR, Bool.and_eq_true] at h
   simp only [List.getD_cons_zero] at this
   simp [pR, hv, hp, h.1, h.2.2, this]
 | i + 1, [], p, key, h, hp, hv, _, _ => by simp [pR, hv, hp]
 | i + 1, k :: ks, p, key, h, hp, hv, hb, hl => by
   simp only [pR, Bool.and_eq_true] at h
   have ih := anR i ks k key h.2.2 (by have := hb 0 (by omega) (by simp); simpa using this) hv
    (fun j h1 h2 => by have := hb (j + 1) (by omega) (by simp; omega); simpa using this) (fun h1 => by have := hl (by simp; omega); simpa using this)
   simp [pR, h.1, h.2.1, ih]
theorem as9 (i : Nat) (ks : List (List UInt8)) (key : List UInt8) (h : eP ks = true) (hv : dj key = true) (hb : ∀ j, j < i → j < ks.length → Op.bytesLess (ks.getD j []) key = true)
  (hl : ∀ _ : i < ks.length, Op.bytesLess key (ks.getD i []) = true) : eP (ks.take i ++ (key :: ks.drop i)) = true := by
 match i, ks, h, hb, hl with
 | 0, [], h, hb, hl => simp [eP, pR, hv]
 | 0, k :: ks, h, hb, hl =>
   have := hl (by simp)
   simp only [eP, Bool.and_eq_true] at h
   simp only [List.getD_cons_zero] at this
   simp [eP, pR, hv, h.1, h.2, this]
 | i + 1, [], h, hb, hl => simp [eP, pR, hv]
 | i + 1, k :: ks, h, hb, hl =>
   simp only [eP, Bool.and_eq_true] at h
   have := anR i ks k key h.2 (by have := hb 0 (by omega) (by simp); simpa using this) hv
    (fun j h1 h2 => by have := hb (j + 1) (by omega) (by simp; omega); simpa using this) (fun h1 => by have := hl (by simp; omega); simpa using this)
   simp [eP, h.1, this]
theorem aca (ts : List aA) (t : Int) : ∀ l m : List aB, bO ts t (l ++ m) = (bO ts t l && bO ts t m)
 | [], m => by simp [bO]
 | v :: l, m => by simp [bO, aca ts t l m, Bool.and_assoc]
theorem abg : ∀ l m : List aB, wL (l ++ m) = wL l + wL m
 | [], m => by simp [wL]
 | v :: l, m => by simp [wL, abg l m]; omega
theorem aeI : ∀ l m : List (List UInt8), fJ (l ++ m) = fJ l + fJ m
 | [], m => by simp [fJ]
 | v :: l, m => by simp [fJ, aeI l m]; omega
theorem anS (ts : List aA) (t : Int) (w : aB) (hw : bu ts t w = true) : ∀ (l : List aB) (i : Nat), bO ts t l = true → bO ts t (l.set i w) = true
 | [], i, h => by simp [bO]
 | v :: l, 0, h => by simp only [bO, Bool.and_eq_true] at h; simp [bO, hw, h.2]
 | v :: l, i + 1, h => by simp only [bO, Bool.and_eq_true] at h; simp [bO, h.1, anS ts t w hw l i h.2]
theorem ata (w : aB) : ∀ (l : List aB) (i : Nat), wL (l.set i w) ≤ wL l + wV w
 | [], i => by simp [wL]
 | v :: l, 0 => by simp [wL]; omega
 | v :: l, i + 1 => by have := ata w l i; simp only [List.set_cons_succ, wL]; omega
theorem aif (n : Int) (s : List UInt8) (l : List aB) (ks : List (List UInt8)) (b : Int) (key : List UInt8) (w0 : Int) (w1 : List UInt8) (w2 : List aB) (w3 : List (List UInt8)) (w4 : Int) (h : ks.length = l.length) (hl : l.length ≤ 10000) :
  ∃ r, jO n s l ks b key w0 w1 w2 w3 w4 r := by
 apply aoN 20000
 unfold aa5 sI
 refine bq (fun x => match x with
  | (c0, c1, c2, c3, c4, c5, i, c6, c7, l', ks', c8, c9, c10, c11, c12, c13) => c0 = key ∧ (c1, c2, c3, c4, c5) = (w0, w1, w2, w3, w4) ∧ (c6, c7, c8) = (n, s, b) ∧ 0 ≤ i ∧ i ≤ (l.length : Int) ∧ ks' = ks ∧ l' = l ∧ ∀ j : Nat, (j : Int) < i → Op.bytesLess (ks.getD j []) key = true)
  (fun x => ((l.length : Int) - x.2.2.2.2.2.2.1).toNat) ?_ _ _ ⟨rfl, rfl, rfl, by simp, by simp, rfl, rfl, fun j hj => by omega⟩ (by simp; omega)
 rintro again ⟨c0, c1, c2, c3, c4, c5, i, c6, c7, l, ks, c8, c9, c10, c11, c12, c13⟩ ⟨rfl, e1, e2, i1, i2, rfl, rfl, i3⟩ ih
 simp only [Prod.mk.injEq] at e1 e2
 obtain ⟨rfl, rfl, rfl, rfl, rfl⟩ := e1
 obtain ⟨rfl, rfl, rfl⟩ := e2
 simp only at i1 i2 ih h hl ⊢
 unfold u0
 dsimp only
 have next : i < l.length → Op.bytesLess (ks.getD i.toNat []) c0 = true → Tot (again (c0, c1, c2, c3, c4, c5, IntKind.i64.wrap (i + 1), c6, c7, l, ks, c8, c9, c10, c11, c12, c13)) _ := fun hl hb => ih (c0, c1, c2, c3, c4, c5, IntKind.i64.wrap (i + 1), c6, c7, l, ks, c8, c9, c10, c11, c12, c13)
  (by
   simp only [aJ (i + 1) (by omega)]
   refine ⟨trivial, trivial, trivial, by omega, by omega, trivial, trivial, fun j hj => ?_⟩
   by_cases hji : (j : Int) < i
   ·exact i3 j hji
   ·have : j = i.toNat := by omega
    rw [this]; exact hb) (by simp only [aJ (i + 1) (by omega)]; omega)
 have i4 : ∀ j, j < i.toNat → j < ks.length → Op.bytesLess (ks.getD j []) c0 = true := fun j hj _ => i3 j (by omega)
 have ins : (∀ _ : i.toNat < ks.length, Op.bytesLess c0 (ks.getD i.toNat []) = true) → atU c6 c7 l ks c8 c0 (.mk c1 c2 c3 c4 c5) (c6, c7, l.take i.toNat ++ ((.mk c1 c2 c3 c4 c5) :: l.drop i.toNat), ks.take i.toNat ++ (c0 :: ks.drop i.toNat), c8) := fun hlt => by
  refine ⟨rfl, rfl, rfl, ?_, ?_, fun h1 h2 => as9 _ _ _ h1 h2 i4 hlt, fun ts t h1 h2 => ?_⟩
  ·simp only [abg]
   have := abg (l.take i.toNat) (l.drop i.toNat)
   rw [List.take_append_drop] at this
   simp only [wL]; omega
  ·simp only [aeI]
   have := aeI (ks.take i.toNat) (ks.drop i.toNat)
   rw [List.take_append_drop] at this
   simp only [fJ]; omega
  ·have := aca ts t (l.take i.toNat) (l.drop i.toNat)
   rw [List.take_append_drop, h1] at this
   have this := (Bool.and_eq_true _ _ ▸ this.symm : _ ∧ _)
   simp [aca, bO, this.1, this.2, h2]
 have same : atU c6 c7 l ks c8 c0 (.mk c1 c2 c3 c4 c5) (c6, c7, l.set i.toNat (.mk c1 c2 c3 c4 c5), ks, c8) := by
  refine ⟨rfl, rfl, rfl, ata _ _ _, by simp only; omega, fun h1 _ => h1, fun ts t h1 h2 => anS ts t _ h2 _ _ h1⟩
 repeat' (first | (with_reducible refine aE ?_ ?_ <;> (intro hb; (try simp only [bnl] at hb); (try revert hb; intro _))) | with_reducible refine aU ?_ ?_ | with_reducible refine aH ?_ | (exact next (by omega) (by assumption)) | fail)
 all_goals first | (first | (simp only [bnl, lnl]; done) | (simp only [bnl, lnl]; omega)) | skip
 all_goals
  refine ⟨_, _, _, _, _, _, rfl, rfl, ?_, ?_, ?_⟩
  ·simp only [List.length_append, List.length_cons, List.length_nil, List.length_drop, List.length_take, List.length_set]; omega
  ·simp only [List.length_append, List.length_cons, List.length_nil, List.length_drop, List.length_take, List.length_set]; omega
 ·exact same
 ·simpa using ins fun _ => as8 (by assumption) (by assumption)
 ·simpa using ins fun hh => by omega
end Go.Proofs.Ytdpajabhmmmjoaa
end
noncomputable section
namespace Go.Proofs.Ytdpajabhmmmjoaa
open Go.AM
set_option autoImplicit false
set_option linter.unusedVariables false
set_option linter.unusedSimpArgs false
set_option maxRecDepth 100000
theorem asw (c : Int) : ∃ r, qI c r := by
 apply alj 1
 unfold xX ado
 repeat' (first | (with_reducible refine aE ?_ ?_ <;> (intro hb; (try simp only [bnl] at hb); (try revert hb; intro _))) | with_reducible refine aU ?_ ?_ | with_reducible refine aH ?_ | fail)
 all_goals exact ⟨_, _, rfl, rfl⟩
theorem atb (c : Int) : ∃ r, sE c r := by
 apply amV 1
 unfold zP afH
 repeat' (first | (with_reducible refine aE ?_ ?_ <;> (intro hb; (try simp only [bnl] at hb); (try revert hb; intro _))) | with_reducible refine aU ?_ ?_ | with_reducible refine aH ?_ | fail)
 all_goals exact ⟨_, _, rfl, rfl⟩
theorem aeJ (s : List UInt8) (hs : s.length ≤ 1000000) : ∃ r, jP s r := by
 apply aoR 2000000
 unfold aa8 sL
 refine bq (fun x => x.1 = s ∧ 0 ≤ x.2 ∧ x.2 ≤ (s.length : Int)) (fun x => ((s.length : Int) - x.2).toNat) ?_ _ _ ⟨rfl, by simp, by simp⟩ (by simp; omega)
 rintro again ⟨a, i⟩ ⟨rfl, i1, i2⟩ ih
 simp only at i1 i2 ih hs ⊢
 have next : i < a.length → Tot (again (a, IntKind.i64.wrap (i + 1))) _ := fun h => ih (a, IntKind.i64.wrap (i + 1)) (by simp only [aJ (i + 1) (by omega)]; exact ⟨trivial, by omega, by omega⟩) (by simp only [aJ (i + 1) (by omega)]; omega)
 unfold u5
 dsimp only
 repeat' (first | (with_reducible refine aE ?_ ?_ <;> (intro hb; (try simp only [bnl] at hb); (try revert hb; intro _))) | with_reducible refine aU ?_ ?_ | with_reducible refine aH ?_ | (refine aF (asw _) ?_; intro _ _) | (refine aF (atb _) ?_; intro _ _) | (exact next (by assumption)) | fail)
 all_goals first | exact ⟨_, _, rfl, rfl⟩ | (simp only [bnl]; omega)
theorem atZ (a b : List UInt8) (ha : a.length ≤ 1000000) (hb : b.length ≤ 1000000) : ∃ r, uf a b r := by
 apply aoU 1
 unfold aa9 ahM
 repeat' (first | (with_reducible refine aE ?_ ?_ <;> (intro hb; (try simp only [bnl] at hb); (try revert hb; intro _))) | with_reducible refine aU ?_ ?_ | with_reducible refine aH ?_ | fail)
 all_goals first | exact ⟨_, _, rfl, rfl, by simp only [tw, List.length_append, List.length_cons, List.length_nil]; omega⟩ | (simp only [bnl, List.length_append, List.length_cons, List.length_nil]; omega)
theorem atc (s : List UInt8) (hs : s.length ≤ 1000000) : ∃ r, sC s r := by
 apply amY 2000000
 unfold zR qO
 refine bq (fun x => x.1 = s ∧ 0 ≤ x.2.2 ∧ x.2.2 ≤ (s.length : Int) + 1 ∧ (x.2.1.length : Int) ≤ x.2.2) (fun x => ((s.length : Int) + 1 - x.2.2).toNat) ?_ _ _ ⟨rfl, by simp, by simp; omega, by simp⟩ (by simp; omega)
 rintro again ⟨a, p, i⟩ ⟨rfl, i1, i2, i3⟩ ih
 simp only at i1 i2 i3 ih hs ⊢
 have next : ∀ q : List UInt8, i ≤ a.length → (q.length : Int) ≤ i + 1 → Tot (again (a, q, IntKind.i64.wrap (i + 1))) _ := fun q h hq => ih (a, q, IntKind.i64.wrap (i + 1)) (by simp only [aJ (i + 1) (by omega)]; exact ⟨trivial, by omega, by omega, by omega⟩) (by simp only [aJ (i + 1) (by omega)]; omega)
 unfold tA
 dsimp only
 repeat' (first | (with_reducible refine aE ?_ ?_ <;> (intro hb; (try simp only [bnl] at hb); (try revert hb; intro _))) | with_reducible refine aU ?_ ?_ | with_reducible refine aH ?_ | (refine aF (aeJ _ (by omega)) ?_; intro _ _) | fail)
 all_goals first | exact ⟨_, _, rfl, rfl⟩ | (refine next _ (by omega) ?_) | skip
 all_goals try simp (disch := omega) only [aZ, bnl, List.length_append, List.length_cons, List.length_nil, List.length_drop, List.length_take]
 all_goals first | omega | skip
theorem avw (v k : Int) (hk : 0 ≤ k) (h : (eS .u64 v k == 0) = true) (hv : 0 < v) : 0 < k := by
 rcases Int.lt_or_eq_of_le hk with h1 | h1
 ·exact h1
 ·subst h1
  simp [eS] at h
  omega
theorem avi : ∀ k : Nat, k < 64 → (!(iJ .u64 1 (k : Int) == 0)) = true := by
 intro k hk
 have : ∀ k : Fin 64, (!(iJ .u64 1 ((k : Nat) : Int) == 0)) = true := by decide
 exact this ⟨k, hk⟩
theorem aqK (v a b : Int) (hv : 0 ≤ v) (ha : 0 ≤ a) (ha2 : a ≤ 60) (hb : 0 ≤ b) (hb2 : b ≤ 2000) : ∃ r, lV v a b r := by
 apply ao0 100
 unfold abe sO
 repeat' (first | (with_reducible refine aE ?_ ?_ <;> (intro hb; (try simp only [bnl] at hb); (try revert hb; intro _))) | with_reducible refine aU ?_ ?_ | with_reducible refine aH ?_ | fail)
 ·exact ⟨_, _, rfl, rfl⟩
 rename_i hne
 refine bq (fun x => x.1 = v ∧ x.2.1 = a ∧ x.2.2.1 = b ∧ 0 ≤ x.2.2.2 ∧ x.2.2.2 ≤ 63) (fun x => x.2.2.2.toNat) ?_ _ _ ⟨rfl, rfl, rfl, by simp, by simp⟩ (by simp)
 rintro again ⟨v, a, b, k⟩ ⟨rfl, rfl, rfl, i1, i2⟩ ih
 simp only at i1 i2 ih hne hv ha ha2 hb hb2 ⊢
 unfold va
 dsimp only
 have e1 := aJ (k - 1) (by omega)
 have e2 := aJ (a - k) (by omega)
 have e3 := aJ (k - a) (by omega)
 refine aU (by simp only [bnl]; omega) (aE (fun h => ?_) (fun h => aE (fun h1 => ?_) (fun h1 => ?_)))
 ·have := avw v k i1 h (by omega)
  exact ih (v, a, b, _) (by simp only [e1]; exact ⟨trivial, trivial, trivial, by omega, by omega⟩) (by simp only [e1]; omega)
 ·simp only [bnl] at h1
  repeat' (first | (with_reducible refine aE ?_ ?_ <;> (intro hb; (try simp only [bnl] at hb); (try revert hb; intro _))) | with_reducible refine aU ?_ ?_ | with_reducible refine aH ?_ | fail)
  all_goals first | exact ⟨_, _, rfl, rfl⟩ | (simp only [bnl, e2]; omega)
 ·simp only [bnl] at h1
  have e4 := aJ (k - a - 1) (by omega)
  have := avi (k - a).toNat (by omega)
  rw [Int.toNat_of_nonneg (by omega)] at this
  simp only [e3, e4]
  repeat' (first | (with_reducible refine aE ?_ ?_ <;> (intro hb; (try simp only [bnl] at hb); (try revert hb; intro _))) | with_reducible refine aU ?_ ?_ | with_reducible refine aH ?_ | fail)
  all_goals first | exact ⟨_, _, rfl, rfl⟩ | exact this | (simp only [bnl]; omega)
theorem acb (n : Int) : 0 ≤ IntKind.u64.wrap n := by
 simp only [IntKind.wrap, IntKind.signed, IntKind.bits, Bool.false_and, Bool.false_eq_true, if_false]
 exact Int.emod_nonneg _ (by decide)
theorem atd (n : Int) : ∃ r, sv n r := by
 apply am5 1
 unfold zV afN
 repeat' (first | (with_reducible refine aE ?_ ?_ <;> (intro hb; (try simp only [bnl] at hb); (try revert hb; intro _))) | with_reducible refine aU ?_ ?_ | with_reducible refine aH ?_ | (refine aF (aqK _ _ _ (acb _) (by omega) (by omega) (by omega) (by omega)) ?_; intro _ _) | fail)
 all_goals exact ⟨_, _, rfl, rfl⟩
theorem asx (n : Int) : ∃ r, mW n r := by
 apply alo 1
 unfold ya adt
 repeat' (first | (with_reducible refine aE ?_ ?_ <;> (intro hb; (try simp only [bnl] at hb); (try revert hb; intro _))) | with_reducible refine aU ?_ ?_ | with_reducible refine aH ?_ | (refine aF (aqK _ _ _ (acb _) (by omega) (by omega) (by omega) (by omega)) ?_; intro _ _) | fail)
 all_goals exact ⟨_, _, rfl, rfl⟩
theorem ate (s : List UInt8) (hs : s.length ≤ 1000000) : ∃ r, mg s r := by
 apply adp 100
 exact ⟨_, abf 95 s (by omega), _, _, _, rfl, rfl, rfl⟩
theorem anT (s : List UInt8) : 0 ≤ (eg s).2 ∧ (eg s).2 ≤ s.length := by
 have := apR s
 simp only [eg]
 omega
theorem atf (s : List UInt8) (hs : s.length ≤ 1000000) : ∃ r, sD s r := by
 apply am0 1
 unfold zS afK
 refine aF (ate s hs) ?_
 rintro ⟨a, b⟩ ⟨-, h⟩
 exact aH ⟨_, _, _, rfl, rfl, h⟩
theorem pc (k n : Int) (s : List UInt8) (l : List aD) (names : List (List UInt8)) (name : List UInt8) (hl : names.length ≤ 1000) : ∃ r, db k n s l names name r := by
 apply aqx 2000
 unfold acq ui
 refine bq (fun x => x.1 = name ∧ x.2.1 = k ∧ x.2.2.2.2.1 = l ∧ x.2.2.2.2.2.1 = names ∧ 0 ≤ x.2.2.2.2.2.2.1 ∧ x.2.2.2.2.2.2.1 ≤ (names.length : Int) ∧ ∀ j : Nat, (j : Int) < x.2.2.2.2.2.2.1 → names.getD j [] ≠ name)
  (fun x => ((names.length : Int) - x.2.2.2.2.2.2.1).toNat) ?_ _ _ ⟨rfl, rfl, rfl, rfl, by simp, by simp, fun j hj => by simp at hj; omega⟩ (by simp; omega)
 rintro again ⟨a0, a1, a2, a3, a4, a5, i, b0, b1, b2, b3, b4⟩ ⟨rfl, rfl, rfl, rfl, i1, i2, i3⟩ ih
 simp only at i1 i2 i3 ih hl ⊢
 unfold wS
 repeat' (first | (with_reducible refine aE ?_ ?_ <;> (intro hb; (try simp only [bnl] at hb); (try revert hb; intro _))) | with_reducible refine aU ?_ ?_ | with_reducible refine aH ?_ | fail)
 ·simp only [bnl]; omega
 ·simp only [bnl]; omega
 ·rename_i hk hb hc hb2
  have e := aqH (names := a5) (l := a4) (name := a0) (i := i.toNat) (by omega) (by omega) (fun j hj => i3 j (by omega)) hb2
  refine ⟨_, _, _, _, _, _, _, rfl, rfl, ?_⟩
  simp only [cG]
  rw [if_pos hk, e]; rfl
 ·rename_i hk hb hc hb2
  have ew := aJ (i + 1) (by omega)
  refine ih _ ⟨rfl, rfl, rfl, rfl, ?_, ?_, ?_⟩ ?_
  ·simp only [ew]; omega
  ·simp only [ew]; omega
  ·simp only [ew]
   intro j hj
   by_cases e : (j : Int) = i
   ·have : i.toNat = j := by omega
    rw [this] at hb2
    exact hb2
   ·exact i3 j (by omega)
  ·simp only [ew]; omega
 ·rename_i hk hb hc
  refine ⟨_, _, _, _, _, _, _, rfl, rfl, ?_⟩
  simp only [cG]
  rw [if_pos hk, ahP (i := i.toNat) (fun j hj => i3 j (by omega)) (.inr (by omega))]
  rfl
 ·rename_i hk hb
  refine ⟨_, _, _, _, _, _, _, rfl, rfl, ?_⟩
  simp only [cG]
  rw [if_pos hk, ahP (i := i.toNat) (fun j hj => i3 j (by omega)) (.inl (by omega))]
  rfl
 ·rename_i hk
  refine ⟨_, _, _, _, _, _, _, rfl, rfl, ?_⟩
  simp only [cG]
  rw [if_neg hk]; rfl
end Go.Proofs.Ytdpajabhmmmjoaa
end
