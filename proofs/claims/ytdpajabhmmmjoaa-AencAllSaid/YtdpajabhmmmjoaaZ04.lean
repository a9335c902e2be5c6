import Derived.KernelRfl
import Derived.Test.YtdpajabhmmmjoaaZ02
import Derived.Test.YtdpajabhmmmjoaaZ03
noncomputable section
namespace Go.Proofs.Ytdpajabhmmmjoaa
open Go.AM
set_option autoImplicit false
set_option linter.unusedVariables false
set_option maxRecDepth 100000
noncomputable def abU : aN := tab (P := Try.prog) [] [] [] []
def aaY : IR := Rs [Mi 4 0] (Sq (Sq (.reg [Mv 5 0, Nk 6 5, Fa 7 1 6, Fo [0] [] (.ld 8 1 false false 7), Mv 9 0, Nk 10 9, Fa 11 0 10, Fo [0] [] (.ld 12 1 false false 11), Ll 13 12, Bi 14 .geq 8 13] [[], [0], [0, 1], [0, 1, 2], [], [4], [4, 5], [4, 5, 6], rg 4 7, rg 0 8]) (Cn 14 (Rs [Mi 4 0] .ret) .skip)) (Rs [Mv 15 0, Nk 16 15, Fa 17 1 16, Lo 18 17, Bc 19 .add 18 1, Nk 20 15, Fa 21 1 20, Sv 1 21 19] (Sq (.reg [Mv 22 0, Nk 23 22, Fa 24 0 23, Fo [0] [] (.ld 25 1 false false 24), Mv 26 0, Nk 27 26, Fa 28 1 27, Fo [0] [] (.ld 29 1 false false 28), Bc 30 .sub 29 1, Ix 31 .u8 25 30, Lq 32 31, Pp (.cvi 33 .i64 32), Mv 34 1, Bi 35 .rem 33 34, Mv 4 35] [[], [0], [0, 1], [0, 1, 2], [], [4], [4, 5], [4, 5, 6], rg 4 7, rg 0 8, rg 0 9, rg 0 10, [], rg 0 12, rg 0 13]) .ret)))
def aaZ : List RV := [.t 4]
theorem akw : FnC Try.prog abU [] 1 abT Try.f60 aaY aaZ := fnC (by kernel_rfl) Try.func60 (by kernel_rfl) (by kernel_rfl) (by decide)
def aa0 (N : Nat) (a : Bs) (b d : Int) : Ro :=
 let f : Int := (↑(List.length a) : Int)
 cond (decide (f ≤ b)) (
 some (.int .i64 0, [some [.sl .u8 (.may false) a, .int .i64 b]])) (
 let e : Int := (IntKind.wrap .i64 (b + 1))
 let c : Int := (IntKind.wrap .i64 (e - 1))
 chk (decide (0 ≤ c) && decide (c < ↑(List.length a))) (
 let g : Int := (List.getD a (Int.toNat c) (aC .u8)).toNat
 chk (!(d == 0)) (
 let h : Int := (Int.tmod (IntKind.wrap .i64 g) d)
 some (.int .i64 h, [some [.sl .u8 (.may false) a, .int .i64 e]]))))
def uh (N : Nat) (a : Bs) (b c : Int) : Ro := aa0 N a b c
theorem aje (N : Nat) (a : Bs) (b c : Int) : aW abU N 36 aaZ aaY [.ptr 0 0, .int .i64 c] [some [.sl .u8 (.may false) a, .int .i64 b]] = uh N a b c := by kernel_rfl
theorem ajf (N : Nat) (a : Bs) (b e : Int) (h : Tot (uh N a b e) (fun z => ∃ (f : Int) (c : Bs) (d : Int) (rest : List aK), z.1.dimR = .int .i64 f ∧ z.2 = some [.sl .u8 (.may false) c, .int .i64 d] :: rest ∧ xT a b e (f, c, d))) : ∃ r, aS a b e r := by
 obtain ⟨⟨v, hp⟩, hz, f, c, d, rest, e1, e2, hq⟩ := h
 simp only at e1 e2
 subst e2
 exact ⟨(f, c, d), bk.dimR (FnC.objs (css := [[.sl .u8 (.may false) a, .int .i64 b]]) (css' := [[.sl .u8 (.may false) c, .int .i64 d]]) akw (aje N a b e) hz rfl) e1, hq⟩
noncomputable def aa1 : aN := tab (P := Try.prog) [] [] [] []
def zz : IR := Rs [Mb 2 false] (Sq (.reg [Mv 3 0, Nk 4 3, Fa 5 1 4, Fo [0] [] (.ld 6 1 false false 5), Mv 7 0, Nk 8 7, Fa 9 0 8, Fo [0] [] (.ld 10 1 false false 9), Ll 11 10, Bi 12 .geq 6 11, Mv 2 12] [[], [0], [0, 1], [0, 1, 2], [], [4], [4, 5], [4, 5, 6], rg 4 7, rg 0 8, rg 0 9]) .ret)
def zA : List RV := [.t 2]
theorem ajg : FnC Try.prog aa1 [] 1 aaU Try.f59 zz zA := fnC (by kernel_rfl) Try.func59 (by kernel_rfl) (by kernel_rfl) (by decide)
def zB (N : Nat) (a : Bs) (b : Int) : Ro :=
 let c : Int := (↑(List.length a) : Int)
 some (.bool (decide (c ≤ b)), [some [.sl .u8 (.may false) a, .int .i64 b]])
def sP (N : Nat) (a : Bs) (b : Int) : Ro := zB N a b
theorem ahV (N : Nat) (a : Bs) (b : Int) : aW aa1 N 13 zA zz [.ptr 0 0] [some [.sl .u8 (.may false) a, .int .i64 b]] = sP N a b := by kernel_rfl
theorem ahW (N : Nat) (a : Bs) (b : Int) (h : Tot (sP N a b) (fun z => ∃ (e : Bool) (c : Bs) (d : Int) (rest : List aK), z.1.dimR = .bool e ∧ z.2 = some [.sl .u8 (.may false) c, .int .i64 d] :: rest ∧ w7 a b (e, c, d))) : ∃ r, ii a b r := by
 obtain ⟨⟨v, hp⟩, hz, e, c, d, rest, e1, e2, hq⟩ := h
 simp only at e1 e2
 subst e2
 exact ⟨(e, c, d), bk.dimR (FnC.objs (css := [[.sl .u8 (.may false) a, .int .i64 b]]) (css' := [[.sl .u8 (.may false) c, .int .i64 d]]) ajg (ahV N a b) hz rfl) e1, hq⟩
noncomputable def alg : aN := tab (P := Try.prog) [] [] [] []
def ajh : IR := Rs [Pp (.mov 2 (.c .nilp))] (Rs [Mv 3 0, Pp (.bld 4 [fu .u8 true, vI 0] [(0, 1, 3)]), Pp (.box 5 4), Mv 2 5] .ret)
def aji : List RV := [.t 2]
theorem atq : FnC Try.prog alg [] 0 ak6 Try.f14 ajh aji := fnC (by kernel_rfl) Try.func14 (by kernel_rfl) (by kernel_rfl) (by decide)
def ajj (N : Nat) (a : Bs) : Ro :=
 some (.ptr 0 0, [some [.sl .u8 (.may false) a, .int .i64 0]])
def abV (N : Nat) (a : Bs) : Ro := ajj N a
theorem arB (N : Nat) (a : Bs) : aW alg N 6 aji ajh [.sl .u8 (.may false) a] [] = abV N a := by kernel_rfl
theorem arC (N : Nat) (a : Bs) (h : Tot (abV N a) (fun z => ∃ (b : Bs) (c : Int) (rest : List aK), z = (.ptr 0 0, [some [.sl .u8 (.may false) b, .int .i64 c]]) ∧ aez a (b, c))) : ∃ r, rq a r := by
 obtain ⟨z, hz, b, c, rest, rfl, hq⟩ := h
 exact ⟨(b, c), atq.newFn (arB N a) hz, hq⟩
noncomputable def alh : aN := tab (P := Try.prog) [] [] [] []
def ajk : IR := Rs [Pp (.new 2 [vI 0, vI 0, vS, nl .jnode, nl .str])] (Rs [Mv 3 0, Pp (.bld 4 [vI 0, vI 0, vS, nl .jnode, nl .str] [(0, 1, kI 4), (2, 1, 3)]), Sv 5 2 4] .ret)
def ajl : List RV := [.cell 2 5 true]
theorem atr : FnC Try.prog alh [] 0 ak7 Try.f86 ajk ajl := fnC (by kernel_rfl) Try.func86 (by kernel_rfl) (by kernel_rfl) (by decide)
def ajm (N : Nat) (a : Bs) : Ro :=
 some (.agg [.int .i64 4, .int .i64 0, .str a, .sl .jnode (.may false) ([] : List aE), .sl .str (.may false) ([] : Bss)], [some [.int .i64 4, .int .i64 0, .str a, .sl .jnode .own ([] : List aE), .sl .str .own ([] : Bss)]])
def abW (N : Nat) (a : Bs) : Ro := ajm N a
theorem arD (N : Nat) (a : Bs) : aW alh N 5 ajl ajk [.str a] [] = abW N a := by kernel_rfl
theorem arE (N : Nat) (a : Bs) (h : Tot (abW N a) (fun z => ∃ (b : Int) (c : Int) (d : Bs) (e : List aE) (f : Bss) (rest : List aK), z.1.dimR = .agg [.int .i64 b, .int .i64 c, .str d, .sl .jnode (.may false) e, .sl .str (.may false) f] ∧ z.2 = rest ∧ aeA a (b, c, d, e, f))) : ∃ r, bD a r := by
 obtain ⟨⟨v, hp⟩, hz, b, c, d, e, f, rest, e1, e2, hq⟩ := h
 simp only at e1 e2
 subst e2
 exact ⟨(b, c, d, e, f), aI.dimR (atr.pure (arD N a) hz) e1, hq⟩
noncomputable def ajn : aN := tab (P := Try.prog) [] [] [] []
def ag6 : IR := Rs [Pp (.new 4 [vI 0, vI 0, vS, nl .jnode, nl .str])] (Rs [Mv 5 0, Mv 6 1, Pp (.bld 7 [vI 0, vI 0, vS, nl .jnode, nl .str] [(0, 1, kI 6), (4, 1, 5), (3, 1, 6)]), Sv 5 4 7] .ret)
def ag7 : List RV := [.cell 4 5 true]
theorem arF : FnC Try.prog ajn [] 0 aiQ Try.f118 ag6 ag7 := fnC (by kernel_rfl) Try.func118 (by kernel_rfl) (by kernel_rfl) (by decide)
def ag8 (N : Nat) (a : Bool) (c : Bss) (b : Bool) (d : List aE) : Ro :=
 some (.agg [.int .i64 6, .int .i64 0, .str ([] : Bs), .sl .jnode (.may b) d, .sl .str (.may a) c], [some [.int .i64 6, .int .i64 0, .str ([] : Bs), .sl .jnode (.may b) d, .sl .str (.may a) c]])
def aao (N : Nat) (a : Bool) (c : Bss) (b : Bool) (d : List aE) : Ro := ag8 N a c b d
theorem aps (N : Nat) (a : Bool) (c : Bss) (b : Bool) (d : List aE) : aW ajn N 8 ag7 ag6 [.sl .str (.may a) c, .sl .jnode (.may b) d] [] = aao N a c b d := by kernel_rfl
theorem apt (N : Nat) (a : Bool) (c : Bss) (b : Bool) (d : List aE) (h : Tot (aao N a c b d) (fun z => ∃ (e : Int) (f : Int) (g : Bs) (i : Bool) (j : List aE) (k : Bool) (l : Bss) (rest : List aK), z.1 = .agg [.int .i64 e, .int .i64 f, .str g, .sl .jnode (.may i) j, .sl .str (.may k) l] ∧ z.2 = rest ∧ ade a c b d (e, f, g, i, j, k, l))) : ∃ r, eK a c b d r := by
 obtain ⟨⟨v, hp⟩, hz, e, f, g, i, j, k, l, rest, e1, e2, hq⟩ := h
 simp only at e1 e2
 subst e2
 subst e1
 exact ⟨(e, f, g, i, j, k, l), arF.pure (aps N a c b d) hz, hq⟩
noncomputable def xg : aN := tab (P := Try.prog) [] [] [] []
def ag9 : IR := Sq (Rs [Mv 7 6, Fa 8 4 2, Lq 9 8, Ll 10 9, Bi 11 .lss 7 10] (Cn 11 .skip (.exit 0))) (Sq (.block 1 (Rs [Fa 14 4 2, Lq 15 14, Mv 16 6, Ix 17 .str 15 16, Lq 18 17, Mv 19 1, Bi 20 .eql 18 19] (Cn 20 (Rs [Fa 21 3 2, Lq 22 21, Mv 23 6, Ix 24 .jnode 22 23, Ld 25 5 true 24, Sv 5 4 25, Mb 5 true] .ret) .skip))) (Rg [Mv 12 6, Bc 13 .add 12 1, Mv 6 13]))
def aha : IR := Rs [Pp (.bld 26 [vI 0, vI 0, vS, nl .jnode, nl .str] []), Sv 5 4 26, Mb 5 false] .ret
def adM : IR := Rs [Bx 2 0, Pp (.new 4 [vI 0, vI 0, vS, nl .jnode, nl .str]), Mb 5 false] (Sq (Rs [Mi 6 0] (.block 0 (.loop [1, 2, 4, 6, 1000000] 1 ag9))) aha)
def zj : List RV := [.cell 4 5 true, .t 5]
theorem auN : FnC Try.prog xg [] 0 anD Try.f87 adM zj := fnC (by kernel_rfl) Try.func87 (by kernel_rfl) (by kernel_rfl) (by decide)
def att (R : IR → (Ex → St → Ro) → St → Ro) (a : St → Ro) : Ex → St → Ro := (bz a [1, 2, 4, 6, 1000000] 1 (aR 0 (bp (R aha) (fin zj))))
abbrev sQ : Type := (Bs × Int × Int × Bs × List aE × Bss × Int × Int × Int × Bs × List aE × Bss)
def qT : sQ → St := fun (c, d, e, f, g, h, i, j, k, l, a, b) => { env := (.undef :: .str c :: .ea [.int .i64 d, .int .i64 e, .str f, .sl .jnode (.may false) g, .sl .str (.may false) h] :: .undef :: .ptr 0 0 :: .undef :: .int .i64 i :: (U 20 [])), hp := [some [.int .i64 j, .int .i64 k, .str l, .sl .jnode .own a, .sl .str .own b]] }
def abX (N : Nat) : (St → Ro) → St → Ro := fun a s => run xg N ag9 (att (run xg N) a) s
def xh (N : Nat) (d : sQ → Ro) : sQ → Ro := fun (o, e, f, g, a, b, c, h, i, j, k, m) =>
 let v : Int := (↑(List.length b) : Int)
 cond (decide (c < v)) (
 chk (decide (0 ≤ c) && decide (c < ↑(List.length b))) (
 let w : Bs := List.getD b (Int.toNat c) (aC .str)
 cond (decide (w = o)) (
 chk (decide (0 ≤ c) && decide (c < ↑(List.length a))) (
 let p : Int := (List.getD a (Int.toNat c) (aC .jnode)).kind
 let q : Int := (List.getD a (Int.toNat c) (aC .jnode)).n
 let r : Bs := (List.getD a (Int.toNat c) (aC .jnode)).s
 let t : List aE := (List.getD a (Int.toNat c) (aC .jnode)).l
 let u : Bss := (List.getD a (Int.toNat c) (aC .jnode)).names
 some (.tup [.agg [.int .i64 p, .int .i64 q, .str r, .sl .jnode (.may false) t, .sl .str (.may false) u], .bool true], [some [.int .i64 p, .int .i64 q, .str r, .sl .jnode (.may false) t, .sl .str (.may false) u]]))) (
 let x : Int := (IntKind.wrap .i64 (c + 1))
 d (o, e, f, g, a, b, x, h, i, j, k, m)))) (
 some (.tup [.agg [.int .i64 0, .int .i64 0, .str ([] : Bs), .sl .jnode (.may false) ([] : List aE), .sl .str (.may false) ([] : Bss)], .bool false], [some [.int .i64 0, .int .i64 0, .str ([] : Bs), .sl .jnode .own ([] : List aE), .sl .str .own ([] : Bss)]]))
theorem arG (N : Nat) : ∀ (a : St → Ro) (x : sQ), abX N a (qT x) = xh N (fun y => a (qT y)) x := by
 intro a x
 kernel_rfl
def uL (N : Nat) (a b : Int) (c : Bs) (d : List aE) (e : Bss) (f : Bs) (g : sQ → Ro) : Ro :=
 g (f, a, b, c, d, e, 0, 0, 0, ([] : Bs), ([] : List aE), ([] : Bss))
def adN (N : Nat) (a b : Int) (c : Bs) (d : List aE) (e : Bss) (f : Bs) : Ro := uL N a b c d e f (fun z => aQ N (xh N) z)
def avZ (N : Nat) : List (Nat × (St → Ro)) := ba xg N adM (fin zj) ++ []
theorem atu (N : Nat) (a c : Int) (d : Bs) (e : List aE) (f : Bss) (g : Bs) : aW xg N 27 zj adM [.agg [.int .i64 a, .int .i64 c, .str d, .sl .jnode (.may false) e, .sl .str (.may false) f], .str g] [] = adN N a c d e f g :=
 (bL (avZ N) (by kernel_rfl) rfl (fun C => uL N a c d e f g (fun z => C 1000000 (qT z))) (fun C => by kernel_rfl)).trans (Eq.trans (b := uL N a c d e f g (fun z => bg N (abX N) (qT z))) (by kernel_rfl) (congrArg (uL N a c d e f g) (funext fun z => bc (qT) (abX N) (xh N) (arG N) N z)))
theorem atv (N : Nat) (a b : Int) (c : Bs) (d : List aE) (e : Bss) (f : Bs) (h : Tot (adN N a b c d e f) (fun z => ∃ (g : Int) (i : Int) (j : Bs) (k : List aE) (l : Bss) (m : Bool) (rest : List aK), z.1.dimR = .tup [.agg [.int .i64 g, .int .i64 i, .str j, .sl .jnode (.may false) k, .sl .str (.may false) l], .bool m] ∧ z.2 = rest ∧ vt a b c d e f (g, i, j, k, l, m))) : ∃ r, tO a b c d e f r := by
 obtain ⟨⟨v, hp⟩, hz, g, i, j, k, l, m, rest, e1, e2, hq⟩ := h
 simp only at e1 e2
 subst e2
 exact ⟨(g, i, j, k, l, m), aI.dimR (auN.pure (atu N a b c d e f) hz) e1, hq⟩
noncomputable def anG : aN := tab (P := Try.prog) [] [] [] []
def ali : IR := Rs [Bx 2 0, Mb 4 false] (Rs [Mv 5 1, Bc 6 .geq 5 0, Mv 7 6, Gt 7 (.mov 8 1), Gt 7 (.fad 9 0 2), Gt 7 (.lde 10 1 false 9), Gt 7 (.lenl 11 10), Gt 7 (.bin 12 .lss 8 11), Pa 13 7 12, Mv 4 13] .ret)
def alj : List RV := [.t 4]
theorem auO : FnC Try.prog anG [] 0 anE Try.f45 ali alj := fnC (by kernel_rfl) Try.func45 (by kernel_rfl) (by kernel_rfl) (by decide)
def alk (N : Nat) (a : List aA) (b : Int) : Ro :=
 cond (decide (0 ≤ b)) (
 let c : Int := (↑(List.length a) : Int)
 some (.bool (decide (b < c)), [])) (
 some (.bool false, []))
def adO (N : Nat) (a : List aA) (b : Int) : Ro := alk N a b
theorem atw (N : Nat) (a : List aA) (b : Int) : aW anG N 14 alj ali [.agg [.sl .atype (.may false) a], .int .i64 b] [] = adO N a b := by kernel_rfl
theorem atx (N : Nat) (a : List aA) (b : Int) (h : Tot (adO N a b) (fun z => ∃ (c : Bool) (rest : List aK), z.1.dimR = .bool c ∧ z.2 = rest ∧ vu a b (c))) : ∃ r, lv a b r := by
 obtain ⟨⟨v, hp⟩, hz, c, rest, e1, e2, hq⟩ := h
 simp only at e1 e2
 subst e2
 exact ⟨(c), aI.dimR (auO.pure (atw N a b) hz) e1, hq⟩
noncomputable def sR : aN := tab (P := Try.prog) [] [] [] []
def adi : IR := Sq (Rs [Mv 6 4, Mv 7 3, Ll 8 7, Bi 9 .lss 6 8] (Cn 9 .skip (.exit 0))) (Sq (.block 1 (Rs [Mv 12 3, Mv 13 4, Ix 14 .str 12 13, Lq 15 14, Mv 16 0, Bi 17 .eql 15 16] (Cn 17 (Rs [Mv 18 4, Bc 19 .add 18 1, Mv 2 19] .ret) .skip))) (Rg [Mv 10 4, Bc 11 .add 10 1, Mv 4 11]))
def adj : IR := Rs [Mi 2 0] .ret
def aap : IR := Rs [Mi 2 0] (Rs [Pp (.bsl 5 .str [kS [110, 117, 108, 108], kS [98, 111, 111, 108, 101, 97, 110], kS [105, 110, 116], kS [108, 111, 110, 103], kS [102, 108, 111, 97, 116], kS [100, 111, 117, 98, 108, 101], kS [98, 121, 116, 101, 115], kS [115, 116, 114, 105, 110, 103], kS [114, 101, 99, 111, 114, 100], kS [101, 110, 117, 109], kS [102, 105, 120, 101, 100], kS [97, 114, 114, 97, 121], kS [109, 97, 112], kS [117, 110, 105, 111, 110]] true), Mv 3 5] (Sq (Rs [Mi 4 0] (.block 0 (.loop [0, 3, 4, 1000000] 0 adi))) adj))
def vv : List RV := [.t 2]
theorem arH : FnC Try.prog sR [] 0 aiX Try.f115 aap vv := fnC (by kernel_rfl) Try.func115 (by kernel_rfl) (by kernel_rfl) (by decide)
def apv (R : IR → (Ex → St → Ro) → St → Ro) (a : St → Ro) : Ex → St → Ro := (bz a [0, 3, 4, 1000000] 0 (aR 0 (bp (R adj) (fin vv))))
abbrev oW : Type := (Bs × Bool × Bss × Int)
def m0 : oW → St := fun (a, b, c, d) => { env := (.str a :: .undef :: .undef :: .sl .str (.may b) c :: .int .i64 d :: (U 15 [])), hp := [] }
def yC (N : Nat) : (St → Ro) → St → Ro := fun a s => run sR N adi (apv (run sR N) a) s
def tP (N : Nat) (a : oW → Ro) : oW → Ro := fun (e, c, d, b) =>
 let f : Int := (↑(List.length d) : Int)
 cond (decide (b < f)) (
 chk (decide (0 ≤ b) && decide (b < ↑(List.length d))) (
 let g : Bs := List.getD d (Int.toNat b) (aC .str)
 cond (decide (g = e)) (
 let h : Int := (IntKind.wrap .i64 (b + 1))
 some (.int .i64 h, [])) (
 let i : Int := (IntKind.wrap .i64 (b + 1))
 a (e, c, d, i)))) (
 some (.int .i64 0, []))
theorem anH (N : Nat) : ∀ (a : St → Ro) (x : oW), yC N a (m0 x) = tP N (fun y => a (m0 y)) x := by
 intro a x
 kernel_rfl
def qU (N : Nat) (a : Bs) (b : oW → Ro) : Ro :=
 b (a, true, ([([110, 117, 108, 108] : Bs), ([98, 111, 111, 108, 101, 97, 110] : Bs), ([105, 110, 116] : Bs), ([108, 111, 110, 103] : Bs), ([102, 108, 111, 97, 116] : Bs), ([100, 111, 117, 98, 108, 101] : Bs), ([98, 121, 116, 101, 115] : Bs), ([115, 116, 114, 105, 110, 103] : Bs), ([114, 101, 99, 111, 114, 100] : Bs), ([101, 110, 117, 109] : Bs), ([102, 105, 120, 101, 100] : Bs), ([97, 114, 114, 97, 121] : Bs), ([109, 97, 112] : Bs), ([117, 110, 105, 111, 110] : Bs)] : Bss), 0)
def aaq (N : Nat) (a : Bs) : Ro := qU N a (fun z => aQ N (tP N) z)
def aty (N : Nat) : List (Nat × (St → Ro)) := ba sR N aap (fin vv) ++ []
theorem apx (N : Nat) (a : Bs) : aW sR N 20 vv aap [.str a] [] = aaq N a :=
 (bL (aty N) (by kernel_rfl) rfl (fun C => qU N a (fun z => C 1000000 (m0 z))) (fun C => by kernel_rfl)).trans (Eq.trans (b := qU N a (fun z => bg N (yC N) (m0 z))) (by kernel_rfl) (congrArg (qU N a) (funext fun z => bc (m0) (yC N) (tP N) (anH N) N z)))
theorem apy (N : Nat) (a : Bs) (h : Tot (aaq N a) (fun z => ∃ (b : Int) (rest : List aK), z.1.dimR = .int .i64 b ∧ z.2 = rest ∧ adf a (b))) : ∃ r, ma a r := by
 obtain ⟨⟨v, hp⟩, hz, b, rest, e1, e2, hq⟩ := h
 simp only at e1 e2
 subst e2
 exact ⟨(b), aI.dimR (arH.pure (apx N a) hz) e1, hq⟩
noncomputable def ajo : aN := tab (P := Try.prog) [] [] [] []
def ahb : IR := Rs [Ms 2 []] (Rs [Pp (.bsl 4 .str [kS [], kS [110, 117, 108, 108], kS [98, 111, 111, 108, 101, 97, 110], kS [105, 110, 116], kS [108, 111, 110, 103], kS [102, 108, 111, 97, 116], kS [100, 111, 117, 98, 108, 101], kS [98, 121, 116, 101, 115], kS [115, 116, 114, 105, 110, 103], kS [114, 101, 99, 111, 114, 100], kS [101, 110, 117, 109], kS [102, 105, 120, 101, 100], kS [97, 114, 114, 97, 121], kS [109, 97, 112], kS [117, 110, 105, 111, 110]] true), Mv 3 4] (Sq (Rs [Mv 5 0, Bc 6 .lss 5 1, Mv 7 6, Gf 7 (.mov 8 0), Gf 7 (.bin 9 .gtr 8 (kI 14)), Po 10 7 9] (Cn 10 (Rs [Ms 2 []] .ret) .skip)) (Rs [Mv 11 3, Mv 12 0, Ix 13 .str 11 12, Lq 14 13, Mv 2 14] .ret)))
def ahc : List RV := [.t 2]
theorem arI : FnC Try.prog ajo [] 0 aiW Try.f158 ahb ahc := fnC (by kernel_rfl) Try.func158 (by kernel_rfl) (by kernel_rfl) (by decide)
def ahd (N : Nat) (a : Int) : Ro :=
 cond (decide (a < 1)) (
 some (.str ([] : Bs), [])) (
 cond (decide (14 < a)) (
 some (.str ([] : Bs), [])) (
 chk (decide (0 ≤ a) && decide (a < ↑(List.length ([([] : Bs), ([110, 117, 108, 108] : Bs), ([98, 111, 111, 108, 101, 97, 110] : Bs), ([105, 110, 116] : Bs), ([108, 111, 110, 103] : Bs), ([102, 108, 111, 97, 116] : Bs), ([100, 111, 117, 98, 108, 101] : Bs), ([98, 121, 116, 101, 115] : Bs), ([115, 116, 114, 105, 110, 103] : Bs), ([114, 101, 99, 111, 114, 100] : Bs), ([101, 110, 117, 109] : Bs), ([102, 105, 120, 101, 100] : Bs), ([97, 114, 114, 97, 121] : Bs), ([109, 97, 112] : Bs), ([117, 110, 105, 111, 110] : Bs)] : Bss)))) (
 let b : Bs := List.getD ([([] : Bs), ([110, 117, 108, 108] : Bs), ([98, 111, 111, 108, 101, 97, 110] : Bs), ([105, 110, 116] : Bs), ([108, 111, 110, 103] : Bs), ([102, 108, 111, 97, 116] : Bs), ([100, 111, 117, 98, 108, 101] : Bs), ([98, 121, 116, 101, 115] : Bs), ([115, 116, 114, 105, 110, 103] : Bs), ([114, 101, 99, 111, 114, 100] : Bs), ([101, 110, 117, 109] : Bs), ([102, 105, 120, 101, 100] : Bs), ([97, 114, 114, 97, 121] : Bs), ([109, 97, 112] : Bs), ([117, 110, 105, 111, 110] : Bs)] : Bss) (Int.toNat a) (aC .str)
 some (.str b, []))))
def aar (N : Nat) (a : Int) : Ro := ahd N a
theorem apz (N : Nat) (a : Int) : aW ajo N 15 ahc ahb [.int .i64 a] [] = aar N a := by kernel_rfl
theorem apA (N : Nat) (a : Int) (h : Tot (aar N a) (fun z => ∃ (b : Bs) (rest : List aK), z.1.dimR = .str b ∧ z.2 = rest)) : ∃ r, sL a r := by
 obtain ⟨⟨v, hp⟩, hz, b, rest, e1, e2⟩ := h
 simp only at e1 e2
 subst e2
 exact ⟨(b), aI.dimR (arI.pure (apz N a) hz) e1⟩
noncomputable def uM : aN := tab (P := Try.prog) [] [] [] []
def aeH : IR := Sq (Rs [Mv 8 7, Fa 9 3 3, Lo 10 9, Ll 11 10, Bi 12 .lss 8 11, Mv 13 12, Gt 13 (.fad 14 3 3), Gt 13 (.ld 15 1 false false 14), Gt 13 (.mov 16 7), Gt 13 (.ixa 17 .str 15 16), Gt 13 (.lde 18 1 false 17), Gt 13 (.mov 19 1), Gt 13 (.bin 20 .lss 18 19), Pa 21 13 20] (Cn 21 .skip (.exit 0))) (.block 1 (Rg [Mv 22 7, Bc 23 .add 22 1, Mv 7 23]))
def adk : IR := Sq (Rs [Mv 24 7, Fa 25 3 3, Lo 26 25, Ll 27 26, Bi 28 .lss 24 27, Mv 29 28, Gt 29 (.fad 30 3 3), Gt 29 (.ld 31 1 false false 30), Gt 29 (.mov 32 7), Gt 29 (.ixa 33 .str 31 32), Gt 29 (.lde 34 1 false 33), Gt 29 (.mov 35 1), Gt 29 (.bin 36 .eql 34 35), Pa 37 29 36] (Cn 37 (Rs [Pp (.blu 38 .aval), Fa 39 2 3, Lo 40 39, Pp (.apu 41 .aval (.tk 38) 40), Fa 42 2 3, Sk 1 42 41] (Sq (.gh (.opn (.cell 0 2)) (.ghp (.cls (.cell 0 2)) (Rg [Fa 43 2 3, Lo 44 43, Mv 45 7, Ld 46 5 true 5, Pp (.ixw 47 .aval 44 45), Pp (.stw none 5 47 46)]))) (Sq (.gh (.fz (.cell 0 2)) (Rg [Pp (.ld 48 5 true false 3), Sv 5 6 48])) .ret))) .skip)) (Sq (.reg [Pp (.bsl 49 .str [] false), Fa 50 3 3, Fo [0] [] (.ld 51 1 false false 50), Mv 52 7, Pp (.subl 53 .str 51 none (some 52)), Pp (.app 54 .str (.tk 49) 53), Mv 55 1, Pp (.bsl 56 .str [55] true), Pp (.app 57 .str (.tk 54) 56), Fa 58 3 3, Fo [0] [] (.ld 59 1 false false 58), Mv 60 7, Pp (.subl 61 .str 59 (some 60) none), Pp (.app 62 .str (.tk 57) 61), Fa 63 3 3, Fo [] [0] (.st none 1 63 (.tk 62))] [[], [], [1], [], [1, 2, 3], rg 0 4, [], [6], rg 0 7, [], [9], [], [9, 10, 11], rg 0 12, rg 0 13, rg 0 14]) (Sq (.reg [Pp (.blu 64 .aval), Fa 65 2 3, Fo [0] [] (.ld 66 1 false false 65), Mv 67 7, Pp (.subl 68 .aval 66 none (some 67)), Pp (.apu 69 .aval (.tk 64) 68), Ld 70 5 true 5, Pp (.bsl 71 .aval [70] true), Pp (.apu 72 .aval (.tk 69) 71), Fa 73 2 3, Fo [0] [] (.ld 74 1 false false 73), Mv 75 7, Pp (.subl 76 .aval 74 (some 75) none), Pp (.apu 77 .aval (.tk 72) 76), Fa 78 2 3, Fo [] [0] (.st none 1 78 (.tk 77))] [[], [], [1], [], [1, 2, 3], rg 0 4, [], [6], rg 0 7, [], [9], [], [9, 10, 11], rg 0 12, rg 0 13, rg 0 14]) (Sq (.gh (.fz (.cell 0 2)) (Rg [Pp (.ld 79 5 true false 3), Sv 5 6 79])) .ret)))
def abY : IR := Rs [Pp (.box 3 0), Bx 5 2, Pp (.new 6 [vU 0, vS, nl .aval, nl .str, vI 0])] (Rs [Mi 7 0] (Sq (.block 0 (.loop [1, 3, 5, 6, 7, 1000000] 2 aeH)) adk))
def xi : List RV := [.cell 6 5 true]
theorem atz : FnC Try.prog uM [] 0 ak9 Try.f61 abY xi := fnC (by kernel_rfl) Try.func61 (by kernel_rfl) (by kernel_rfl) (by decide)
def arJ (R : IR → (Ex → St → Ro) → St → Ro) (a : St → Ro) : Ex → St → Ro := (bz a [1, 3, 5, 6, 7, 1000000] 2 (aR 0 (bp (R adk) (fin xi))))
abbrev qV : Type := (Bs × Int × Bs × List aB × Bss × Int × Int × Int × Bs × List aB × Bss × Int × Int × Bs × List aB × Bss × Int)
def oX : qV → St := fun (h, i, j, k, l, m, n, o, p, q, a, b, c, d, e, f, g) => { env := (.undef :: .str h :: .undef :: .ptr 0 0 :: .undef :: .ea [.int .u64 i, .str j, .sl .aval (.may false) k, .sl .str (.may false) l, .int .i64 m] :: .ptr 1 0 :: .int .i64 n :: (U 72 [])), hp := [some [.int .u64 o, .str p, .sl .aval (.may false) q, .sl .str (.may false) a, .int .i64 b], some [.int .u64 c, .str d, .sl .aval .own e, .sl .str .own f, .int .i64 g]] }
def aas (N : Nat) : (St → Ro) → St → Ro := fun a s => run uM N aeH (arJ (run uM N) a) s
def vw (N : Nat) (n : qV → Ro) : qV → Ro := fun (l, g, h, i, j, k, c, d, e, b, a, f, af, ag, ah, ai, aj) =>
 let x1 : Int := (↑(List.length a) : Int)
 cond (decide (c < x1)) (
 chk (decide (0 ≤ c) && decide (c < ↑(List.length a))) (
 let x2 : Bs := List.getD a (Int.toNat c) (aC .str)
 cond (Op.bytesLess x2 l) (
 let x3 : Int := (IntKind.wrap .i64 (c + 1))
 n (l, g, h, i, j, k, x3, d, e, b, a, f, af, ag, ah, ai, aj)) (
 let x4 : Int := (↑(List.length a) : Int)
 cond (decide (c < x4)) (
 chk (decide (0 ≤ c) && decide (c < ↑(List.length a))) (
 let x5 : Bs := List.getD a (Int.toNat c) (aC .str)
 cond (decide (x5 = l)) (
 chk (decide ((List.length ([] : List aB) + List.length b) * 80 ≤ 140737488355328)) (
 let x6 : List aB := (([] : List aB) ++ b)
 chk (decide (0 < List.length x6)) (
 chk (decide (0 ≤ c) && decide (c < ↑(List.length x6))) (
 chk (decide ((Int.toNat c) < List.length x6)) (
 let x7 : List aB := (List.set x6 (Int.toNat c) ⟨g, h, i, j, k⟩)
 chk (Nat.beq (List.length x6) (List.length x7)) (
 some (.agg [.int .u64 d, .str e, .sl .aval (.may false) x7, .sl .str (.may false) a, .int .i64 f], [some [.int .u64 d, .str e, .sl .aval .own x7, .sl .str (.may false) a, .int .i64 f], some [.int .u64 d, .str e, .sl .aval (.may false) x7, .sl .str (.may false) a, .int .i64 f], none, none]))))))) (
 chk (decide (0 ≤ c) && decide (c ≤ (↑(List.length a) : Int))) (
 let x8 : Bss := (List.drop 0 (List.take (Int.toNat c) a))
 chk (decide ((List.length ([] : Bss) + List.length x8) * 16 ≤ 140737488355328)) (
 let x9 : Bss := (([] : Bss) ++ x8)
 chk (decide ((List.length x9 + List.length ([l] : Bss)) * 16 ≤ 140737488355328)) (
 let o : Bss := (x9 ++ ([l] : Bss))
 chk (decide (0 ≤ c) && decide (c ≤ (↑(List.length a) : Int))) (
 let p : Bss := (List.drop (Int.toNat c) (List.take (List.length a) a))
 chk (decide ((List.length o + List.length p) * 16 ≤ 140737488355328)) (
 chk (decide (0 ≤ c) && decide (c ≤ (↑(List.length b) : Int))) (
 let al : List aB := (List.drop 0 (List.take (Int.toNat c) b))
 chk (decide ((List.length ([] : List aB) + List.length al) * 80 ≤ 140737488355328)) (
 let am : List aB := (([] : List aB) ++ al)
 chk (decide ((List.length am + List.length ([⟨g, h, i, j, k⟩] : List aB)) * 80 ≤ 140737488355328)) (
 let q : List aB := (am ++ ([⟨g, h, i, j, k⟩] : List aB))
 chk (decide (0 ≤ c) && decide (c ≤ (↑(List.length b) : Int))) (
 let r : List aB := (List.drop (Int.toNat c) (List.take (List.length b) b))
 chk (decide ((List.length q + List.length r) * 80 ≤ 140737488355328)) (
 some (.agg [.int .u64 d, .str e, .sl .aval (.may false) (q ++ r), .sl .str (.may false) (o ++ p), .int .i64 f], [some [.int .u64 d, .str e, .sl .aval .own (q ++ r), .sl .str .own (o ++ p), .int .i64 f], some [.int .u64 d, .str e, .sl .aval (.may false) (q ++ r), .sl .str (.may false) (o ++ p), .int .i64 f]])))))))))))))) (
 chk (decide (0 ≤ c) && decide (c ≤ (↑(List.length a) : Int))) (
 let an : Bss := (List.drop 0 (List.take (Int.toNat c) a))
 chk (decide ((List.length ([] : Bss) + List.length an) * 16 ≤ 140737488355328)) (
 let ao : Bss := (([] : Bss) ++ an)
 chk (decide ((List.length ao + List.length ([l] : Bss)) * 16 ≤ 140737488355328)) (
 let s : Bss := (ao ++ ([l] : Bss))
 chk (decide (0 ≤ c) && decide (c ≤ (↑(List.length a) : Int))) (
 let t : Bss := (List.drop (Int.toNat c) (List.take (List.length a) a))
 chk (decide ((List.length s + List.length t) * 16 ≤ 140737488355328)) (
 chk (decide (0 ≤ c) && decide (c ≤ (↑(List.length b) : Int))) (
 let ap : List aB := (List.drop 0 (List.take (Int.toNat c) b))
 chk (decide ((List.length ([] : List aB) + List.length ap) * 80 ≤ 140737488355328)) (
 let aq : List aB := (([] : List aB) ++ ap)
 chk (decide ((List.length aq + List.length ([⟨g, h, i, j, k⟩] : List aB)) * 80 ≤ 140737488355328)) (
 let u : List aB := (aq ++ ([⟨g, h, i, j, k⟩] : List aB))
 chk (decide (0 ≤ c) && decide (c ≤ (↑(List.length b) : Int))) (
 let v : List aB := (List.drop (Int.toNat c) (List.take (List.length b) b))
 chk (decide ((List.length u + List.length v) * 80 ≤ 140737488355328)) (
 some (.agg [.int .u64 d, .str e, .sl .aval (.may false) (u ++ v), .sl .str (.may false) (s ++ t), .int .i64 f], [some [.int .u64 d, .str e, .sl .aval .own (u ++ v), .sl .str .own (s ++ t), .int .i64 f], some [.int .u64 d, .str e, .sl .aval (.may false) (u ++ v), .sl .str (.may false) (s ++ t), .int .i64 f]]))))))))))))))) (
 let a2 : Int := (↑(List.length a) : Int)
 cond (decide (c < a2)) (
 chk (decide (0 ≤ c) && decide (c < ↑(List.length a))) (
 let a3 : Bs := List.getD a (Int.toNat c) (aC .str)
 cond (decide (a3 = l)) (
 chk (decide ((List.length ([] : List aB) + List.length b) * 80 ≤ 140737488355328)) (
 let m : List aB := (([] : List aB) ++ b)
 chk (decide (0 < List.length m)) (
 chk (decide (0 ≤ c) && decide (c < ↑(List.length m))) (
 chk (decide ((Int.toNat c) < List.length m)) (
 let w : List aB := (List.set m (Int.toNat c) ⟨g, h, i, j, k⟩)
 chk (Nat.beq (List.length m) (List.length w)) (
 some (.agg [.int .u64 d, .str e, .sl .aval (.may false) w, .sl .str (.may false) a, .int .i64 f], [some [.int .u64 d, .str e, .sl .aval .own w, .sl .str (.may false) a, .int .i64 f], some [.int .u64 d, .str e, .sl .aval (.may false) w, .sl .str (.may false) a, .int .i64 f], none, none]))))))) (
 chk (decide (0 ≤ c) && decide (c ≤ (↑(List.length a) : Int))) (
 let ar : Bss := (List.drop 0 (List.take (Int.toNat c) a))
 chk (decide ((List.length ([] : Bss) + List.length ar) * 16 ≤ 140737488355328)) (
 let au : Bss := (([] : Bss) ++ ar)
 chk (decide ((List.length au + List.length ([l] : Bss)) * 16 ≤ 140737488355328)) (
 let x : Bss := (au ++ ([l] : Bss))
 chk (decide (0 ≤ c) && decide (c ≤ (↑(List.length a) : Int))) (
 let y : Bss := (List.drop (Int.toNat c) (List.take (List.length a) a))
 chk (decide ((List.length x + List.length y) * 16 ≤ 140737488355328)) (
 chk (decide (0 ≤ c) && decide (c ≤ (↑(List.length b) : Int))) (
 let av : List aB := (List.drop 0 (List.take (Int.toNat c) b))
 chk (decide ((List.length ([] : List aB) + List.length av) * 80 ≤ 140737488355328)) (
 let aw : List aB := (([] : List aB) ++ av)
 chk (decide ((List.length aw + List.length ([⟨g, h, i, j, k⟩] : List aB)) * 80 ≤ 140737488355328)) (
 let z : List aB := (aw ++ ([⟨g, h, i, j, k⟩] : List aB))
 chk (decide (0 ≤ c) && decide (c ≤ (↑(List.length b) : Int))) (
 let aa : List aB := (List.drop (Int.toNat c) (List.take (List.length b) b))
 chk (decide ((List.length z + List.length aa) * 80 ≤ 140737488355328)) (
 some (.agg [.int .u64 d, .str e, .sl .aval (.may false) (z ++ aa), .sl .str (.may false) (x ++ y), .int .i64 f], [some [.int .u64 d, .str e, .sl .aval .own (z ++ aa), .sl .str .own (x ++ y), .int .i64 f], some [.int .u64 d, .str e, .sl .aval (.may false) (z ++ aa), .sl .str (.may false) (x ++ y), .int .i64 f]])))))))))))))) (
 chk (decide (0 ≤ c) && decide (c ≤ (↑(List.length a) : Int))) (
 let ax : Bss := (List.drop 0 (List.take (Int.toNat c) a))
 chk (decide ((List.length ([] : Bss) + List.length ax) * 16 ≤ 140737488355328)) (
 let ay : Bss := (([] : Bss) ++ ax)
 chk (decide ((List.length ay + List.length ([l] : Bss)) * 16 ≤ 140737488355328)) (
 let ab : Bss := (ay ++ ([l] : Bss))
 chk (decide (0 ≤ c) && decide (c ≤ (↑(List.length a) : Int))) (
 let ac : Bss := (List.drop (Int.toNat c) (List.take (List.length a) a))
 chk (decide ((List.length ab + List.length ac) * 16 ≤ 140737488355328)) (
 chk (decide (0 ≤ c) && decide (c ≤ (↑(List.length b) : Int))) (
 let az : List aB := (List.drop 0 (List.take (Int.toNat c) b))
 chk (decide ((List.length ([] : List aB) + List.length az) * 80 ≤ 140737488355328)) (
 let a0 : List aB := (([] : List aB) ++ az)
 chk (decide ((List.length a0 + List.length ([⟨g, h, i, j, k⟩] : List aB)) * 80 ≤ 140737488355328)) (
 let ad : List aB := (a0 ++ ([⟨g, h, i, j, k⟩] : List aB))
 chk (decide (0 ≤ c) && decide (c ≤ (↑(List.length b) : Int))) (
 let ae : List aB := (List.drop (Int.toNat c) (List.take (List.length b) b))
 chk (decide ((List.length ad + List.length ae) * 80 ≤ 140737488355328)) (
 some (.agg [.int .u64 d, .str e, .sl .aval (.may false) (ad ++ ae), .sl .str (.may false) (ab ++ ac), .int .i64 f], [some [.int .u64 d, .str e, .sl .aval .own (ad ++ ae), .sl .str .own (ab ++ ac), .int .i64 f], some [.int .u64 d, .str e, .sl .aval (.may false) (ad ++ ae), .sl .str (.may false) (ab ++ ac), .int .i64 f]])))))))))))))
theorem apB (N : Nat) : ∀ (a : St → Ro) (x : qV), aas N a (oX x) = vw N (fun y => a (oX y)) x := by
 intro a x
 kernel_rfl
def sS (N : Nat) (a : Int) (b : Bs) (c : List aB) (d : Bss) (e : Int) (k : Bs) (f : Int) (g : Bs) (h : List aB) (i : Bss) (j : Int) (l : qV → Ro) : Ro :=
 l (k, f, g, h, i, j, 0, a, b, c, d, e, 0, ([] : Bs), ([] : List aB), ([] : Bss), 0)
def abZ (N : Nat) (a : Int) (b : Bs) (c : List aB) (d : Bss) (e : Int) (k : Bs) (f : Int) (g : Bs) (h : List aB) (i : Bss) (j : Int) : Ro := sS N a b c d e k f g h i j (fun z => aQ N (vw N) z)
def auP (N : Nat) : List (Nat × (St → Ro)) := ba uM N abY (fin xi) ++ []
theorem arK (N : Nat) (a : Int) (c : Bs) (d : List aB) (e : Bss) (f : Int) (l : Bs) (g : Int) (h : Bs) (i : List aB) (j : Bss) (k : Int) : aW uM N 80 xi abY [.agg [.int .u64 a, .str c, .sl .aval (.may false) d, .sl .str (.may false) e, .int .i64 f], .str l, .agg [.int .u64 g, .str h, .sl .aval (.may false) i, .sl .str (.may false) j, .int .i64 k]] [] = abZ N a c d e f l g h i j k :=
 (bL (auP N) (by kernel_rfl) rfl (fun C => sS N a c d e f l g h i j k (fun z => C 1000000 (oX z))) (fun C => by kernel_rfl)).trans (Eq.trans (b := sS N a c d e f l g h i j k (fun z => bg N (aas N) (oX z))) (by kernel_rfl) (congrArg (sS N a c d e f l g h i j k) (funext fun z => bc (oX) (aas N) (vw N) (apB N) N z)))
theorem arL (N : Nat) (a : Int) (b : Bs) (c : List aB) (d : Bss) (e : Int) (l : Bs) (f : Int) (g : Bs) (i : List aB) (j : Bss) (k : Int) (h : Tot (abZ N a b c d e l f g i j k) (fun z => ∃ (m : Int) (n : Bs) (o : List aB) (p : Bss) (q : Int) (rest : List aK), z.1.dimR = .agg [.int .u64 m, .str n, .sl .aval (.may false) o, .sl .str (.may false) p, .int .i64 q] ∧ z.2 = rest ∧ aeB a b c d e l f g i j k (m, n, o, p, q))) : ∃ r, jA a b c d e l f g i j k r := by
 obtain ⟨⟨v, hp⟩, hz, m, n, o, p, q, rest, e1, e2, hq⟩ := h
 simp only at e1 e2
 subst e2
 exact ⟨(m, n, o, p, q), aI.dimR (atz.pure (arK N a b c d e l f g i j k) hz) e1, hq⟩
noncomputable def zC : aN := tab (P := Try.prog) [] [] [] []
def yb : IR := Rs [Mi 4 0] (Sq (Rs [Mv 5 0, Nk 6 5, Fa 7 1 6, Lo 8 7, Bc 9 .eql 8 0] (Cn 9 (Rg [Mv 10 0, Mv 11 1, Nk 12 10, Fa 13 1 12, Sv 1 13 11]) .skip)) (Rs [Mi 4 0] .ret))
def yc : List RV := [.t 4]
theorem ahX : FnC Try.prog zC [] 1 zt Try.f110 yb yc := fnC (by kernel_rfl) Try.func110 (by kernel_rfl) (by kernel_rfl) (by decide)
def yd (N : Nat) (a : List aA) (b c : Int) : Ro :=
 cond (b == 0) (
 some (.int .i64 0, [some [.ul .atype a, .int .i64 c]])) (
 some (.int .i64 0, [some [.ul .atype a, .int .i64 b]]))
def rx (N : Nat) (a : List aA) (b c : Int) : Ro := yd N a b c
theorem agb (N : Nat) (a : List aA) (b c : Int) : aW zC N 14 yc yb [.ptr 0 0, .int .i64 c] [some [.ul .atype a, .int .i64 b]] = rx N a b c := by kernel_rfl
theorem agc (N : Nat) (a : List aA) (b e : Int) (h : Tot (rx N a b e) (fun z => ∃ (f : Int) (c : List aA) (d : Int) (rest : List aK), z.1.dimR = .int .i64 f ∧ z.2 = some [.ul .atype c, .int .i64 d] :: rest ∧ kj a b e (f, c, d))) : ∃ r, aL a b e r := by
 obtain ⟨⟨v, hp⟩, hz, f, c, d, rest, e1, e2, hq⟩ := h
 simp only at e1 e2
 subst e2
 exact ⟨(f, c, d), bk.dimR (FnC.objs (css := [[.ul .atype a, .int .i64 b]]) (css' := [[.ul .atype c, .int .i64 d]]) ahX (agb N a b e) hz rfl) e1, hq⟩
noncomputable def aa2 : aN := tab (P := Try.prog) [] [cH] [] []
def zD : IR := Rs [Bx 3 1, Mi 4 0] (Sq (Rs [Mv 5 0, Nk 6 5, Fa 7 0 6, Fa 8 0 7, Lo 9 8, Pp (.lnw 10 9), Bc 11 .geq 10 60] (Cn 11 (Rs [Mv 12 0, Ca 13 110 [12, kI 3], Mv 4 13] .ret) .skip)) (Sq (.reg [Mv 14 0, Mv 15 0, Nk 16 15, Fa 17 0 16, Fa 18 0 17, Fo [] [0] (.ld 19 1 false true 18), Ld 20 10 true 3, Pp (.bsl 21 .atype [20] true), Pp (.apu 22 .atype (.tk 19) 21), Nk 23 14, Fa 24 0 23, Fa 25 0 24, Fo [] [0] (.st none 1 25 (.tk 22))] [[], [], [1], [1, 2], [1, 2, 3], rg 1 4, [], [6], rg 1 7, rg 0 8, rg 0 9, rg 0 10, rg 0 11]) (Rs [Mv 26 0, Nk 27 26, Fa 28 0 27, Fa 29 0 28, Lo 30 29, Pp (.lnw 31 30), Bc 32 .sub 31 1, Mv 4 32] .ret)))
def zE : List RV := [.t 4]
theorem ajp : FnC Try.prog aa2 [110, 2000110] 1 aaW Try.f116 zD zE := fnC (by kernel_rfl) Try.func116 (by kernel_rfl) (by kernel_rfl) (by decide)
def zF (N : Nat) (a : List aA) (b c : Int) (d : Bs) (e : Bss) (f : Int) (g : Bss) (h : Bool) (i : Bs) (j : Int) (k : List aM) (l : List Int) : Ro :=
 let o : Int := (↑(List.length a) : Int)
 cond (decide (60 ≤ o)) (
 aH (aL a b 3) (fun m =>
 some (.int .i64 m.1, [some [.ul .atype m.2.1, .int .i64 m.2.2]]))) (
 chk (decide ((List.length a + List.length ([⟨c, d, e, f, g, h, i, j, k, l⟩] : List aA)) * 160 ≤ 140737488355328)) (
 let n : List aA := (a ++ ([⟨c, d, e, f, g, h, i, j, k, l⟩] : List aA))
 let p : Int := (↑(List.length n) : Int)
 let q : Int := (IntKind.wrap .i64 (p - 1))
 some (.int .i64 q, [some [.ul .atype n, .int .i64 b]])))
def sT (N : Nat) (a : List aA) (b c : Int) (d : Bs) (e : Bss) (f : Int) (g : Bss) (h : Bool) (i : Bs) (j : Int) (k : List aM) (l : List Int) : Ro := zF N a b c d e f g h i j k l
theorem ahY (N : Nat) (a : List aA) (b c : Int) (d : Bs) (e : Bss) (f : Int) (g : Bss) (h : Bool) (i : Bs) (j : Int) (k : List aM) (l : List Int) : aW aa2 N 33 zE zD [.ptr 0 0, .agg [.int .i64 c, .str d, .sl .str (.may false) e, .int .i64 f, .sl .str (.may false) g, .bool h, .str i, .int .i64 j, .sl .afield (.may false) k, .sl (.num .i64) (.may false) l]] [some [.ul .atype a, .int .i64 b]] = sT N a b c d e f g h i j k l := by kernel_rfl
theorem ahZ (N : Nat) (a : List aA) (b c : Int) (d : Bs) (e : Bss) (f : Int) (g : Bss) (i : Bool) (j : Bs) (k : Int) (l : List aM) (m : List Int) (h : Tot (sT N a b c d e f g i j k l m) (fun z => ∃ (p : Int) (n : List aA) (o : Int) (rest : List aK), z.1.dimR = .int .i64 p ∧ z.2 = some [.ul .atype n, .int .i64 o] :: rest ∧ lu a b c d e f g i j k l m (p, n, o))) : ∃ r, en a b c d e f g i j k l m r := by
 obtain ⟨⟨v, hp⟩, hz, p, n, o, rest, e1, e2, hq⟩ := h
 simp only at e1 e2
 subst e2
 exact ⟨(p, n, o), bk.dimR (FnC.objs (css := [[.ul .atype a, .int .i64 b]]) (css' := [[.ul .atype n, .int .i64 o]]) ajp (ahY N a b c d e f g i j k l m) hz rfl) e1, hq⟩
noncomputable def j7 : aN := tab (P := Try.prog) [] [] [] []
def wv : IR := Sq (Rs [Mv 8 6, Mv 9 0, Nk 10 9, Fa 11 0 10, Fa 12 0 11, Lo 13 12, Pp (.lnw 14 13), Bi 15 .lss 8 14] (Cn 15 .skip (.exit 0))) (Sq (.block 1 (Sq (.gh (.opn (.cell 0 0)) (.ghp (.cls (.cell 0 0)) (Rg [Mv 18 0, Nk 19 18, Fa 20 0 19, Fa 21 0 20, Lo 22 21, Mv 23 6, Pp (.ixw 24 .atype 22 23), Pp (.ldw 25 10 true 24), Pp (.alr 7 10), Fz 7 10 25]))) (Rs [Fa 26 1 7, Lq 27 26, Mv 28 1, Bi 29 .eql 27 28, Mv 30 29, Gt 30 (.fad 31 0 7), Gt 30 (.lde 32 1 false 31), Gt 30 (.bin 33 .geq 32 (kI 9)), Pa 34 30 33, Mv 35 34, Gt 35 (.fad 36 0 7), Gt 35 (.lde 37 1 false 36), Gt 35 (.bin 38 .leq 37 (kI 11)), Pa 39 35 38] (Cn 39 (Rs [Mv 40 6, Mv 4 40, Mb 5 true] .ret) .skip)))) (Rg [Mv 16 6, Bc 17 .add 16 1, Mv 6 17]))
def ww : IR := Rs [Mi 4 0, Mb 5 false] .ret
def ry : IR := Rs [Mi 4 0, Mb 5 false] (Sq (Rs [Mi 6 0] (.block 0 (.loop [0, 1, 6, 1000000] 1 wv))) ww)
def mD : List RV := [.t 4, .t 5]
theorem ah0 : FnC Try.prog j7 [] 1 zu Try.f138 ry mD := fnC (by kernel_rfl) Try.func138 (by kernel_rfl) (by kernel_rfl) (by decide)
def agd (R : IR → (Ex → St → Ro) → St → Ro) (a : St → Ro) : Ex → St → Ro := (bz a [0, 1, 6, 1000000] 1 (aR 0 (bp (R ww) (fin mD))))
abbrev gB : Type := (Bs × Int × List aA × Int)
def fY : gB → St := fun (a, b, c, d) => { env := (.ptr 0 0 :: .str a :: (U 4 (.int .i64 b :: (U 34 [])))), hp := [some [.ul .atype c, .int .i64 d]] }
def p5 (N : Nat) : (St → Ro) → St → Ro := fun a s => run j7 N wv (agd (run j7 N) a) s
def lz (N : Nat) (b : gB → Ro) : gB → Ro := fun (e, d, a, c) =>
 let j : Int := (↑(List.length a) : Int)
 cond (decide (d < j)) (
 chk (decide (0 < List.length a)) (
 chk (decide (0 ≤ d) && decide (d < ↑(List.length a))) (
 chk (decide ((Int.toNat d) < List.length a)) (
 let i : Int := (List.getD a (Int.toNat d) (aC .atype)).kind
 let k : Bs := (List.getD a (Int.toNat d) (aC .atype)).name
 chk (Nat.beq (List.length a) (List.length a)) (
 cond (decide (k = e)) (
 cond (decide (9 ≤ i)) (
 cond (decide (i ≤ 11)) (
 some (.tup [.int .i64 d, .bool true], [some [.ul .atype a, .int .i64 c], none, none])) (
 let f : Int := (IntKind.wrap .i64 (d + 1))
 b (e, f, a, c))) (
 let g : Int := (IntKind.wrap .i64 (d + 1))
 b (e, g, a, c))) (
 let h : Int := (IntKind.wrap .i64 (d + 1))
 b (e, h, a, c))))))) (
 some (.tup [.int .i64 0, .bool false], [some [.ul .atype a, .int .i64 c]]))
theorem aeI (N : Nat) : ∀ (a : St → Ro) (x : gB), p5 N a (fY x) = lz N (fun y => a (fY y)) x := by
 intro a x
 kernel_rfl
def iU (N : Nat) (a : List aA) (b : Int) (c : Bs) (d : gB → Ro) : Ro :=
 d (c, 0, a, b)
def rz (N : Nat) (a : List aA) (b : Int) (c : Bs) : Ro := iU N a b c (fun z => aQ N (lz N) z)
def ajq (N : Nat) : List (Nat × (St → Ro)) := ba j7 N ry (fin mD) ++ []
theorem age (N : Nat) (a : List aA) (c : Int) (d : Bs) : aW j7 N 41 mD ry [.ptr 0 0, .str d] [some [.ul .atype a, .int .i64 c]] = rz N a c d :=
 (bL (ajq N) (by kernel_rfl) rfl (fun C => iU N a c d (fun z => C 1000000 (fY z))) (fun C => by kernel_rfl)).trans (Eq.trans (b := iU N a c d (fun z => bg N (p5 N) (fY z))) (by kernel_rfl) (congrArg (iU N a c d) (funext fun z => bc (fY) (p5 N) (lz N) (aeI N) N z)))
theorem agf (N : Nat) (a : List aA) (b : Int) (e : Bs) (h : Tot (rz N a b e) (fun z => ∃ (f : Int) (g : Bool) (c : List aA) (d : Int) (rest : List aK), z.1.dimR = .tup [.int .i64 f, .bool g] ∧ z.2 = some [.ul .atype c, .int .i64 d] :: rest ∧ wq a b e (f, g, c, d))) : ∃ r, cI a b e r := by
 obtain ⟨⟨v, hp⟩, hz, f, g, c, d, rest, e1, e2, hq⟩ := h
 simp only at e1 e2
 subst e2
 exact ⟨(f, g, c, d), bk.dimR (FnC.objs (css := [[.ul .atype a, .int .i64 b]]) (css' := [[.ul .atype c, .int .i64 d]]) ah0 (age N a b e) hz rfl) e1, hq⟩
noncomputable def ye : aN := tab (P := Try.prog) [] [ya] [] []
def xj : IR := Rs [Pp (.new 2 [vI 0, vI 0, vS, nl .jnode, nl .str])] (Rs [Pp (.bsl 4 .str [kS [84, 111, 112]] false), Pp (.new 3 [nl .str]), Sk 1 3 4] (Rs [Mv 5 0, Ca 6 73 [5, kS [84, 111, 112], kI 0, 3], Sv 5 2 6] .ret))
def xk : List RV := [.cell 2 5 true]
theorem agh : FnC Try.prog ye [73, 2000073] 1 xU Try.f40 xj xk := fnC (by kernel_rfl) Try.func40 (by kernel_rfl) (by kernel_rfl) (by decide)
def xl (N : Nat) (b : Bs) (c : Int) : Ro :=
 aH (fl b c ([([84, 111, 112] : Bs)] : Bss) ([84, 111, 112] : Bs) 0) (fun a =>
 some (.agg [.int .i64 a.1, .int .i64 a.2.1, .str a.2.2.1, .sl .jnode (.may false) a.2.2.2.1, .sl .str (.may false) a.2.2.2.2.1], [some [.sl .u8 (.may false) a.2.2.2.2.2.1, .int .i64 a.2.2.2.2.2.2.1], some [.int .i64 a.1, .int .i64 a.2.1, .str a.2.2.1, .sl .jnode (.may false) a.2.2.2.1, .sl .str (.may false) a.2.2.2.2.1], some [.sl .str .own a.2.2.2.2.2.2.2]]))
def p6 (N : Nat) (a : Bs) (b : Int) : Ro := xl N a b
theorem aeJ (N : Nat) (a : Bs) (b : Int) : aW ye N 7 xk xj [.ptr 0 0] [some [.sl .u8 (.may false) a, .int .i64 b]] = p6 N a b := by kernel_rfl
theorem aeK (N : Nat) (a : Bs) (b : Int) (h : Tot (p6 N a b) (fun z => ∃ (e : Int) (f : Int) (g : Bs) (i : List aE) (j : Bss) (c : Bs) (d : Int) (rest : List aK), z.1.dimR = .agg [.int .i64 e, .int .i64 f, .str g, .sl .jnode (.may false) i, .sl .str (.may false) j] ∧ z.2 = some [.sl .u8 (.may false) c, .int .i64 d] :: rest ∧ uG a b (e, f, g, i, j, c, d))) : ∃ r, iR a b r := by
 obtain ⟨⟨v, hp⟩, hz, e, f, g, i, j, c, d, rest, e1, e2, hq⟩ := h
 simp only at e1 e2
 subst e2
 exact ⟨(e, f, g, i, j, c, d), bk.dimR (FnC.objs (css := [[.sl .u8 (.may false) a, .int .i64 b]]) (css' := [[.sl .u8 (.may false) c, .int .i64 d]]) agh (aeJ N a b) hz rfl) e1, hq⟩
end Go.Proofs.Ytdpajabhmmmjoaa
end
noncomputable section
namespace Go.Proofs.Ytdpajabhmmmjoaa
open Go.AM
set_option autoImplicit false
set_option linter.unusedVariables false
set_option maxRecDepth 100000
noncomputable def xm : aN := tab (P := Try.prog) [] [] [] []
def ahe : IR := Sq (Rs [Fa 7 0 2, Lq 8 7, Bc 9 .eql 8 6, Mv 10 9, Gt 10 (.mov 11 6), Gt 10 (.fad 12 4 2), Gt 10 (.lde 13 1 false 12), Gt 10 (.lenl 14 13), Gt 10 (.bin 15 .lss 11 14), Pa 16 10 15, Mv 17 16, Gt 17 (.mov 18 6), Gt 17 (.fad 19 3 2), Gt 17 (.lde 20 1 false 19), Gt 17 (.lenl 21 20), Gt 17 (.bin 22 .lss 18 21), Pa 23 17 22] (Cn 23 .skip (.exit 0))) (Sq (.block 1 (Rs [Fa 26 4 2, Lq 27 26, Mv 28 6, Ix 29 .str 27 28, Lq 30 29, Mv 31 1, Bi 32 .eql 30 31] (Cn 32 (Rs [Fa 33 3 2, Lq 34 33, Mv 35 6, Ix 36 .jnode 34 35, Ld 37 5 true 36, Sv 5 4 37, Mb 5 true] .ret) .skip))) (Rg [Mv 24 6, Bc 25 .add 24 1, Mv 6 25]))
def ahf : IR := Rs [Pp (.bld 38 [vI 0, vI 0, vS, nl .jnode, nl .str] []), Sv 5 4 38, Mb 5 false] .ret
def adP : IR := Rs [Bx 2 0, Pp (.new 4 [vI 0, vI 0, vS, nl .jnode, nl .str]), Mb 5 false] (Sq (Rs [Mi 6 0] (.block 0 (.loop [1, 2, 4, 6, 1000000] 1 ahe))) ahf)
def zk : List RV := [.cell 4 5 true, .t 5]
theorem auQ : FnC Try.prog xm [] 0 anF Try.f113 adP zk := fnC (by kernel_rfl) Try.func113 (by kernel_rfl) (by kernel_rfl) (by decide)
def atA (R : IR → (Ex → St → Ro) → St → Ro) (a : St → Ro) : Ex → St → Ro := (bz a [1, 2, 4, 6, 1000000] 1 (aR 0 (bp (R ahf) (fin zk))))
abbrev sU : Type := (Bs × Int × Int × Bs × List aE × Bss × Int × Int × Int × Bs × List aE × Bss)
def qW : sU → St := fun (c, d, e, f, g, h, i, j, k, l, a, b) => { env := (.undef :: .str c :: .ea [.int .i64 d, .int .i64 e, .str f, .sl .jnode (.may false) g, .sl .str (.may false) h] :: .undef :: .ptr 0 0 :: .undef :: .int .i64 i :: (U 32 [])), hp := [some [.int .i64 j, .int .i64 k, .str l, .sl .jnode .own a, .sl .str .own b]] }
def ab0 (N : Nat) : (St → Ro) → St → Ro := fun a s => run xm N ahe (atA (run xm N) a) s
def xn (N : Nat) (d : sU → Ro) : sU → Ro := fun (o, e, f, g, a, b, c, h, i, j, k, m) =>
 cond (e == 6) (
 let v : Int := (↑(List.length b) : Int)
 cond (decide (c < v)) (
 let w : Int := (↑(List.length a) : Int)
 cond (decide (c < w)) (
 chk (decide (0 ≤ c) && decide (c < ↑(List.length b))) (
 let x : Bs := List.getD b (Int.toNat c) (aC .str)
 cond (decide (x = o)) (
 chk (decide (0 ≤ c) && decide (c < ↑(List.length a))) (
 let p : Int := (List.getD a (Int.toNat c) (aC .jnode)).kind
 let q : Int := (List.getD a (Int.toNat c) (aC .jnode)).n
 let r : Bs := (List.getD a (Int.toNat c) (aC .jnode)).s
 let t : List aE := (List.getD a (Int.toNat c) (aC .jnode)).l
 let u : Bss := (List.getD a (Int.toNat c) (aC .jnode)).names
 some (.tup [.agg [.int .i64 p, .int .i64 q, .str r, .sl .jnode (.may false) t, .sl .str (.may false) u], .bool true], [some [.int .i64 p, .int .i64 q, .str r, .sl .jnode (.may false) t, .sl .str (.may false) u]]))) (
 let y : Int := (IntKind.wrap .i64 (c + 1))
 d (o, e, f, g, a, b, y, h, i, j, k, m)))) (
 some (.tup [.agg [.int .i64 0, .int .i64 0, .str ([] : Bs), .sl .jnode (.may false) ([] : List aE), .sl .str (.may false) ([] : Bss)], .bool false], [some [.int .i64 0, .int .i64 0, .str ([] : Bs), .sl .jnode .own ([] : List aE), .sl .str .own ([] : Bss)]]))) (
 some (.tup [.agg [.int .i64 0, .int .i64 0, .str ([] : Bs), .sl .jnode (.may false) ([] : List aE), .sl .str (.may false) ([] : Bss)], .bool false], [some [.int .i64 0, .int .i64 0, .str ([] : Bs), .sl .jnode .own ([] : List aE), .sl .str .own ([] : Bss)]]))) (
 some (.tup [.agg [.int .i64 0, .int .i64 0, .str ([] : Bs), .sl .jnode (.may false) ([] : List aE), .sl .str (.may false) ([] : Bss)], .bool false], [some [.int .i64 0, .int .i64 0, .str ([] : Bs), .sl .jnode .own ([] : List aE), .sl .str .own ([] : Bss)]]))
theorem arM (N : Nat) : ∀ (a : St → Ro) (x : sU), ab0 N a (qW x) = xn N (fun y => a (qW y)) x := by
 intro a x
 kernel_rfl
def uN (N : Nat) (a b : Int) (c : Bs) (d : List aE) (e : Bss) (f : Bs) (g : sU → Ro) : Ro :=
 g (f, a, b, c, d, e, 0, 0, 0, ([] : Bs), ([] : List aE), ([] : Bss))
def adQ (N : Nat) (a b : Int) (c : Bs) (d : List aE) (e : Bss) (f : Bs) : Ro := uN N a b c d e f (fun z => aQ N (xn N) z)
def av0 (N : Nat) : List (Nat × (St → Ro)) := ba xm N adP (fin zk) ++ []
theorem atB (N : Nat) (a c : Int) (d : Bs) (e : List aE) (f : Bss) (g : Bs) : aW xm N 39 zk adP [.agg [.int .i64 a, .int .i64 c, .str d, .sl .jnode (.may false) e, .sl .str (.may false) f], .str g] [] = adQ N a c d e f g :=
 (bL (av0 N) (by kernel_rfl) rfl (fun C => uN N a c d e f g (fun z => C 1000000 (qW z))) (fun C => by kernel_rfl)).trans (Eq.trans (b := uN N a c d e f g (fun z => bg N (ab0 N) (qW z))) (by kernel_rfl) (congrArg (uN N a c d e f g) (funext fun z => bc (qW) (ab0 N) (xn N) (arM N) N z)))
theorem atC (N : Nat) (a b : Int) (c : Bs) (d : List aE) (e : Bss) (f : Bs) (h : Tot (adQ N a b c d e f) (fun z => ∃ (g : Int) (i : Int) (j : Bs) (k : List aE) (l : Bss) (m : Bool) (rest : List aK), z.1.dimR = .tup [.agg [.int .i64 g, .int .i64 i, .str j, .sl .jnode (.may false) k, .sl .str (.may false) l], .bool m] ∧ z.2 = rest ∧ ct a b c d e f (g, i, j, k, l, m))) : ∃ r, cT a b c d e f r := by
 obtain ⟨⟨v, hp⟩, hz, g, i, j, k, l, m, rest, e1, e2, hq⟩ := h
 simp only at e1 e2
 subst e2
 exact ⟨(g, i, j, k, l, m), aI.dimR (auQ.pure (atB N a b c d e f) hz) e1, hq⟩
noncomputable def uO : aN := tab (P := Try.prog) [] [] [] [arA, atp]
def aeL : IR := Sq (Rs [Mv 4 3, Mv 5 0, Pp (.lens 6 5), Bi 7 .lss 4 6] (Cn 7 .skip (.exit 0))) (Sq (.block 1 (Rs [Mv 10 0, Mv 11 3, Pp (.idx 12 10 11), Ca 13 164 [12], Un 14 13, Mv 15 14, Gt 15 (.mov 16 3), Gt 15 (.bin 17 .eql 16 (kI 0)), Gt 15 (.mov 18 17), Gf 18 (.mov 19 0), Gf 18 (.mov 20 3), Gf 18 (.idx 21 19 20), Gf 18 (.call 22 165 [21]), Gf 18 (.un 23 .not 22), Gt 15 (.pick 24 18 (kB true) 23), Pa 25 15 24] (Cn 25 (Rs [Mb 2 false] .ret) .skip))) (Rg [Mv 8 3, Bc 9 .add 8 1, Mv 3 9]))
def aeM : IR := Rs [Mv 26 0, Pp (.lens 27 26), Bc 28 .gtr 27 0, Mv 2 28] .ret
def ab1 : IR := Rs [Mb 2 false] (Sq (Rs [Mi 3 0] (.block 0 (.loop [0, 3, 1000000] 0 aeL))) aeM)
def xo : List RV := [.t 2]
theorem atD : FnC Try.prog uO [] 0 alc Try.f161 ab1 xo := fnC (by kernel_rfl) Try.func161 (by kernel_rfl) (by kernel_rfl) (by decide)
def arN (R : IR → (Ex → St → Ro) → St → Ro) (a : St → Ro) : Ex → St → Ro := (bz a [0, 3, 1000000] 0 (aR 0 (bp (R aeM) (fin xo))))
abbrev qX : Type := (Bs × Int)
def oY : qX → St := fun (a, b) => { env := (.str a :: .undef :: .undef :: .int .i64 b :: (U 25 [])), hp := [] }
def aat (N : Nat) : (St → Ro) → St → Ro := fun a s => run uO N aeL (arN (run uO N) a) s
def vx (N : Nat) (a : qX → Ro) : qX → Ro := fun (c, b) =>
 let d : Int := (↑(List.length c) : Int)
 cond (decide (b < d)) (
 chk (decide (0 ≤ b) && decide (b < ↑(List.length c))) (
 let e : Int := (↑(UInt8.toNat (List.getD c (Int.toNat b) 0)) : Int)
 aH (qS e) (fun (f : Bool) =>
 cond (!f) (
 cond (b == 0) (
 some (.bool false, [])) (
 chk (decide (0 ≤ b) && decide (b < ↑(List.length c))) (
 let g : Int := (↑(UInt8.toNat (List.getD c (Int.toNat b) 0)) : Int)
 aH (sO g) (fun (h : Bool) =>
 cond (!h) (
 some (.bool false, [])) (
 let i : Int := (IntKind.wrap .i64 (b + 1))
 a (c, i)))))) (
 let j : Int := (IntKind.wrap .i64 (b + 1))
 a (c, j))))) (
 let k : Int := (↑(List.length c) : Int)
 some (.bool (decide (0 < k)), []))
theorem apC (N : Nat) : ∀ (a : St → Ro) (x : qX), aat N a (oY x) = vx N (fun y => a (oY y)) x := by
 intro a x
 kernel_rfl
def sV (N : Nat) (a : Bs) (b : qX → Ro) : Ro :=
 b (a, 0)
def ab2 (N : Nat) (a : Bs) : Ro := sV N a (fun z => aQ N (vx N) z)
def auR (N : Nat) : List (Nat × (St → Ro)) := ba uO N ab1 (fin xo) ++ []
theorem arO (N : Nat) (a : Bs) : aW uO N 29 xo ab1 [.str a] [] = ab2 N a :=
 (bL (auR N) (by kernel_rfl) rfl (fun C => sV N a (fun z => C 1000000 (oY z))) (fun C => by kernel_rfl)).trans (Eq.trans (b := sV N a (fun z => bg N (aat N) (oY z))) (by kernel_rfl) (congrArg (sV N a) (funext fun z => bc (oY) (aat N) (vx N) (apC N) N z)))
theorem arP (N : Nat) (a : Bs) (h : Tot (ab2 N a) (fun z => ∃ (b : Bool) (rest : List aK), z.1.dimR = .bool b ∧ z.2 = rest)) : ∃ r, jB a r := by
 obtain ⟨⟨v, hp⟩, hz, b, rest, e1, e2⟩ := h
 simp only at e1 e2
 subst e2
 exact ⟨(b), aI.dimR (atD.pure (arO N a) hz) e1⟩
noncomputable def ahg : aN := tab (P := Try.prog) [] [] [] []
def aeN : IR := Rs [Mb 2 false] (Rs [Mv 3 0, Pp (.bin 4 .geq 3 (.c (.int .u8 97))), Mv 5 4, Gt 5 (.mov 6 0), Gt 5 (.bin 7 .leq 6 (.c (.int .u8 122))), Pa 8 5 7, Mv 9 8, Gf 9 (.mov 10 0), Gf 9 (.bin 11 .geq 10 (.c (.int .u8 65))), Gf 9 (.mov 12 11), Gt 12 (.mov 13 0), Gt 12 (.bin 14 .leq 13 (.c (.int .u8 90))), Gf 9 (.pick 15 12 14 (kB false)), Po 16 9 15, Mv 17 16, Gf 17 (.mov 18 0), Gf 17 (.bin 19 .eql 18 (.c (.int .u8 95))), Po 20 17 19, Mv 2 20] .ret)
def aeO : List RV := [.t 2]
theorem apD : FnC Try.prog ahg [] 0 ag5 Try.f164 aeN aeO := fnC (by kernel_rfl) Try.func164 (by kernel_rfl) (by kernel_rfl) (by decide)
def aeP (N : Nat) (a : Int) : Ro :=
 cond (decide (97 ≤ a)) (
 cond (decide (a ≤ 122)) (
 some (.bool true, [])) (
 cond (decide (65 ≤ a)) (
 cond (decide (a ≤ 90)) (
 some (.bool true, [])) (
 some (.bool (a == 95), []))) (
 some (.bool (a == 95), [])))) (
 cond (decide (65 ≤ a)) (
 cond (decide (a ≤ 90)) (
 some (.bool true, [])) (
 some (.bool (a == 95), []))) (
 some (.bool (a == 95), [])))
def yD (N : Nat) (a : Int) : Ro := aeP N a
theorem anI (N : Nat) (a : Int) : aW ahg N 21 aeO aeN [.int .u8 a] [] = yD N a := by kernel_rfl
theorem anJ (N : Nat) (a : Int) (h : Tot (yD N a) (fun z => ∃ (b : Bool) (rest : List aK), z.1.dimR = .bool b ∧ z.2 = rest)) : ∃ r, qS a r := by
 obtain ⟨⟨v, hp⟩, hz, b, rest, e1, e2⟩ := h
 simp only at e1 e2
 subst e2
 exact ⟨(b), aI.dimR (apD.pure (anI N a) hz) e1⟩
noncomputable def ajr : aN := tab (P := Try.prog) [] [] [] []
def ahh : IR := Rs [Mb 2 false] (Rs [Mv 3 0, Pp (.bin 4 .geq 3 (.c (.int .u8 48))), Mv 5 4, Gt 5 (.mov 6 0), Gt 5 (.bin 7 .leq 6 (.c (.int .u8 57))), Pa 8 5 7, Mv 2 8] .ret)
def ahi : List RV := [.t 2]
theorem arQ : FnC Try.prog ajr [] 0 aiZ Try.f165 ahh ahi := fnC (by kernel_rfl) Try.func165 (by kernel_rfl) (by kernel_rfl) (by decide)
def ahj (N : Nat) (a : Int) : Ro :=
 cond (decide (48 ≤ a)) (
 some (.bool (decide (a ≤ 57)), [])) (
 some (.bool false, []))
def aau (N : Nat) (a : Int) : Ro := ahj N a
theorem apE (N : Nat) (a : Int) : aW ajr N 9 ahi ahh [.int .u8 a] [] = aau N a := by kernel_rfl
theorem apF (N : Nat) (a : Int) (h : Tot (aau N a) (fun z => ∃ (b : Bool) (rest : List aK), z.1.dimR = .bool b ∧ z.2 = rest)) : ∃ r, sO a r := by
 obtain ⟨⟨v, hp⟩, hz, b, rest, e1, e2⟩ := h
 simp only at e1 e2
 subst e2
 exact ⟨(b), aI.dimR (arQ.pure (apE N a) hz) e1⟩
noncomputable def alm : aN := tab (P := Try.prog) [] [] [] []
def ajs : IR := Rs [Ms 4 []] (Sq (Rs [Mv 5 0, Pp (.bin 6 .eql 5 (kS [])), Mv 7 6, Gf 7 (.mov 8 1), Gf 7 (.bin 9 .eql 8 (kS [])), Po 10 7 9] (Cn 10 (Rs [Mv 11 0, Mv 12 1, Bi 13 .add 11 12, Mv 4 13] .ret) .skip)) (Rs [Mv 14 0, Pp (.bin 15 .add 14 (kS [46])), Mv 16 1, Bi 17 .add 15 16, Mv 4 17] .ret))
def ajt : List RV := [.t 4]
theorem atE : FnC Try.prog alm [] 0 ald Try.f159 ajs ajt := fnC (by kernel_rfl) Try.func159 (by kernel_rfl) (by kernel_rfl) (by decide)
def aju (N : Nat) (a b : Bs) : Ro :=
 let d : Bool := decide (a = ([] : Bs))
 cond d (
 chk (decide (List.length a + List.length b ≤ 9223372036854775807)) (
 some (.str (a ++ b), []))) (
 let e : Bool := decide (b = ([] : Bs))
 cond e (
 chk (decide (List.length a + List.length b ≤ 9223372036854775807)) (
 some (.str (a ++ b), []))) (
 chk (decide (List.length a + List.length ([46] : Bs) ≤ 9223372036854775807)) (
 let c : Bs := (a ++ ([46] : Bs))
 chk (decide (List.length c + List.length b ≤ 9223372036854775807)) (
 some (.str (c ++ b), [])))))
def ab3 (N : Nat) (a b : Bs) : Ro := aju N a b
theorem arR (N : Nat) (a b : Bs) : aW alm N 18 ajt ajs [.str a, .str b] [] = ab3 N a b := by kernel_rfl
theorem arS (N : Nat) (a b : Bs) (h : Tot (ab3 N a b) (fun z => ∃ (c : Bs) (rest : List aK), z.1.dimR = .str c ∧ z.2 = rest ∧ tN a b (c))) : ∃ r, uK a b r := by
 obtain ⟨⟨v, hp⟩, hz, c, rest, e1, e2, hq⟩ := h
 simp only at e1 e2
 subst e2
 exact ⟨(c), aI.dimR (atE.pure (arR N a b) hz) e1, hq⟩
noncomputable def sW : aN := tab (P := Try.prog) [] [] [] [adL]
def adl : IR := Sq (Rs [Mv 5 4, Mv 6 0, Pp (.lens 7 6), Bi 8 .leq 5 7] (Cn 8 .skip (.exit 0))) (Sq (.block 1 (Sq (Rs [Mv 11 4, Mv 12 0, Pp (.lens 13 12), Bi 14 .lss 11 13, Mv 15 14, Gt 15 (.mov 16 0), Gt 15 (.mov 17 4), Gt 15 (.idx 18 16 17), Gt 15 (.bin 19 .neq 18 (.c (.int .u8 46))), Pa 20 15 19] (Cn 20 (Rs [Mv 21 3, Mv 22 0, Mv 23 4, Mv 24 4, Bc 25 .add 24 1, Pp (.subs 26 22 (some 23) (some 25)), Bi 27 .add 21 26, Mv 3 27] (.exit 1)) .skip)) (Sq (Rs [Mv 28 3, Ca 29 161 [28], Un 30 29] (Cn 30 (Rs [Mb 2 false] .ret) .skip)) (Rg [Ms 3 []])))) (Rg [Mv 9 4, Bc 10 .add 9 1, Mv 4 10]))
def ab4 : IR := Rs [Mb 2 true] .ret
def aav : IR := Rs [Mb 2 false] (Rs [Ms 3 []] (Sq (Rs [Mi 4 0] (.block 0 (.loop [0, 3, 4, 1000000] 0 adl))) ab4))
def vy : List RV := [.t 2]
theorem arT : FnC Try.prog sW [] 0 ai0 Try.f160 aav vy := fnC (by kernel_rfl) Try.func160 (by kernel_rfl) (by kernel_rfl) (by decide)
def apG (R : IR → (Ex → St → Ro) → St → Ro) (a : St → Ro) : Ex → St → Ro := (bz a [0, 3, 4, 1000000] 0 (aR 0 (bp (R ab4) (fin vy))))
abbrev oZ : Type := (Bs × Bs × Int)
def na : oZ → St := fun (a, b, c) => { env := (.str a :: .undef :: .undef :: .str b :: .int .i64 c :: (U 26 [])), hp := [] }
def yE (N : Nat) : (St → Ro) → St → Ro := fun a s => run sW N adl (apG (run sW N) a) s
def tQ (N : Nat) (a : oZ → Ro) : oZ → Ro := fun (c, d, b) =>
 let g : Int := (↑(List.length c) : Int)
 cond (decide (b ≤ g)) (
 let h : Int := (↑(List.length c) : Int)
 cond (decide (b < h)) (
 chk (decide (0 ≤ b) && decide (b < ↑(List.length c))) (
 let i : Int := (↑(UInt8.toNat (List.getD c (Int.toNat b) 0)) : Int)
 cond (!(i == 46)) (
 let e : Int := (IntKind.wrap .i64 (b + 1))
 chk (decide (0 ≤ e) && decide (e ≤ (↑(List.length c) : Int)) && (decide (0 ≤ b) && decide (b ≤ e))) (
 let f : Bs := (List.drop (Int.toNat b) (List.take (Int.toNat e) c))
 chk (decide (List.length d + List.length f ≤ 9223372036854775807)) (
 let j : Int := (IntKind.wrap .i64 (b + 1))
 a (c, (d ++ f), j)))) (
 aH (jB d) (fun (k : Bool) =>
 cond (!k) (
 some (.bool false, [])) (
 let l : Int := (IntKind.wrap .i64 (b + 1))
 a (c, ([] : Bs), l)))))) (
 aH (jB d) (fun (m : Bool) =>
 cond (!m) (
 some (.bool false, [])) (
 let n : Int := (IntKind.wrap .i64 (b + 1))
 a (c, ([] : Bs), n))))) (
 some (.bool true, []))
theorem anK (N : Nat) : ∀ (a : St → Ro) (x : oZ), yE N a (na x) = tQ N (fun y => a (na y)) x := by
 intro a x
 kernel_rfl
def qY (N : Nat) (a : Bs) (b : oZ → Ro) : Ro :=
 b (a, ([] : Bs), 0)
def aaw (N : Nat) (a : Bs) : Ro := qY N a (fun z => aQ N (tQ N) z)
def atF (N : Nat) : List (Nat × (St → Ro)) := ba sW N aav (fin vy) ++ []
theorem apH (N : Nat) (a : Bs) : aW sW N 31 vy aav [.str a] [] = aaw N a :=
 (bL (atF N) (by kernel_rfl) rfl (fun C => qY N a (fun z => C 1000000 (na z))) (fun C => by kernel_rfl)).trans (Eq.trans (b := qY N a (fun z => bg N (yE N) (na z))) (by kernel_rfl) (congrArg (qY N a) (funext fun z => bc (na) (yE N) (tQ N) (anK N) N z)))
theorem apI (N : Nat) (a : Bs) (h : Tot (aaw N a) (fun z => ∃ (b : Bool) (rest : List aK), z.1.dimR = .bool b ∧ z.2 = rest)) : ∃ r, sM a r := by
 obtain ⟨⟨v, hp⟩, hz, b, rest, e1, e2⟩ := h
 simp only at e1 e2
 subst e2
 exact ⟨(b), aI.dimR (arT.pure (apH N a) hz) e1⟩
noncomputable def ajv : aN := tab (P := Try.prog) [] [] [] [ai4]
def ahk : IR := Rs [Pp (.mov 2 (.c (.int .u32 0))), Mi 3 0] (Rs [Mv 4 0, Ca 5 79 [4], Ex_ 6 0 5, Ex_ 7 1 5, Mv 2 6, Mv 3 7] .ret)
def ahl : List RV := [.t 2, .t 3]
theorem arU : FnC Try.prog ajv [] 0 aiS Try.f162 ahk ahl := fnC (by kernel_rfl) Try.func162 (by kernel_rfl) (by kernel_rfl) (by decide)
def ahm (N : Nat) (b : Bs) : Ro :=
 aH (l9 b) (fun a =>
 some (.tup [.int .u32 a.1, .int .i64 a.2], []))
def aax (N : Nat) (a : Bs) : Ro := ahm N a
theorem apJ (N : Nat) (a : Bs) : aW ajv N 8 ahl ahk [.str a] [] = aax N a := by kernel_rfl
theorem apK (N : Nat) (a : Bs) (h : Tot (aax N a) (fun z => ∃ (b : Int) (c : Int) (rest : List aK), z.1.dimR = .tup [.int .u32 b, .int .i64 c] ∧ z.2 = rest ∧ adg a (b, c))) : ∃ r, sN a r := by
 obtain ⟨⟨v, hp⟩, hz, b, c, rest, e1, e2, hq⟩ := h
 simp only at e1 e2
 subst e2
 exact ⟨(b, c), aI.dimR (arU.pure (apJ N a) hz) e1, hq⟩
noncomputable def sX : aN := tab (P := Try.prog) [] [] [] []
def ab5 : IR := Sq (Rs [Mv 50 8, Mv 51 5, Bi 52 .lss 50 51] (Cn 52 .skip (.exit 1))) (Sq (.block 2 (Sq (Rs [Mv 55 0, Mv 56 8, Pp (.idx 57 55 56), Pp (.bin 58 .lss 57 (.c (.int .u8 128))), Mv 59 58, Gf 59 (.mov 60 0), Gf 59 (.mov 61 8), Gf 59 (.idx 62 60 61), Gf 59 (.bin 63 .gtr 62 (.c (.int .u8 191))), Po 64 59 63] (Cn 64 (Rs [Pp (.mov 2 (.c (.int .u32 0))), Mi 3 0] .ret) .skip)) (Rg [Mv 65 6, Pp (.bin 66 .mul 65 (.c (.int .u32 64))), Mv 67 0, Mv 68 8, Pp (.idx 69 67 68), Pp (.bin 70 .sub 69 (.c (.int .u8 128))), Pp (.cvi 71 .u32 70), Bi 72 .add 66 71, Mv 6 72]))) (Rg [Mv 53 8, Bc 54 .add 53 1, Mv 8 54]))
def ab6 : IR := Sq (Rs [Mv 73 6, Mv 74 7, Bi 75 .lss 73 74, Mv 76 75, Gf 76 (.mov 77 6), Gf 76 (.bin 78 .gtr 77 (.c (.int .u32 1114111))), Po 79 76 78, Mv 80 79, Gf 80 (.mov 81 6), Gf 80 (.bin 82 .geq 81 (.c (.int .u32 55296))), Gf 80 (.mov 83 82), Gt 83 (.mov 84 6), Gt 83 (.bin 85 .leq 84 (.c (.int .u32 57343))), Gf 80 (.pick 86 83 85 (kB false)), Po 87 80 86] (Cn 87 (Rs [Pp (.mov 2 (.c (.int .u32 0))), Mi 3 0] .ret) .skip)) (Rs [Mv 88 6, Mv 89 5, Mv 2 88, Mv 3 89] .ret)
def aay : IR := Rs [Pp (.mov 2 (.c (.int .u32 0))), Mi 3 0] (Sq (Rs [Mv 9 0, Pp (.lens 10 9), Bc 11 .eql 10 0] (Cn 11 (Rs [Pp (.mov 2 (.c (.int .u32 0))), Mi 3 0] .ret) .skip)) (Rs [Mv 12 0, Pp (.idx 13 12 (kI 0)), Pp (.cvi 14 .u32 13), Mv 4 14] (Rs [Mi 5 0, Pp (.mov 6 (.c (.int .u32 0))), Pp (.mov 7 (.c (.int .u32 0)))] (Sq (.block 0 (Rs [Mv 16 4, Pp (.bin 17 .lss 16 (.c (.int .u32 128))), Mv 15 17] (Cn 15 (Rs [Mv 18 4, Mv 2 18, Mi 3 1] .ret) (Rs [Mv 20 4, Pp (.bin 21 .geq 20 (.c (.int .u32 192))), Mv 22 21, Gt 22 (.mov 23 4), Gt 22 (.bin 24 .lss 23 (.c (.int .u32 224))), Pa 25 22 24, Mv 19 25] (Cn 19 (Rg [Mv 26 4, Pp (.bin 27 .sub 26 (.c (.int .u32 192))), Mi 5 2, Mv 6 27, Pp (.mov 7 (.c (.int .u32 128)))]) (Rs [Mv 29 4, Pp (.bin 30 .geq 29 (.c (.int .u32 224))), Mv 31 30, Gt 31 (.mov 32 4), Gt 31 (.bin 33 .lss 32 (.c (.int .u32 240))), Pa 34 31 33, Mv 28 34] (Cn 28 (Rg [Mv 35 4, Pp (.bin 36 .sub 35 (.c (.int .u32 224))), Mi 5 3, Mv 6 36, Pp (.mov 7 (.c (.int .u32 2048)))]) (Rs [Mv 38 4, Pp (.bin 39 .geq 38 (.c (.int .u32 240))), Mv 40 39, Gt 40 (.mov 41 4), Gt 40 (.bin 42 .lss 41 (.c (.int .u32 248))), Pa 43 40 42, Mv 37 43] (Cn 37 (Rg [Mv 44 4, Pp (.bin 45 .sub 44 (.c (.int .u32 240))), Mi 5 4, Mv 6 45, Pp (.mov 7 (.c (.int .u32 65536)))]) (Rs [Pp (.mov 2 (.c (.int .u32 0))), Mi 3 0] .ret)))))))))) (Sq (Rs [Mv 46 0, Pp (.lens 47 46), Mv 48 5, Bi 49 .lss 47 48] (Cn 49 (Rs [Pp (.mov 2 (.c (.int .u32 0))), Mi 3 0] .ret) .skip)) (Sq (Rs [Mi 8 1] (.block 1 (.loop [0, 5, 6, 7, 8, 1000000] 0 ab5))) ab6))))))
def vz : List RV := [.t 2, .t 3]
theorem arV : FnC Try.prog sX [] 0 aiU Try.f79 aay vz := fnC (by kernel_rfl) Try.func79 (by kernel_rfl) (by kernel_rfl) (by decide)
def apL (R : IR → (Ex → St → Ro) → St → Ro) (a : St → Ro) : Ex → St → Ro := (bz a [0, 5, 6, 7, 8, 1000000] 0 (aR 1 (bp (R ab6) (fin vz))))
abbrev pa : Type := (Bs × Int × Int × Int × Int)
def nc : pa → St := fun (a, b, c, d, e) => { env := (.str a :: (U 4 (.int .i64 b :: .int .u32 c :: .int .u32 d :: .int .i64 e :: (U 81 [])))), hp := [] }
def yF (N : Nat) : (St → Ro) → St → Ro := fun a s => run sX N ab5 (apL (run sX N) a) s
def dZ (N : Nat) (b : pa → Ro) : pa → Ro := fun (c, e, d, k, a) =>
 cond (decide (a < e)) (
 chk (decide (0 ≤ a) && decide (a < ↑(List.length c))) (
 let l : Int := (↑(UInt8.toNat (List.getD c (Int.toNat a) 0)) : Int)
 cond (decide (l < 128)) (
 some (.tup [.int .u32 0, .int .i64 0], [])) (
 chk (decide (0 ≤ a) && decide (a < ↑(List.length c))) (
 let m : Int := (↑(UInt8.toNat (List.getD c (Int.toNat a) 0)) : Int)
 cond (decide (191 < m)) (
 some (.tup [.int .u32 0, .int .i64 0], [])) (
 let f : Int := (IntKind.wrap .u32 (d * 64))
 chk (decide (0 ≤ a) && decide (a < ↑(List.length c))) (
 let g : Int := (↑(UInt8.toNat (List.getD c (Int.toNat a) 0)) : Int)
 let h : Int := (IntKind.wrap .u8 (g - 128))
 let i : Int := (IntKind.wrap .u32 (f + (IntKind.wrap .u32 h)))
 let j : Int := (IntKind.wrap .i64 (a + 1))
 b (c, e, i, k, j))))))) (
 cond (decide (d < k)) (
 some (.tup [.int .u32 0, .int .i64 0], [])) (
 cond (decide (1114111 < d)) (
 some (.tup [.int .u32 0, .int .i64 0], [])) (
 cond (decide (55296 ≤ d)) (
 cond (decide (d ≤ 57343)) (
 some (.tup [.int .u32 0, .int .i64 0], [])) (
 some (.tup [.int .u32 d, .int .i64 e], []))) (
 some (.tup [.int .u32 d, .int .i64 e], [])))))
theorem anL (N : Nat) : ∀ (a : St → Ro) (x : pa), yF N a (nc x) = dZ N (fun y => a (nc y)) x := by
 intro a x
 kernel_rfl
def qZ (N : Nat) (b : Bs) (c : pa → Ro) : Ro :=
 let x1 : Int := (↑(List.length b) : Int)
 cond (x1 == 0) (
 some (.tup [.int .u32 0, .int .i64 0], [])) (
 chk (decide ((0 : Int) < ↑(List.length b))) (
 let a : Int := (↑(UInt8.toNat (List.getD b (Int.toNat 0) 0)) : Int)
 let x3 : Bool := decide ((IntKind.wrap .u32 a) < 128)
 cond x3 (
 some (.tup [.int .u32 (IntKind.wrap .u32 a), .int .i64 1], [])) (
 let x4 : Bool := decide (192 ≤ (IntKind.wrap .u32 a))
 cond x4 (
 let x5 : Bool := decide ((IntKind.wrap .u32 a) < 224)
 cond x5 (
 let x6 : Int := (IntKind.wrap .u32 ((IntKind.wrap .u32 a) - 192))
 let x7 : Int := (↑(List.length b) : Int)
 cond (decide (x7 < 2)) (
 some (.tup [.int .u32 0, .int .i64 0], [])) (
 c (b, 2, x6, 128, 1))) (
 let d : Bool := decide (224 ≤ (IntKind.wrap .u32 a))
 cond d (
 let e : Bool := decide ((IntKind.wrap .u32 a) < 240)
 cond e (
 let f : Int := (IntKind.wrap .u32 ((IntKind.wrap .u32 a) - 224))
 let g : Int := (↑(List.length b) : Int)
 cond (decide (g < 3)) (
 some (.tup [.int .u32 0, .int .i64 0], [])) (
 c (b, 3, f, 2048, 1))) (
 let h : Bool := decide (240 ≤ (IntKind.wrap .u32 a))
 cond h (
 let i : Bool := decide ((IntKind.wrap .u32 a) < 248)
 cond i (
 let j : Int := (IntKind.wrap .u32 ((IntKind.wrap .u32 a) - 240))
 let k : Int := (↑(List.length b) : Int)
 cond (decide (k < 4)) (
 some (.tup [.int .u32 0, .int .i64 0], [])) (
 c (b, 4, j, 65536, 1))) (
 some (.tup [.int .u32 0, .int .i64 0], []))) (
 some (.tup [.int .u32 0, .int .i64 0], [])))) (
 let l : Bool := decide (240 ≤ (IntKind.wrap .u32 a))
 cond l (
 let m : Bool := decide ((IntKind.wrap .u32 a) < 248)
 cond m (
 let n : Int := (IntKind.wrap .u32 ((IntKind.wrap .u32 a) - 240))
 let o : Int := (↑(List.length b) : Int)
 cond (decide (o < 4)) (
 some (.tup [.int .u32 0, .int .i64 0], [])) (
 c (b, 4, n, 65536, 1))) (
 some (.tup [.int .u32 0, .int .i64 0], []))) (
 some (.tup [.int .u32 0, .int .i64 0], []))))) (
 let p : Bool := decide (224 ≤ (IntKind.wrap .u32 a))
 cond p (
 let q : Bool := decide ((IntKind.wrap .u32 a) < 240)
 cond q (
 let r : Int := (IntKind.wrap .u32 ((IntKind.wrap .u32 a) - 224))
 let s : Int := (↑(List.length b) : Int)
 cond (decide (s < 3)) (
 some (.tup [.int .u32 0, .int .i64 0], [])) (
 c (b, 3, r, 2048, 1))) (
 let t : Bool := decide (240 ≤ (IntKind.wrap .u32 a))
 cond t (
 let u : Bool := decide ((IntKind.wrap .u32 a) < 248)
 cond u (
 let v : Int := (IntKind.wrap .u32 ((IntKind.wrap .u32 a) - 240))
 let w : Int := (↑(List.length b) : Int)
 cond (decide (w < 4)) (
 some (.tup [.int .u32 0, .int .i64 0], [])) (
 c (b, 4, v, 65536, 1))) (
 some (.tup [.int .u32 0, .int .i64 0], []))) (
 some (.tup [.int .u32 0, .int .i64 0], [])))) (
 let x : Bool := decide (240 ≤ (IntKind.wrap .u32 a))
 cond x (
 let y : Bool := decide ((IntKind.wrap .u32 a) < 248)
 cond y (
 let z : Int := (IntKind.wrap .u32 ((IntKind.wrap .u32 a) - 240))
 let aa : Int := (↑(List.length b) : Int)
 cond (decide (aa < 4)) (
 some (.tup [.int .u32 0, .int .i64 0], [])) (
 c (b, 4, z, 65536, 1))) (
 some (.tup [.int .u32 0, .int .i64 0], []))) (
 some (.tup [.int .u32 0, .int .i64 0], [])))))))
def vA (N : Nat) (a : Bs) : Ro := qZ N a (fun z => aQ N (dZ N) z)
def atG (N : Nat) : List (Nat × (St → Ro)) := ba sX N aay (fin vz) ++ []
theorem apM (N : Nat) (a : Bs) : aW sX N 90 vz aay [.str a] [] = vA N a :=
 (bL (atG N) (by kernel_rfl) rfl (fun C => qZ N a (fun z => C 1000000 (nc z))) (fun C => by kernel_rfl)).trans (Eq.trans (b := qZ N a (fun z => bg N (yF N) (nc z))) (by kernel_rfl) (congrArg (qZ N a) (funext fun z => bc (nc) (yF N) (dZ N) (anL N) N z)))
theorem aeQ (N : Nat) (a : Bs) (h : Tot (vA N a) (fun z => ∃ (b : Int) (c : Int) (rest : List aK), z.1.dimR = .tup [.int .u32 b, .int .i64 c] ∧ z.2 = rest ∧ adh a (b, c))) : ∃ r, l9 a r := by
 obtain ⟨⟨v, hp⟩, hz, b, c, rest, e1, e2, hq⟩ := h
 simp only at e1 e2
 subst e2
 exact ⟨(b, c), aI.dimR (arV.pure (apM N a) hz) e1, hq⟩
noncomputable def uP : aN := tab (P := Try.prog) [] [] [] []
def aeR : IR := Sq (Rs [Mv 14 0, Mv 15 7, Bi 16 .shr 14 15, Pp (.bin 17 .eql 16 (kU 0))] (Cn 17 .skip (.exit 0))) (.block 1 (Rg [Mv 18 7, Bc 19 .sub 18 1, Mv 7 19]))
def adm : IR := Rs [Mv 20 0, Mv 8 20] (Sq (Rs [Mv 21 7, Mv 22 1, Bi 23 .leq 21 22] (Cn 23 (Rg [Mv 24 0, Mv 25 1, Mv 26 7, Bi 27 .sub 25 26, Bi 28 .shl 24 27, Mv 8 28]) (Rs [Mv 29 7, Mv 30 1, Bi 31 .sub 29 30, Mv 9 31] (Rs [Mv 32 9, Bc 33 .sub 32 1, Pp (.bin 34 .shl (kU 1) 33), Mv 10 34] (Rs [Mv 35 0, Mv 36 9, Pp (.bin 37 .shl (kU 1) 36), Bi 38 .rem 35 37, Mv 11 38] (Rs [Mv 39 0, Mv 40 9, Bi 41 .shr 39 40, Mv 8 41] (Rs [Mv 42 11, Mv 43 10, Bi 44 .gtr 42 43, Mv 45 44, Gf 45 (.mov 46 11), Gf 45 (.mov 47 10), Gf 45 (.bin 48 .eql 46 47), Gf 45 (.mov 49 48), Gt 49 (.mov 50 8), Gt 49 (.bin 51 .rem 50 (kU 2)), Gt 49 (.bin 52 .eql 51 (kU 1)), Gf 45 (.pick 53 49 52 (kB false)), Po 54 45 53] (Cn 54 (Rg [Mv 55 8, Pp (.bin 56 .add 55 (kU 1)), Mv 8 56]) .skip)))))))) (Sq (.reg [Mv 57 7, Mv 58 2, Bi 59 .add 57 58, Pp (.cvi 60 .u64 59), Mv 61 1, Bi 62 .shl 60 61, Mv 63 8, Mv 64 1, Pp (.bin 65 .shl (kU 1) 64), Bi 66 .sub 63 65, Bi 67 .add 62 66, Mv 6 67] [[], [], [0, 1], [0, 1, 2], [], rg 0 4, [], [], [7], [6, 7, 8], rg 0 9, rg 0 10]) .ret))
def ab7 : IR := Rs [Pp (.mov 6 (kU 0))] (Sq (Rs [Mv 12 0, Pp (.bin 13 .eql 12 (kU 0))] (Cn 13 (Rs [Pp (.mov 6 (kU 0))] .ret) .skip)) (Rs [Mi 7 63] (Sq (.block 0 (.loop [0, 1, 2, 7, 1000000] 0 aeR)) adm)))
def xp : List RV := [.t 6]
theorem atH : FnC Try.prog uP [] 0 ak8 Try.f154 ab7 xp := fnC (by kernel_rfl) Try.func154 (by kernel_rfl) (by kernel_rfl) (by decide)
def arW (R : IR → (Ex → St → Ro) → St → Ro) (a : St → Ro) : Ex → St → Ro := (bz a [0, 1, 2, 7, 1000000] 0 (aR 0 (bp (R adm) (fin xp))))
abbrev q8 : Type := (Int × Int × Int × Int)
def pb : q8 → St := fun (a, b, c, d) => { env := (.int .u64 a :: .int .i64 b :: .int .i64 c :: (U 4 (.int .i64 d :: (U 60 [])))), hp := [] }
def aaz (N : Nat) : (St → Ro) → St → Ro := fun a s => run uP N aeR (arW (run uP N) a) s
def vB (N : Nat) (d : q8 → Ro) : q8 → Ro := fun (e, a, f, b) =>
 chk (decide (0 ≤ b)) (
 cond ((cJ .u64 e b) == 0) (
 let x1 : Int := (IntKind.wrap .i64 (b - 1))
 d (e, a, f, x1)) (
 cond (decide (b ≤ a)) (
 let x2 : Int := (IntKind.wrap .i64 (a - b))
 chk (decide (0 ≤ x2)) (
 let x3 : Int := (IntKind.wrap .i64 (b + f))
 chk (decide (0 ≤ a)) (
 let x4 : Int := (fo .u64 (IntKind.wrap .u64 x3) a)
 chk (decide (0 ≤ a)) (
 let x5 : Int := (IntKind.wrap .u64 ((fo .u64 e x2) - (fo .u64 1 a)))
 let x6 : Int := (IntKind.wrap .u64 (x4 + x5))
 some (.int .u64 x6, []))))) (
 let c : Int := (IntKind.wrap .i64 (b - a))
 let g : Int := (IntKind.wrap .i64 (c - 1))
 chk (decide (0 ≤ g)) (
 chk (decide (0 ≤ c)) (
 chk (!((fo .u64 1 c) == 0)) (
 let x9 : Int := (Int.tmod e (fo .u64 1 c))
 chk (decide (0 ≤ c)) (
 let h : Bool := decide ((fo .u64 1 g) < x9)
 cond h (
 let i : Int := (IntKind.wrap .u64 ((cJ .u64 e c) + 1))
 let j : Int := (IntKind.wrap .i64 (b + f))
 chk (decide (0 ≤ a)) (
 let k : Int := (fo .u64 (IntKind.wrap .u64 j) a)
 chk (decide (0 ≤ a)) (
 let l : Int := (IntKind.wrap .u64 (i - (fo .u64 1 a)))
 let m : Int := (IntKind.wrap .u64 (k + l))
 some (.int .u64 m, [])))) (
 cond (x9 == (fo .u64 1 g)) (
 let n : Int := (Int.tmod (cJ .u64 e c) 2)
 cond (n == 1) (
 let o : Int := (IntKind.wrap .u64 ((cJ .u64 e c) + 1))
 let p : Int := (IntKind.wrap .i64 (b + f))
 chk (decide (0 ≤ a)) (
 let q : Int := (fo .u64 (IntKind.wrap .u64 p) a)
 chk (decide (0 ≤ a)) (
 let r : Int := (IntKind.wrap .u64 (o - (fo .u64 1 a)))
 let s : Int := (IntKind.wrap .u64 (q + r))
 some (.int .u64 s, [])))) (
 let t : Int := (IntKind.wrap .i64 (b + f))
 chk (decide (0 ≤ a)) (
 let u : Int := (fo .u64 (IntKind.wrap .u64 t) a)
 chk (decide (0 ≤ a)) (
 let v : Int := (IntKind.wrap .u64 ((cJ .u64 e c) - (fo .u64 1 a)))
 let w : Int := (IntKind.wrap .u64 (u + v))
 some (.int .u64 w, []))))) (
 let x : Int := (IntKind.wrap .i64 (b + f))
 chk (decide (0 ≤ a)) (
 let y : Int := (fo .u64 (IntKind.wrap .u64 x) a)
 chk (decide (0 ≤ a)) (
 let z : Int := (IntKind.wrap .u64 ((cJ .u64 e c) - (fo .u64 1 a)))
 let aa : Int := (IntKind.wrap .u64 (y + z))
 some (.int .u64 aa, []))))))))))))
theorem apN (N : Nat) : ∀ (a : St → Ro) (x : q8), aaz N a (pb x) = vB N (fun y => a (pb y)) x := by
 intro a x
 kernel_rfl
def sY (N : Nat) (a b c : Int) (d : q8 → Ro) : Ro :=
 cond (a == 0) (
 some (.int .u64 0, [])) (
 d (a, b, c, 63))
def ab8 (N : Nat) (a b c : Int) : Ro := sY N a b c (fun z => aQ N (vB N) z)
def auS (N : Nat) : List (Nat × (St → Ro)) := ba uP N ab7 (fin xp) ++ []
theorem arX (N : Nat) (a c d : Int) : aW uP N 68 xp ab7 [.int .u64 a, .int .i64 c, .int .i64 d] [] = ab8 N a c d :=
 (bL (auS N) (by kernel_rfl) rfl (fun C => sY N a c d (fun z => C 1000000 (pb z))) (fun C => by kernel_rfl)).trans (Eq.trans (b := sY N a c d (fun z => bg N (aaz N) (pb z))) (by kernel_rfl) (congrArg (sY N a c d) (funext fun z => bc (pb) (aaz N) (vB N) (apN N) N z)))
theorem arY (N : Nat) (a b c : Int) (h : Tot (ab8 N a b c) (fun z => ∃ (d : Int) (rest : List aK), z.1.dimR = .int .u64 d ∧ z.2 = rest)) : ∃ r, lQ a b c r := by
 obtain ⟨⟨v, hp⟩, hz, d, rest, e1, e2⟩ := h
 simp only at e1 e2
 subst e2
 exact ⟨(d), aI.dimR (atH.pure (arX N a b c) hz) e1⟩
noncomputable def ajw : aN := tab (P := Try.prog) [] [] [] [alf]
def ahn : IR := Rs [Pp (.mov 2 (.c (.int .u32 0)))] (Sq (Rs [Mv 3 0, Bc 4 .lss 3 0] (Cn 4 (Rs [Mv 5 0, Bc 6 .add 5 1, Pp (.un 7 .neg 6), Pp (.cvi 8 .u64 7), Pp (.bin 9 .add 8 (kU 1)), Ca 10 154 [9, kI 23, kI 127], Pp (.cvi 11 .u32 10), Pp (.bin 12 .or (.c (.int .u32 2147483648)) 11), Mv 2 12] .ret) .skip)) (Rs [Mv 13 0, Pp (.cvi 14 .u64 13), Ca 15 154 [14, kI 23, kI 127], Pp (.cvi 16 .u32 15), Mv 2 16] .ret))
def aho : List RV := [.t 2]
theorem arZ : FnC Try.prog ajw [] 0 aiR Try.f132 ahn aho := fnC (by kernel_rfl) Try.func132 (by kernel_rfl) (by kernel_rfl) (by decide)
def ahp (N : Nat) (a : Int) : Ro :=
 cond (decide (a < 0)) (
 let b : Int := (IntKind.wrap .i64 (a + 1))
 let c : Int := (IntKind.wrap .i64 (0 - b))
 let d : Int := (IntKind.wrap .u64 ((IntKind.wrap .u64 c) + 1))
 aH (lQ d 23 127) (fun (e : Int) =>
 let f : Int := (bH .or .u32 2147483648 (IntKind.wrap .u32 e))
 some (.int .u32 f, []))) (
 aH (lQ (IntKind.wrap .u64 a) 23 127) (fun (g : Int) =>
 some (.int .u32 (IntKind.wrap .u32 g), [])))
def aaA (N : Nat) (a : Int) : Ro := ahp N a
theorem apO (N : Nat) (a : Int) : aW ajw N 17 aho ahn [.int .i64 a] [] = aaA N a := by kernel_rfl
theorem apP (N : Nat) (a : Int) (h : Tot (aaA N a) (fun z => ∃ (b : Int) (rest : List aK), z.1.dimR = .int .u32 b ∧ z.2 = rest)) : ∃ r, sJ a r := by
 obtain ⟨⟨v, hp⟩, hz, b, rest, e1, e2⟩ := h
 simp only at e1 e2
 subst e2
 exact ⟨(b), aI.dimR (arZ.pure (apO N a) hz) e1⟩
noncomputable def ahq : aN := tab (P := Try.prog) [] [] [] [alf]
def aeS : IR := Rs [Pp (.mov 2 (kU 0))] (Sq (Rs [Mv 3 0, Bc 4 .lss 3 0] (Cn 4 (Rs [Mv 5 0, Bc 6 .add 5 1, Pp (.un 7 .neg 6), Pp (.cvi 8 .u64 7), Pp (.bin 9 .add 8 (kU 1)), Ca 10 154 [9, kI 52, kI 1023], Pp (.bin 11 .or (kU 9223372036854775808) 10), Mv 2 11] .ret) .skip)) (Rs [Mv 12 0, Pp (.cvi 13 .u64 12), Ca 14 154 [13, kI 52, kI 1023], Mv 2 14] .ret))
def aeT : List RV := [.t 2]
theorem apQ : FnC Try.prog ahq [] 0 ag1 Try.f133 aeS aeT := fnC (by kernel_rfl) Try.func133 (by kernel_rfl) (by kernel_rfl) (by decide)
def aeU (N : Nat) (a : Int) : Ro :=
 cond (decide (a < 0)) (
 let b : Int := (IntKind.wrap .i64 (a + 1))
 let c : Int := (IntKind.wrap .i64 (0 - b))
 let d : Int := (IntKind.wrap .u64 ((IntKind.wrap .u64 c) + 1))
 aH (lQ d 52 1023) (fun (e : Int) =>
 let f : Int := (bH .or .u64 9223372036854775808 e)
 some (.int .u64 f, []))) (
 aH (lQ (IntKind.wrap .u64 a) 52 1023) (fun (g : Int) =>
 some (.int .u64 g, [])))
def yG (N : Nat) (a : Int) : Ro := aeU N a
theorem anM (N : Nat) (a : Int) : aW ahq N 15 aeT aeS [.int .i64 a] [] = yG N a := by kernel_rfl
theorem anN (N : Nat) (a : Int) (h : Tot (yG N a) (fun z => ∃ (b : Int) (rest : List aK), z.1.dimR = .int .u64 b ∧ z.2 = rest)) : ∃ r, mR a r := by
 obtain ⟨⟨v, hp⟩, hz, b, rest, e1, e2⟩ := h
 simp only at e1 e2
 subst e2
 exact ⟨(b), aI.dimR (apQ.pure (anM N a) hz) e1⟩
end Go.Proofs.Ytdpajabhmmmjoaa
end
noncomputable section
namespace Go.Proofs.Ytdpajabhmmmjoaa
open Go.AM
set_option autoImplicit false
set_option linter.unusedVariables false
set_option linter.unusedSimpArgs false
set_option maxRecDepth 100000
theorem p7 {α R : Type} (n : Nat) (B : (α → Option R) → α → Option R) (x : α) : aQ (n + 1) B x = B (aQ n B) x := rfl
theorem pc (N : Nat) (rec : (List UInt8 × Int × Int × Int × Int) → Option (V × List aK)) (s : List UInt8) (v n i : Nat) (l : Int) (x : UInt8) (hx : s.getD i 0 = x) (hv : v < 2 ^ 20) (hi : i < n) (hn : n ≤ s.length) (h4 : n ≤ 4) :
  dZ N rec (s, (n : Int), (v : Int), l, (i : Int)) = if 128 ≤ x.toNat ∧ x.toNat ≤ 191 then rec (s, (n : Int), ((v * 64 + x.toNat % 64 : Nat) : Int), l, ((i + 1 : Nat) : Int)) else some (.tup [.int .u32 0, .int .i64 0], []) := by
 have hb := UInt8.toNat_lt x
 simp only [dZ, Int.toNat_natCast, hx]
 by_cases h1 : x.toNat < 128
 ·rw [if_neg (by omega)]
  simp (disch := omega) only [bl, ]
 by_cases h2 : 191 < x.toNat
 ·rw [if_neg (by omega)]
  simp (disch := omega) only [bl, ]
 ·rw [if_pos (by omega)]
  simp (disch := omega) only [bl, ]
  rw [show (v : Int) * 64 + ((x.toNat : Int) - 128) = ((v * 64 + x.toNat % 64 : Nat) : Int) by omega]
  rfl
theorem agi (N : Nat) (rec : (List UInt8 × Int × Int × Int × Int) → Option (V × List aK)) (s : List UInt8) (v n l : Nat) :
  dZ N rec (s, (n : Int), (v : Int), (l : Int), (n : Int)) = if l ≤ v ∧ v ≤ 1114111 ∧ ¬ (55296 ≤ v ∧ v ≤ 57343) then some (.tup [.int .u32 v, .int .i64 n], []) else some (.tup [.int .u32 0, .int .i64 0], []) := by
 simp only [dZ]
 by_cases h1 : v < l
 ·rw [if_neg (by omega)]; simp (disch := omega) only [bl, ]
 by_cases h2 : 1114111 < v
 ·rw [if_neg (by omega)]; simp (disch := omega) only [bl, ]
 by_cases h3 : 55296 ≤ v
 ·by_cases h4 : v ≤ 57343
  ·rw [if_neg (by omega)]; simp (disch := omega) only [bl, ]
  ·rw [if_pos (by omega)]; simp (disch := omega) only [bl, ]
 ·rw [if_pos (by omega)]; simp (disch := omega) only [bl, ]
theorem axz (M : Nat) (a b : UInt8) (t : List UInt8) (v : Nat) (hv : v < 32) (ha : a.toNat = 192 + v) :
  aQ (M + 5) (dZ (M + 5)) (a :: b :: t, ((2 : Nat) : Int), (v : Int), ((128 : Nat) : Int), ((1 : Nat) : Int)) = some (.tup [.int .u32 (db 2 v (a :: b :: t)).1, .int .i64 (db 2 v (a :: b :: t)).2], []) := by
 have hg := azn a b v hv ha
 rw [p7, pc _ _ _ _ 2 1 _ b rfl (by omega) (by omega) (by simp) (by omega), p7, agi]
 simp only [db]
 rw [if_neg (show ¬ (a :: b :: t).length < 2 by simp)]
 simp only [List.take_succ_cons, List.take_zero, List.tail_cons, List.foldl_cons, List.foldl_nil, hg]
 by_cases h1 : 128 ≤ b.toNat ∧ b.toNat ≤ 191
 ·rw [if_pos h1]
  by_cases h2 : 128 ≤ v * 64 + b.toNat % 64
  ·rw [if_pos (by omega), if_pos (by omega)]
  ·rw [if_neg (by omega), if_neg (by omega)]; rfl
 ·rw [if_neg h1, if_neg (by omega)]; rfl
theorem axA (M : Nat) (a b c : UInt8) (t : List UInt8) (v : Nat) (hv : v < 16) (ha : a.toNat = 224 + v) :
  aQ (M + 5) (dZ (M + 5)) (a :: b :: c :: t, ((3 : Nat) : Int), (v : Int), ((2048 : Nat) : Int), ((1 : Nat) : Int)) = some (.tup [.int .u32 (db 3 v (a :: b :: c :: t)).1, .int .i64 (db 3 v (a :: b :: c :: t)).2], []) := by
 have hg := azo a b c v hv ha _ rfl
 rw [p7, pc _ _ _ _ 3 1 _ b rfl (by omega) (by omega) (by simp) (by omega), p7, pc _ _ _ _ 3 2 _ c rfl (by omega) (by omega) (by simp) (by omega), p7, agi]
 simp only [db]
 rw [if_neg (show ¬ (a :: b :: c :: t).length < 3 by simp)]
 simp only [List.take_succ_cons, List.take_zero, List.tail_cons, List.foldl_cons, List.foldl_nil, hg]
 by_cases h1 : 128 ≤ b.toNat ∧ b.toNat ≤ 191
 ·rw [if_pos h1]
  by_cases h2 : 128 ≤ c.toNat ∧ c.toNat ≤ 191
  ·rw [if_pos h2]
   by_cases h3 : 2048 ≤ (v * 64 + b.toNat % 64) * 64 + c.toNat % 64 ∧ ¬ (55296 ≤ (v * 64 + b.toNat % 64) * 64 + c.toNat % 64 ∧ (v * 64 + b.toNat % 64) * 64 + c.toNat % 64 ≤ 57343)
   ·rw [if_pos (by omega), if_pos (by omega)]
   ·rw [if_neg (by omega), if_neg (by omega)]; rfl
  ·rw [if_neg h2, if_neg (by omega)]; rfl
 ·rw [if_neg h1, if_neg (by omega)]; rfl
theorem axB (M : Nat) (a b c d : UInt8) (t : List UInt8) (v : Nat) (hv : v < 8) (ha : a.toNat = 240 + v) :
  aQ (M + 5) (dZ (M + 5)) (a :: b :: c :: d :: t, ((4 : Nat) : Int), (v : Int), ((65536 : Nat) : Int), ((1 : Nat) : Int)) = some (.tup [.int .u32 (db 4 v (a :: b :: c :: d :: t)).1, .int .i64 (db 4 v (a :: b :: c :: d :: t)).2], []) := by
 have hg := azp a b c d v hv ha _ rfl
 rw [p7, pc _ _ _ _ 4 1 _ b rfl (by omega) (by omega) (by simp) (by omega), p7, pc _ _ _ _ 4 2 _ c rfl (by omega) (by omega) (by simp) (by omega), p7, pc _ _ _ _ 4 3 _ d rfl (by omega) (by omega) (by simp) (by omega), p7, agi]
 simp only [db]
 rw [if_neg (show ¬ (a :: b :: c :: d :: t).length < 4 by simp)]
 simp only [List.take_succ_cons, List.take_zero, List.tail_cons, List.foldl_cons, List.foldl_nil, hg]
 by_cases h1 : 128 ≤ b.toNat ∧ b.toNat ≤ 191
 ·rw [if_pos h1]
  by_cases h2 : 128 ≤ c.toNat ∧ c.toNat ≤ 191
  ·rw [if_pos h2]
   by_cases h3 : 128 ≤ d.toNat ∧ d.toNat ≤ 191
   ·rw [if_pos h3]
    by_cases h4 : 65536 ≤ ((v * 64 + b.toNat % 64) * 64 + c.toNat % 64) * 64 + d.toNat % 64 ∧ ((v * 64 + b.toNat % 64) * 64 + c.toNat % 64) * 64 + d.toNat % 64 ≤ 1114111
    ·rw [if_pos (by omega), if_pos (by omega)]
    ·rw [if_neg (by omega), if_neg (by omega)]; rfl
   ·rw [if_neg h3, if_neg (by omega)]; rfl
  ·rw [if_neg h2, if_neg (by omega)]; rfl
 ·rw [if_neg h1, if_neg (by omega)]; rfl
theorem ab9 (M : Nat) (s : List UInt8) (hl : s.length ≤ 9223372036854775807) :
  vA (M + 5) s = some (.tup [.int .u32 (dS s).1, .int .i64 (dS s).2], []) := by
 match s with
 | [] => rfl
 | c :: t =>
   have hc : c.toNat < 256 := UInt8.toNat_lt _
   rw [List.length_cons] at hl
   simp only [vA, qZ, dS, eT, List.length_cons, Int.toNat_zero, List.getD_cons_zero]
   by_cases h1 : c.toNat < 128
   ·simp (disch := omega) only [bl, ]
    rfl
   by_cases h0 : c.toNat < 192
   ·simp (disch := omega) only [bl, ]
    rfl
   by_cases h2 : c.toNat < 224
   ·have e : c.toNat / 32 = 6 := by omega
    match t with
    | [] => simp (disch := omega) only [bl, db, List.length_cons, List.length_nil]; rfl
    | b :: t =>
      rw [List.length_cons] at hl
      simp (disch := omega) only [bl, e, List.length_cons]
      rw [show (c.toNat : Int) - 192 = ((c.toNat % 32 : Nat) : Int) by omega]
      exact axz M c b t _ (by omega) (by omega)
   by_cases h3 : c.toNat < 240
   ·have e : c.toNat / 16 = 14 := by omega
    match t with
    | [] => simp (disch := omega) only [bl, db, List.length_cons, List.length_nil]; rfl
    | [b] => simp (disch := omega) only [bl, db, List.length_cons, List.length_nil]; rfl
    | b :: d :: t =>
      rw [List.length_cons, List.length_cons] at hl
      simp (disch := omega) only [bl, e, List.length_cons]
      rw [show (c.toNat : Int) - 224 = ((c.toNat % 16 : Nat) : Int) by omega]
      exact axA M c b d t _ (by omega) (by omega)
   by_cases h4 : c.toNat < 248
   ·have e : c.toNat / 8 = 30 := by omega
    match t with
    | [] => simp (disch := omega) only [bl, db, List.length_cons, List.length_nil]; rfl
    | [b] => simp (disch := omega) only [bl, db, List.length_cons, List.length_nil]; rfl
    | [b, d] => simp (disch := omega) only [bl, db, List.length_cons, List.length_nil]; rfl
    | b :: d :: f :: t =>
      rw [List.length_cons, List.length_cons, List.length_cons] at hl
      simp (disch := omega) only [bl, e, List.length_cons]
      rw [show (c.toNat : Int) - 240 = ((c.toNat % 8 : Nat) : Int) by omega]
      exact axB M c b d f t _ (by omega) (by omega)
   ·simp (disch := omega) only [bl, ]
    rfl
end Go.Proofs.Ytdpajabhmmmjoaa
end
noncomputable section
namespace Go.Proofs.Ytdpajabhmmmjoaa
open Go.AM
set_option autoImplicit false
set_option linter.unusedVariables false
theorem iQ.mono {m m' : Nat} {t : aA} (h : iQ m t) (hm : m ≤ m') : iQ m' t :=
 ⟨⟨h.items.1, by have := h.items.2; omega⟩, fun f hf => ⟨(h.fields f hf).1, by have := (h.fields f hf).2.1; omega, (h.fields f hf).2.2⟩, h.nf,
   fun b hb => ⟨(h.branches b hb).1, by have := (h.branches b hb).2; omega⟩, h.nb, h.ns, h.size, h.done, h.kind, h.enum⟩
theorem bI.refl {ts : List aA} {e : Int} (h : ts.length ≤ 60) : bI ts e ts e :=
 ⟨Nat.le_refl _, h, fun h => h, fun _ _ _ => rfl, fun _ i t hi ht => by
  have := (List.getElem?_eq_some_iff.1 ht).1; omega⟩
theorem bI.bad {ts : List aA} {e e' : Int} (h : ts.length ≤ 60) (he : e' ≠ 0) : bI ts e ts e' :=
 ⟨Nat.le_refl _, h, fun h => absurd h he, fun h => absurd h he, fun h => absurd h he⟩
theorem bI.fail {ts ts' : List aA} {e e' : Int} (h : bI ts e ts' e') (c : Int) (hc : c ≠ 0) : bI ts e ts' (if e' = 0 then c else e') := by
 have : (if e' = 0 then c else e') ≠ 0 := by split <;> assumption
 exact ⟨h.len, h.cap, fun h => absurd h this, fun h => absurd h this, fun h => absurd h this⟩
theorem bI.trans {ts ts1 ts2 : List aA} {e e1 e2 : Int} (h : bI ts e ts1 e1) (h' : bI ts1 e1 ts2 e2) : bI ts e ts2 e2 where
 len := Nat.le_trans h.len h'.len
 cap := h'.cap
 err := fun he => h.err (h'.err he)
 old := fun he i hi => by
  have := h.len
  rw [h'.old he i (by omega), h.old (h'.err he) i hi]
 new := fun he i t hi ht => by
  rcases Nat.lt_or_ge i ts1.length with hl | hl
  ·rw [h'.old he i hl] at ht
   exact (h.new (h'.err he) i t hi ht).mono h'.len
  ·exact h'.new he i t hl ht
theorem bI.weak {ts ts' : List aA} {e e1 e' : Int} (h : bI ts e1 ts' e') (he : e1 = 0 → e = 0) : bI ts e ts' e' :=
 ⟨h.len, h.cap, fun h' => he (h.err h'), h.old, h.new⟩
theorem bI.push {ts : List aA} {e : Int} (h : ts.length < 60) (t : aA) (ht : iQ (ts.length + 1) t) : bI ts e (ts ++ [t]) e where
 len := by simp
 cap := by simp; omega
 err := fun h => h
 old := fun _ i hi => by rw [List.getElem?_append_left hi]
 new := fun _ i t' hi ht' => by
  rw [List.getElem?_append_right hi] at ht'
  have hl := (List.getElem?_eq_some_iff.1 ht').1
  simp only [List.length_singleton] at hl
  have : i - ts.length = 0 := by omega
  rw [this] at ht'
  simp only [List.getElem?_cons_zero, Option.some.injEq] at ht'
  subst ht'
  simpa using ht
theorem bI.close {ts ts2 : List aA} {e e2 : Int} {t0 t : aA} (h : bI (ts ++ [t0]) e ts2 e2) (ht : iQ ts2.length t) : bI ts e (ts2.set ts.length t) e2 where
 len := by have := h.len; simp at this ⊢; omega
 cap := by simpa using h.cap
 err := h.err
 old := fun he i hi => by
  rw [List.getElem?_set_ne (by omega), h.old he i (by simp; omega), List.getElem?_append_left hi]
 new := fun he i t' hi ht' => by
  have hlen := h.len
  simp only [List.length_append, List.length_singleton] at hlen
  simp only [List.length_set] at ht' ⊢
  rcases Nat.lt_or_eq_of_le hi with hl | hl
  ·rw [List.getElem?_set_ne (by omega)] at ht'
   exact h.new he i t' (by simp; omega) ht'
  ·subst hl
   rw [List.getElem?_set_self (by omega)] at ht'
   cases ht'
   exact ht
theorem bI.at_open {ts ts2 : List aA} {e e2 : Int} {t0 : aA} (h : bI (ts ++ [t0]) e ts2 e2) (he : e2 = 0) : ts2[ts.length]? = some t0 := by
 rw [h.old he ts.length (by simp), List.getElem?_append_right (Nat.le_refl _)]
 simp
theorem bI.sch {ts : List aA} (h : bI [] 0 ts 0) (h0 : 0 < ts.length) : dm ts := by
 refine ⟨⟨h0, h.cap⟩, fun t ht => ?_⟩
 obtain ⟨i, hi, rfl⟩ := List.mem_iff_getElem.1 ht
 exact h.new rfl i _ (by simp) (List.getElem?_eq_getElem hi)
theorem bh.kids {k n : Int} {s : List UInt8} {l : List aE} {names : List (List UInt8)} (h : bh (.mk k n s l names)) :
  s.length ≤ 100 ∧ l.length ≤ 8 ∧ names.length ≤ l.length ∧ (∀ x ∈ names, x.length ≤ 100) ∧ (k = 6 → names.length = l.length) ∧ ∀ c ∈ l, bh c := by
 cases h with
 | mk _ _ _ _ _ h1 h2 h3 h4 h5 h6 => exact ⟨h1, h2, h3, h4, h5, h6⟩
theorem bh.eta {c : aE} : bh (.mk c.kind c.n c.s c.l c.names) ↔ bh c := by
 cases c; exact Iff.rfl
theorem bh.zero : bh (.mk 0 0 [] [] []) := .mk _ _ _ _ _ (by simp) (by simp) (by simp) (by simp) (by simp) (by simp)
theorem bh.getD {l : List aE} (h : ∀ c ∈ l, bh c) (i : Nat) : bh (l.getD i (aC .jnode)) := by
 rw [List.getD_eq_getElem?_getD]
 cases hi : l[i]? with
 | none => exact bh.zero
 | some c => exact h c (List.mem_of_getElem? hi)
theorem atI : ∀ {names : List (List UInt8)} {l : List aE} {name : List UInt8} {c : aE}, nQ names l name = some c → c ∈ l
 | [], l, _, _, h => by simp [nQ] at h
 | x :: ns, [], _, _, h => by simp [nQ] at h
 | x :: ns, d :: l, name, c, h => by
   simp only [nQ] at h
   split at h
   ·simp at h; simp [h]
   ·exact List.mem_cons_of_mem _ (atI h)
theorem ayk {o : Option aE} {l : List aE} (h : ∀ c ∈ l, bh c) (ho : ∀ c, o = some c → c ∈ l) : bh (.mk (aan o).1 (aan o).2.1 (aan o).2.2.1 (aan o).2.2.2.1 (aan o).2.2.2.2.1) := by
 cases o with
 | none => exact bh.zero
 | some c => exact bh.eta.2 (h c (ho c rfl))
theorem tR {k : Int} {names : List (List UInt8)} {l : List aE} {name : List UInt8} (h : ∀ c ∈ l, bh c) :
  bh (.mk (aan (if k = 6 then nQ names l name else none)).1 (aan (if k = 6 then nQ names l name else none)).2.1 (aan (if k = 6 then nQ names l name else none)).2.2.1 (aan (if k = 6 then nQ names l name else none)).2.2.2.1 (aan (if k = 6 then nQ names l name else none)).2.2.2.2.1) :=
 ayk h fun c hc => by
  split at hc
  ·exact atI hc
  ·cases hc
end Go.Proofs.Ytdpajabhmmmjoaa
end
noncomputable section
namespace Go.Proofs.Ytdpajabhmmmjoaa
open Go.AM
set_option autoImplicit false
set_option linter.unusedVariables false
set_option linter.unusedSimpArgs false
set_option maxRecDepth 100000
theorem atJ (l : List UInt8) (n m : Int) (h : fe l n) (hm : 0 < m) : ∃ r, aS l n m r := by
 obtain ⟨h1, h2, h3⟩ := h
 apply ajf 1
 unfold uh aa0
 repeat' (first | (with_reducible refine aF ?_ ?_ <;> (intro hb; (try simp only [bnl] at hb); (try revert hb; intro _))) | with_reducible refine aU ?_ ?_ | with_reducible refine aG ?_ | fail)
 ·exact ⟨_, _, _, _, rfl, rfl, by simp, by simpa using hm, rfl, h1, h2, h3⟩
 ·simp (disch := omega) only [bl, bnl]
 ·simp only [bnl]; omega
 ·refine ⟨_, _, _, _, rfl, rfl, ?_, ?_, rfl, ?_, ?_, h3⟩
  ·simp only
   have := UInt8.toNat_lt (l.getD (IntKind.i64.wrap (IntKind.i64.wrap (n + 1) - 1)).toNat (aC .u8))
   rw [aJ _ (by omega)]
   exact Int.tmod_nonneg _ (by omega)
  ·simp only
   exact Int.tmod_lt_of_pos _ hm
  ·simp only; rw [aJ _ (by omega)]; omega
  ·simp only; rw [aJ _ (by omega)]; omega
theorem dF (l : List UInt8) (n m : Int) (h : fe l n) (hm : 0 < m) (hm2 : m ≤ 1000) : ∃ r, aS l n m r := atJ l n m h hm
theorem atK (l : List UInt8) (n : Int) : ∃ r, ii l n r := by
 apply ahW 1
 unfold sP zB
 repeat' (first | (with_reducible refine aF ?_ ?_ <;> (intro hb; (try simp only [bnl] at hb); (try revert hb; intro _))) | with_reducible refine aU ?_ ?_ | with_reducible refine aG ?_ | fail)
 exact ⟨_, _, _, _, rfl, rfl, rfl, rfl⟩
theorem atL (l : List UInt8) : ∃ r, rq l r := by
 apply arC 1
 unfold abV ajj
 repeat' (first | (with_reducible refine aF ?_ ?_ <;> (intro hb; (try simp only [bnl] at hb); (try revert hb; intro _))) | with_reducible refine aU ?_ ?_ | with_reducible refine aG ?_ | fail)
 exact ⟨_, _, [], rfl, rfl⟩
theorem dv (s : List UInt8) : ∃ r, bD s r := by
 apply arE 1
 unfold abW ajm
 repeat' (first | (with_reducible refine aF ?_ ?_ <;> (intro hb; (try simp only [bnl] at hb); (try revert hb; intro _))) | with_reducible refine aU ?_ ?_ | with_reducible refine aG ?_ | fail)
 exact ⟨_, _, _, _, _, _, rfl, rfl, rfl⟩
theorem zG (f0 : Bool) (names : List (List UInt8)) (f1 : Bool) (l : List aE) : ∃ r, eK f0 names f1 l r := by
 apply apt 1
 unfold aao ag8
 repeat' (first | (with_reducible refine aF ?_ ?_ <;> (intro hb; (try simp only [bnl] at hb); (try revert hb; intro _))) | with_reducible refine aU ?_ ?_ | with_reducible refine aG ?_ | fail)
 exact ⟨_, _, _, _, _, _, _, _, rfl, rfl, rfl⟩
theorem apR : ∀ (names : List (List UInt8)) (l : List aE) (name : List UInt8) (i : Nat), (∀ j, j < i → names.getD j [] ≠ name) → nQ names l name = nQ (names.drop i) (l.drop i) name
 | names, l, name, 0, _ => rfl
 | [], l, name, i + 1, h => by simp [nQ]
 | x :: ns, [], name, i + 1, h => by
   have : ∀ ns : List (List UInt8), nQ ns [] name = none := fun ns => by cases ns <;> rfl
   simp [nQ, this]
 | x :: ns, c :: l, name, i + 1, h => by
   have h0 := h 0 (by omega)
   simp only [List.getD_cons_zero] at h0
   simp only [nQ, if_neg h0, List.drop_succ_cons]
   exact apR ns l name i fun j hj => by simpa using h (j + 1) (by omega)
theorem atM {names : List (List UInt8)} {l : List aE} {name : List UInt8} {i : Nat} (h1 : i < names.length) (h2 : i < l.length) (h : ∀ j, j < i → names.getD j [] ≠ name) (he : names.getD i [] = name) :
  nQ names l name = some (l.getD i (aC .jnode)) := by
 rw [apR names l name i h, List.drop_eq_getElem_cons h1, List.drop_eq_getElem_cons h2]
 simp only [nQ]
 rw [List.getD_eq_getElem?_getD, List.getElem?_eq_getElem h1, Option.getD_some] at he
 rw [if_pos he, List.getD_eq_getElem?_getD, List.getElem?_eq_getElem h2, Option.getD_some]
theorem ajx {names : List (List UInt8)} {l : List aE} {name : List UInt8} {i : Nat} (h : ∀ j, j < i → names.getD j [] ≠ name) (hi : names.length ≤ i ∨ l.length ≤ i) : nQ names l name = none := by
 rw [apR names l name i h]
 rcases hi with hi | hi
 ·rw [List.drop_eq_nil_of_le hi]; rfl
 ·rw [List.drop_of_length_le (l := l) hi]
  cases names.drop i <;> rfl
theorem avs (k n : Int) (s : List UInt8) (l : List aE) (names : List (List UInt8)) (name : List UInt8) (h : names.length ≤ l.length) (hl : names.length ≤ 1000) : ∃ r, tO k n s l names name r := by
 apply atv 2000
 unfold adN uL
 refine be (fun x => x.1 = name ∧ x.2.2.2.2.1 = l ∧ x.2.2.2.2.2.1 = names ∧ 0 ≤ x.2.2.2.2.2.2.1 ∧ x.2.2.2.2.2.2.1 ≤ (names.length : Int) ∧ ∀ j : Nat, (j : Int) < x.2.2.2.2.2.2.1 → names.getD j [] ≠ name)
  (fun x => ((names.length : Int) - x.2.2.2.2.2.2.1).toNat) ?_ _ _ ⟨rfl, rfl, rfl, by simp, by simp, fun j hj => by simp at hj; omega⟩ (by simp; omega)
 rintro again ⟨a0, a1, a2, a3, a4, a5, i, b0, b1, b2, b3, b4⟩ ⟨rfl, rfl, rfl, i1, i2, i3⟩ ih
 simp only at i1 i2 i3 ih h hl ⊢
 unfold xh
 repeat' (first | (with_reducible refine aF ?_ ?_ <;> (intro hb; (try simp only [bnl] at hb); (try revert hb; intro _))) | with_reducible refine aU ?_ ?_ | with_reducible refine aG ?_ | fail)
 ·simp only [bnl]; omega
 ·simp only [bnl]; omega
 ·rename_i hb hb2
  have e := atM (names := a5) (l := a4) (name := a0) (i := i.toNat) (by omega) (by omega) (fun j hj => i3 j (by omega)) hb2
  refine ⟨_, _, _, _, _, _, _, rfl, rfl, ?_⟩
  simp only [vt]
  rw [e]; rfl
 ·rename_i hb hb2
  have ew := aJ (i + 1) (by omega)
  refine ih _ ⟨rfl, rfl, rfl, ?_, ?_, ?_⟩ ?_
  ·simp only [ew]; omega
  ·simp only [ew]; omega
  ·simp only [ew]
   intro j hj
   by_cases e : (j : Int) = i
   ·have : i.toNat = j := by omega
    rw [this] at hb2
    exact hb2
   ·exact i3 j (by omega)
  ·simp only [ew]; omega
 ·rename_i hb
  refine ⟨_, _, _, _, _, _, _, rfl, rfl, ?_⟩
  simp only [vt]
  rw [ajx (i := i.toNat) (fun j hj => i3 j (by omega)) (.inl (by omega))]
  rfl
theorem co (ts : List aA) (e c : Int) : ∃ r, aL ts e c r := by
 apply agc 1
 unfold rx yd
 repeat' (first | (with_reducible refine aF ?_ ?_ <;> (intro hb; (try simp only [bnl] at hb); (try revert hb; intro _))) | with_reducible refine aU ?_ ?_ | with_reducible refine aG ?_ | fail)
 ·rename_i hb; exact ⟨_, _, _, _, rfl, rfl, by simp [kj, hb]⟩
 ·rename_i hb; exact ⟨_, _, _, _, rfl, rfl, by simp [kj, hb]⟩
end Go.Proofs.Ytdpajabhmmmjoaa
end
noncomputable section
namespace Go.Proofs.Ytdpajabhmmmjoaa
open Go.AM
set_option autoImplicit false
set_option linter.unusedVariables false
set_option linter.unusedSimpArgs false
set_option maxRecDepth 100000
theorem anO (ts : List aA) (t : Int) : ∃ r, lv ts t r := by
 apply atx 1
 unfold adO alk
 repeat' (first | (with_reducible refine aF ?_ ?_ <;> (intro hb; (try simp only [bnl] at hb); (try revert hb; intro _))) | with_reducible refine aU ?_ ?_ | with_reducible refine aG ?_ | fail)
 all_goals rename_i h
 ·exact ⟨_, _, rfl, rfl, by simp [vu, isT, h]⟩
 ·exact ⟨_, _, rfl, rfl, by simp only [vu, isT]; rw [decide_eq_false (by omega)]; rfl⟩
theorem al9 (s : List UInt8) : ∃ r, ma s r := by
 apply apy 100
 unfold aaq qU
 refine be (fun x => match x with | (a, f, w, i) => a = s ∧ w = anC ∧ 0 ≤ i ∧ i ≤ 14 ∧ ∀ j : Nat, (j : Int) < i → anC.getD j [] ≠ s) (fun x => (14 - x.2.2.2).toNat) ?_ _ _ ⟨rfl, rfl, by simp, by simp, fun j hj => by omega⟩ (by simp)
 rintro again ⟨a, f, w, i⟩ ⟨rfl, rfl, i1, i2, i3⟩ ih
 dsimp only at ih
 have e := aJ (i + 1) (by omega)
 unfold tP
 dsimp only
 have hw : anC.length = 14 := rfl
 rw [hw]
 repeat' (first | (with_reducible refine aF ?_ ?_ <;> (intro hb; (try simp only [bnl] at hb); (try revert hb; intro _))) | with_reducible refine aU ?_ ?_ | with_reducible refine aG ?_ | fail)
 ·simp only [bnl]; omega
 ·rename_i h1 h2
  refine ⟨_, _, rfl, rfl, ?_, ?_, ?_, ?_, ?_⟩
  ·simp only [e]; omega
  ·simp only [e]; omega
  ·simp only [e]
   intro h3
   have : i = 13 := by omega
   subst this
   rw [← h2]; rfl
  ·simp only [e]
   intro h3; omega
  ·simp only [e]
   intro h3
   have : i = 9 := by omega
   subst this
   rw [← h2]; rfl
 ·rename_i h1 h2
  refine ih (a, f, anC, _) ?_ ?_
  ·simp only [e]
   refine ⟨trivial, trivial, by omega, by omega, fun j hj => ?_⟩
   by_cases hji : (j : Int) = i
   ·have : i.toNat = j := by omega
    rw [this] at h2
    exact h2
   ·exact i3 j (by omega)
  ·simp only [e]; omega
 ·rename_i h1
  exact ⟨_, _, rfl, rfl, by simp, by simp, by simp, fun _ j hj => i3 j (by omega), by simp⟩
theorem axC (k : Int) : ∃ r, sL k r := by
 apply apA 1
 unfold aar ahd
 dsimp only
 repeat' (first | (with_reducible refine aF ?_ ?_ <;> (intro hb; (try simp only [bnl] at hb); (try revert hb; intro _))) | with_reducible refine aU ?_ ?_ | with_reducible refine aG ?_ | fail)
 ·exact ⟨_, _, rfl, rfl⟩
 ·exact ⟨_, _, rfl, rfl⟩
 ·simp only [bnl, List.length_cons, List.length_nil]; omega
 ·exact ⟨_, _, rfl, rfl⟩
theorem ake (ts : List aA) (e a0 : Int) (a1 : List UInt8) (a2 : List (List UInt8)) (a3 : Int) (a4 : List (List UInt8)) (a5 : Bool) (a6 : List UInt8) (a7 : Int) (a8 : List aM) (a9 : List Int) (h : ts.length ≤ 60) :
  ∃ r, en ts e a0 a1 a2 a3 a4 a5 a6 a7 a8 a9 r := by
 apply ahZ 1
 unfold sT zF
 dsimp only
 repeat' (first | (with_reducible refine aF ?_ ?_ <;> (intro hb; (try simp only [bnl] at hb); (try revert hb; intro _))) | with_reducible refine aU ?_ ?_ | with_reducible refine aG ?_ | (refine aD (co _ _ _) ?_; rintro _ ⟨-, rfl⟩; try dsimp only) | fail)
 ·rename_i hb
  refine ⟨_, _, _, _, rfl, rfl, ?_⟩
  simp only [lu]
  simp only [if_pos (show 60 ≤ ts.length by omega)]
 ·first | (simp only [bnl, lnl]; done) | (simp only [bnl, lnl]; omega)
 ·rename_i hb
  refine ⟨_, _, _, _, rfl, rfl, ?_⟩
  simp only [lu, List.length_append, List.length_cons, List.length_nil]
  rw [if_neg (by omega), aJ _ (by omega)]
  simp
theorem atN (ts : List aA) (e : Int) (s : List UInt8) (h : ts.length ≤ 60) : ∃ r, cI ts e s r := by
 apply agf 100
 unfold rz iU
 refine be (fun x => x.1 = s ∧ x.2.2.1 = ts ∧ x.2.2.2 = e ∧ 0 ≤ x.2.1 ∧ x.2.1 ≤ (ts.length : Int)) (fun x => ((ts.length : Int) - x.2.1).toNat) ?_ _ _ ⟨rfl, rfl, rfl, by simp, by simp⟩ (by simp; omega)
 rintro again ⟨s, i, ts, e⟩ ⟨rfl, rfl, rfl, i1, i2⟩ ih
 simp only at i1 i2 ih h ⊢
 unfold lz
 dsimp only
 have next : i < ts.length → Tot (again (s, IntKind.i64.wrap (i + 1), ts, e)) _ := fun hl => ih (s, IntKind.i64.wrap (i + 1), ts, e) (by simp only [aJ (i + 1) (by omega)]; exact ⟨trivial, trivial, trivial, by omega, by omega⟩) (by simp only [aJ (i + 1) (by omega)]; omega)
 repeat' (first | (with_reducible refine aF ?_ ?_ <;> (intro hb; (try simp only [bnl] at hb); (try revert hb; intro _))) | with_reducible refine aU ?_ ?_ | with_reducible refine aG ?_ | (exact next (by omega)) | fail)
 all_goals first | (first | (simp only [bnl, lnl]; done) | (simp only [bnl, lnl]; omega)) | (refine ⟨_, _, _, _, _, rfl, rfl, rfl, ?_⟩; simp; try omega)
theorem awF {a b : List UInt8} (h1 : Op.bytesLess a b = false) (h2 : ¬ a = b) : Op.bytesLess b a = true := by
 have h := af3 a b
 rw [h1, decide_eq_false h2] at h
 simpa using h.symm
theorem aqL : ∀ (i : Nat) (ks : List (List UInt8)) (p key : List UInt8), pX p ks = true → Op.bytesLess p key = true → cZ key = true → (∀ j, j < i → j < ks.length → Op.bytesLess (ks.getD j []) key = true) →
  (∀ _ : i < ks.length, Op.bytesLess key (ks.getD i []) = true) → pX p (ks.take i ++ (key :: ks.drop i)) = true
 | 0, [], p, key, h, hp, hv, _, _ => by simp [pX, hv, hp]
 | 0, k :: ks, p, key, h, hp, hv, _, hl => by
   have := hl (by simp)
   simp only [pX, Bool.and_eq_true] at h
   simp only [List.getD_cons_zero] at this
   simp [pX, hv, hp, h.1, h.2.2, this]
 | i + 1, [], p, key, h, hp, hv, _, _ => by simp [pX, hv, hp]
 | i + 1, k :: ks, p, key, h, hp, hv, hb, hl => by
   simp only [pX, Bool.and_eq_true] at h
   have ih := aqL i ks k key h.2.2 (by have := hb 0 (by omega) (by simp); simpa using this) hv
    (fun j h1 h2 => by have := hb (j + 1) (by omega) (by simp; omega); simpa using this) (fun h1 => by have := hl (by simp; omega); simpa using this)
   simp [pX, h.1, h.2.1, ih]
theorem awG (i : Nat) (ks : List (List UInt8)) (key : List UInt8) (h : ey ks = true) (hv : cZ key = true) (hb : ∀ j, j < i → j < ks.length → Op.bytesLess (ks.getD j []) key = true)
  (hl : ∀ _ : i < ks.length, Op.bytesLess key (ks.getD i []) = true) : ey (ks.take i ++ (key :: ks.drop i)) = true := by
 match i, ks, h, hb, hl with
 | 0, [], h, hb, hl => simp [ey, pX, hv]
 | 0, k :: ks, h, hb, hl =>
   have := hl (by simp)
   simp only [ey, Bool.and_eq_true] at h
   simp only [List.getD_cons_zero] at this
   simp [ey, pX, hv, h.1, h.2, this]
 | i + 1, [], h, hb, hl => simp [ey, pX, hv]
 | i + 1, k :: ks, h, hb, hl =>
   simp only [ey, Bool.and_eq_true] at h
   have := aqL i ks k key h.2 (by have := hb 0 (by omega) (by simp); simpa using this) hv
    (fun j h1 h2 => by have := hb (j + 1) (by omega) (by simp; omega); simpa using this) (fun h1 => by have := hl (by simp; omega); simpa using this)
   simp [ey, h.1, this]
theorem adn (ts : List aA) (t : Int) : ∀ l m : List aB, br ts t (l ++ m) = (br ts t l && br ts t m)
 | [], m => by simp [br]
 | v :: l, m => by simp [br, adn ts t l m, Bool.and_assoc]
theorem aca : ∀ l m : List aB, wL (l ++ m) = wL l + wL m
 | [], m => by simp [wL]
 | v :: l, m => by simp [wL, aca l m]; omega
theorem agj : ∀ l m : List (List UInt8), cL (l ++ m) = cL l + cL m
 | [], m => by simp [cL]
 | v :: l, m => by simp [cL, agj l m]; omega
theorem aqM (ts : List aA) (t : Int) (w : aB) (hw : aZ ts t w = true) : ∀ (l : List aB) (i : Nat), br ts t l = true → br ts t (l.set i w) = true
 | [], i, h => by simp [br]
 | v :: l, 0, h => by simp only [br, Bool.and_eq_true] at h; simp [br, hw, h.2]
 | v :: l, i + 1, h => by simp only [br, Bool.and_eq_true] at h; simp [br, h.1, aqM ts t w hw l i h.2]
theorem awH (w : aB) : ∀ (l : List aB) (i : Nat), wL (l.set i w) ≤ wL l + wV w
 | [], i => by simp [wL]
 | v :: l, 0 => by simp [wL]; omega
 | v :: l, i + 1 => by have := awH w l i; simp only [List.set_cons_succ, wL]; omega
theorem akf (n : Int) (s : List UInt8) (l : List aB) (ks : List (List UInt8)) (b : Int) (key : List UInt8) (w0 : Int) (w1 : List UInt8) (w2 : List aB) (w3 : List (List UInt8)) (w4 : Int) (h : ks.length = l.length) (hl : l.length ≤ 10000) :
  ∃ r, jA n s l ks b key w0 w1 w2 w3 w4 r := by
 apply arL 20000
 unfold abZ sS
 refine be (fun x => match x with
  | (c0, c1, c2, c3, c4, c5, i, c6, c7, l', ks', c8, c9, c10, c11, c12, c13) => c0 = key ∧ (c1, c2, c3, c4, c5) = (w0, w1, w2, w3, w4) ∧ (c6, c7, c8) = (n, s, b) ∧ 0 ≤ i ∧ i ≤ (l.length : Int) ∧ ks' = ks ∧ l' = l ∧ ∀ j : Nat, (j : Int) < i → Op.bytesLess (ks.getD j []) key = true)
  (fun x => ((l.length : Int) - x.2.2.2.2.2.2.1).toNat) ?_ _ _ ⟨rfl, rfl, rfl, by simp, by simp, rfl, rfl, fun j hj => by omega⟩ (by simp; omega)
 rintro again ⟨c0, c1, c2, c3, c4, c5, i, c6, c7, l, ks, c8, c9, c10, c11, c12, c13⟩ ⟨rfl, e1, e2, i1, i2, rfl, rfl, i3⟩ ih
 simp only [Prod.mk.injEq] at e1 e2
 obtain ⟨rfl, rfl, rfl, rfl, rfl⟩ := e1
 obtain ⟨rfl, rfl, rfl⟩ := e2
 simp only at i1 i2 ih h hl ⊢
 unfold vw
 dsimp only
 have next : i < l.length → Op.bytesLess (ks.getD i.toNat []) c0 = true → Tot (again (c0, c1, c2, c3, c4, c5, IntKind.i64.wrap (i + 1), c6, c7, l, ks, c8, c9, c10, c11, c12, c13)) _ := fun hl hb => ih (c0, c1, c2, c3, c4, c5, IntKind.i64.wrap (i + 1), c6, c7, l, ks, c8, c9, c10, c11, c12, c13)
  (by
   simp only [aJ (i + 1) (by omega)]
   refine ⟨trivial, trivial, trivial, by omega, by omega, trivial, trivial, fun j hj => ?_⟩
   by_cases hji : (j : Int) < i
   ·exact i3 j hji
   ·have : j = i.toNat := by omega
    rw [this]; exact hb) (by simp only [aJ (i + 1) (by omega)]; omega)
 have i4 : ∀ j, j < i.toNat → j < ks.length → Op.bytesLess (ks.getD j []) c0 = true := fun j hj _ => i3 j (by omega)
 have ins : (∀ _ : i.toNat < ks.length, Op.bytesLess c0 (ks.getD i.toNat []) = true) → axy c6 c7 l ks c8 c0 (.mk c1 c2 c3 c4 c5) (c6, c7, l.take i.toNat ++ ((.mk c1 c2 c3 c4 c5) :: l.drop i.toNat), ks.take i.toNat ++ (c0 :: ks.drop i.toNat), c8) := fun hlt => by
  refine ⟨rfl, rfl, rfl, ?_, ?_, fun h1 h2 => awG _ _ _ h1 h2 i4 hlt, fun ts t h1 h2 => ?_⟩
  ·simp only [aca]
   have := aca (l.take i.toNat) (l.drop i.toNat)
   rw [List.take_append_drop] at this
   simp only [wL]; omega
  ·simp only [agj]
   have := agj (ks.take i.toNat) (ks.drop i.toNat)
   rw [List.take_append_drop] at this
   simp only [cL]; omega
  ·have := adn ts t (l.take i.toNat) (l.drop i.toNat)
   rw [List.take_append_drop, h1] at this
   have this := (Bool.and_eq_true _ _ ▸ this.symm : _ ∧ _)
   simp [adn, br, this.1, this.2, h2]
 have same : axy c6 c7 l ks c8 c0 (.mk c1 c2 c3 c4 c5) (c6, c7, l.set i.toNat (.mk c1 c2 c3 c4 c5), ks, c8) := by
  refine ⟨rfl, rfl, rfl, awH _ _ _, by simp only; omega, fun h1 _ => h1, fun ts t h1 h2 => aqM ts t _ h2 _ _ h1⟩
 repeat' (first | (with_reducible refine aF ?_ ?_ <;> (intro hb; (try simp only [bnl] at hb); (try revert hb; intro _))) | with_reducible refine aU ?_ ?_ | with_reducible refine aG ?_ | (exact next (by omega) (by assumption)) | fail)
 all_goals first | (first | (simp only [bnl, lnl]; done) | (simp only [bnl, lnl]; omega)) | skip
 all_goals
  refine ⟨_, _, _, _, _, _, rfl, rfl, ?_, ?_, ?_⟩
  ·simp only [List.length_append, List.length_cons, List.length_nil, List.length_drop, List.length_take, List.length_set]; omega
  ·simp only [List.length_append, List.length_cons, List.length_nil, List.length_drop, List.length_take, List.length_set]; omega
 ·exact same
 ·simpa using ins fun _ => awF (by assumption) (by assumption)
 ·simpa using ins fun hh => by omega
end Go.Proofs.Ytdpajabhmmmjoaa
end
noncomputable section
namespace Go.Proofs.Ytdpajabhmmmjoaa
open Go.AM
set_option autoImplicit false
set_option linter.unusedVariables false
set_option linter.unusedSimpArgs false
set_option maxRecDepth 100000
theorem av1 (c : Int) : ∃ r, qS c r := by
 apply anJ 1
 unfold yD aeP
 repeat' (first | (with_reducible refine aF ?_ ?_ <;> (intro hb; (try simp only [bnl] at hb); (try revert hb; intro _))) | with_reducible refine aU ?_ ?_ | with_reducible refine aG ?_ | fail)
 all_goals exact ⟨_, _, rfl, rfl⟩
theorem awI (c : Int) : ∃ r, sO c r := by
 apply apF 1
 unfold aau ahj
 repeat' (first | (with_reducible refine aF ?_ ?_ <;> (intro hb; (try simp only [bnl] at hb); (try revert hb; intro _))) | with_reducible refine aU ?_ ?_ | with_reducible refine aG ?_ | fail)
 all_goals exact ⟨_, _, rfl, rfl⟩
theorem agk (s : List UInt8) (hs : s.length ≤ 1000000) : ∃ r, jB s r := by
 apply arP 2000000
 unfold ab2 sV
 refine be (fun x => x.1 = s ∧ 0 ≤ x.2 ∧ x.2 ≤ (s.length : Int)) (fun x => ((s.length : Int) - x.2).toNat) ?_ _ _ ⟨rfl, by simp, by simp⟩ (by simp; omega)
 rintro again ⟨a, i⟩ ⟨rfl, i1, i2⟩ ih
 simp only at i1 i2 ih hs ⊢
 have next : i < a.length → Tot (again (a, IntKind.i64.wrap (i + 1))) _ := fun h => ih (a, IntKind.i64.wrap (i + 1)) (by simp only [aJ (i + 1) (by omega)]; exact ⟨trivial, by omega, by omega⟩) (by simp only [aJ (i + 1) (by omega)]; omega)
 unfold vx
 dsimp only
 repeat' (first | (with_reducible refine aF ?_ ?_ <;> (intro hb; (try simp only [bnl] at hb); (try revert hb; intro _))) | with_reducible refine aU ?_ ?_ | with_reducible refine aG ?_ | (refine aD (av1 _) ?_; intro _ _) | (refine aD (awI _) ?_; intro _ _) | (exact next (by assumption)) | fail)
 all_goals first | exact ⟨_, _, rfl, rfl⟩ | (simp only [bnl]; omega)
theorem axD (a b : List UInt8) (ha : a.length ≤ 1000000) (hb : b.length ≤ 1000000) : ∃ r, uK a b r := by
 apply arS 1
 unfold ab3 aju
 repeat' (first | (with_reducible refine aF ?_ ?_ <;> (intro hb; (try simp only [bnl] at hb); (try revert hb; intro _))) | with_reducible refine aU ?_ ?_ | with_reducible refine aG ?_ | fail)
 all_goals first | exact ⟨_, _, rfl, rfl, by simp only [tN, List.length_append, List.length_cons, List.length_nil]; omega⟩ | (simp only [bnl, List.length_append, List.length_cons, List.length_nil]; omega)
theorem awJ (s : List UInt8) (hs : s.length ≤ 1000000) : ∃ r, sM s r := by
 apply apI 2000000
 unfold aaw qY
 refine be (fun x => x.1 = s ∧ 0 ≤ x.2.2 ∧ x.2.2 ≤ (s.length : Int) + 1 ∧ (x.2.1.length : Int) ≤ x.2.2) (fun x => ((s.length : Int) + 1 - x.2.2).toNat) ?_ _ _ ⟨rfl, by simp, by simp; omega, by simp⟩ (by simp; omega)
 rintro again ⟨a, p, i⟩ ⟨rfl, i1, i2, i3⟩ ih
 simp only at i1 i2 i3 ih hs ⊢
 have next : ∀ q : List UInt8, i ≤ a.length → (q.length : Int) ≤ i + 1 → Tot (again (a, q, IntKind.i64.wrap (i + 1))) _ := fun q h hq => ih (a, q, IntKind.i64.wrap (i + 1)) (by simp only [aJ (i + 1) (by omega)]; exact ⟨trivial, by omega, by omega, by omega⟩) (by simp only [aJ (i + 1) (by omega)]; omega)
 unfold tQ
 dsimp only
 repeat' (first | (with_reducible refine aF ?_ ?_ <;> (intro hb; (try simp only [bnl] at hb); (try revert hb; intro _))) | with_reducible refine aU ?_ ?_ | with_reducible refine aG ?_ | (refine aD (agk _ (by omega)) ?_; intro _ _) | fail)
 all_goals first | exact ⟨_, _, rfl, rfl⟩ | (refine next _ (by omega) ?_) | skip
 all_goals try simp (disch := omega) only [bl, bnl, List.length_append, List.length_cons, List.length_nil, List.length_drop, List.length_take]
 all_goals first | omega | skip
theorem azq (v k : Int) (hk : 0 ≤ k) (h : (cJ .u64 v k == 0) = true) (hv : 0 < v) : 0 < k := by
 rcases Int.lt_or_eq_of_le hk with h1 | h1
 ·exact h1
 ·subst h1
  simp [cJ] at h
  omega
theorem ay5 : ∀ k : Nat, k < 64 → (!(fo .u64 1 (k : Int) == 0)) = true := by
 intro k hk
 have : ∀ k : Fin 64, (!(fo .u64 1 ((k : Nat) : Int) == 0)) = true := by decide
 exact this ⟨k, hk⟩
theorem atO (v a b : Int) (hv : 0 ≤ v) (ha : 0 ≤ a) (ha2 : a ≤ 60) (hb : 0 ≤ b) (hb2 : b ≤ 2000) : ∃ r, lQ v a b r := by
 apply arY 100
 unfold ab8 sY
 repeat' (first | (with_reducible refine aF ?_ ?_ <;> (intro hb; (try simp only [bnl] at hb); (try revert hb; intro _))) | with_reducible refine aU ?_ ?_ | with_reducible refine aG ?_ | fail)
 ·exact ⟨_, _, rfl, rfl⟩
 rename_i hne
 refine be (fun x => x.1 = v ∧ x.2.1 = a ∧ x.2.2.1 = b ∧ 0 ≤ x.2.2.2 ∧ x.2.2.2 ≤ 63) (fun x => x.2.2.2.toNat) ?_ _ _ ⟨rfl, rfl, rfl, by simp, by simp⟩ (by simp)
 rintro again ⟨v, a, b, k⟩ ⟨rfl, rfl, rfl, i1, i2⟩ ih
 simp only at i1 i2 ih hne hv ha ha2 hb hb2 ⊢
 unfold vB
 dsimp only
 have e1 := aJ (k - 1) (by omega)
 have e2 := aJ (a - k) (by omega)
 have e3 := aJ (k - a) (by omega)
 refine aU (by simp only [bnl]; omega) (aF (fun h => ?_) (fun h => aF (fun h1 => ?_) (fun h1 => ?_)))
 ·have := azq v k i1 h (by omega)
  exact ih (v, a, b, _) (by simp only [e1]; exact ⟨trivial, trivial, trivial, by omega, by omega⟩) (by simp only [e1]; omega)
 ·simp only [bnl] at h1
  repeat' (first | (with_reducible refine aF ?_ ?_ <;> (intro hb; (try simp only [bnl] at hb); (try revert hb; intro _))) | with_reducible refine aU ?_ ?_ | with_reducible refine aG ?_ | fail)
  all_goals first | exact ⟨_, _, rfl, rfl⟩ | (simp only [bnl, e2]; omega)
 ·simp only [bnl] at h1
  have e4 := aJ (k - a - 1) (by omega)
  have := ay5 (k - a).toNat (by omega)
  rw [Int.toNat_of_nonneg (by omega)] at this
  simp only [e3, e4]
  repeat' (first | (with_reducible refine aF ?_ ?_ <;> (intro hb; (try simp only [bnl] at hb); (try revert hb; intro _))) | with_reducible refine aU ?_ ?_ | with_reducible refine aG ?_ | fail)
  all_goals first | exact ⟨_, _, rfl, rfl⟩ | exact this | (simp only [bnl]; omega)
theorem ado (n : Int) : 0 ≤ IntKind.u64.wrap n := by
 simp only [IntKind.wrap, IntKind.signed, IntKind.bits, Bool.false_and, Bool.false_eq_true, if_false]
 exact Int.emod_nonneg _ (by decide)
theorem awK (n : Int) : ∃ r, sJ n r := by
 apply apP 1
 unfold aaA ahp
 repeat' (first | (with_reducible refine aF ?_ ?_ <;> (intro hb; (try simp only [bnl] at hb); (try revert hb; intro _))) | with_reducible refine aU ?_ ?_ | with_reducible refine aG ?_ | (refine aD (atO _ _ _ (ado _) (by omega) (by omega) (by omega) (by omega)) ?_; intro _ _) | fail)
 all_goals exact ⟨_, _, rfl, rfl⟩
theorem av2 (n : Int) : ∃ r, mR n r := by
 apply anN 1
 unfold yG aeU
 repeat' (first | (with_reducible refine aF ?_ ?_ <;> (intro hb; (try simp only [bnl] at hb); (try revert hb; intro _))) | with_reducible refine aU ?_ ?_ | with_reducible refine aG ?_ | (refine aD (atO _ _ _ (ado _) (by omega) (by omega) (by omega) (by omega)) ?_; intro _ _) | fail)
 all_goals exact ⟨_, _, rfl, rfl⟩
theorem awL (s : List UInt8) (hs : s.length ≤ 1000000) : ∃ r, l9 s r := by
 apply aeQ 100
 exact ⟨_, ab9 95 s (by omega), _, _, _, rfl, rfl, rfl⟩
theorem aqN (s : List UInt8) : 0 ≤ (dS s).2 ∧ (dS s).2 ≤ s.length := by
 have := asX s
 simp only [dS]
 omega
theorem awM (s : List UInt8) (hs : s.length ≤ 1000000) : ∃ r, sN s r := by
 apply apK 1
 unfold aax ahm
 refine aD (awL s hs) ?_
 rintro ⟨a, b⟩ ⟨-, h⟩
 exact aG ⟨_, _, _, rfl, rfl, h⟩
theorem pd (k n : Int) (s : List UInt8) (l : List aE) (names : List (List UInt8)) (name : List UInt8) (hl : names.length ≤ 1000) : ∃ r, cT k n s l names name r := by
 apply atC 2000
 unfold adQ uN
 refine be (fun x => x.1 = name ∧ x.2.1 = k ∧ x.2.2.2.2.1 = l ∧ x.2.2.2.2.2.1 = names ∧ 0 ≤ x.2.2.2.2.2.2.1 ∧ x.2.2.2.2.2.2.1 ≤ (names.length : Int) ∧ ∀ j : Nat, (j : Int) < x.2.2.2.2.2.2.1 → names.getD j [] ≠ name)
  (fun x => ((names.length : Int) - x.2.2.2.2.2.2.1).toNat) ?_ _ _ ⟨rfl, rfl, rfl, rfl, by simp, by simp, fun j hj => by simp at hj; omega⟩ (by simp; omega)
 rintro again ⟨a0, a1, a2, a3, a4, a5, i, b0, b1, b2, b3, b4⟩ ⟨rfl, rfl, rfl, rfl, i1, i2, i3⟩ ih
 simp only at i1 i2 i3 ih hl ⊢
 unfold xn
 repeat' (first | (with_reducible refine aF ?_ ?_ <;> (intro hb; (try simp only [bnl] at hb); (try revert hb; intro _))) | with_reducible refine aU ?_ ?_ | with_reducible refine aG ?_ | fail)
 ·simp only [bnl]; omega
 ·simp only [bnl]; omega
 ·rename_i hk hb hc hb2
  have e := atM (names := a5) (l := a4) (name := a0) (i := i.toNat) (by omega) (by omega) (fun j hj => i3 j (by omega)) hb2
  refine ⟨_, _, _, _, _, _, _, rfl, rfl, ?_⟩
  simp only [ct]
  rw [if_pos hk, e]; rfl
 ·rename_i hk hb hc hb2
  have ew := aJ (i + 1) (by omega)
  refine ih _ ⟨rfl, rfl, rfl, rfl, ?_, ?_, ?_⟩ ?_
  ·simp only [ew]; omega
  ·simp only [ew]; omega
  ·simp only [ew]
   intro j hj
   by_cases e : (j : Int) = i
   ·have : i.toNat = j := by omega
    rw [this] at hb2
    exact hb2
   ·exact i3 j (by omega)
  ·simp only [ew]; omega
 ·rename_i hk hb hc
  refine ⟨_, _, _, _, _, _, _, rfl, rfl, ?_⟩
  simp only [ct]
  rw [if_pos hk, ajx (i := i.toNat) (fun j hj => i3 j (by omega)) (.inr (by omega))]
  rfl
 ·rename_i hk hb
  refine ⟨_, _, _, _, _, _, _, rfl, rfl, ?_⟩
  simp only [ct]
  rw [if_pos hk, ajx (i := i.toNat) (fun j hj => i3 j (by omega)) (.inl (by omega))]
  rfl
 ·rename_i hk
  refine ⟨_, _, _, _, _, _, _, rfl, rfl, ?_⟩
  simp only [ct]
  rw [if_neg hk]; rfl
end Go.Proofs.Ytdpajabhmmmjoaa
end
