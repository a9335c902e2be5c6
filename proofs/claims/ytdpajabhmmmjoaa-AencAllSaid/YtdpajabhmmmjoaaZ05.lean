import Derived.KernelRfl
import Derived.Test.YtdpajabhmmmjoaaZ02
import Derived.Test.YtdpajabhmmmjoaaZ03
import Derived.Test.YtdpajabhmmmjoaaZ04
noncomputable section
namespace Go.Proofs.Ytdpajabhmmmjoaa
open Go.AM
set_option autoImplicit false
set_option linter.unusedVariables false
set_option maxRecDepth 100000
noncomputable def pe : aN := tab (P := Try.prog) [] [] [] []
def aa3 : IR := Sq (Rs [Mv 7 3, Bc 8 .geq 7 0] (Cn 8 .skip (.exit 0))) (Sq (.block 1 (Rs [Mv 11 0, Mv 12 3, Pp (.idx 13 11 12), Pp (.bin 14 .eql 13 (.c (.int .u8 46)))] (Cn 14 (Rs [Mv 15 0, Mv 16 3, Pp (.subs 17 15 none (some 16)), Mv 2 17] .ret) .skip))) (Rg [Mv 9 3, Bc 10 .sub 9 1, Mv 3 10]))
def aa4 : IR := Rs [Ms 2 []] .ret
def xq : IR := Rs [Ms 2 []] (Sq (Rs [Mv 4 0, Pp (.lens 5 4), Bc 6 .sub 5 1, Mv 3 6] (.block 0 (.loop [0, 3, 1000000] 0 aa3))) aa4)
def rU : List RV := [.t 2]
theorem anP : FnC Try.prog pe [] 0 aeC Try.f142 xq rU := fnC (by kernel_rfl) Try.func142 (by kernel_rfl) (by kernel_rfl) (by decide)
def ama (R : IR → (Ex → St → Ro) → St → Ro) (a : St → Ro) : Ex → St → Ro := (bz a [0, 3, 1000000] 0 (aR 0 (bp (R aa4) (fin rU))))
abbrev mb : Type := (Bs × Int)
def kX : mb → St := fun (a, b) => { env := (.str a :: .undef :: .undef :: .int .i64 b :: (U 14 [])), hp := [] }
def vM (N : Nat) : (St → Ro) → St → Ro := fun a s => run pe N aa3 (ama (run pe N) a) s
def p8 (N : Nat) (a : mb → Ro) : mb → Ro := fun (c, b) =>
 cond (decide (0 ≤ b)) (
 chk (decide (0 ≤ b) && decide (b < ↑(List.length c))) (
 let d : Int := (↑(UInt8.toNat (List.getD c (Int.toNat b) 0)) : Int)
 cond (d == 46) (
 chk (decide (0 ≤ b) && decide (b ≤ (↑(List.length c) : Int))) (
 let e : Bs := (List.drop 0 (List.take (Int.toNat b) c))
 some (.str e, []))) (
 let f : Int := (IntKind.wrap .i64 (b - 1))
 a (c, f)))) (
 some (.str ([] : Bs), []))
theorem akx (N : Nat) : ∀ (a : St → Ro) (x : mb), vM N a (kX x) = p8 N (fun y => a (kX y)) x := by
 intro a x
 kernel_rfl
def nd (N : Nat) (a : Bs) (b : mb → Ro) : Ro :=
 let c : Int := (↑(List.length a) : Int)
 let d : Int := (IntKind.wrap .i64 (c - 1))
 b (a, d)
def xr (N : Nat) (a : Bs) : Ro := nd N a (fun z => aQ N (p8 N) z)
def apS (N : Nat) : List (Nat × (St → Ro)) := ba pe N xq (fin rU) ++ []
theorem amb (N : Nat) (a : Bs) : aW pe N 18 rU xq [.str a] [] = xr N a :=
 (bL (apS N) (by kernel_rfl) rfl (fun C => nd N a (fun z => C 1000000 (kX z))) (fun C => by kernel_rfl)).trans (Eq.trans (b := nd N a (fun z => bg N (vM N) (kX z))) (by kernel_rfl) (congrArg (nd N a) (funext fun z => bc (kX) (vM N) (p8 N) (akx N) N z)))
theorem amc (N : Nat) (a : Bs) (h : Tot (xr N a) (fun z => ∃ (b : Bs) (rest : List aK), z.1.dimR = .str b ∧ z.2 = rest ∧ kV a (b))) : ∃ r, oV a r := by
 obtain ⟨⟨v, hp⟩, hz, b, rest, e1, e2, hq⟩ := h
 simp only at e1 e2
 subst e2
 exact ⟨(b), aI.dimR (anP.pure (amb N a) hz) e1, hq⟩
noncomputable def aln : aN := tab (P := Try.prog) [] [] [] [atj]
def ajy : IR := Rs [Bx 2 0, Ms 4 []] (Sq (Rs [Mv 5 1, Bc 6 .lss 5 0, Mv 7 6, Gf 7 (.mov 8 1), Gf 7 (.fad 9 0 2), Gf 7 (.lde 10 1 false 9), Gf 7 (.lenl 11 10), Gf 7 (.bin 12 .geq 8 11), Po 13 7 12] (Cn 13 (Rs [Ms 4 []] .ret) .skip)) (Sq (Rs [Fa 14 0 2, Lq 15 14, Mv 16 1, Ix 17 .atype 15 16, Fa 18 1 17, Lo 19 18, Pp (.bin 20 .neq 19 (kS []))] (Cn 20 (Rs [Fa 21 0 2, Lq 22 21, Mv 23 1, Ix 24 .atype 22 23, Fa 25 1 24, Lo 26 25, Mv 4 26] .ret) .skip)) (Rs [Fa 27 0 2, Lq 28 27, Mv 29 1, Ix 30 .atype 28 29, Fa 31 0 30, Lo 32 31, Ca 33 158 [32], Mv 4 33] .ret)))
def ajz : List RV := [.t 4]
theorem atP : FnC Try.prog aln [] 0 ala Try.f139 ajy ajz := fnC (by kernel_rfl) Try.func139 (by kernel_rfl) (by kernel_rfl) (by decide)
def ajA (N : Nat) (a : List aA) (b : Int) : Ro :=
 cond (decide (b < 0)) (
 some (.str ([] : Bs), [])) (
 let f : Int := (↑(List.length a) : Int)
 cond (decide (f ≤ b)) (
 some (.str ([] : Bs), [])) (
 chk (decide (0 ≤ b) && decide (b < ↑(List.length a))) (
 let g : Bs := (List.getD a (Int.toNat b) (aC .atype)).name
 let c : Bool := (!decide (g = ([] : Bs)))
 cond c (
 chk (decide (0 ≤ b) && decide (b < ↑(List.length a))) (
 let d : Bs := (List.getD a (Int.toNat b) (aC .atype)).name
 some (.str d, []))) (
 chk (decide (0 ≤ b) && decide (b < ↑(List.length a))) (
 let e : Int := (List.getD a (Int.toNat b) (aC .atype)).kind
 aH (sL e) (fun (h : Bs) =>
 some (.str h, [])))))))
def acb (N : Nat) (a : List aA) (b : Int) : Ro := ajA N a b
theorem ar0 (N : Nat) (a : List aA) (b : Int) : aW aln N 34 ajz ajy [.agg [.sl .atype (.may false) a], .int .i64 b] [] = acb N a b := by kernel_rfl
theorem ar1 (N : Nat) (a : List aA) (b : Int) (h : Tot (acb N a b) (fun z => ∃ (c : Bs) (rest : List aK), z.1.dimR = .str c ∧ z.2 = rest)) : ∃ r, rt a b r := by
 obtain ⟨⟨v, hp⟩, hz, c, rest, e1, e2⟩ := h
 simp only at e1 e2
 subst e2
 exact ⟨(c), aI.dimR (atP.pure (ar0 N a b) hz) e1⟩
noncomputable def iV : aN := tab (P := Try.prog) [] [cH] [] [auL, atl]
def uQ : IR := Sq (Rs [Mv 12 8, Mv 13 1, Pp (.lens 14 13), Bi 15 .lss 12 14] (Cn 15 .skip (.exit 0))) (Sq (.block 1 (Rs [Mv 18 1, Mv 19 8, Pp (.idx 20 18 19), Pp (.bin 21 .eql 20 (.c (.int .u8 46)))] (Cn 21 (Rg [Mv 22 1, Mv 7 22]) .skip))) (Rg [Mv 16 8, Bc 17 .add 16 1, Mv 8 17]))
def uR : IR := Sq (Rs [Mv 23 1, Pp (.bin 24 .eql 23 (kS [])), Mv 25 24, Gf 25 (.mov 26 7), Gf 25 (.call 27 160 [26]), Gf 25 (.un 28 .not 27), Po 29 25 28] (Cn 29 (Rg [Mv 30 0, Ca 31 110 [30, kI 6]]) .skip)) (Rs [Mv 32 7, Mv 6 32] .ret)
def p9 : IR := Rs [Ms 6 []] (Rs [Mv 9 2, Mv 10 1, Ca 11 159 [9, 10], Mv 7 11] (Sq (Rs [Mi 8 0] (.block 0 (.loop [0, 1, 7, 8, 1000000] 1 uQ))) uR))
def lA : List RV := [.t 6]
theorem agl : FnC Try.prog iV [110, 2000110] 1 xZ Try.f141 p9 lA := fnC (by kernel_rfl) Try.func141 (by kernel_rfl) (by kernel_rfl) (by decide)
def aeV (R : IR → (Ex → St → Ro) → St → Ro) (a : St → Ro) : Ex → St → Ro := (bz a [0, 1, 7, 8, 1000000] 1 (aR 0 (bp (R uR) (fin lA))))
abbrev fZ : Type := (Bs × Bs × Int × List aA × Int)
def fv : fZ → St := fun (a, b, c, d, e) => { env := (.ptr 0 0 :: .str a :: (U 5 (.str b :: .int .i64 c :: (U 24 [])))), hp := [some [.ul .atype d, .int .i64 e]] }
def pf (N : Nat) : (St → Ro) → St → Ro := fun a s => run iV N uQ (aeV (run iV N) a) s
def km (N : Nat) (c : fZ → Ro) : fZ → Ro := fun (d, f, e, a, b) =>
 let i : Int := (↑(List.length d) : Int)
 cond (decide (e < i)) (
 chk (decide (0 ≤ e) && decide (e < ↑(List.length d))) (
 let j : Int := (↑(UInt8.toNat (List.getD d (Int.toNat e) 0)) : Int)
 cond (j == 46) (
 let k : Int := (IntKind.wrap .i64 (e + 1))
 c (d, d, k, a, b)) (
 let l : Int := (IntKind.wrap .i64 (e + 1))
 c (d, f, l, a, b)))) (
 let m : Bool := decide (d = ([] : Bs))
 cond m (
 aH (aL a b 6) (fun g =>
 some (.str f, [some [.ul .atype g.2.1, .int .i64 g.2.2]]))) (
 aH (sM f) (fun (n : Bool) =>
 cond (!n) (
 aH (aL a b 6) (fun h =>
 some (.str f, [some [.ul .atype h.2.1, .int .i64 h.2.2]]))) (
 some (.str f, [some [.ul .atype a, .int .i64 b]])))))
theorem adR (N : Nat) : ∀ (a : St → Ro) (x : fZ), pf N a (fv x) = km N (fun y => a (fv y)) x := by
 intro a x
 kernel_rfl
def gD (N : Nat) (a : List aA) (b : Int) (c d : Bs) (e : fZ → Ro) : Ro :=
 aH (uK d c) (fun (f : Bs) =>
 e (c, f, 0, a, b))
def qa (N : Nat) (a : List aA) (b : Int) (c d : Bs) : Ro := gD N a b c d (fun z => aQ N (km N) z)
def ah1 (N : Nat) : List (Nat × (St → Ro)) := ba iV N p9 (fin lA) ++ []
theorem aeW (N : Nat) (a : List aA) (c : Int) (d e : Bs) : aW iV N 33 lA p9 [.ptr 0 0, .str d, .str e] [some [.ul .atype a, .int .i64 c]] = qa N a c d e :=
 (bL (ah1 N) (by kernel_rfl) rfl (fun C => gD N a c d e (fun z => C 1000000 (fv z))) (fun C => by kernel_rfl)).trans (Eq.trans (b := gD N a c d e (fun z => bg N (pf N) (fv z))) (by kernel_rfl) (congrArg (gD N a c d e) (funext fun z => bc (fv) (pf N) (km N) (adR N) N z)))
theorem aeX (N : Nat) (a : List aA) (b : Int) (e f : Bs) (h : Tot (qa N a b e f) (fun z => ∃ (g : Bs) (c : List aA) (d : Int) (rest : List aK), z.1.dimR = .str g ∧ z.2 = some [.ul .atype c, .int .i64 d] :: rest ∧ uI a b e f (g, c, d))) : ∃ r, fm a b e f r := by
 obtain ⟨⟨v, hp⟩, hz, g, c, d, rest, e1, e2, hq⟩ := h
 simp only at e1 e2
 subst e2
 exact ⟨(g, c, d), bk.dimR (FnC.objs (css := [[.ul .atype a, .int .i64 b]]) (css' := [[.ul .atype c, .int .i64 d]]) agl (aeW N a b e f) hz rfl) e1, hq⟩
noncomputable def zH : aN := tab (P := Try.prog) [] [cH] [] [pZ]
def yf : IR := Rs [Bx 5 1, Ms 8 []] (Rs [Ld 12 5 true 5, Mv 13 2, Ca 14 113 [12, 13], Mv 11 14, Ex_ 15 0 11, Ex_ 16 1 11, Pp (.alr 9 5), Fz 9 5 15, Mv 10 16] (Sq (Rs [Mv 17 10, Un 18 17, Mv 19 18, Gt 19 (.mov 20 3), Gt 19 (.un 21 .not 20), Pa 22 19 21] (Cn 22 (Rs [Ms 8 []] .ret) .skip)) (Sq (Rs [Mv 23 10, Un 24 23, Mv 25 24, Gf 25 (.fad 26 0 9), Gf 25 (.lde 27 1 false 26), Gf 25 (.bin 28 .neq 27 (kI 4)), Po 29 25 28] (Cn 29 (Rs [Mv 30 0, Ca 31 110 [30, kI 2]] (Rs [Ms 8 []] .ret)) .skip)) (Rs [Fa 32 2 9, Lq 33 32, Mv 8 33] .ret))))
def yg : List RV := [.t 8]
theorem ah2 : FnC Try.prog zH [110, 2000110] 1 zx Try.f140 yf yg := fnC (by kernel_rfl) Try.func140 (by kernel_rfl) (by kernel_rfl) (by decide)
def yh (N : Nat) (a : List aA) (b d e : Int) (f : Bs) (g : List aE) (h : Bss) (m : Bs) (n : Bool) : Ro :=
 aH (cT d e f g h m) (fun c =>
 cond (!c.2.2.2.2.2) (
 cond (!n) (
 some (.str ([] : Bs), [some [.ul .atype a, .int .i64 b]])) (
 cond (!c.2.2.2.2.2) (
 aH (aL a b 2) (fun i =>
 some (.str ([] : Bs), [some [.ul .atype i.2.1, .int .i64 i.2.2]]))) (
 cond (!(c.1 == 4)) (
 aH (aL a b 2) (fun j =>
 some (.str ([] : Bs), [some [.ul .atype j.2.1, .int .i64 j.2.2]]))) (
 some (.str c.2.2.1, [some [.ul .atype a, .int .i64 b]]))))) (
 cond (!c.2.2.2.2.2) (
 aH (aL a b 2) (fun k =>
 some (.str ([] : Bs), [some [.ul .atype k.2.1, .int .i64 k.2.2]]))) (
 cond (!(c.1 == 4)) (
 aH (aL a b 2) (fun l =>
 some (.str ([] : Bs), [some [.ul .atype l.2.1, .int .i64 l.2.2]]))) (
 some (.str c.2.2.1, [some [.ul .atype a, .int .i64 b]])))))
def rA (N : Nat) (a : List aA) (b c d : Int) (e : Bs) (f : List aE) (g : Bss) (h : Bs) (i : Bool) : Ro := yh N a b c d e f g h i
theorem agm (N : Nat) (a : List aA) (b c d : Int) (e : Bs) (f : List aE) (g : Bss) (h : Bs) (i : Bool) : aW zH N 34 yg yf [.ptr 0 0, .agg [.int .i64 c, .int .i64 d, .str e, .sl .jnode (.may false) f, .sl .str (.may false) g], .str h, .bool i] [some [.ul .atype a, .int .i64 b]] = rA N a b c d e f g h i := by kernel_rfl
theorem agn (N : Nat) (a : List aA) (b c d : Int) (e : Bs) (f : List aE) (g : Bss) (k : Bs) (l : Bool) (h : Tot (rA N a b c d e f g k l) (fun z => ∃ (m : Bs) (i : List aA) (j : Int) (rest : List aK), z.1.dimR = .str m ∧ z.2 = some [.ul .atype i, .int .i64 j] :: rest ∧ ws a b c d e f g k l (m, i, j))) : ∃ r, dD a b c d e f g k l r := by
 obtain ⟨⟨v, hp⟩, hz, m, i, j, rest, e1, e2, hq⟩ := h
 simp only at e1 e2
 subst e2
 exact ⟨(m, i, j), bk.dimR (FnC.objs (css := [[.ul .atype a, .int .i64 b]]) (css' := [[.ul .atype i, .int .i64 j]]) ah2 (agm N a b c d e f g k l) hz rfl) e1, hq⟩
noncomputable def iW : aN := tab (P := Try.prog) [] [cH] [] [pZ]
def uS : IR := Sq (Rs [Mv 25 11, Fa 26 3 8, Lq 27 26, Ll 28 27, Bi 29 .lss 25 28, Mv 30 29, Gt 30 (.mov 31 0), Gt 30 (.nck 32 31), Gt 30 (.fad 33 1 32), Gt 30 (.ld 34 1 false false 33), Gt 30 (.bin 35 .eql 34 (kI 0)), Pa 36 30 35] (Cn 36 .skip (.exit 0))) (Sq (.block 1 (Sq (Rs [Fa 39 3 8, Lq 40 39, Mv 41 11, Ix 42 .jnode 40 41, Fa 43 0 42, Lo 44 43, Bc 45 .neq 44 4] (Cn 45 (Rg [Mv 46 0, Ca 47 110 [46, kI 2]]) .skip)) (Rg [Pp (.mov 48 (.tk 10)), Fa 49 3 8, Lq 50 49, Mv 51 11, Ix 52 .jnode 50 51, Fa 53 2 52, Lo 54 53, Pp (.bsl 55 .str [54] true), Pp (.app 56 .str (.tk 48) 55), Pp (.mov 10 (.tk 56))]))) (Rg [Mv 37 11, Bc 38 .add 37 1, Mv 11 38]))
def tY : IR := Rs [Mv 57 10, Mv 6 57, Mb 7 true] .ret
def qb : IR := Rs [Bx 4 1, Pp (.mov 6 (.c (nl .str))), Mb 7 false] (Rs [Ld 13 5 true 4, Mv 14 2, Ca 15 113 [13, 14], Mv 12 15, Ex_ 16 0 12, Ex_ 17 1 12, Pp (.alr 8 5), Fz 8 5 16, Mv 9 17] (Sq (Rs [Mv 18 9, Un 19 18] (Cn 19 (Rs [Pp (.mov 6 (.c (nl .str))), Mb 7 false] .ret) .skip)) (Sq (Rs [Fa 20 0 8, Lq 21 20, Bc 22 .neq 21 5] (Cn 22 (Rg [Mv 23 0, Ca 24 110 [23, kI 2]]) .skip)) (Rs [Pp (.mov 10 (.c (nl .str)))] (Sq (Rs [Mi 11 0] (.block 0 (.loop [0, 8, 10, 11, 1000000] 1 uS))) tY)))))
def lB : List RV := [.t 6, .t 7]
theorem ago : FnC Try.prog iW [110, 2000110] 1 xX Try.f143 qb lB := fnC (by kernel_rfl) Try.func143 (by kernel_rfl) (by kernel_rfl) (by decide)
def aeY (R : IR → (Ex → St → Ro) → St → Ro) (a : St → Ro) : Ex → St → Ro := (bz a [0, 8, 10, 11, 1000000] 1 (aR 0 (bp (R tY) (fin lB))))
abbrev f5 : Type := (Int × Int × Bs × List aE × Bss × Bss × Int × List aA × Int)
def fw : f5 → St := fun (a, b, c, d, e, f, g, h, i) => { env := (.ptr 0 0 :: (U 7 (.ea [.int .i64 a, .int .i64 b, .str c, .sl .jnode (.may false) d, .sl .str (.may false) e] :: .undef :: .sl .str .own f :: .int .i64 g :: (U 46 [])))), hp := [some [.ul .atype h, .int .i64 i]] }
def pg (N : Nat) : (St → Ro) → St → Ro := fun a s => run iW N uS (aeY (run iW N) a) s
def f6 (N : Nat) (d : f5 → Ro) : f5 → Ro := fun (g, h, i, a, j, f, b, e, c) =>
 let r : Int := (↑(List.length a) : Int)
 cond (decide (b < r)) (
 cond (c == 0) (
 chk (decide (0 ≤ b) && decide (b < ↑(List.length a))) (
 let t : Int := (List.getD a (Int.toNat b) (aC .jnode)).kind
 cond (!(t == 4)) (
 aH (aL e c 2) (fun p =>
 chk (decide (0 ≤ b) && decide (b < ↑(List.length a))) (
 let q : Bs := (List.getD a (Int.toNat b) (aC .jnode)).s
 chk (decide ((List.length f + List.length ([q] : Bss)) * 16 ≤ 140737488355328)) (
 let l : Bss := (f ++ ([q] : Bss))
 let m : Int := (IntKind.wrap .i64 (b + 1))
 d (g, h, i, a, j, l, m, p.2.1, p.2.2))))) (
 chk (decide (0 ≤ b) && decide (b < ↑(List.length a))) (
 let k : Bs := (List.getD a (Int.toNat b) (aC .jnode)).s
 chk (decide ((List.length f + List.length ([k] : Bss)) * 16 ≤ 140737488355328)) (
 let n : Bss := (f ++ ([k] : Bss))
 let o : Int := (IntKind.wrap .i64 (b + 1))
 d (g, h, i, a, j, n, o, e, c)))))) (
 some (.tup [.sl .str (.may false) f, .bool true], [some [.ul .atype e, .int .i64 c]]))) (
 some (.tup [.sl .str (.may false) f, .bool true], [some [.ul .atype e, .int .i64 c]]))
theorem adS (N : Nat) : ∀ (a : St → Ro) (x : f5), pg N a (fw x) = f6 N (fun y => a (fw y)) x := by
 intro a x
 kernel_rfl
def gE (N : Nat) (b : List aA) (c d e : Int) (f : Bs) (g : List aE) (h : Bss) (k : Bs) (i : f5 → Ro) : Ro :=
 aH (cT d e f g h k) (fun a =>
 cond (!a.2.2.2.2.2) (
 some (.tup [.sl .str (.may false) ([] : Bss), .bool false], [some [.ul .atype b, .int .i64 c]])) (
 cond (!(a.1 == 5)) (
 aH (aL b c 2) (fun j =>
 i (a.1, a.2.1, a.2.2.1, a.2.2.2.1, a.2.2.2.2.1, ([] : Bss), 0, j.2.1, j.2.2))) (
 i (a.1, a.2.1, a.2.2.1, a.2.2.2.1, a.2.2.2.2.1, ([] : Bss), 0, b, c))))
def qc (N : Nat) (a : List aA) (b c d : Int) (e : Bs) (f : List aE) (g : Bss) (h : Bs) : Ro := gE N a b c d e f g h (fun z => aQ N (f6 N) z)
def ah3 (N : Nat) : List (Nat × (St → Ro)) := ba iW N qb (fin lB) ++ []
theorem aeZ (N : Nat) (a : List aA) (c d e : Int) (f : Bs) (g : List aE) (h : Bss) (i : Bs) : aW iW N 58 lB qb [.ptr 0 0, .agg [.int .i64 d, .int .i64 e, .str f, .sl .jnode (.may false) g, .sl .str (.may false) h], .str i] [some [.ul .atype a, .int .i64 c]] = qc N a c d e f g h i :=
 (bL (ah3 N) (by kernel_rfl) rfl (fun C => gE N a c d e f g h i (fun z => C 1000000 (fw z))) (fun C => by kernel_rfl)).trans (Eq.trans (b := gE N a c d e f g h i (fun z => bg N (pg N) (fw z))) (by kernel_rfl) (congrArg (gE N a c d e f g h i) (funext fun z => bc (fw) (pg N) (f6 N) (adS N) N z)))
theorem ae0 (N : Nat) (a : List aA) (b c d : Int) (e : Bs) (f : List aE) (g : Bss) (k : Bs) (h : Tot (qc N a b c d e f g k) (fun z => ∃ (l : Bss) (m : Bool) (i : List aA) (j : Int) (rest : List aK), z.1.dimR = .tup [.sl .str (.may false) l, .bool m] ∧ z.2 = some [.ul .atype i, .int .i64 j] :: rest ∧ nR a b c d e f g k (l, m, i, j))) : ∃ r, cU a b c d e f g k r := by
 obtain ⟨⟨v, hp⟩, hz, l, m, i, j, rest, e1, e2, hq⟩ := h
 simp only at e1 e2
 subst e2
 exact ⟨(l, m, i, j), bk.dimR (FnC.objs (css := [[.ul .atype a, .int .i64 b]]) (css' := [[.ul .atype i, .int .i64 j]]) ago (aeZ N a b c d e f g k) hz rfl) e1, hq⟩
noncomputable def bA : aN := tab (P := Try.prog) [] [cH, sK, rv] [] [pZ, adL]
def sZ : IR := Sq (Rs [Mv 56 9, Mv 57 8, Bi 58 .lss 56 57] (Cn 58 .skip (.exit 2))) (Sq (.block 3 (Sq (.reg [Mv 61 6, Mv 62 9, Ix 63 .str 61 62, Lq 64 63, Mv 65 6, Mv 66 8, Ix 67 .str 65 66, Lq 68 67, Bi 69 .eql 64 68] [[], [], [0, 1], [0, 1, 2], [], [], [4, 5], [4, 5, 6], rg 0 7]) (Cn 69 (Rg [Mv 70 0, Ca 71 110 [70, kI 5]]) .skip))) (Rg [Mv 59 9, Bc 60 .add 59 1, Mv 9 60]))
def rV : IR := Rg [Mv 46 8, Bc 47 .add 46 1, Mv 8 47]
def gp : IR := Sq (Rs [Mv 35 8, Mv 36 6, Ll 37 36, Bi 38 .lss 35 37, Mv 39 38, Gt 39 (.mov 40 0), Gt 39 (.nck 41 40), Gt 39 (.fad 42 1 41), Gt 39 (.ld 43 1 false false 42), Gt 39 (.bin 44 .eql 43 (kI 0)), Pa 45 39 44] (Cn 45 .skip (.exit 0))) (Sq (.block 1 (Sq (Rs [Mv 48 6, Mv 49 8, Ix 50 .str 48 49, Lq 51 50, Ca 52 161 [51], Un 53 52] (Cn 53 (Rg [Mv 54 0, Ca 55 110 [54, kI 6]]) .skip)) (Rs [Mi 9 0] (.block 2 (.loop [0, 2, 4, 6, 8, 9, 1000000] 1 sZ))))) rV)
def rW : IR := Sq (Rs [Mv 80 14, Mv 81 6, Ll 82 81, Bi 83 .lss 80 82] (Cn 83 .skip (.exit 4))) (Sq (.block 5 (Rg [Mv 86 13, Mv 87 86, Gf 87 (.mov 88 6), Gf 87 (.mov 89 14), Gf 87 (.ixa 90 .str 88 89), Gf 87 (.lde 91 1 false 90), Gf 87 (.mov 92 12), Gf 87 (.bin 93 .eql 91 92), Po 94 87 93, Mv 13 94])) (Rg [Mv 84 14, Bc 85 .add 84 1, Mv 14 85]))
def rX : IR := Sq (Rs [Mv 95 11, Mv 96 95, Gt 96 (.mov 97 13), Gt 96 (.un 98 .not 97), Pa 99 96 98] (Cn 99 (Rg [Mv 100 0, Ca 101 110 [100, kI 6]]) .skip)) (Rs [Mv 102 0, Nk 103 102, Fa 104 1 103, Lo 105 104, Bc 106 .eql 105 0] (Cn 106 (.gh (.opn (.cell 0 0)) (.ghp (.cls (.cell 0 0)) (.reg [Mv 107 0, Nk 108 107, Fa 109 0 108, Fa 110 0 109, Fo [0] [] (.ld 111 1 false false 110), Mv 112 2, Mv 113 0, Nk 114 113, Fa 115 0 114, Fa 116 0 115, Fo [0] [] (.ld 117 1 false false 116), Mv 118 2, Mv 119 0, Nk 120 119, Fa 121 0 120, Fa 122 0 121, Fo [0] [] (.ld 123 1 false false 122), Mv 124 2, Mv 125 6, Mv 126 11, Mv 127 12, Pp (.ixw 128 .atype 111 112), Pp (.fdw 129 4 128), Fo [] [1] (.stw none 1 129 125), Pp (.ixw 130 .atype 117 118), Pp (.fdw 131 5 130), Fo [] [1] (.stw none 1 131 126), Pp (.ixw 132 .atype 123 124), Pp (.fdw 133 6 132), Fo [] [1] (.stw none 1 133 127)] [[], [0], [0, 1], [0, 1, 2], rg 0 3, [], [], [6], [6, 7], [6, 7, 8], rg 6 9, [], [], [12], [12, 13], [12, 13, 14], rg 12 15, [], [], [], [], rg 0 10 ++ rg 12 16 ++ [18], rg 0 10 ++ rg 12 16 ++ [18] ++ [21], rg 0 10 ++ rg 12 16 ++ [18] ++ [21, 22], rg 0 16 ++ [18, 19] ++ [21, 22, 23], rg 0 16 ++ [18, 19] ++ rg 21 24, rg 0 16 ++ [18, 19] ++ rg 21 25, rg 0 26, rg 0 27, rg 0 28]))) .skip))
def lC : IR := Rs [Ld 73 5 true 4, Ca 74 113 [73, kS [100, 101, 102, 97, 117, 108, 116]], Mv 72 74, Ex_ 75 0 72, Ex_ 76 1 72, Pp (.alr 10 5), Fz 10 5 75, Mv 11 76] (Rs [Mv 77 0, Ld 78 5 true 4, Ca 79 140 [77, 78, kS [100, 101, 102, 97, 117, 108, 116], kB false], Mv 12 79] (Rs [Mb 13 false] (Sq (Rs [Mi 14 0] (.block 4 (.loop [0, 2, 6, 11, 12, 13, 14, 1000002] 1 rW))) rX)))
def nS : IR := Rs [Bx 4 1] (Rs [Mv 16 0, Ld 17 5 true 4, Ca 18 143 [16, 17, kS [115, 121, 109, 98, 111, 108, 115]], Mv 15 18, Ex_ 19 0 15, Ex_ 20 1 15, Mv 6 19, Mv 7 20] (Sq (Rs [Mv 21 7, Un 22 21] (Cn 22 (Rg [Mv 23 0, Ca 24 110 [23, kI 2]]) .skip)) (Sq (Rs [Mv 25 6, Ll 26 25, Bc 27 .eql 26 0] (Cn 27 (Rg [Mv 28 0, Ca 29 110 [28, kI 6]]) .skip)) (Sq (Rs [Mv 30 6, Ll 31 30, Bc 32 .gtr 31 30] (Cn 32 (Rg [Mv 33 0, Ca 34 110 [33, kI 3]]) .skip)) (Sq (Rs [Mi 8 0] (.block 0 (.loop [0, 2, 4, 6, 8, 1000001] 1 gp))) lC)))))
def eb : List RV := []
theorem adT : FnC Try.prog bA [110, 140, 143, 2000110, 2000140, 2000143] 1 wt Try.f145 nS eb := fnC (by kernel_rfl) Try.func145 (by kernel_rfl) (by kernel_rfl) (by decide)
def iy (R : IR → (Ex → St → Ro) → St → Ro) (a : St → Ro) : Ex → St → Ro := (bz a [0, 2, 4, 6, 8, 1000001] 1 (aR 0 (bp (R lC) (fin eb))))
abbrev cz : Type := (Int × Int × Int × Bs × List aE × Bss × Bss × Int × List aA × Int)
def bC : cz → St := fun (a, b, c, d, e, f, g, h, i, j) => { env := (.ptr 0 0 :: .undef :: .int .i64 a :: .undef :: .ea [.int .i64 b, .int .i64 c, .str d, .sl .jnode (.may false) e, .sl .str (.may false) f] :: .undef :: .sl .str (.may false) g :: .undef :: .int .i64 h :: (U 125 [])), hp := [some [.ul .atype i, .int .i64 j]] }
def acI (R : IR → (Ex → St → Ro) → St → Ro) (a b : St → Ro) : Ex → St → Ro := (bz b [0, 2, 4, 6, 8, 9, 1000000] 1 (aR 2 (aR 1 (bp (R rV) (iy R a)))))
abbrev eV : Type := (Int × Int × Int × Bs × List aE × Bss × Bss × Int × Int × List aA × Int)
def dw : eV → St := fun (b, c, d, e, f, g, h, i, j, k, a) => { env := (.ptr 0 0 :: .undef :: .int .i64 b :: .undef :: .ea [.int .i64 c, .int .i64 d, .str e, .sl .jnode (.may false) f, .sl .str (.may false) g] :: .undef :: .sl .str (.may false) h :: .undef :: .int .i64 i :: .int .i64 j :: (U 124 [])), hp := [some [.ul .atype k, .int .i64 a]] }
def iz (N : Nat) (a : St → Ro) : (St → Ro) → St → Ro := fun b s => run bA N sZ (acI (run bA N) a b) s
def dG (N : Nat) (i : cz → Ro) (a : eV → Ro) : eV → Ro := fun (m, b, c, d, e, f, j, k, l, g, h) =>
 cond (decide (l < k)) (
 chk (decide (0 ≤ l) && decide (l < ↑(List.length j))) (
 let o : Bs := List.getD j (Int.toNat l) (aC .str)
 chk (decide (0 ≤ k) && decide (k < ↑(List.length j))) (
 let p : Bs := List.getD j (Int.toNat k) (aC .str)
 cond (decide (o = p)) (
 aH (aL g h 5) (fun n =>
 let q : Int := (IntKind.wrap .i64 (l + 1))
 a (m, b, c, d, e, f, j, k, q, n.2.1, n.2.2))) (
 let r : Int := (IntKind.wrap .i64 (l + 1))
 a (m, b, c, d, e, f, j, k, r, g, h))))) (
 let s : Int := (IntKind.wrap .i64 (k + 1))
 i (m, b, c, d, e, f, j, s, g, h))
theorem acd (N : Nat) (b : St → Ro) : ∀ (a : St → Ro) (x : eV), iz N b a (dw x) = dG N (fun y => b (bC y)) (fun y => a (dw y)) x := by
 intro a x
 kernel_rfl
def acJ (R : IR → (Ex → St → Ro) → St → Ro) (a : St → Ro) : Ex → St → Ro := (bz a [0, 2, 6, 11, 12, 13, 14, 1000002] 1 (aR 4 (bp (R rX) (fin eb))))
abbrev eW : Type := (Int × Bss × Bool × Bs × Bool × Int × List aA × Int)
def dx : eW → St := fun (a, b, c, d, e, f, g, h) => { env := (.ptr 0 0 :: .undef :: .int .i64 a :: (U 3 (.sl .str (.may false) b :: (U 4 (.bool c :: .str d :: .bool e :: .int .i64 f :: (U 119 [])))))), hp := [some [.ul .atype g, .int .i64 h]] }
def iA (N : Nat) : (St → Ro) → St → Ro := fun a s => run bA N rW (acJ (run bA N) a) s
def dH (N : Nat) (f : eW → Ro) : eW → Ro := fun (c, j, g, h, q, i, b, d) =>
 let u : Int := (↑(List.length j) : Int)
 cond (decide (i < u)) (
 cond q (
 let v : Int := (IntKind.wrap .i64 (i + 1))
 f (c, j, g, h, true, v, b, d)) (
 chk (decide (0 ≤ i) && decide (i < ↑(List.length j))) (
 let w : Bs := List.getD j (Int.toNat i) (aC .str)
 let x : Int := (IntKind.wrap .i64 (i + 1))
 f (c, j, g, h, decide (w = h), x, b, d)))) (
 cond g (
 cond (!q) (
 aH (aL b d 6) (fun e =>
 cond (e.2.2 == 0) (
 chk (decide (0 < List.length e.2.1)) (
 chk (decide (0 ≤ c) && decide (c < ↑(List.length e.2.1))) (
 chk (decide ((Int.toNat c) < List.length e.2.1)) (
 let k : List aA := (List.set e.2.1 (Int.toNat c) (let a := List.getD e.2.1 (Int.toNat c) (aC .atype); ⟨a.kind, a.name, a.aliases, a.items, j, a.hasdef, a.df, a.size, a.fields, a.branches⟩))
 chk (decide (0 ≤ c) && decide (c < ↑(List.length e.2.1))) (
 chk (decide ((Int.toNat c) < List.length k)) (
 let l : List aA := (List.set k (Int.toNat c) (let a := List.getD k (Int.toNat c) (aC .atype); ⟨a.kind, a.name, a.aliases, a.items, a.syms, g, a.df, a.size, a.fields, a.branches⟩))
 chk (decide (0 ≤ c) && decide (c < ↑(List.length e.2.1))) (
 chk (decide ((Int.toNat c) < List.length l)) (
 let r : List aA := (List.set l (Int.toNat c) (let a := List.getD l (Int.toNat c) (aC .atype); ⟨a.kind, a.name, a.aliases, a.items, a.syms, a.hasdef, h, a.size, a.fields, a.branches⟩))
 chk (Nat.beq (List.length e.2.1) (List.length r)) (
 some (.tup [], [some [.ul .atype r, .int .i64 e.2.2], none, none])))))))))) (
 some (.tup [], [some [.ul .atype e.2.1, .int .i64 e.2.2]])))) (
 cond (d == 0) (
 chk (decide (0 < List.length b)) (
 chk (decide (0 ≤ c) && decide (c < ↑(List.length b))) (
 chk (decide ((Int.toNat c) < List.length b)) (
 let m : List aA := (List.set b (Int.toNat c) (let a := List.getD b (Int.toNat c) (aC .atype); ⟨a.kind, a.name, a.aliases, a.items, j, a.hasdef, a.df, a.size, a.fields, a.branches⟩))
 chk (decide (0 ≤ c) && decide (c < ↑(List.length b))) (
 chk (decide ((Int.toNat c) < List.length m)) (
 let n : List aA := (List.set m (Int.toNat c) (let a := List.getD m (Int.toNat c) (aC .atype); ⟨a.kind, a.name, a.aliases, a.items, a.syms, g, a.df, a.size, a.fields, a.branches⟩))
 chk (decide (0 ≤ c) && decide (c < ↑(List.length b))) (
 chk (decide ((Int.toNat c) < List.length n)) (
 let s : List aA := (List.set n (Int.toNat c) (let a := List.getD n (Int.toNat c) (aC .atype); ⟨a.kind, a.name, a.aliases, a.items, a.syms, a.hasdef, h, a.size, a.fields, a.branches⟩))
 chk (Nat.beq (List.length b) (List.length s)) (
 some (.tup [], [some [.ul .atype s, .int .i64 d], none, none])))))))))) (
 some (.tup [], [some [.ul .atype b, .int .i64 d]])))) (
 cond (d == 0) (
 chk (decide (0 < List.length b)) (
 chk (decide (0 ≤ c) && decide (c < ↑(List.length b))) (
 chk (decide ((Int.toNat c) < List.length b)) (
 let o : List aA := (List.set b (Int.toNat c) (let a := List.getD b (Int.toNat c) (aC .atype); ⟨a.kind, a.name, a.aliases, a.items, j, a.hasdef, a.df, a.size, a.fields, a.branches⟩))
 chk (decide (0 ≤ c) && decide (c < ↑(List.length b))) (
 chk (decide ((Int.toNat c) < List.length o)) (
 let p : List aA := (List.set o (Int.toNat c) (let a := List.getD o (Int.toNat c) (aC .atype); ⟨a.kind, a.name, a.aliases, a.items, a.syms, g, a.df, a.size, a.fields, a.branches⟩))
 chk (decide (0 ≤ c) && decide (c < ↑(List.length b))) (
 chk (decide ((Int.toNat c) < List.length p)) (
 let t : List aA := (List.set p (Int.toNat c) (let a := List.getD p (Int.toNat c) (aC .atype); ⟨a.kind, a.name, a.aliases, a.items, a.syms, a.hasdef, h, a.size, a.fields, a.branches⟩))
 chk (Nat.beq (List.length b) (List.length t)) (
 some (.tup [], [some [.ul .atype t, .int .i64 d], none, none])))))))))) (
 some (.tup [], [some [.ul .atype b, .int .i64 d]]))))
theorem ace (N : Nat) : ∀ (a : St → Ro) (x : eW), iA N a (dx x) = dH N (fun y => a (dx y)) x := by
 intro a x
 kernel_rfl
def iB (N : Nat) : (St → Ro) → St → Ro := fun a s => run bA N gp (iy (run bA N) a) s
def gF (N : Nat) (k : cz → Ro) (o : eV → Ro) (p : eW → Ro) : cz → Ro := fun (l, a, b, c, d, e, h, j, g, f) =>
 let r : Int := (↑(List.length h) : Int)
 cond (decide (j < r)) (
 cond (f == 0) (
 chk (decide (0 ≤ j) && decide (j < ↑(List.length h))) (
 let s : Bs := List.getD h (Int.toNat j) (aC .str)
 aH (jB s) (fun (t : Bool) =>
 cond (!t) (
 aH (aL g f 6) (fun q =>
 o (l, a, b, c, d, e, h, j, 0, q.2.1, q.2.2))) (
 o (l, a, b, c, d, e, h, j, 0, g, f))))) (
 aH (cT a b c d e ([100, 101, 102, 97, 117, 108, 116] : Bs)) (fun u =>
 aH (dD g f a b c d e ([100, 101, 102, 97, 117, 108, 116] : Bs) false) (fun m =>
 p (l, h, u.2.2.2.2.2, m.1, false, 0, m.2.1, m.2.2))))) (
 aH (cT a b c d e ([100, 101, 102, 97, 117, 108, 116] : Bs)) (fun n =>
 aH (dD g f a b c d e ([100, 101, 102, 97, 117, 108, 116] : Bs) false) (fun i =>
 p (l, h, n.2.2.2.2.2, i.1, false, 0, i.2.1, i.2.2))))
def eX (N : Nat) (a : cz → Ro) (x : cz) : Ro := gF N a (fun z => aQ N (dG N a) z) (fun z => aQ N (dH N) z) x
def mL (N : Nat) (a : St → Ro) : List (Nat × (St → Ro)) := (ba bA N gp (iy (run bA N) a) ++ (ba bA N lC (fin eb) ++ []))
theorem acf (N : Nat) : ∀ (a : St → Ro) (x : cz), iB N a (bC x) = eX N (fun y => a (bC y)) x := by
 intro a x
 have hX : ∀ C : Nat → St → Ro, bQ C bA N gp (iy (bQ C bA N) a) (bC x) = gF N (fun y => a (bC y)) (fun z => C 1000000 (dw z)) (fun z => C 1000002 (dx z)) x := by
  intro C
  kernel_rfl
 have h : iB N a (bC x) = gF N (fun y => a (bC y)) (fun z => bg N (iz N a) (dw z)) (fun z => bg N (iA N) (dx z)) x := (ch (C := dA (mL N a)) (bO (aX (l := (mL N a)) (by kernel_rfl))) (oL (cp (eq (bO (da (aX (l := (mL N a)) (by kernel_rfl)))) rfl))) _).trans ((hX _).trans (by kernel_rfl))
 have e1 : (fun z => bg N (iz N a) (dw z)) = (fun z => aQ N (dG N (fun y => a (bC y))) z) := funext fun z => bc (dw) (iz N a) (dG N (fun y => a (bC y))) (acd N a) N z
 have e2 : (fun z => bg N (iA N) (dx z)) = (fun z => aQ N (dH N) z) := funext fun z => bc (dx) (iA N) (dH N) (ace N) N z
 rw [h, e1, e2]
 rfl
def fx (N : Nat) (k : List aA) (l a b : Int) (c : Bs) (d : List aE) (e : Bss) (h : Int) (i : cz → Ro) : Ro :=
 aH (cU k l a b c d e ([115, 121, 109, 98, 111, 108, 115] : Bs)) (fun f =>
 cond (!f.2.1) (
 aH (aL f.2.2.1 f.2.2.2 2) (fun j =>
 let v : Int := (↑(List.length f.1) : Int)
 cond (v == 0) (
 aH (aL j.2.1 j.2.2 6) (fun p =>
 let w : Int := (↑(List.length f.1) : Int)
 cond (decide (30 < w)) (
 aH (aL p.2.1 p.2.2 3) (fun u =>
 i (h, a, b, c, d, e, f.1, 0, u.2.1, u.2.2))) (
 i (h, a, b, c, d, e, f.1, 0, p.2.1, p.2.2)))) (
 let q : Int := (↑(List.length f.1) : Int)
 cond (decide (30 < q)) (
 aH (aL j.2.1 j.2.2 3) (fun m =>
 i (h, a, b, c, d, e, f.1, 0, m.2.1, m.2.2))) (
 i (h, a, b, c, d, e, f.1, 0, j.2.1, j.2.2))))) (
 let r : Int := (↑(List.length f.1) : Int)
 cond (r == 0) (
 aH (aL f.2.2.1 f.2.2.2 6) (fun g =>
 let s : Int := (↑(List.length f.1) : Int)
 cond (decide (30 < s)) (
 aH (aL g.2.1 g.2.2 3) (fun n =>
 i (h, a, b, c, d, e, f.1, 0, n.2.1, n.2.2))) (
 i (h, a, b, c, d, e, f.1, 0, g.2.1, g.2.2)))) (
 let t : Int := (↑(List.length f.1) : Int)
 cond (decide (30 < t)) (
 aH (aL f.2.2.1 f.2.2.2 3) (fun o =>
 i (h, a, b, c, d, e, f.1, 0, o.2.1, o.2.2))) (
 i (h, a, b, c, d, e, f.1, 0, f.2.2.1, f.2.2.2)))))
def nT (N : Nat) (a : List aA) (b c d : Int) (e : Bs) (f : List aE) (g : Bss) (h : Int) : Ro := fx N a b c d e f g h (fun z => aQ N (eX N) z)
def ae1 (N : Nat) : List (Nat × (St → Ro)) := ba bA N nS (fin eb) ++ []
theorem acK (N : Nat) (a : List aA) (c d e : Int) (f : Bs) (g : List aE) (h : Bss) (i : Int) : aW bA N 134 eb nS [.ptr 0 0, .agg [.int .i64 d, .int .i64 e, .str f, .sl .jnode (.may false) g, .sl .str (.may false) h], .int .i64 i] [some [.ul .atype a, .int .i64 c]] = nT N a c d e f g h i :=
 (bL (ae1 N) (by kernel_rfl) rfl (fun C => fx N a c d e f g h i (fun z => C 1000001 (bC z))) (fun C => by kernel_rfl)).trans (Eq.trans (b := fx N a c d e f g h i (fun z => bg N (iB N) (bC z))) (by kernel_rfl) (congrArg (fx N a c d e f g h i) (funext fun z => bc (bC) (iB N) (eX N) (acf N) N z)))
theorem acL (N : Nat) (a : List aA) (b c d : Int) (e : Bs) (f : List aE) (g : Bss) (k : Int) (h : Tot (nT N a b c d e f g k) (fun z => ∃ (i : List aA) (j : Int) (rest : List aK), z.1.dimR = .tup [] ∧ z.2 = some [.ul .atype i, .int .i64 j] :: rest ∧ du a b c d e f g k (i, j))) : ∃ r, fW a b c d e f g k r := by
 obtain ⟨⟨v, hp⟩, hz, i, j, rest, e1, e2, hq⟩ := h
 simp only at e1 e2
 subst e2
 exact ⟨(i, j), bk.dimR (FnC.objs (css := [[.ul .atype a, .int .i64 b]]) (css' := [[.ul .atype i, .int .i64 j]]) adT (acK N a b c d e f g k) hz rfl) e1, hq⟩
noncomputable def j8 : aN := tab (P := Try.prog) [] [cH, oo, zy] [] [ai8]
def wz : IR := Sq (Rs [Mv 26 9, Mv 27 1, Pp (.lens 28 27), Bi 29 .lss 26 28] (Cn 29 .skip (.exit 0))) (Sq (.block 1 (Rg [Mv 32 8, Mv 33 32, Gf 33 (.mov 34 1), Gf 33 (.mov 35 9), Gf 33 (.idx 36 34 35), Gf 33 (.bin 37 .eql 36 (.c (.int .u8 46))), Po 38 33 37, Mv 8 38])) (Rg [Mv 30 9, Bc 31 .add 30 1, Mv 9 31]))
def uT : IR := Sq (Rs [Mv 39 8, Un 40 39, Mv 41 40, Gt 41 (.mov 42 2), Gt 41 (.bin 43 .neq 42 (kS [])), Pa 44 41 43] (Cn 44 (Rs [Mv 46 0, Mv 47 2, Pp (.bin 48 .add 47 (kS [46])), Mv 49 1, Bi 50 .add 48 49, Ca 51 138 [46, 50], Mv 45 51, Ex_ 52 0 45, Ex_ 53 1 45, Mv 10 52, Mv 11 53] (Rs [Mv 54 11] (Cn 54 (Rs [Mv 55 10, Mv 6 55] .ret) .skip))) .skip)) (Rs [Mv 57 0, Mv 58 1, Ca 59 138 [57, 58], Mv 56 59, Ex_ 60 0 56, Ex_ 61 1 56, Mv 12 60, Mv 13 61] (Sq (Rs [Mv 62 13, Un 63 62] (Cn 63 (Rs [Mv 64 0, Ca 65 110 [64, kI 4], Mv 6 65] .ret) .skip)) (Rs [Mv 66 12, Mv 6 66] .ret)))
def rB : IR := Rs [Mi 6 0] (Rs [Mv 14 1, Ca 15 115 [14], Mv 7 15] (Sq (Rs [Mv 16 7, Bc 17 .geq 16 1, Mv 18 17, Gt 18 (.mov 19 7), Gt 18 (.bin 20 .leq 19 (kI 8)), Pa 21 18 20] (Cn 21 (Rs [Mv 22 0, Mv 23 7, Pp (.bld 24 [vI 0, vS, fu .str true, vI 0, fu .str true, .bool false, vS, vI 0, fu .afield true, fu (.num .i64) true] [(0, 1, 23)]), Ca 25 116 [22, 24], Mv 6 25] .ret) .skip)) (Rs [Mb 8 false] (Sq (Rs [Mi 9 0] (.block 0 (.loop [0, 1, 2, 8, 9, 1000000] 1 wz))) uT))))
def mE : List RV := [.t 6]
theorem ah4 : FnC Try.prog j8 [110, 116, 138, 2000110, 2000116, 2000138] 1 zv Try.f111 rB mE := fnC (by kernel_rfl) Try.func111 (by kernel_rfl) (by kernel_rfl) (by decide)
def agp (R : IR → (Ex → St → Ro) → St → Ro) (a : St → Ro) : Ex → St → Ro := (bz a [0, 1, 2, 8, 9, 1000000] 1 (aR 0 (bp (R uT) (fin mE))))
abbrev gG : Type := (Bs × Bs × Bool × Int × List aA × Int)
def f7 : gG → St := fun (a, b, c, d, e, f) => { env := (.ptr 0 0 :: .str a :: .str b :: (U 5 (.bool c :: .int .i64 d :: (U 57 [])))), hp := [some [.ul .atype e, .int .i64 f]] }
def qd (N : Nat) : (St → Ro) → St → Ro := fun a s => run j8 N wz (agp (run j8 N) a) s
def gH (N : Nat) (c : gG → Ro) : gG → Ro := fun (d, j, n, e, a, b) =>
 let p : Int := (↑(List.length d) : Int)
 cond (decide (e < p)) (
 cond n (
 let q : Int := (IntKind.wrap .i64 (e + 1))
 c (d, j, true, q, a, b)) (
 chk (decide (0 ≤ e) && decide (e < ↑(List.length d))) (
 let r : Int := (↑(UInt8.toNat (List.getD d (Int.toNat e) 0)) : Int)
 let s : Int := (IntKind.wrap .i64 (e + 1))
 c (d, j, (r == 46), s, a, b)))) (
 cond (!n) (
 let t : Bool := (!decide (j = ([] : Bs)))
 cond t (
 chk (decide (List.length j + List.length ([46] : Bs) ≤ 9223372036854775807)) (
 let o : Bs := (j ++ ([46] : Bs))
 chk (decide (List.length o + List.length d ≤ 9223372036854775807)) (
 aH (cI a b (o ++ d)) (fun f =>
 cond f.2.1 (
 some (.int .i64 f.1, [some [.ul .atype f.2.2.1, .int .i64 f.2.2.2]])) (
 aH (cI f.2.2.1 f.2.2.2 d) (fun g =>
 cond (!g.2.1) (
 aH (aL g.2.2.1 g.2.2.2 4) (fun k =>
 some (.int .i64 k.1, [some [.ul .atype k.2.1, .int .i64 k.2.2]]))) (
 some (.int .i64 g.1, [some [.ul .atype g.2.2.1, .int .i64 g.2.2.2]])))))))) (
 aH (cI a b d) (fun h =>
 cond (!h.2.1) (
 aH (aL h.2.2.1 h.2.2.2 4) (fun l =>
 some (.int .i64 l.1, [some [.ul .atype l.2.1, .int .i64 l.2.2]]))) (
 some (.int .i64 h.1, [some [.ul .atype h.2.2.1, .int .i64 h.2.2.2]]))))) (
 aH (cI a b d) (fun i =>
 cond (!i.2.1) (
 aH (aL i.2.2.1 i.2.2.2 4) (fun m =>
 some (.int .i64 m.1, [some [.ul .atype m.2.1, .int .i64 m.2.2]]))) (
 some (.int .i64 i.1, [some [.ul .atype i.2.2.1, .int .i64 i.2.2.2]])))))
theorem ae2 (N : Nat) : ∀ (a : St → Ro) (x : gG), qd N a (f7 x) = gH N (fun y => a (f7 y)) x := by
 intro a x
 kernel_rfl
def iX (N : Nat) (a : List aA) (b : Int) (c f : Bs) (g : gG → Ro) : Ro :=
 aH (ma c) (fun (d : Int) =>
 cond (decide (1 ≤ d)) (
 cond (decide (d ≤ 8)) (
 aH (en a b d ([] : Bs) ([] : Bss) 0 ([] : Bss) false ([] : Bs) 0 ([] : List aM) ([] : List Int)) (fun e =>
 some (.int .i64 e.1, [some [.ul .atype e.2.1, .int .i64 e.2.2]]))) (
 g (c, f, false, 0, a, b))) (
 g (c, f, false, 0, a, b)))
def rC (N : Nat) (a : List aA) (b : Int) (c d : Bs) : Ro := iX N a b c d (fun z => aQ N (gH N) z)
def ajB (N : Nat) : List (Nat × (St → Ro)) := ba j8 N rB (fin mE) ++ []
theorem agq (N : Nat) (a : List aA) (c : Int) (d e : Bs) : aW j8 N 67 mE rB [.ptr 0 0, .str d, .str e] [some [.ul .atype a, .int .i64 c]] = rC N a c d e :=
 (bL (ajB N) (by kernel_rfl) rfl (fun C => iX N a c d e (fun z => C 1000000 (f7 z))) (fun C => by kernel_rfl)).trans (Eq.trans (b := iX N a c d e (fun z => bg N (qd N) (f7 z))) (by kernel_rfl) (congrArg (iX N a c d e) (funext fun z => bc (f7) (qd N) (gH N) (ae2 N) N z)))
theorem agr (N : Nat) (a : List aA) (b : Int) (e f : Bs) (h : Tot (rC N a b e f) (fun z => ∃ (g : Int) (c : List aA) (d : Int) (rest : List aK), z.1.dimR = .int .i64 g ∧ z.2 = some [.ul .atype c, .int .i64 d] :: rest ∧ oT a b e f (g, c, d))) : ∃ r, fV a b e f r := by
 obtain ⟨⟨v, hp⟩, hz, g, c, d, rest, e1, e2, hq⟩ := h
 simp only at e1 e2
 subst e2
 exact ⟨(g, c, d), bk.dimR (FnC.objs (css := [[.ul .atype a, .int .i64 b]]) (css' := [[.ul .atype c, .int .i64 d]]) ah4 (agq N a b e f) hz rfl) e1, hq⟩
noncomputable def b8 : aN := tab (P := Try.prog) [] [mZ, cH, oo] [139] [auG]
def tZ : IR := Sq (Rs [Mv 70 13, Mv 71 10, Ll 72 71, Bi 73 .lss 70 72] (Cn 73 .skip (.exit 2))) (Sq (.block 3 (Sq (.gh (.opn (.cell 0 0)) (.ghp (.cls (.cell 0 0)) (.reg [Mv 76 0, Nk 77 76, Fa 78 0 77, Fo [0] [] (.ld 79 1 true false 78), Mv 80 10, Mv 81 13, Ix 82 (.num .i64) 80 81, Lq 83 82, Fo [1] [] (.call 84 139 [79, 83]), Mv 85 0, Nk 86 85, Fa 87 0 86, Fo [0] [] (.ld 88 1 true false 87), Mv 89 12, Fo [1] [] (.call 90 139 [88, 89]), Bi 91 .eql 84 90] [[], [0], [0, 1], [0, 1, 2], [], [], [4, 5], [4, 5, 6], rg 0 7, [], [9], [9, 10], [9, 10, 11], [], rg 0 13, rg 0 14]))) (Cn 91 (Rs [Mv 92 0, Ca 93 110 [92, kI 6], Mv 8 93] .ret) .skip))) (Rg [Mv 74 13, Bc 75 .add 74 1, Mv 13 75]))
def t7 : IR := Rg [Pp (.mov 94 (.tk 10)), Mv 95 12, Pp (.bsl 96 (.num .i64) [95] true), Pp (.app 97 (.num .i64) (.tk 94) 96), Pp (.mov 10 (.tk 97))]
def t9 : IR := Rg [Mv 41 11, Bc 42 .add 41 1, Mv 11 42]
def iC : IR := Sq (Rs [Mv 29 11, Fa 30 3 5, Lq 31 30, Ll 32 31, Bi 33 .lss 29 32, Mv 34 33, Gt 34 (.mov 35 0), Gt 34 (.nck 36 35), Gt 34 (.fad 37 1 36), Gt 34 (.ld 38 1 false false 37), Gt 34 (.bin 39 .eql 38 (kI 0)), Pa 40 34 39] (Cn 40 .skip (.exit 0))) (Sq (.block 1 (Rs [Mv 43 0, Fa 44 3 5, Lq 45 44, Mv 46 11, Ix 47 .jnode 45 46, Ld 48 5 true 47, Mv 49 2, Mv 50 3, Bc 51 .add 50 1, Ca 52 72 [43, 48, 49, 51], Mv 12 52] (Sq (Rs [Mv 53 0, Nk 54 53, Fa 55 1 54, Lo 56 55, Bc 57 .neq 56 0] (Cn 57 (Rs [Mi 8 0] .ret) .skip)) (Sq (Sq (.gh (.opn (.cell 0 0)) (.ghp (.cls (.cell 0 0)) (Rg [Mv 58 0, Nk 59 58, Fa 60 0 59, Fa 61 0 60, Lo 62 61, Mv 63 12, Pp (.ixw 64 .atype 62 63), Pp (.fdw 65 0 64), Pp (.ldw 66 1 false 65), Bc 67 .eql 66 14]))) (Cn 67 (Rs [Mv 68 0, Ca 69 110 [68, kI 6], Mv 8 69] .ret) .skip)) (Sq (Rs [Mi 13 0] (.block 2 (.loop [0, 2, 3, 5, 9, 10, 11, 12, 13, 1000000] 1 tZ))) t7))))) t9)
def mM : IR := Sq (Rs [Mv 98 0, Nk 99 98, Fa 100 1 99, Lo 101 100, Bc 102 .eql 101 0] (Cn 102 (.gh (.opn (.cell 0 0)) (.ghp (.cls (.cell 0 0)) (Rg [Mv 103 0, Nk 104 103, Fa 105 0 104, Fa 106 0 105, Lo 107 106, Mv 108 9, Mv 109 10, Pp (.ixw 110 .atype 107 108), Pp (.fdw 111 9 110), Pp (.stw none 1 111 109)]))) .skip)) (Rs [Mv 112 9, Mv 8 112] .ret)
def qe : IR := Rs [Bx 5 1, Mi 8 0] (Rs [Mv 14 0, Pp (.bld 15 [vI 0, vS, fu .str true, vI 0, fu .str true, .bool false, vS, vI 0, fu .afield true, fu (.num .i64) true] [(0, 1, kI 14)]), Ca 16 116 [14, 15], Mv 9 16] (Sq (Rs [Fa 17 3 5, Lq 18 17, Ll 19 18, Bc 20 .eql 19 0] (Cn 20 (Rs [Mv 21 0, Ca 22 110 [21, kI 6], Mv 8 22] .ret) .skip)) (Sq (Rs [Fa 23 3 5, Lq 24 23, Ll 25 24, Bc 26 .gtr 25 30] (Cn 26 (Rs [Mv 27 0, Ca 28 110 [27, kI 3], Mv 8 28] .ret) .skip)) (Rs [Pp (.mov 10 (.c (nl (.num .i64))))] (Sq (Rs [Mi 11 0] (.block 0 (.loop [0, 2, 3, 5, 9, 10, 11, 1000001] 1 iC))) mM)))))
def gI : List RV := [.t 8]
theorem ags : FnC Try.prog b8 [72, 110, 116, 139, 2000072, 2000110, 2000116, 2000139] 1 xY Try.f112 qe gI := fnC (by kernel_rfl) Try.func112 (by kernel_rfl) (by kernel_rfl) (by decide)
def kn (R : IR → (Ex → St → Ro) → St → Ro) (a : St → Ro) : Ex → St → Ro := (bz a [0, 2, 3, 5, 9, 10, 11, 1000001] 1 (aR 0 (bp (R mM) (fin gI))))
abbrev cW : Type := (Bs × Int × Int × Int × Bs × List aE × Bss × Int × List Int × Int × List aA × Int)
def bN : cW → St := fun (c, d, e, f, g, h, i, j, k, l, a, b) => { env := (.ptr 0 0 :: .undef :: .str c :: .int .i64 d :: .undef :: .ea [.int .i64 e, .int .i64 f, .str g, .sl .jnode (.may false) h, .sl .str (.may false) i] :: (U 3 (.int .i64 j :: .sl (.num .i64) .own k :: .int .i64 l :: (U 101 [])))), hp := [some [.ul .atype a, .int .i64 b]] }
def ae3 (R : IR → (Ex → St → Ro) → St → Ro) (a b : St → Ro) : Ex → St → Ro := (bz b [0, 2, 3, 5, 9, 10, 11, 12, 13, 1000000] 1 (aR 2 (bp (R t7) (aR 1 (bp (R t9) (kn R a))))))
abbrev f8 : Type := (Bs × Int × Int × Int × Bs × List aE × Bss × Int × List Int × Int × Int × Int × List aA × Int)
def ee : f8 → St := fun (e, f, g, h, i, j, k, l, m, n, a, b, c, d) => { env := (.ptr 0 0 :: .undef :: .str e :: .int .i64 f :: .undef :: .ea [.int .i64 g, .int .i64 h, .str i, .sl .jnode (.may false) j, .sl .str (.may false) k] :: (U 3 (.int .i64 l :: .sl (.num .i64) .own m :: .int .i64 n :: .int .i64 a :: .int .i64 b :: (U 99 [])))), hp := [some [.ul .atype c, .int .i64 d]] }
def ko (N : Nat) (a : St → Ro) : (St → Ro) → St → Ro := fun b s => run b8 N tZ (ae3 (run b8 N) a b) s
def ga (N : Nat) (e : cW → Ro) (f : f8 → Ro) : f8 → Ro := fun (t, u, h, i, j, k, l, v, b, m, g, c, a, d) =>
 let n : Int := (↑(List.length b) : Int)
 cond (decide (c < n)) (
 chk (decide (0 < List.length a)) (
 chk (decide (0 ≤ c) && decide (c < ↑(List.length b))) (
 let o : Int := List.getD b (Int.toNat c) (aC (.num .i64))
 asz (rt a o) (Nat.beq (List.length a) (List.length a) && true) (fun (w : Bs) =>
 asz (rt a g) (Nat.beq (List.length a) (List.length a) && true) (fun (x : Bs) =>
 chk (Nat.beq (List.length a) (List.length a)) (
 cond (decide (w = x)) (
 aH (aL a d 6) (fun p =>
 some (.int .i64 p.1, [some [.ul .atype p.2.1, .int .i64 p.2.2], none, none]))) (
 let q : Int := (IntKind.wrap .i64 (c + 1))
 f (t, u, h, i, j, k, l, v, b, m, g, q, a, d)))))))) (
 chk (decide ((List.length b + List.length ([g] : List Int)) * 8 ≤ 140737488355328)) (
 let r : List Int := (b ++ ([g] : List Int))
 let s : Int := (IntKind.wrap .i64 (m + 1))
 e (t, u, h, i, j, k, l, v, r, s, a, d)))
theorem adU (N : Nat) (b : St → Ro) : ∀ (a : St → Ro) (x : f8), ko N b a (ee x) = ga N (fun y => b (bN y)) (fun y => a (ee y)) x := by
 intro a x
 kernel_rfl
def kp (N : Nat) : (St → Ro) → St → Ro := fun a s => run b8 N iC (kn (run b8 N) a) s
def jC (N : Nat) (q : cW → Ro) (w : f8 → Ro) : cW → Ro := fun (u, v, i, j, k, b, m, g, h, d, a, c) =>
 let x : Int := (↑(List.length b) : Int)
 cond (decide (d < x)) (
 cond (c == 0) (
 chk (decide (0 ≤ d) && decide (d < ↑(List.length b))) (
 let y : Int := (List.getD b (Int.toNat d) (aC .jnode)).kind
 let z : Int := (List.getD b (Int.toNat d) (aC .jnode)).n
 let x6 : Bs := (List.getD b (Int.toNat d) (aC .jnode)).s
 let x7 : List aE := (List.getD b (Int.toNat d) (aC .jnode)).l
 let x8 : Bss := (List.getD b (Int.toNat d) (aC .jnode)).names
 let x9 : Int := (IntKind.wrap .i64 (v + 1))
 aH (cn a c y z x6 x7 x8 u x9) (fun f =>
 cond (!(f.2.2 == 0)) (
 some (.int .i64 0, [some [.ul .atype f.2.1, .int .i64 f.2.2]])) (
 chk (decide (0 < List.length f.2.1)) (
 chk (decide (0 ≤ f.1) && decide (f.1 < ↑(List.length f.2.1))) (
 chk (decide ((Int.toNat f.1) < List.length f.2.1)) (
 let r : Int := (List.getD f.2.1 (Int.toNat f.1) (aC .atype)).kind
 chk (Nat.beq (List.length f.2.1) (List.length f.2.1)) (
 cond (r == 14) (
 aH (aL f.2.1 f.2.2 6) (fun t =>
 some (.int .i64 t.1, [some [.ul .atype t.2.1, .int .i64 t.2.2], none, none]))) (
 w (u, v, i, j, k, b, m, g, h, d, f.1, 0, f.2.1, f.2.2)))))))))) (
 cond (c == 0) (
 chk (decide (0 < List.length a)) (
 chk (decide (0 ≤ g) && decide (g < ↑(List.length a))) (
 chk (decide ((Int.toNat g) < List.length a)) (
 let o : List aA := (List.set a (Int.toNat g) (let e := List.getD a (Int.toNat g) (aC .atype); ⟨e.kind, e.name, e.aliases, e.items, e.syms, e.hasdef, e.df, e.size, e.fields, h⟩))
 chk (Nat.beq (List.length a) (List.length o)) (
 some (.int .i64 g, [some [.ul .atype o, .int .i64 c], none, none])))))) (
 some (.int .i64 g, [some [.ul .atype a, .int .i64 c]])))) (
 cond (c == 0) (
 chk (decide (0 < List.length a)) (
 chk (decide (0 ≤ g) && decide (g < ↑(List.length a))) (
 chk (decide ((Int.toNat g) < List.length a)) (
 let p : List aA := (List.set a (Int.toNat g) (let e := List.getD a (Int.toNat g) (aC .atype); ⟨e.kind, e.name, e.aliases, e.items, e.syms, e.hasdef, e.df, e.size, e.fields, h⟩))
 chk (Nat.beq (List.length a) (List.length p)) (
 some (.int .i64 g, [some [.ul .atype p, .int .i64 c], none, none])))))) (
 some (.int .i64 g, [some [.ul .atype a, .int .i64 c]])))
def kq (N : Nat) (a : cW → Ro) (x : cW) : Ro := jC N a (fun z => aQ N (ga N a) z) x
def ph (N : Nat) (a : St → Ro) : List (Nat × (St → Ro)) := (ba b8 N iC (kn (run b8 N) a) ++ (ba b8 N mM (fin gI) ++ []))
theorem adV (N : Nat) : ∀ (a : St → Ro) (x : cW), kp N a (bN x) = kq N (fun y => a (bN y)) x := by
 intro a x
 have hX : ∀ C : Nat → St → Ro, bQ C b8 N iC (kn (bQ C b8 N) a) (bN x) = jC N (fun y => a (bN y)) (fun z => C 1000000 (ee z)) x := by
  intro C
  kernel_rfl
 have h : kp N a (bN x) = jC N (fun y => a (bN y)) (fun z => bg N (ko N a) (ee z)) x := (ch (C := dA (ph N a)) (bO (aX (l := (ph N a)) (by kernel_rfl))) (oL (cp (eq (bO (da (aX (l := (ph N a)) (by kernel_rfl)))) rfl))) _).trans ((hX _).trans (by kernel_rfl))
 have e1 : (fun z => bg N (ko N a) (ee z)) = (fun z => aQ N (ga N (fun y => a (bN y))) z) := funext fun z => bc (ee) (ko N a) (ga N (fun y => a (bN y))) (adU N a) N z
 rw [h, e1]
 rfl
def gJ (N : Nat) (c : List aA) (d e f : Int) (g : Bs) (a : List aE) (h : Bss) (k : Bs) (l : Int) (m : cW → Ro) : Ro :=
 aH (en c d 14 ([] : Bs) ([] : Bss) 0 ([] : Bss) false ([] : Bs) 0 ([] : List aM) ([] : List Int)) (fun b =>
 let n : Int := (↑(List.length a) : Int)
 cond (n == 0) (
 aH (aL b.2.1 b.2.2 6) (fun i =>
 some (.int .i64 i.1, [some [.ul .atype i.2.1, .int .i64 i.2.2]]))) (
 let o : Int := (↑(List.length a) : Int)
 cond (decide (30 < o)) (
 aH (aL b.2.1 b.2.2 3) (fun j =>
 some (.int .i64 j.1, [some [.ul .atype j.2.1, .int .i64 j.2.2]]))) (
 m (k, l, e, f, g, a, h, b.1, ([] : List Int), 0, b.2.1, b.2.2))))
def qf (N : Nat) (a : List aA) (b c d : Int) (e : Bs) (f : List aE) (g : Bss) (h : Bs) (i : Int) : Ro := gJ N a b c d e f g h i (fun z => aQ N (kq N) z)
def ah5 (N : Nat) : List (Nat × (St → Ro)) := ba b8 N qe (fin gI) ++ []
theorem ae4 (N : Nat) (a : List aA) (c d e : Int) (f : Bs) (g : List aE) (h : Bss) (i : Bs) (j : Int) : aW b8 N 113 gI qe [.ptr 0 0, .agg [.int .i64 d, .int .i64 e, .str f, .sl .jnode (.may false) g, .sl .str (.may false) h], .str i, .int .i64 j] [some [.ul .atype a, .int .i64 c]] = qf N a c d e f g h i j :=
 (bL (ah5 N) (by kernel_rfl) rfl (fun C => gJ N a c d e f g h i j (fun z => C 1000001 (bN z))) (fun C => by kernel_rfl)).trans (Eq.trans (b := gJ N a c d e f g h i j (fun z => bg N (kp N) (bN z))) (by kernel_rfl) (congrArg (gJ N a c d e f g h i j) (funext fun z => bc (bN) (kp N) (kq N) (adV N) N z)))
theorem ae5 (N : Nat) (a : List aA) (b c d : Int) (e : Bs) (f : List aE) (g : Bss) (k : Bs) (l : Int) (h : Tot (qf N a b c d e f g k l) (fun z => ∃ (m : Int) (i : List aA) (j : Int) (rest : List aK), z.1.dimR = .int .i64 m ∧ z.2 = some [.ul .atype i, .int .i64 j] :: rest ∧ uH a b c d e f g k l (m, i, j))) : ∃ r, iS a b c d e f g k l r := by
 obtain ⟨⟨v, hp⟩, hz, m, i, j, rest, e1, e2, hq⟩ := h
 simp only at e1 e2
 subst e2
 exact ⟨(m, i, j), bk.dimR (FnC.objs (css := [[.ul .atype a, .int .i64 b]]) (css' := [[.ul .atype i, .int .i64 j]]) ags (ae4 N a b c d e f g k l) hz rfl) e1, hq⟩
noncomputable def aV : aN := tab (P := Try.prog) [] [mZ, cH, sK, rv] [] [pZ, adL]
def gK : IR := Sq (Rs [Mv 81 16, Mv 82 12, Ll 83 82, Bi 84 .lss 81 83] (Cn 84 .skip (.exit 2))) (Sq (.block 3 (Sq (.reg [Mv 87 12, Mv 88 16, Ix 89 .afield 87 88, Fa 90 0 89, Fo [] [] (.ld 91 1 false false 90), Fa 92 0 15, Fo [1] [] (.ld 93 1 false false 92), Bi 94 .eql 91 93] [[], [], [0, 1], [0, 1, 2], rg 0 3, [], [5], rg 0 6]) (Cn 94 (Rg [Mv 95 0, Ca 96 110 [95, kI 5]]) .skip))) (Rg [Mv 85 16, Bc 86 .add 85 1, Mv 16 86]))
def s7 : IR := Sq (Rs [Mv 127 19, Fa 128 1 15, Lo 129 128, Ll 130 129, Bi 131 .lss 127 130, Mv 132 131, Gt 132 (.mov 133 0), Gt 132 (.nck 134 133), Gt 132 (.fad 135 1 134), Gt 132 (.ld 136 1 false false 135), Gt 132 (.bin 137 .eql 136 (kI 0)), Pa 138 132 137] (Cn 138 .skip (.exit 4))) (Sq (.block 5 (Rs [Fa 141 1 15, Lo 142 141, Mv 143 19, Ix 144 .str 142 143, Lq 145 144, Ca 146 161 [145], Un 147 146] (Cn 147 (Rg [Mv 148 0, Ca 149 110 [148, kI 6]]) .skip))) (Rg [Mv 139 19, Bc 140 .add 139 1, Mv 19 140]))
def s8 : IR := Rg [Pp (.mov 150 (.tk 12)), Pp (.ld 151 9 true false 15), Pp (.bsl 152 .afield [151] true), Pp (.app 153 .afield (.tk 150) 152), Pp (.mov 12 (.tk 153))]
def mc : IR := Rs [Ld 98 5 true 14, Ca 99 113 [98, kS [116, 121, 112, 101]], Mv 97 99, Ex_ 100 0 97, Ex_ 101 1 97, Pp (.alr 17 5), Fz 17 5 100, Mv 18 101] (Sq (Rs [Mv 102 18, Un 103 102] (Cn 103 (Rg [Mv 104 0, Ca 105 110 [104, kI 2]]) .skip)) (Rs [Mv 106 0, Ld 107 5 true 17, Mv 108 3, Mv 109 4, Bc 110 .add 109 1, Ca 111 72 [106, 107, 108, 110], Fa 112 2 15, Sv 1 112 111] (Rs [Ld 114 5 true 14, Ca 115 113 [114, kS [100, 101, 102, 97, 117, 108, 116]], Mv 113 115, Ex_ 116 0 113, Ex_ 117 1 113, Fa 118 4 15, Sv 5 118 116, Fa 119 3 15, Sv 1 119 117] (Rs [Mv 121 0, Ld 122 5 true 14, Ca 123 143 [121, 122, kS [97, 108, 105, 97, 115, 101, 115]], Mv 120 123, Ex_ 124 0 120, Ex_ 125 1 120, Fa 126 1 15, Sk 1 126 124] (Sq (Rs [Mi 19 0] (.block 4 (.loop [0, 2, 3, 4, 10, 12, 13, 15, 19, 1000001] 2 s7))) s8)))))
def eL : IR := Rg [Mv 52 13, Bc 53 .add 52 1, Mv 13 53]
def gL : IR := Sq (Rs [Mv 40 13, Fa 41 3 10, Lq 42 41, Ll 43 42, Bi 44 .lss 40 43, Mv 45 44, Gt 45 (.mov 46 0), Gt 45 (.nck 47 46), Gt 45 (.fad 48 1 47), Gt 45 (.ld 49 1 false false 48), Gt 45 (.bin 50 .eql 49 (kI 0)), Pa 51 45 50] (Cn 51 .skip (.exit 0))) (Sq (.block 1 (Rs [Fa 54 3 10, Lq 55 54, Mv 56 13, Ix 57 .jnode 55 56, Ld 58 5 true 57, Pp (.alr 14 5), Fz 14 5 58] (Sq (Rs [Fa 59 0 14, Lq 60 59, Bc 61 .neq 60 6] (Cn 61 (Rs [Mv 62 0, Ca 63 110 [62, kI 2]] .ret) .skip)) (Rs [Mv 64 0, Ld 65 5 true 14, Ca 66 140 [64, 65, kS [110, 97, 109, 101], kB true], Pp (.bld 67 [vS, nl .str, vI 0, .bool false, vI 0, vI 0, vS, nl .jnode, nl .str] [(0, 1, 66)]), Pp (.new 15 [vS, nl .str, vI 0, .bool false, vI 0, vI 0, vS, nl .jnode, nl .str]), Sv 9 15 67] (Sq (Rs [Mv 68 0, Nk 69 68, Fa 70 1 69, Lo 71 70, Bc 72 .eql 71 0, Mv 73 72, Gt 73 (.fad 74 0 15), Gt 73 (.ld 75 1 false false 74), Gt 73 (.call 76 161 [75]), Gt 73 (.un 77 .not 76), Pa 78 73 77] (Cn 78 (Rg [Mv 79 0, Ca 80 110 [79, kI 6]]) .skip)) (Sq (Rs [Mi 16 0] (.block 2 (.loop [0, 2, 3, 4, 10, 12, 13, 14, 15, 16, 1000000] 2 gK))) mc)))))) eL)
def gM : IR := Rs [Mv 154 0, Nk 155 154, Fa 156 1 155, Lo 157 156, Bc 158 .eql 157 0] (Cn 158 (.gh (.opn (.cell 0 0)) (.ghp (.cls (.cell 0 0)) (Rg [Mv 159 0, Nk 160 159, Fa 161 0 160, Fa 162 0 161, Lo 163 162, Mv 164 2, Mv 165 12, Pp (.ixw 166 .atype 163 164), Pp (.fdw 167 8 166), Pp (.stw none 1 167 165)]))) .skip)
def pi : IR := Rs [Bx 6 1] (Rs [Ld 21 5 true 6, Ca 22 113 [21, kS [102, 105, 101, 108, 100, 115]], Mv 20 22, Ex_ 23 0 20, Ex_ 24 1 20, Pp (.alr 10 5), Fz 10 5 23, Mv 11 24] (Sq (Rs [Mv 25 11, Un 26 25, Mv 27 26, Gf 27 (.fad 28 0 10), Gf 27 (.lde 29 1 false 28), Gf 27 (.bin 30 .neq 29 (kI 5)), Po 31 27 30] (Cn 31 (Rs [Mv 32 0, Ca 33 110 [32, kI 2]] .ret) .skip)) (Sq (Rs [Fa 34 3 10, Lq 35 34, Ll 36 35, Bc 37 .gtr 36 30] (Cn 37 (Rs [Mv 38 0, Ca 39 110 [38, kI 3]] .ret) .skip)) (Rs [Pp (.mov 12 (.c (nl .afield)))] (Sq (Rs [Mi 13 0] (.block 0 (.loop [0, 2, 3, 4, 10, 12, 13, 1000002] 1 gL))) gM)))))
def eC : List RV := []
theorem ae6 : FnC Try.prog aV [72, 110, 140, 143, 2000072, 2000110, 2000140, 2000143] 1 xd Try.f144 pi eC := fnC (by kernel_rfl) Try.func144 (by kernel_rfl) (by kernel_rfl) (by decide)
def dh (R : IR → (Ex → St → Ro) → St → Ro) (a : St → Ro) : Ex → St → Ro := (bz a [0, 2, 3, 4, 10, 12, 13, 1000002] 1 (aR 0 (bp (R gM) (fin eC))))
abbrev b9 : Type := (Int × Bs × Int × Int × Int × Bs × List aE × Bss × List aM × Int × List aA × Int)
def bd : b9 → St := fun (c, d, e, f, g, h, i, j, k, l, a, b) => { env := (.ptr 0 0 :: .undef :: .int .i64 c :: .str d :: .int .i64 e :: (U 5 (.ea [.int .i64 f, .int .i64 g, .str h, .sl .jnode (.may false) i, .sl .str (.may false) j] :: .undef :: .sl .afield .own k :: .int .i64 l :: (U 154 [])))), hp := [some [.ul .atype a, .int .i64 b]] }
def nU (R : IR → (Ex → St → Ro) → St → Ro) (a b : St → Ro) : Ex → St → Ro := (bz b [0, 2, 3, 4, 10, 12, 13, 14, 15, 16, 1000000] 2 (aR 2 (bp (R mc) (aR 1 (bp (R eL) (dh R a))))))
abbrev di : Type := (Int × Bs × Int × Int × Int × Bs × List aE × Bss × List aM × Int × Int × Int × Bs × List aE × Bss × Int × List aA × Int × Bs × Bss × Int × Bool × Int × Int × Bs × List aE × Bss)
def bY : di → St := fun (r, s, t, u, v, w, x, y, z, x9, a, b, c, d, e, f, g, h, i, j, k, l, m, n, o, p, q) => { env := (.ptr 0 0 :: .undef :: .int .i64 r :: .str s :: .int .i64 t :: (U 5 (.ea [.int .i64 u, .int .i64 v, .str w, .sl .jnode (.may false) x, .sl .str (.may false) y] :: .undef :: .sl .afield .own z :: .int .i64 x9 :: .ea [.int .i64 a, .int .i64 b, .str c, .sl .jnode (.may false) d, .sl .str (.may false) e] :: .ptr 1 0 :: .int .i64 f :: (U 151 [])))), hp := [some [.ul .atype g, .int .i64 h], some [.str i, .sl .str .own j, .int .i64 k, .bool l, .int .i64 m, .int .i64 n, .str o, .sl .jnode .own p, .sl .str .own q]] }
def adW (R : IR → (Ex → St → Ro) → St → Ro) (a b : St → Ro) : Ex → St → Ro := (bz b [0, 2, 3, 4, 10, 12, 13, 15, 19, 1000001] 2 (aR 4 (bp (R s8) (aR 1 (bp (R eL) (dh R a))))))
abbrev fy : Type := (Int × Bs × Int × Int × Int × Bs × List aE × Bss × List aM × Int × Int × List aA × Int × Bs × Bss × Int × Bool × Int × Int × Bs × List aE × Bss)
def dI : fy → St := fun (m, n, o, p, q, r, s, t, u, v, a, b, c, d, e, f, g, h, i, j, k, l) => { env := (.ptr 0 0 :: .undef :: .int .i64 m :: .str n :: .int .i64 o :: (U 5 (.ea [.int .i64 p, .int .i64 q, .str r, .sl .jnode (.may false) s, .sl .str (.may false) t] :: .undef :: .sl .afield .own u :: .int .i64 v :: .undef :: .ptr 1 0 :: (U 3 (.int .i64 a :: (U 148 [])))))), hp := [some [.ul .atype b, .int .i64 c], some [.str d, .sl .str (.may false) e, .int .i64 f, .bool g, .int .i64 h, .int .i64 i, .str j, .sl .jnode (.may false) k, .sl .str (.may false) l]] }
def jD (N : Nat) (a : St → Ro) : (St → Ro) → St → Ro := fun b s => run aV N s7 (adW (run aV N) a b) s
def dj (N : Nat) (p : b9 → Ro) (q : fy → Ro) : fy → Ro := fun (w, x, y, j, k, l, m, n, s, u, t, r, o, b, a, c, d, e, f, g, h, i) =>
 let z : Int := (↑(List.length a) : Int)
 cond (decide (t < z)) (
 cond (o == 0) (
 chk (decide (0 ≤ t) && decide (t < ↑(List.length a))) (
 let aa : Bs := List.getD a (Int.toNat t) (aC .str)
 aH (jB aa) (fun (ab : Bool) =>
 cond (!ab) (
 aH (aL r o 6) (fun v =>
 let ac : Int := (IntKind.wrap .i64 (t + 1))
 q (w, x, y, j, k, l, m, n, s, u, ac, v.2.1, v.2.2, b, a, c, d, e, f, g, h, i))) (
 let ad : Int := (IntKind.wrap .i64 (t + 1))
 q (w, x, y, j, k, l, m, n, s, u, ad, r, o, b, a, c, d, e, f, g, h, i))))) (
 chk (decide ((List.length s + List.length ([⟨b, a, c, d, ⟨e, f, g, h, i⟩⟩] : List aM)) * 136 ≤ 140737488355328)) (
 let ae : List aM := (s ++ ([⟨b, a, c, d, ⟨e, f, g, h, i⟩⟩] : List aM))
 let af : Int := (IntKind.wrap .i64 (u + 1))
 p (w, x, y, j, k, l, m, n, ae, af, r, o)))) (
 chk (decide ((List.length s + List.length ([⟨b, a, c, d, ⟨e, f, g, h, i⟩⟩] : List aM)) * 136 ≤ 140737488355328)) (
 let ag : List aM := (s ++ ([⟨b, a, c, d, ⟨e, f, g, h, i⟩⟩] : List aM))
 let ah : Int := (IntKind.wrap .i64 (u + 1))
 p (w, x, y, j, k, l, m, n, ag, ah, r, o)))
theorem acM (N : Nat) (b : St → Ro) : ∀ (a : St → Ro) (x : fy), jD N b a (dI x) = dj N (fun y => b (bd y)) (fun y => a (dI y)) x := by
 intro a x
 kernel_rfl
def fA (N : Nat) (a : St → Ro) : (St → Ro) → St → Ro := fun b s => run aV N gK (nU (run aV N) a b) s
def iD (N : Nat) (aj : b9 → Ro) (n : di → Ro) (q2 : fy → Ro) : di → Ro := fun (v2, v3, v4, g, h, i, j, k, m, t, a, b, c, d, e, q, o, p, l, u, v, w, x, y, z, aa, ab) =>
 let x8 : Int := (↑(List.length m) : Int)
 cond (decide (q < x8)) (
 chk (decide (0 ≤ q) && decide (q < ↑(List.length m))) (
 let x9 : Bs := (List.getD m (Int.toNat q) (aC .afield)).name
 cond (decide (x9 = l)) (
 aH (aL o p 5) (fun r9 =>
 let al : Int := (IntKind.wrap .i64 (q + 1))
 n (v2, v3, v4, g, h, i, j, k, m, t, a, b, c, d, e, al, r9.2.1, r9.2.2, l, u, v, w, x, y, z, aa, ab))) (
 let am : Int := (IntKind.wrap .i64 (q + 1))
 n (v2, v3, v4, g, h, i, j, k, m, t, a, b, c, d, e, am, o, p, l, u, v, w, x, y, z, aa, ab)))) (
 aH (cT a b c d e ([116, 121, 112, 101] : Bs)) (fun f =>
 cond (!f.2.2.2.2.2) (
 aH (aL o p 2) (fun ai =>
 let an : Int := (IntKind.wrap .i64 (v4 + 1))
 aH (cn ai.2.1 ai.2.2 f.1 f.2.1 f.2.2.1 f.2.2.2.1 f.2.2.2.2.1 v3 an) (fun ac =>
 aH (cT a b c d e ([100, 101, 102, 97, 117, 108, 116] : Bs)) (fun r =>
 aH (cU ac.2.1 ac.2.2 a b c d e ([97, 108, 105, 97, 115, 101, 115] : Bs)) (fun ad =>
 q2 (v2, v3, v4, g, h, i, j, k, m, t, 0, ad.2.2.1, ad.2.2.2, l, ad.1, ac.1, r.2.2.2.2.2, r.1, r.2.1, r.2.2.1, r.2.2.2.1, r.2.2.2.2.1)))))) (
 let ao : Int := (IntKind.wrap .i64 (v4 + 1))
 aH (cn o p f.1 f.2.1 f.2.2.1 f.2.2.2.1 f.2.2.2.2.1 v3 ao) (fun ae =>
 aH (cT a b c d e ([100, 101, 102, 97, 117, 108, 116] : Bs)) (fun s =>
 aH (cU ae.2.1 ae.2.2 a b c d e ([97, 108, 105, 97, 115, 101, 115] : Bs)) (fun af =>
 q2 (v2, v3, v4, g, h, i, j, k, m, t, 0, af.2.2.1, af.2.2.2, l, af.1, ae.1, s.2.2.2.2.2, s.1, s.2.1, s.2.2.1, s.2.2.2.1, s.2.2.2.2.1)))))))
def ef (N : Nat) (a : b9 → Ro) (b : di → Ro) (x : di) : Ro := iD N a b (fun z => aQ N (dj N a) z) x
def fB (N : Nat) (a b : St → Ro) : List (Nat × (St → Ro)) := (ba aV N gK (nU (run aV N) a b) ++ (ba aV N mc (aR 1 (bp (run aV N eL) (dh (run aV N) a))) ++ (ba aV N eL (dh (run aV N) a) ++ (ba aV N gM (fin eC) ++ []))))
theorem acN (N : Nat) (a : St → Ro) : ∀ (b : St → Ro) (x : di), fA N a b (bY x) = ef N (fun y => a (bd y)) (fun y => b (bY y)) x := by
 intro b x
 have hX : ∀ C : Nat → St → Ro, bQ C aV N gK (nU (bQ C aV N) a b) (bY x) = iD N (fun y => a (bd y)) (fun y => b (bY y)) (fun z => C 1000001 (dI z)) x := by
  intro C
  kernel_rfl
 have h : fA N a b (bY x) = iD N (fun y => a (bd y)) (fun y => b (bY y)) (fun z => bg N (jD N a) (dI z)) x := (ch (C := dA (fB N a b)) (bO (aX (l := (fB N a b)) (by kernel_rfl))) (oL (cp (eq (bO (da (aX (l := (fB N a b)) (by kernel_rfl)))) (cp (eq (bO (da (da (aX (l := (fB N a b)) (by kernel_rfl))))) (oL (cp (eq (bO (da (da (da (aX (l := (fB N a b)) (by kernel_rfl)))))) rfl)))))))) _).trans ((hX _).trans (by kernel_rfl))
 have e2 : (fun z => bg N (jD N a) (dI z)) = (fun z => aQ N (dj N (fun y => a (bd y))) z) := funext fun z => bc (dI) (jD N a) (dj N (fun y => a (bd y))) (acM N a) N z
 rw [h, e2]
 rfl
def jE (N : Nat) : (St → Ro) → St → Ro := fun a s => run aV N gL (dh (run aV N) a) s
def iE (N : Nat) (r : b9 → Ro) (x : di → Ro) : b9 → Ro := fun (j, y, z, f, g, h, b, i, k, d, a, c) =>
 let x2 : Int := (↑(List.length b) : Int)
 cond (decide (d < x2)) (
 cond (c == 0) (
 chk (decide (0 ≤ d) && decide (d < ↑(List.length b))) (
 let o : Int := (List.getD b (Int.toNat d) (aC .jnode)).kind
 let t : Int := (List.getD b (Int.toNat d) (aC .jnode)).n
 let u : Bs := (List.getD b (Int.toNat d) (aC .jnode)).s
 let v : List aE := (List.getD b (Int.toNat d) (aC .jnode)).l
 let w : Bss := (List.getD b (Int.toNat d) (aC .jnode)).names
 cond (!(o == 6)) (
 aH (aL a c 2) (fun r5 =>
 some (.tup [], [some [.ul .atype r5.2.1, .int .i64 r5.2.2]]))) (
 aH (dD a c o t u v w ([110, 97, 109, 101] : Bs) true) (fun m =>
 cond (m.2.2 == 0) (
 aH (jB m.1) (fun (r7 : Bool) =>
 cond (!r7) (
 aH (aL m.2.1 m.2.2 6) (fun r8 =>
 x (j, y, z, f, g, h, b, i, k, d, o, t, u, v, w, 0, r8.2.1, r8.2.2, m.1, ([] : Bss), 0, false, 0, 0, ([] : Bs), ([] : List aE), ([] : Bss)))) (
 x (j, y, z, f, g, h, b, i, k, d, o, t, u, v, w, 0, m.2.1, m.2.2, m.1, ([] : Bss), 0, false, 0, 0, ([] : Bs), ([] : List aE), ([] : Bss))))) (
 x (j, y, z, f, g, h, b, i, k, d, o, t, u, v, w, 0, m.2.1, m.2.2, m.1, ([] : Bss), 0, false, 0, 0, ([] : Bs), ([] : List aE), ([] : Bss))))))) (
 cond (c == 0) (
 chk (decide (0 < List.length a)) (
 chk (decide (0 ≤ j) && decide (j < ↑(List.length a))) (
 chk (decide ((Int.toNat j) < List.length a)) (
 let p : List aA := (List.set a (Int.toNat j) (let e := List.getD a (Int.toNat j) (aC .atype); ⟨e.kind, e.name, e.aliases, e.items, e.syms, e.hasdef, e.df, e.size, k, e.branches⟩))
 chk (Nat.beq (List.length a) (List.length p)) (
 some (.tup [], [some [.ul .atype p, .int .i64 c], none, none])))))) (
 some (.tup [], [some [.ul .atype a, .int .i64 c]])))) (
 cond (c == 0) (
 chk (decide (0 < List.length a)) (
 chk (decide (0 ≤ j) && decide (j < ↑(List.length a))) (
 chk (decide ((Int.toNat j) < List.length a)) (
 let q : List aA := (List.set a (Int.toNat j) (let e := List.getD a (Int.toNat j) (aC .atype); ⟨e.kind, e.name, e.aliases, e.items, e.syms, e.hasdef, e.df, e.size, k, e.branches⟩))
 chk (Nat.beq (List.length a) (List.length q)) (
 some (.tup [], [some [.ul .atype q, .int .i64 c], none, none])))))) (
 some (.tup [], [some [.ul .atype a, .int .i64 c]])))
def jF (N : Nat) (a : b9 → Ro) (x : b9) : Ro := iE N a (fun z => aQ N (ef N a) z) x
def nV (N : Nat) (a : St → Ro) : List (Nat × (St → Ro)) := (ba aV N gL (dh (run aV N) a) ++ (ba aV N gM (fin eC) ++ []))
theorem acO (N : Nat) : ∀ (a : St → Ro) (x : b9), jE N a (bd x) = jF N (fun y => a (bd y)) x := by
 intro a x
 have hX : ∀ C : Nat → St → Ro, bQ C aV N gL (dh (bQ C aV N) a) (bd x) = iE N (fun y => a (bd y)) (fun z => C 1000000 (bY z)) x := by
  intro C
  kernel_rfl
 have h : jE N a (bd x) = iE N (fun y => a (bd y)) (fun z => bg N (fA N a) (bY z)) x := (ch (C := dA (nV N a)) (bO (aX (l := (nV N a)) (by kernel_rfl))) (oL (cp (eq (bO (da (aX (l := (nV N a)) (by kernel_rfl)))) rfl))) _).trans ((hX _).trans (by kernel_rfl))
 have e1 : (fun z => bg N (fA N a) (bY z)) = (fun z => aQ N (ef N (fun y => a (bd y))) z) := funext fun z => bc (bY) (fA N a) (ef N (fun y => a (bd y))) (acN N a) N z
 rw [h, e1]
 rfl
def gb (N : Nat) (a : List aA) (b d e : Int) (f : Bs) (g : List aE) (h : Bss) (l : Int) (m : Bs) (n : Int) (o : b9 → Ro) : Ro :=
 aH (cT d e f g h ([102, 105, 101, 108, 100, 115] : Bs)) (fun c =>
 cond (!c.2.2.2.2.2) (
 aH (aL a b 2) (fun i =>
 some (.tup [], [some [.ul .atype i.2.1, .int .i64 i.2.2]]))) (
 cond (!(c.1 == 5)) (
 aH (aL a b 2) (fun j =>
 some (.tup [], [some [.ul .atype j.2.1, .int .i64 j.2.2]]))) (
 let p : Int := (↑(List.length c.2.2.2.1) : Int)
 cond (decide (30 < p)) (
 aH (aL a b 3) (fun k =>
 some (.tup [], [some [.ul .atype k.2.1, .int .i64 k.2.2]]))) (
 o (l, m, n, c.1, c.2.1, c.2.2.1, c.2.2.2.1, c.2.2.2.2.1, ([] : List aM), 0, a, b)))))
def pj (N : Nat) (a : List aA) (b c d : Int) (e : Bs) (f : List aE) (g : Bss) (h : Int) (i : Bs) (j : Int) : Ro := gb N a b c d e f g h i j (fun z => aQ N (jF N) z)
def agt (N : Nat) : List (Nat × (St → Ro)) := ba aV N pi (fin eC) ++ []
theorem adX (N : Nat) (a : List aA) (c d e : Int) (f : Bs) (g : List aE) (h : Bss) (i : Int) (j : Bs) (k : Int) : aW aV N 168 eC pi [.ptr 0 0, .agg [.int .i64 d, .int .i64 e, .str f, .sl .jnode (.may false) g, .sl .str (.may false) h], .int .i64 i, .str j, .int .i64 k] [some [.ul .atype a, .int .i64 c]] = pj N a c d e f g h i j k :=
 (bL (agt N) (by kernel_rfl) rfl (fun C => gb N a c d e f g h i j k (fun z => C 1000002 (bd z))) (fun C => by kernel_rfl)).trans (Eq.trans (b := gb N a c d e f g h i j k (fun z => bg N (jE N) (bd z))) (by kernel_rfl) (congrArg (gb N a c d e f g h i j k) (funext fun z => bc (bd) (jE N) (jF N) (acO N) N z)))
theorem adY (N : Nat) (a : List aA) (b c d : Int) (e : Bs) (f : List aE) (g : Bss) (k : Int) (l : Bs) (m : Int) (h : Tot (pj N a b c d e f g k l m) (fun z => ∃ (i : List aA) (j : Int) (rest : List aK), z.1.dimR = .tup [] ∧ z.2 = some [.ul .atype i, .int .i64 j] :: rest ∧ dE a b c d e f g k l m (i, j))) : ∃ r, gz a b c d e f g k l m r := by
 obtain ⟨⟨v, hp⟩, hz, i, j, rest, e1, e2, hq⟩ := h
 simp only at e1 e2
 subst e2
 exact ⟨(i, j), bk.dimR (FnC.objs (css := [[.ul .atype a, .int .i64 b]]) (css' := [[.ul .atype i, .int .i64 j]]) ae6 (adX N a b c d e f g k l m) hz rfl) e1, hq⟩
noncomputable def bP : aN := tab (P := Try.prog) [] [cH, oo, zy, sK, ahT, rv, af8, aeE] [] [pZ, apr]
def jG : IR := Sq (Rs [Mv 59 17, Mv 60 15, Ll 61 60, Bi 62 .lss 59 61, Mv 63 62, Gt 63 (.mov 64 0), Gt 63 (.nck 65 64), Gt 63 (.fad 66 1 65), Gt 63 (.ld 67 1 false false 66), Gt 63 (.bin 68 .eql 67 (kI 0)), Pa 69 63 68] (Cn 69 .skip (.exit 0))) (Sq (.block 1 (.reg [Fa 72 2 14, Fo [] [1] (.ld 73 1 false true 72), Mv 74 0, Mv 75 15, Mv 76 17, Ix 77 .str 75 76, Lq 78 77, Mv 79 3, Fo [] [0] (.call 80 141 [74, 78, 79]), Pp (.bsl 81 .str [80] true), Pp (.app 82 .str (.tk 73) 81), Fa 83 2 14, Fo [] [1] (.st none 1 83 (.tk 82))] [[], [0], [], [], [], [3, 4], [3, 4, 5], [], rg 2 7, rg 2 8, rg 0 9, rg 0 10, rg 0 11])) (Rg [Mv 70 17, Bc 71 .add 70 1, Mv 17 71]))
def ua : IR := Sq (Rs [Mv 101 0, Nk 102 101, Fa 103 1 102, Lo 104 103, Bc 105 .neq 104 0] (Cn 105 (Rs [Mi 10 0] .ret) .skip)) (Rs [Mv 106 0, Pp (.ld 107 10 true false 14), Ca 108 116 [106, 107], Mv 20 108] (Sq (Rs [Mv 109 2] (.block 2 (Rs [Bc 150 .eql 109 9, Mv 149 150] (Cn 149 (Rg [Mv 151 0, Ld 152 5 true 6, Mv 153 20, Mv 154 3, Mv 155 4, Ca 156 144 [151, 152, 153, 154, 155]]) (Rs [Bc 158 .eql 109 10, Mv 157 158] (Cn 157 (Rg [Mv 159 0, Ld 160 5 true 6, Mv 161 20, Ca 162 145 [159, 160, 161]]) (Rs [Ld 111 5 true 6, Ca 112 113 [111, kS [115, 105, 122, 101]], Mv 110 112, Ex_ 113 0 110, Ex_ 114 1 110, Pp (.alr 21 5), Fz 21 5 113, Mv 22 114] (Sq (Rs [Mv 115 22, Un 116 115, Mv 117 116, Gf 117 (.fad 118 0 21), Gf 117 (.lde 119 1 false 118), Gf 117 (.bin 120 .neq 119 (kI 3)), Po 121 117 120] (Cn 121 (Rs [Mv 122 0, Ca 123 110 [122, kI 2], Mv 10 123] .ret) .skip)) (Sq (Rs [Fa 124 1 21, Lq 125 124, Bc 126 .lss 125 0, Mv 127 126, Gf 127 (.fad 128 1 21), Gf 127 (.lde 129 1 false 128), Gf 127 (.bin 130 .gtr 129 (kI 5000)), Po 131 127 130] (Cn 131 (Rs [Mv 132 0, Ca 133 110 [132, kI 6], Mv 10 133] .ret) .skip)) (Rs [Mv 134 0, Nk 135 134, Fa 136 1 135, Lo 137 136, Bc 138 .eql 137 0] (Cn 138 (.gh (.opn (.cell 0 0)) (.ghp (.cls (.cell 0 0)) (.reg [Mv 139 0, Nk 140 139, Fa 141 0 140, Fa 142 0 141, Fo [0] [] (.ld 143 1 false false 142), Mv 144 20, Fa 145 1 21, Lq 146 145, Pp (.ixw 147 .atype 143 144), Pp (.fdw 148 7 147), Fo [] [2] (.stw none 1 148 146)] [[], [0], [0, 1], [0, 1, 2], rg 0 3, [], [], [6], rg 0 7, rg 0 8, rg 0 9]))) .skip))))))))))) (Rs [Mv 163 20, Mv 10 163] .ret)))
def mN : IR := Rs [Mv 85 0, Fa 86 1 14, Lo 87 86, Ca 88 138 [85, 87], Mv 84 88, Ex_ 89 0 84, Ex_ 90 1 84, Mv 18 89, Mv 19 90] (Sq (Rs [Mv 91 0, Nk 92 91, Fa 93 1 92, Lo 94 93, Bc 95 .eql 94 0, Mv 96 95, Gt 96 (.mov 97 19), Pa 98 96 97] (Cn 98 (Rg [Mv 99 0, Ca 100 110 [99, kI 5]]) .skip)) (.cut [0, 2, 3, 4, 6, 14, 1000001] 2 ua))
def iG : IR := Sq (Rs [Mv 39 0, Nk 40 39, Fa 41 1 40, Lo 42 41, Bc 43 .neq 42 0] (Cn 43 (Rs [Mi 10 0] .ret) .skip)) (Rs [Mv 44 2, Mv 45 0, Mv 46 11, Mv 47 3, Ca 48 141 [45, 46, 47], Pp (.bld 49 [vI 0, vS, nl .str, vI 0, nl .str, .bool false, vS, vI 0, nl .afield, nl (.num .i64)] [(0, 1, 44), (1, 1, 48)]), Pp (.new 14 [vI 0, vS, nl .str, vI 0, nl .str, .bool false, vS, vI 0, nl .afield, nl (.num .i64)]), Sv 10 14 49] (Rs [Fa 50 1 14, Lo 51 50, Ca 52 142 [51], Mv 3 52] (Rs [Mv 54 0, Ld 55 5 true 6, Ca 56 143 [54, 55, kS [97, 108, 105, 97, 115, 101, 115]], Mv 53 56, Ex_ 57 0 53, Ex_ 58 1 53, Mv 15 57, Mv 16 58] (Sq (Rs [Mi 17 0] (.block 0 (.loop [0, 2, 3, 4, 6, 14, 15, 17, 1000000] 2 jG))) mN))))
def qg : IR := Rs [Bx 6 1, Mi 10 0] (Rs [Mv 23 0, Ld 24 5 true 6, Ca 25 140 [23, 24, kS [110, 97, 109, 101], kB true], Mv 11 25] (Rs [Ld 27 5 true 6, Ca 28 113 [27, kS [110, 97, 109, 101, 115, 112, 97, 99, 101]], Mv 26 28, Ex_ 29 0 26, Ex_ 30 1 26, Pp (.alr 12 5), Fz 12 5 29, Mv 13 30] (Sq (Rs [Mv 31 13] (Cn 31 (Sq (Rs [Fa 32 0 12, Lq 33 32, Bc 34 .neq 33 4] (Cn 34 (Rg [Mv 35 0, Ca 36 110 [35, kI 2]]) .skip)) (Rg [Fa 37 2 12, Lq 38 37, Mv 3 38])) .skip)) (.cut [0, 2, 3, 4, 6, 11, 1000002] 1 iG))))
def cE : List RV := [.t 10]
theorem agu : FnC Try.prog bP [110, 116, 138, 140, 141, 143, 144, 145, 2000110, 2000116, 2000138, 2000140, 2000141, 2000143, 2000144, 2000145] 1 xW Try.f114 qg cE := fnC (by kernel_rfl) Try.func114 (by kernel_rfl) (by kernel_rfl) (by decide)
abbrev gc : Type := (Int × Bs × Int × Int × Int × Bs × List aE × Bss × Bs × List aA × Int)
def fC : gc → St := fun (b, c, d, e, f, g, h, i, j, k, a) => { env := (.ptr 0 0 :: .undef :: .int .i64 b :: .str c :: .int .i64 d :: .undef :: .ea [.int .i64 e, .int .i64 f, .str g, .sl .jnode (.may false) h, .sl .str (.may false) i] :: (U 4 (.str j :: (U 152 [])))), hp := [some [.ul .atype k, .int .i64 a]] }
def pk (R : IR → (Ex → St → Ro) → St → Ro) (a : St → Ro) : Ex → St → Ro := (bz a [0, 2, 3, 4, 6, 14, 15, 17, 1000000] 2 (aR 0 (bp (R mN) (fin cE))))
abbrev dy : Type := (Int × Bs × Int × Int × Int × Bs × List aE × Bss × Bss × Int × List aA × Int × Int × Bs × Bss × Int × Bss × Bool × Bs × Int × List aM × List Int)
def ca : dy → St := fun (m, n, o, p, q, r, s, t, u, v, a, b, c, d, e, f, g, h, i, j, k, l) => { env := (.ptr 0 0 :: .undef :: .int .i64 m :: .str n :: .int .i64 o :: .undef :: .ea [.int .i64 p, .int .i64 q, .str r, .sl .jnode (.may false) s, .sl .str (.may false) t] :: (U 7 (.ptr 1 0 :: .sl .str (.may false) u :: .undef :: .int .i64 v :: (U 146 [])))), hp := [some [.ul .atype a, .int .i64 b], some [.int .i64 c, .str d, .sl .str .own e, .int .i64 f, .sl .str .own g, .bool h, .str i, .int .i64 j, .sl .afield .own k, .sl (.num .i64) .own l]] }
abbrev kr : Type := (Int × Bs × Int × Int × Int × Bs × List aE × Bss × List aA × Int × Int × Bs × Bss × Int × Bss × Bool × Bs × Int × List aM × List Int)
def jH : kr → St := fun (k, l, m, n, o, p, q, r, s, t, a, b, c, d, e, f, g, h, i, j) => { env := (.ptr 0 0 :: .undef :: .int .i64 k :: .str l :: .int .i64 m :: .undef :: .ea [.int .i64 n, .int .i64 o, .str p, .sl .jnode (.may false) q, .sl .str (.may false) r] :: (U 7 (.ptr 1 0 :: (U 149 [])))), hp := [some [.ul .atype s, .int .i64 t], some [.int .i64 a, .str b, .sl .str .own c, .int .i64 d, .sl .str .own e, .bool f, .str g, .int .i64 h, .sl .afield .own i, .sl (.num .i64) .own j]] }
def pl (N : Nat) : St → Ro := fun s => run bP N ua (fin cE) s
def eD (N : Nat) : kr → Ro := fun (v2, v3, v4, l, m, n, o, p, t, q, b, c, d, e, f, g, h, i, j, k) =>
 cond (!(q == 0)) (
 some (.int .i64 0, [some [.ul .atype t, .int .i64 q], some [.int .i64 b, .str c, .sl .str .own d, .int .i64 e, .sl .str .own f, .bool g, .str h, .int .i64 i, .sl .afield .own j, .sl (.num .i64) .own k]])) (
 aH (en t q b c d e f g h i j k) (fun a =>
 cond (v2 == 9) (
 aH (gz a.2.1 a.2.2 l m n o p a.1 v3 v4) (fun y =>
 some (.int .i64 a.1, [some [.ul .atype y.1, .int .i64 y.2], some [.int .i64 b, .str c, .sl .str .own d, .int .i64 e, .sl .str .own f, .bool g, .str h, .int .i64 i, .sl .afield .own j, .sl (.num .i64) .own k]]))) (
 cond (v2 == 10) (
 aH (fW a.2.1 a.2.2 l m n o p a.1) (fun z =>
 some (.int .i64 a.1, [some [.ul .atype z.1, .int .i64 z.2], some [.int .i64 b, .str c, .sl .str .own d, .int .i64 e, .sl .str .own f, .bool g, .str h, .int .i64 i, .sl .afield .own j, .sl (.num .i64) .own k]]))) (
 aH (cT l m n o p ([115, 105, 122, 101] : Bs)) (fun r =>
 cond (!r.2.2.2.2.2) (
 aH (aL a.2.1 a.2.2 2) (fun u =>
 some (.int .i64 u.1, [some [.ul .atype u.2.1, .int .i64 u.2.2], some [.int .i64 b, .str c, .sl .str .own d, .int .i64 e, .sl .str .own f, .bool g, .str h, .int .i64 i, .sl .afield .own j, .sl (.num .i64) .own k]]))) (
 cond (!(r.1 == 3)) (
 aH (aL a.2.1 a.2.2 2) (fun v =>
 some (.int .i64 v.1, [some [.ul .atype v.2.1, .int .i64 v.2.2], some [.int .i64 b, .str c, .sl .str .own d, .int .i64 e, .sl .str .own f, .bool g, .str h, .int .i64 i, .sl .afield .own j, .sl (.num .i64) .own k]]))) (
 cond (decide (r.2.1 < 0)) (
 aH (aL a.2.1 a.2.2 6) (fun w =>
 some (.int .i64 w.1, [some [.ul .atype w.2.1, .int .i64 w.2.2], some [.int .i64 b, .str c, .sl .str .own d, .int .i64 e, .sl .str .own f, .bool g, .str h, .int .i64 i, .sl .afield .own j, .sl (.num .i64) .own k]]))) (
 cond (decide (5000 < r.2.1)) (
 aH (aL a.2.1 a.2.2 6) (fun x =>
 some (.int .i64 x.1, [some [.ul .atype x.2.1, .int .i64 x.2.2], some [.int .i64 b, .str c, .sl .str .own d, .int .i64 e, .sl .str .own f, .bool g, .str h, .int .i64 i, .sl .afield .own j, .sl (.num .i64) .own k]]))) (
 cond (a.2.2 == 0) (
 chk (decide (0 < List.length a.2.1)) (
 chk (decide (0 ≤ a.1) && decide (a.1 < ↑(List.length a.2.1))) (
 chk (decide ((Int.toNat a.1) < List.length a.2.1)) (
 let x5 : List aA := (List.set a.2.1 (Int.toNat a.1) (let s := List.getD a.2.1 (Int.toNat a.1) (aC .atype); ⟨s.kind, s.name, s.aliases, s.items, s.syms, s.hasdef, s.df, r.2.1, s.fields, s.branches⟩))
 chk (Nat.beq (List.length a.2.1) (List.length x5)) (
 some (.int .i64 a.1, [some [.ul .atype x5, .int .i64 a.2.2], some [.int .i64 b, .str c, .sl .str .own d, .int .i64 e, .sl .str .own f, .bool g, .str h, .int .i64 i, .sl .afield .own j, .sl (.num .i64) .own k], none, none])))))) (
 some (.int .i64 a.1, [some [.ul .atype a.2.1, .int .i64 a.2.2], some [.int .i64 b, .str c, .sl .str .own d, .int .i64 e, .sl .str .own f, .bool g, .str h, .int .i64 i, .sl .afield .own j, .sl (.num .i64) .own k]])))))))))))
theorem adZ (N : Nat) : ∀ (x : kr), pl N (jH x) = eD N x := by
 intro x
 kernel_rfl
def ge (N : Nat) : (St → Ro) → St → Ro := fun a s => run bP N jG (pk (run bP N) a) s
def jI (N : Nat) (t : dy → Ro) (z : kr → Ro) : dy → Ro := fun (x, v, y, c, d, e, f, g, u, r, s, q, h, a, b, i, j, k, l, m, n, o) =>
 let x1 : Int := (↑(List.length u) : Int)
 cond (decide (r < x1)) (
 cond (q == 0) (
 chk (decide (0 ≤ r) && decide (r < ↑(List.length u))) (
 let x2 : Bs := List.getD u (Int.toNat r) (aC .str)
 aH (fm s q x2 v) (fun r7 =>
 chk (decide ((List.length b + List.length ([r7.1] : Bss)) * 16 ≤ 140737488355328)) (
 let x3 : Bss := (b ++ ([r7.1] : Bss))
 let x4 : Int := (IntKind.wrap .i64 (r + 1))
 t (x, v, y, c, d, e, f, g, u, x4, r7.2.1, r7.2.2, h, a, x3, i, j, k, l, m, n, o))))) (
 aH (cI s q a) (fun w =>
 cond (w.2.2.2 == 0) (
 cond w.2.1 (
 aH (aL w.2.2.1 w.2.2.2 5) (fun r9 =>
 z (x, v, y, c, d, e, f, g, r9.2.1, r9.2.2, h, a, b, i, j, k, l, m, n, o))) (
 z (x, v, y, c, d, e, f, g, w.2.2.1, w.2.2.2, h, a, b, i, j, k, l, m, n, o))) (
 z (x, v, y, c, d, e, f, g, w.2.2.1, w.2.2.2, h, a, b, i, j, k, l, m, n, o))))) (
 aH (cI s q a) (fun p =>
 cond (p.2.2.2 == 0) (
 cond p.2.1 (
 aH (aL p.2.2.1 p.2.2.2 5) (fun aa =>
 z (x, v, y, c, d, e, f, g, aa.2.1, aa.2.2, h, a, b, i, j, k, l, m, n, o))) (
 z (x, v, y, c, d, e, f, g, p.2.2.1, p.2.2.2, h, a, b, i, j, k, l, m, n, o))) (
 z (x, v, y, c, d, e, f, g, p.2.2.1, p.2.2.2, h, a, b, i, j, k, l, m, n, o))))
def eE (N : Nat) (a : dy → Ro) (x : dy) : Ro := jI N a (fun z => eD N z) x
def pm (N : Nat) (a : St → Ro) : List (Nat × (St → Ro)) := (ba bP N jG (pk (run bP N) a) ++ (ba bP N mN (fin cE) ++ []))
theorem ad0 (N : Nat) : ∀ (a : St → Ro) (x : dy), ge N a (ca x) = eE N (fun y => a (ca y)) x := by
 intro a x
 have hX : ∀ C : Nat → St → Ro, bQ C bP N jG (pk (bQ C bP N) a) (ca x) = jI N (fun y => a (ca y)) (fun z => C 1000001 (jH z)) x := by
  intro C
  kernel_rfl
 have h : ge N a (ca x) = jI N (fun y => a (ca y)) (fun z => pl N (jH z)) x := (ch (C := dA (pm N a)) (bO (aX (l := (pm N a)) (by kernel_rfl))) (oL (cp (eq (bO (da (aX (l := (pm N a)) (by kernel_rfl)))) rfl))) _).trans ((hX _).trans (by kernel_rfl))
 have e2 : (fun z => pl N (jH z)) = (fun z => eD N z) := funext fun z => adZ N z
 rw [h, e2]
 rfl
def pn (N : Nat) : St → Ro := fun s => run bP N iG (fin cE) s
def jJ (N : Nat) (l : dy → Ro) : gc → Ro := fun (k, m, n, b, c, d, e, f, i, g, a) =>
 cond (!(a == 0)) (
 some (.int .i64 0, [some [.ul .atype g, .int .i64 a]])) (
 aH (fm g a i m) (fun h =>
 aH (oV h.1) (fun (o : Bs) =>
 aH (cU h.2.1 h.2.2 b c d e f ([97, 108, 105, 97, 115, 101, 115] : Bs)) (fun j =>
 l (k, o, n, b, c, d, e, f, j.1, 0, j.2.2.1, j.2.2.2, k, h.1, ([] : Bss), 0, ([] : Bss), false, ([] : Bs), 0, ([] : List aM), ([] : List Int))))))
def kt (N : Nat) (x : gc) : Ro := jJ N (fun z => aQ N (eE N) z) x
def wA (N : Nat) : List (Nat × (St → Ro)) := (ba bP N iG (fin cE) ++ [])
theorem ad1 (N : Nat) : ∀ (x : gc), pn N (fC x) = kt N x := by
 intro x
 have hX : ∀ C : Nat → St → Ro, bQ C bP N iG (fin cE) (fC x) = jJ N (fun z => C 1000000 (ca z)) x := by
  intro C
  kernel_rfl
 have h : pn N (fC x) = jJ N (fun z => bg N (ge N) (ca z)) x := (ch (C := dA (wA N)) (bO (aX (l := (wA N)) (by kernel_rfl))) rfl _).trans ((hX _).trans (by kernel_rfl))
 have e1 : (fun z => bg N (ge N) (ca z)) = (fun z => aQ N (eE N) z) := funext fun z => bc (ca) (ge N) (eE N) (ad0 N) N z
 rw [h, e1]
 rfl
def gP (N : Nat) (g : List aA) (h a b : Int) (c : Bs) (d : List aE) (e : Bss) (j : Int) (n : Bs) (k : Int) (l : gc → Ro) : Ro :=
 aH (dD g h a b c d e ([110, 97, 109, 101] : Bs) true) (fun f =>
 aH (cT a b c d e ([110, 97, 109, 101, 115, 112, 97, 99, 101] : Bs)) (fun i =>
 cond i.2.2.2.2.2 (
 cond (!(i.1 == 4)) (
 aH (aL f.2.1 f.2.2 2) (fun m =>
 l (j, i.2.2.1, k, a, b, c, d, e, f.1, m.2.1, m.2.2))) (
 l (j, i.2.2.1, k, a, b, c, d, e, f.1, f.2.1, f.2.2))) (
 l (j, n, k, a, b, c, d, e, f.1, f.2.1, f.2.2))))
def qh (N : Nat) (a : List aA) (b c d : Int) (e : Bs) (f : List aE) (g : Bss) (h : Int) (i : Bs) (j : Int) : Ro := gP N a b c d e f g h i j (fun z => kt N z)
def ah6 (N : Nat) : List (Nat × (St → Ro)) := ba bP N qg (fin cE) ++ []
theorem ae7 (N : Nat) (a : List aA) (c d e : Int) (f : Bs) (g : List aE) (h : Bss) (i : Int) (j : Bs) (k : Int) : aW bP N 164 cE qg [.ptr 0 0, .agg [.int .i64 d, .int .i64 e, .str f, .sl .jnode (.may false) g, .sl .str (.may false) h], .int .i64 i, .str j, .int .i64 k] [some [.ul .atype a, .int .i64 c]] = qh N a c d e f g h i j k :=
 (bL (ah6 N) (by kernel_rfl) rfl (fun C => gP N a c d e f g h i j k (fun z => C 1000002 (fC z))) (fun C => by kernel_rfl)).trans (Eq.trans (b := gP N a c d e f g h i j k (fun z => pn N (fC z))) (by kernel_rfl) (congrArg (gP N a c d e f g h i j k) (funext fun z => ad1 N z)))
theorem ae8 (N : Nat) (a : List aA) (b c d : Int) (e : Bs) (f : List aE) (g : Bss) (k : Int) (l : Bs) (m : Int) (h : Tot (qh N a b c d e f g k l m) (fun z => ∃ (n : Int) (i : List aA) (j : Int) (rest : List aK), z.1.dimR = .int .i64 n ∧ z.2 = some [.ul .atype i, .int .i64 j] :: rest ∧ ft a b c d e f g k l m (n, i, j))) : ∃ r, iT a b c d e f g k l m r := by
 obtain ⟨⟨v, hp⟩, hz, n, i, j, rest, e1, e2, hq⟩ := h
 simp only at e1 e2
 subst e2
 exact ⟨(n, i, j), bk.dimR (FnC.objs (css := [[.ul .atype a, .int .i64 b]]) (css' := [[.ul .atype i, .int .i64 j]]) agu (ae7 N a b c d e f g k l m) hz rfl) e1, hq⟩
noncomputable def aY : aN := tab (P := Try.prog) [] [mZ, cH, ai7, ahP, ahR, oo] [] [pZ, ai8]
def uU : IR := Rs [Ld 88 5 true 5, Mv 89 12, Ca 90 113 [88, 89], Mv 87 90, Ex_ 91 0 87, Ex_ 92 1 87, Pp (.alr 13 5), Fz 13 5 91, Mv 14 92] (Sq (Rs [Mv 93 14, Un 94 93] (Cn 94 (Rs [Mv 95 0, Ca 96 110 [95, kI 2], Mv 8 96] .ret) .skip)) (Rs [Mv 97 0, Ld 98 5 true 13, Mv 99 2, Mv 100 3, Bc 101 .add 100 1, Ca 102 72 [97, 98, 99, 101], Mv 15 102] (Sq (Rs [Mv 103 0, Nk 104 103, Fa 105 1 104, Lo 106 105, Bc 107 .eql 106 0] (Cn 107 (.gh (.opn (.cell 0 0)) (.ghp (.cls (.cell 0 0)) (Rg [Mv 108 0, Nk 109 108, Fa 110 0 109, Fa 111 0 110, Lo 112 111, Mv 113 11, Mv 114 15, Pp (.ixw 115 .atype 112 113), Pp (.fdw 116 3 115), Pp (.stw none 1 116 114)]))) .skip)) (Rs [Mv 117 11, Mv 8 117] .ret))))
def jK : IR := Cn 75 (Rs [Mv 78 0, Fa 79 2 9, Lq 80 79, Ca 81 115 [80], Pp (.bld 82 [vI 0, vS, fu .str true, vI 0, fu .str true, .bool false, vS, vI 0, fu .afield true, fu (.num .i64) true] [(0, 1, 81)]), Ca 83 116 [78, 82], Mv 11 83] (Rs [Ms 12 [105, 116, 101, 109, 115]] (Sq (Rs [Fa 84 2 9, Lq 85 84, Pp (.bin 86 .eql 85 (kS [109, 97, 112]))] (Cn 86 (Rg [Ms 12 [118, 97, 108, 117, 101, 115]]) .skip)) (.cut [0, 2, 3, 5, 11, 12, 1000000] 1 uU)))) .skip
def jL : IR := Cn 63 (Sq (.reg [Mv 67 0, Ld 68 5 true 5, Fa 69 2 9, Lq 70 69, Ca 71 115 [70], Mv 72 2, Mv 73 3, Fo [] [0] (.call 74 114 [67, 68, 71, 72, 73]), Mv 8 74] [[], [], [], [2], [2, 3], [], [], rg 0 6, rg 0 7]) .ret) (Sq (Rs [Pp (.bin 76 .eql 62 (kS [97, 114, 114, 97, 121])), Mv 75 76] (Cn 75 .skip (Rg [Pp (.bin 77 .eql 62 (kS [109, 97, 112])), Mv 75 77]))) (.cut [0, 2, 3, 5, 9, 75, 1000001] 1 jK))
def uV : IR := Rs [Mv 118 0, Fa 119 2 9, Lq 120 119, Mv 121 2, Ca 122 111 [118, 120, 121], Mv 8 122] .ret
def jM : IR := .cut [0, 2, 9, 1000003] 1 uV
def dk : IR := Rs [Mv 123 0, Ca 124 110 [123, kI 2], Mv 8 124] .ret
def rD : IR := Rs [Bx 5 1, Mi 8 0] (Sq (Rs [Mv 16 0, Nk 17 16, Fa 18 1 17, Lo 19 18, Bc 20 .neq 19 0] (Cn 20 (Rs [Mi 8 0] .ret) .skip)) (Sq (Rs [Mv 21 3, Bc 22 .gtr 21 20] (Cn 22 (Rs [Mv 23 0, Ca 24 110 [23, kI 3], Mv 8 24] .ret) .skip)) (Sq (Rs [Fa 25 0 5, Lq 26 25] (.block 0 (Rs [Bc 28 .eql 26 4, Mv 27 28] (Cn 27 (Rs [Mv 29 0, Fa 30 2 5, Lq 31 30, Mv 32 2, Ca 33 111 [29, 31, 32], Mv 8 33] .ret) (Rs [Bc 35 .eql 26 5, Mv 34 35] (Cn 34 (Rs [Mv 36 0, Ld 37 5 true 5, Mv 38 2, Mv 39 3, Ca 40 112 [36, 37, 38, 39], Mv 8 40] .ret) (Rs [Bc 42 .eql 26 6, Mv 41 42] (Cn 41 (Rs [Ld 44 5 true 5, Ca 45 113 [44, kS [116, 121, 112, 101]], Mv 43 45, Ex_ 46 0 43, Ex_ 47 1 43, Pp (.alr 9 5), Fz 9 5 46, Mv 10 47] (Sq (Rs [Mv 48 10, Un 49 48] (Cn 49 (Rs [Mv 50 0, Ca 51 110 [50, kI 2], Mv 8 51] .ret) .skip)) (Sq (Rs [Fa 52 0 9, Lq 53 52, Bc 54 .neq 53 4] (Cn 54 (Rs [Mv 55 0, Ld 56 5 true 9, Mv 57 2, Mv 58 3, Bc 59 .add 58 1, Ca 60 72 [55, 56, 57, 59], Mv 8 60] .ret) .skip)) (Sq (Rs [Fa 61 2 9, Lq 62 61] (.block 1 (Sq (Rs [Pp (.bin 64 .eql 62 (kS [114, 101, 99, 111, 114, 100])), Mv 63 64] (Cn 63 .skip (Rs [Pp (.bin 65 .eql 62 (kS [101, 110, 117, 109])), Mv 63 65] (Cn 63 .skip (Rg [Pp (.bin 66 .eql 62 (kS [102, 105, 120, 101, 100])), Mv 63 66]))))) (.cut [0, 2, 3, 5, 9, 62, 63, 1000002] 1 jL)))) jM)))) .skip)))))))) dk)))
def cV : List RV := [.t 8]
theorem ah7 : FnC Try.prog aY [72, 110, 111, 112, 114, 116, 2000072, 2000110, 2000111, 2000112, 2000114, 2000116] 1 zw Try.f72 rD cV := fnC (by kernel_rfl) Try.func72 (by kernel_rfl) (by kernel_rfl) (by decide)
abbrev gQ : Type := (Bs × Int × Int × Int × Bs × List aE × Bss × Int × Int × Bs × List aE × Bss × Bs × Bool × List aA × Int)
def gf : gQ → St := fun (g, h, i, j, k, l, m, n, o, p, a, b, c, d, e, f) => { env := (.ptr 0 0 :: .undef :: .str g :: .int .i64 h :: .undef :: .ea [.int .i64 i, .int .i64 j, .str k, .sl .jnode (.may false) l, .sl .str (.may false) m] :: (U 3 (.ea [.int .i64 n, .int .i64 o, .str p, .sl .jnode (.may false) a, .sl .str (.may false) b] :: (U 52 (.str c :: .bool d :: (U 61 [])))))), hp := [some [.ul .atype e, .int .i64 f]] }
def dM (R : IR → (Ex → St → Ro) → St → Ro) : Ex → St → Ro := (aR 1 (bp (R jM) (aR 0 (bp (R dk) (fin cV)))))
abbrev gR : Type := (Bs × Int × Int × Int × Bs × List aE × Bss × Int × Int × Bs × List aE × Bss × Bool × List aA × Int)
def eF : gR → St := fun (f, g, h, i, j, k, l, m, n, o, a, b, c, d, e) => { env := (.ptr 0 0 :: .undef :: .str f :: .int .i64 g :: .undef :: .ea [.int .i64 h, .int .i64 i, .str j, .sl .jnode (.may false) k, .sl .str (.may false) l] :: (U 3 (.ea [.int .i64 m, .int .i64 n, .str o, .sl .jnode (.may false) a, .sl .str (.may false) b] :: (U 65 (.bool c :: (U 49 [])))))), hp := [some [.ul .atype d, .int .i64 e]] }
abbrev lD : Type := (Bs × Int × Int × Int × Bs × List aE × Bss × Int × Bs × List aA × Int)
def ku : lD → St := fun (b, c, d, e, f, g, h, i, j, k, a) => { env := (.ptr 0 0 :: .undef :: .str b :: .int .i64 c :: .undef :: .ea [.int .i64 d, .int .i64 e, .str f, .sl .jnode (.may false) g, .sl .str (.may false) h] :: (U 5 (.int .i64 i :: .str j :: (U 112 [])))), hp := [some [.ul .atype k, .int .i64 a]] }
def qi (N : Nat) : St → Ro := fun s => run aY N uU (dM (run aY N)) s
def gS (N : Nat) : lD → Ro := fun (o, p, h, i, j, k, l, b, m, e, f) =>
 aH (cT h i j k l m) (fun c =>
 cond (!c.2.2.2.2.2) (
 aH (aL e f 2) (fun g =>
 some (.int .i64 g.1, [some [.ul .atype g.2.1, .int .i64 g.2.2]]))) (
 let q : Int := (IntKind.wrap .i64 (p + 1))
 aH (cn e f c.1 c.2.1 c.2.2.1 c.2.2.2.1 c.2.2.2.2.1 o q) (fun a =>
 cond (a.2.2 == 0) (
 chk (decide (0 < List.length a.2.1)) (
 chk (decide (0 ≤ b) && decide (b < ↑(List.length a.2.1))) (
 chk (decide ((Int.toNat b) < List.length a.2.1)) (
 let n : List aA := (List.set a.2.1 (Int.toNat b) (let d := List.getD a.2.1 (Int.toNat b) (aC .atype); ⟨d.kind, d.name, d.aliases, a.1, d.syms, d.hasdef, d.df, d.size, d.fields, d.branches⟩))
 chk (Nat.beq (List.length a.2.1) (List.length n)) (
 some (.int .i64 b, [some [.ul .atype n, .int .i64 a.2.2], none, none])))))) (
 some (.int .i64 b, [some [.ul .atype a.2.1, .int .i64 a.2.2]])))))
theorem ae9 (N : Nat) : ∀ (x : lD), qi N (ku x) = gS N x := by
 intro x
 kernel_rfl
abbrev lE : Type := (Bs × Int × Int × Bs × List aE × Bss × List aA × Int)
def kv : lE → St := fun (a, b, c, d, e, f, g, h) => { env := (.ptr 0 0 :: .undef :: .str a :: (U 6 (.ea [.int .i64 b, .int .i64 c, .str d, .sl .jnode (.may false) e, .sl .str (.may false) f] :: (U 115 [])))), hp := [some [.ul .atype g, .int .i64 h]] }
def agv (R : IR → (Ex → St → Ro) → St → Ro) : Ex → St → Ro := (aR 0 (bp (R dk) (fin cV)))
def qj (N : Nat) : St → Ro := fun s => run aY N uV (agv (run aY N)) s
def gT (N : Nat) : lE → Ro := fun (e, _, _, b, _, _, c, d) =>
 aH (fV c d b e) (fun a =>
 some (.int .i64 a.1, [some [.ul .atype a.2.1, .int .i64 a.2.2]]))
theorem afa (N : Nat) : ∀ (x : lE), qj N (kv x) = gT N x := by
 intro x
 kernel_rfl
def lF (N : Nat) : St → Ro := fun s => run aY N jK (dM (run aY N)) s
def kw (N : Nat) (p : lD → Ro) (r : lE → Ro) : gR → Ro := fun (n, q, c, d, e, f, g, j, k, b, l, m, o, h, i) =>
 cond o (
 aH (ma b) (fun (s : Int) =>
 aH (en h i s ([] : Bs) ([] : Bss) 0 ([] : Bss) false ([] : Bs) 0 ([] : List aM) ([] : List Int)) (fun a =>
 let t : Bool := decide (b = ([109, 97, 112] : Bs))
 cond t (
 p (n, q, c, d, e, f, g, a.1, ([118, 97, 108, 117, 101, 115] : Bs), a.2.1, a.2.2)) (
 p (n, q, c, d, e, f, g, a.1, ([105, 116, 101, 109, 115] : Bs), a.2.1, a.2.2))))) (
 r (n, j, k, b, l, m, h, i))
def gU (N : Nat) (x : gR) : Ro := kw N (fun z => gS N z) (fun z => gT N z) x
def lG (N : Nat) : List (Nat × (St → Ro)) := (ba aY N jK (dM (run aY N)) ++ (ba aY N jM (aR 0 (bp (run aY N dk) (fin cV))) ++ (ba aY N dk (fin cV) ++ [])))
theorem afb (N : Nat) : ∀ (x : gR), lF N (eF x) = gU N x := by
 intro x
 have hX : ∀ C : Nat → St → Ro, bQ C aY N jK (dM (bQ C aY N)) (eF x) = kw N (fun z => C 1000000 (ku z)) (fun z => C 1000003 (kv z)) x := by
  intro C
  kernel_rfl
 have h : lF N (eF x) = kw N (fun z => qi N (ku z)) (fun z => qj N (kv z)) x := (ch (C := dA (lG N)) (bO (aX (l := (lG N)) (by kernel_rfl))) (cp (eq (bO (da (aX (l := (lG N)) (by kernel_rfl)))) (cp (eq (bO (da (da (aX (l := (lG N)) (by kernel_rfl))))) rfl)))) _).trans ((hX _).trans (by kernel_rfl))
 have e2 : (fun z => qi N (ku z)) = (fun z => gS N z) := funext fun z => ae9 N z
 have e3 : (fun z => qj N (kv z)) = (fun z => gT N z) := funext fun z => afa N z
 rw [h, e2, e3]
 rfl
def qk (N : Nat) : St → Ro := fun s => run aY N jL (dM (run aY N)) s
def kz (N : Nat) (r : gR → Ro) : gQ → Ro := fun (n, o, a, b, c, d, e, i, j, f, k, l, m, p, g, h) =>
 cond p (
 aH (ma f) (fun (s : Int) =>
 aH (iT g h a b c d e s n o) (fun q =>
 some (.int .i64 q.1, [some [.ul .atype q.2.1, .int .i64 q.2.2]])))) (
 let t : Bool := decide (m = ([97, 114, 114, 97, 121] : Bs))
 cond t (
 r (n, o, a, b, c, d, e, i, j, f, k, l, true, g, h)) (
 let u : Bool := decide (m = ([109, 97, 112] : Bs))
 r (n, o, a, b, c, d, e, i, j, f, k, l, u, g, h)))
def lH (N : Nat) (x : gQ) : Ro := kz N (fun z => gU N z) x
def lI (N : Nat) : List (Nat × (St → Ro)) := (ba aY N jL (dM (run aY N)) ++ (ba aY N jM (aR 0 (bp (run aY N dk) (fin cV))) ++ (ba aY N dk (fin cV) ++ [])))
theorem afc (N : Nat) : ∀ (x : gQ), qk N (gf x) = lH N x := by
 intro x
 have hX : ∀ C : Nat → St → Ro, bQ C aY N jL (dM (bQ C aY N)) (gf x) = kz N (fun z => C 1000001 (eF z)) x := by
  intro C
  kernel_rfl
 have h : qk N (gf x) = kz N (fun z => lF N (eF z)) x := (ch (C := dA (lI N)) (bO (aX (l := (lI N)) (by kernel_rfl))) (cp (eq (bO (da (aX (l := (lI N)) (by kernel_rfl)))) (cp (eq (bO (da (da (aX (l := (lI N)) (by kernel_rfl))))) rfl)))) _).trans ((hX _).trans (by kernel_rfl))
 have e1 : (fun z => lF N (eF z)) = (fun z => gU N z) := funext fun z => afb N z
 rw [h, e1]
 rfl
def iY (N : Nat) (b : List aA) (a d f : Int) (e : Bs) (g : List aE) (h : Bss) (j : Bs) (k : Int) (l : gQ → Ro) : Ro :=
 cond (!(a == 0)) (
 some (.int .i64 0, [some [.ul .atype b, .int .i64 a]])) (
 cond (decide (20 < k)) (
 aH (aL b a 3) (fun m =>
 some (.int .i64 m.1, [some [.ul .atype m.2.1, .int .i64 m.2.2]]))) (
 cond (d == 4) (
 aH (fV b a e j) (fun n =>
 some (.int .i64 n.1, [some [.ul .atype n.2.1, .int .i64 n.2.2]]))) (
 cond (d == 5) (
 aH (iS b a d f e g h j k) (fun o =>
 some (.int .i64 o.1, [some [.ul .atype o.2.1, .int .i64 o.2.2]]))) (
 cond (d == 6) (
 aH (cT d f e g h ([116, 121, 112, 101] : Bs)) (fun c =>
 cond (!c.2.2.2.2.2) (
 aH (aL b a 2) (fun p =>
 some (.int .i64 p.1, [some [.ul .atype p.2.1, .int .i64 p.2.2]]))) (
 cond (!(c.1 == 4)) (
 let r : Int := (IntKind.wrap .i64 (k + 1))
 aH (cn b a c.1 c.2.1 c.2.2.1 c.2.2.2.1 c.2.2.2.2.1 j r) (fun q =>
 some (.int .i64 q.1, [some [.ul .atype q.2.1, .int .i64 q.2.2]]))) (
 let s : Bool := decide (c.2.2.1 = ([114, 101, 99, 111, 114, 100] : Bs))
 cond s (
 l (j, k, d, f, e, g, h, c.1, c.2.1, c.2.2.1, c.2.2.2.1, c.2.2.2.2.1, c.2.2.1, true, b, a)) (
 let t : Bool := decide (c.2.2.1 = ([101, 110, 117, 109] : Bs))
 cond t (
 l (j, k, d, f, e, g, h, c.1, c.2.1, c.2.2.1, c.2.2.2.1, c.2.2.2.2.1, c.2.2.1, true, b, a)) (
 let u : Bool := decide (c.2.2.1 = ([102, 105, 120, 101, 100] : Bs))
 l (j, k, d, f, e, g, h, c.1, c.2.1, c.2.2.1, c.2.2.2.1, c.2.2.2.2.1, c.2.2.1, u, b, a))))))) (
 aH (aL b a 2) (fun i =>
 some (.int .i64 i.1, [some [.ul .atype i.2.1, .int .i64 i.2.2]])))))))
def rE (N : Nat) (a : List aA) (b c d : Int) (e : Bs) (f : List aE) (g : Bss) (h : Bs) (i : Int) : Ro := iY N a b c d e f g h i (fun z => lH N z)
def ajC (N : Nat) : List (Nat × (St → Ro)) := ba aY N rD (fin cV) ++ []
theorem agw (N : Nat) (a : List aA) (c d e : Int) (f : Bs) (g : List aE) (h : Bss) (i : Bs) (j : Int) : aW aY N 125 cV rD [.ptr 0 0, .agg [.int .i64 d, .int .i64 e, .str f, .sl .jnode (.may false) g, .sl .str (.may false) h], .str i, .int .i64 j] [some [.ul .atype a, .int .i64 c]] = rE N a c d e f g h i j :=
 (bL (ajC N) (by kernel_rfl) rfl (fun C => iY N a c d e f g h i j (fun z => C 1000002 (gf z))) (fun C => by kernel_rfl)).trans (Eq.trans (b := iY N a c d e f g h i j (fun z => qk N (gf z))) (by kernel_rfl) (congrArg (iY N a c d e f g h i j) (funext fun z => afc N z)))
theorem agx (N : Nat) (a : List aA) (b c d : Int) (e : Bs) (f : List aE) (g : Bss) (k : Bs) (l : Int) (h : Tot (rE N a b c d e f g k l) (fun z => ∃ (m : Int) (i : List aA) (j : Int) (rest : List aK), z.1.dimR = .int .i64 m ∧ z.2 = some [.ul .atype i, .int .i64 j] :: rest ∧ eB a b c d e f g k l (m, i, j))) : ∃ r, cn a b c d e f g k l r := by
 obtain ⟨⟨v, hp⟩, hz, m, i, j, rest, e1, e2, hq⟩ := h
 simp only at e1 e2
 subst e2
 exact ⟨(m, i, j), bk.dimR (FnC.objs (css := [[.ul .atype a, .int .i64 b]]) (css' := [[.ul .atype i, .int .i64 j]]) ah7 (agw N a b c d e f g k l) hz rfl) e1, hq⟩
noncomputable def ajD : aN := tab (P := Try.prog) [] [mZ] [] []
def ahr : IR := Rs [Bx 1 0, Pp (.new 2 [nl .atype]), Mi 3 0] (Rs [Pp (.bld 5 [.ul .atype ([] : List aA), vI 0] []), Pp (.box 6 5), Mv 4 6] (Rs [Mv 7 4, Ld 8 5 true 1, Ca 9 72 [7, 8, kS [], kI 1]] (Sq (Rs [Mv 10 4, Nk 11 10, Fa 12 1 11, Lo 13 12, Bc 14 .neq 13 0] (Cn 14 (Sq (.reg [Pp (.bld 15 [nl .atype] []), Mv 16 4, Nk 17 16, Fa 18 1 17, Fo [1] [] (.ld 19 1 false false 18), Fo [] [0] (.st none 1 2 15), Mv 3 19] [[], [], [1], [1, 2], [1, 2, 3], [0], rg 0 5]) .ret) .skip)) (Sq (.gh (.fz (.cell 1 0)) (Rg [Mv 20 4, Nk 21 20, Fa 22 0 21, Pp (.ld 23 1 true false 22), Sv 1 2 23, Mi 3 0])) .ret))))
def ahs : List RV := [.cell 2 1 true, .t 3]
theorem ar2 : FnC Try.prog ajD [72, 2000072] 0 aiV Try.f39 ahr ahs := fnC (by kernel_rfl) Try.func39 (by kernel_rfl) (by kernel_rfl) (by decide)
def aht (N : Nat) (b c : Int) (d : Bs) (e : List aE) (f : Bss) : Ro :=
 aH (cn ([] : List aA) 0 b c d e f ([] : Bs) 1) (fun a =>
 cond (!(a.2.2 == 0)) (
 some (.tup [.agg [.sl .atype (.may false) ([] : List aA)], .int .i64 a.2.2], [some [.sl .atype .own ([] : List aA)], some [.ul .atype a.2.1, .int .i64 a.2.2]])) (
 some (.tup [.agg [.sl .atype (.may false) a.2.1], .int .i64 0], [some [.sl .atype (.may false) a.2.1], some [.sl .atype .own a.2.1, .int .i64 a.2.2]])))
def aaB (N : Nat) (a b : Int) (c : Bs) (d : List aE) (e : Bss) : Ro := aht N a b c d e
theorem apT (N : Nat) (a b : Int) (c : Bs) (d : List aE) (e : Bss) : aW ajD N 24 ahs ahr [.agg [.int .i64 a, .int .i64 b, .str c, .sl .jnode (.may false) d, .sl .str (.may false) e]] [] = aaB N a b c d e := by kernel_rfl
theorem apU (N : Nat) (a b : Int) (c : Bs) (d : List aE) (e : Bss) (h : Tot (aaB N a b c d e) (fun z => ∃ (f : List aA) (g : Int) (rest : List aK), z.1.dimR = .tup [.agg [.sl .atype (.may false) f], .int .i64 g] ∧ z.2 = rest ∧ w9 a b c d e (f, g))) : ∃ r, sI a b c d e r := by
 obtain ⟨⟨v, hp⟩, hz, f, g, rest, e1, e2, hq⟩ := h
 simp only at e1 e2
 subst e2
 exact ⟨(f, g), aI.dimR (ar2.pure (apT N a b c d e) hz) e1, hq⟩
end Go.Proofs.Ytdpajabhmmmjoaa
end
noncomputable section
namespace Go.Proofs.Ytdpajabhmmmjoaa
open Go.AM
set_option autoImplicit false
set_option linter.unusedVariables false
set_option linter.unusedSimpArgs false
set_option maxRecDepth 100000
theorem nz {e c : Int} (hc : c ≠ 0) : (if e = 0 then c else e) ≠ 0 := by split <;> assumption
theorem av3 (s : List UInt8) (hs : s.length ≤ 1000000) : ∃ r, oV s r := by
 apply amc 2000000
 unfold xr nd
 dsimp only
 refine be (fun x => x.1 = s ∧ -1 ≤ x.2 ∧ x.2 < (s.length : Int)) (fun x => (x.2 + 1).toNat) ?_ _ _ ⟨rfl, by simp only [aJ ((s.length : Int) - 1) (by omega)]; omega, by simp only [aJ ((s.length : Int) - 1) (by omega)]; omega⟩ (by simp only [aJ ((s.length : Int) - 1) (by omega)]; omega)
 rintro again ⟨s, i⟩ ⟨rfl, i1, i2⟩ ih
 simp only at i1 i2 ih hs ⊢
 have e := aJ (i - 1) (by omega)
 unfold p8
 dsimp only
 repeat' (first | (with_reducible refine aF ?_ ?_ <;> (intro hb; (try simp only [bnl] at hb); (try revert hb; intro _))) | with_reducible refine aU ?_ ?_ | with_reducible refine aG ?_ | fail)
 ·first | (simp only [bnl, lnl]; done) | (simp only [bnl, lnl]; omega)
 ·first | (simp only [bnl, lnl]; done) | (simp only [bnl, lnl]; omega)
 ·exact ⟨_, _, rfl, rfl, by simp only [kV, List.length_drop, List.length_take]; omega⟩
 ·exact ih (s, _) ⟨rfl, by simp only [e]; omega, by simp only [e]; omega⟩ (by simp only [e]; omega)
 ·exact ⟨_, _, rfl, rfl, by simp [kV]⟩
theorem ayl (ts : List aA) (t : Int) : ∃ r, rt ts t r := by
 apply ar1 1
 unfold acb ajA
 dsimp only
 repeat' (first | (with_reducible refine aF ?_ ?_ <;> (intro hb; (try simp only [bnl] at hb); (try revert hb; intro _))) | with_reducible refine aU ?_ ?_ | with_reducible refine aG ?_ | (refine aD (axC _) ?_; intro _ _) | fail)
 all_goals first | exact ⟨_, _, rfl, rfl⟩ | (first | (simp only [bnl, lnl]; done) | (simp only [bnl, lnl]; omega))
theorem aqO (ts : List aA) (e : Int) (name space : List UInt8) (h1 : name.length ≤ 100) (h2 : space.length ≤ 10000) : ∃ r, fm ts e name space r := by
 apply aeX 2000
 unfold qa gD
 refine aD (axD _ _ (by omega) (by omega)) ?_
 rintro j ⟨-, hj⟩
 dsimp only [tN] at hj ⊢
 refine be (fun x => x.1 = name ∧ x.2.1.length ≤ name.length + space.length + 1 ∧ 0 ≤ x.2.2.1 ∧ x.2.2.1 ≤ (name.length : Int) ∧ x.2.2.2.1 = ts ∧ x.2.2.2.2 = e) (fun x => ((name.length : Int) - x.2.2.1).toNat) ?_ _ _ ⟨rfl, by simp only; omega, by simp, by simp, rfl, rfl⟩ (by simp; omega)
 rintro again ⟨name, w, i, ts, e⟩ ⟨rfl, i0, i1, i2, rfl, rfl⟩ ih
 simp only at i0 i1 i2 ih h1 hj ⊢
 have ew : i < name.length → IntKind.i64.wrap (i + 1) = i + 1 := fun h => aJ (i + 1) (by omega)
 unfold km
 dsimp only
 have next : ∀ q : List UInt8, i < name.length → q.length ≤ name.length + space.length + 1 → Tot (again (name, q, IntKind.i64.wrap (i + 1), ts, e)) _ := fun q h hq => ih (name, q, IntKind.i64.wrap (i + 1), ts, e)
  (by simp only [ew h]; exact ⟨trivial, hq, by omega, by omega, trivial, trivial⟩) (by simp only [ew h]; omega)
 repeat' (first | (with_reducible refine aF ?_ ?_ <;> (intro hb; (try simp only [bnl] at hb); (try revert hb; intro _))) | with_reducible refine aU ?_ ?_ | with_reducible refine aG ?_ | (refine aD (co _ _ _) ?_; rintro _ ⟨-, rfl⟩; try dsimp only) | (refine aD (awJ _ (by omega)) ?_; intro _ _) | fail)
 all_goals first | (first | (simp only [bnl, lnl]; done) | (simp only [bnl, lnl]; omega)) | (refine next _ (by omega) (by omega)) | skip
 ·refine ⟨_, _, _, _, rfl, rfl, ?_, rfl, fun h => absurd h (nz (by decide))⟩
  simp only
  omega
 ·refine ⟨_, _, _, _, rfl, rfl, ?_, rfl, fun h => absurd h (nz (by decide))⟩
  simp only
  omega
 ·refine ⟨_, _, _, _, rfl, rfl, ?_, rfl, fun h => h⟩
  simp only
  omega
theorem amd (ts : List aA) (e c0 c1 : Int) (c2 : List UInt8) (c3 : List aE) (c4 : List (List UInt8)) (name : List UInt8) (must : Bool) (h : bh (.mk c0 c1 c2 c3 c4)) : ∃ r, dD ts e c0 c1 c2 c3 c4 name must r := by
 obtain ⟨k1, k2, k3, k4, k5, k6⟩ := h.kids
 apply agn 1
 unfold rA yh
 refine aD (pd _ _ _ _ _ _ (by omega)) ?_
 rintro r ⟨-, hr⟩
 have hg := tR (k := c0) (names := c4) (name := name) k6
 simp only [ct] at hr
 rw [← hr] at hg
 obtain ⟨g1, g2, g3, g4, g5, g6⟩ := hg.kids
 repeat' (first | (with_reducible refine aF ?_ ?_ <;> (intro hb; (try simp only [bnl] at hb); (try revert hb; intro _))) | with_reducible refine aU ?_ ?_ | with_reducible refine aG ?_ | (refine aD (co _ _ _) ?_; rintro _ ⟨-, rfl⟩; try dsimp only) | fail)
 all_goals first | exact ⟨_, _, _, _, rfl, rfl, g1, rfl, fun h => h⟩ | exact ⟨_, _, _, _, rfl, rfl, Nat.zero_le _, rfl, fun h => h⟩ | exact ⟨_, _, _, _, rfl, rfl, Nat.zero_le _, rfl, fun h => absurd h (nz (by decide))⟩
theorem ajE (ts : List aA) (e c0 c1 : Int) (c2 : List UInt8) (c3 : List aE) (c4 : List (List UInt8)) (name : List UInt8) (h : bh (.mk c0 c1 c2 c3 c4)) : ∃ r, cU ts e c0 c1 c2 c3 c4 name r := by
 obtain ⟨k1, k2, k3, k4, k5, k6⟩ := h.kids
 apply ae0 2000
 unfold qc gE
 refine aD (pd _ _ _ _ _ _ (by omega)) ?_
 rintro r ⟨-, hr⟩
 have hg := tR (k := c0) (names := c4) (name := name) k6
 simp only [ct] at hr
 rw [← hr] at hg
 obtain ⟨d0, d1, d2, l, d4, d5⟩ := r
 obtain ⟨g1, g2, g3, g4, g5, g6⟩ := hg.kids
 dsimp only at g2 g6 ⊢
 have loop : ∀ e1 : Int, (e1 = 0 → e = 0) → Tot (aQ 2000 (f6 2000) (d0, d1, d2, l, d4, [], 0, ts, e1)) (fun z => ∃ (y0 : List (List UInt8)) (y1 : Bool) (y2 : List aA) (y3 : Int) (rest : List aK), z.1.dimR = .tup [.sl .str (.may false) y0, .bool y1] ∧ z.2 = some [.ul .atype y2, .int .i64 y3] :: rest ∧ nR ts e c0 c1 c2 c3 c4 name (y0, y1, y2, y3)) := by
  intro e1 he1
  refine be (fun x => x.2.2.2.1 = l ∧ (x.2.2.2.2.2.1.length : Int) = x.2.2.2.2.2.2.1 ∧ x.2.2.2.2.2.2.1 ≤ (l.length : Int) ∧ cm x.2.2.2.2.2.1 ∧ x.2.2.2.2.2.2.2.1 = ts ∧ (x.2.2.2.2.2.2.2.2 = 0 → e = 0)) (fun x => ((l.length : Int) - x.2.2.2.2.2.2.1).toNat) ?_ _ _ ⟨rfl, rfl, by simp, by simp [cm], rfl, he1⟩ (by simp; omega)
  rintro again ⟨d0, d1, d2, l, d4, out, i, ts, e1⟩ ⟨rfl, i1, i2, i3, rfl, i4⟩ ih
  simp only at i1 i2 i3 i4 ih g2 g6 ⊢
  have ew : i < l.length → IntKind.i64.wrap (i + 1) = i + 1 := fun h => aJ (i + 1) (by omega)
  unfold f6
  dsimp only
  have next : ∀ e2 : Int, i < l.length → (e2 = 0 → e = 0) → Tot (again (d0, d1, d2, l, d4, out ++ [(List.getD l (Int.toNat i) (aC .jnode)).s], IntKind.i64.wrap (i + 1), ts, e2)) _ := fun e2 h hq => ih (d0, d1, d2, l, d4, out ++ [(List.getD l (Int.toNat i) (aC .jnode)).s], IntKind.i64.wrap (i + 1), ts, e2)
   (by
    simp only [ew h, List.length_append, List.length_cons, List.length_nil]
    refine ⟨trivial, by omega, by omega, ?_, trivial, hq⟩
    intro x hx
    rcases List.mem_append.1 hx with hx | hx
    ·exact i3 x hx
    ·simp only [List.mem_singleton] at hx
     subst hx
     exact (bh.eta.2 (bh.getD g6 i.toNat)).kids.1) (by simp only [ew h]; omega)
  repeat' (first | (with_reducible refine aF ?_ ?_ <;> (intro hb; (try simp only [bnl] at hb); (try revert hb; intro _))) | with_reducible refine aU ?_ ?_ | with_reducible refine aG ?_ | (refine aD (co _ _ _) ?_; rintro _ ⟨-, rfl⟩; try dsimp only) | fail)
  all_goals first | (first | (simp only [bnl, lnl]; done) | (simp only [bnl, lnl]; omega)) | (refine next _ (by omega) ?_) | skip
  ·exact fun h => absurd h (nz (by decide))
  ·exact i4
  ·exact ⟨_, _, _, _, _, rfl, rfl, by simp only; omega, i3, rfl, i4⟩
  ·exact ⟨_, _, _, _, _, rfl, rfl, by simp only; omega, i3, rfl, i4⟩
 repeat' (first | (with_reducible refine aF ?_ ?_ <;> (intro hb; (try simp only [bnl] at hb); (try revert hb; intro _))) | with_reducible refine aU ?_ ?_ | with_reducible refine aG ?_ | (refine aD (co _ _ _) ?_; rintro _ ⟨-, rfl⟩; try dsimp only) | fail)
 ·exact ⟨_, _, _, _, _, rfl, rfl, by simp, by simp [cm], rfl, fun h => h⟩
 ·exact loop _ fun h => absurd h (nz (by decide))
 ·exact loop _ fun h => h
theorem aqP (ts : List aA) (e : Int) (s space : List UInt8) (h : ts.length ≤ 60) (h1 : s.length ≤ 100) (h2 : space.length ≤ 10000) : ∃ r, fV ts e s space r := by
 apply agr 2000
 unfold rC iX
 have loop : Tot (aQ 2000 (gH 2000) (s, space, false, 0, ts, e)) (fun z => ∃ (y0 : Int) (y1 : List aA) (y2 : Int) (rest : List aK), z.1.dimR = .int .i64 y0 ∧ z.2 = some [.ul .atype y1, .int .i64 y2] :: rest ∧ oT ts e s space (y0, y1, y2)) := by
  refine be (fun x => x.1 = s ∧ x.2.1 = space ∧ 0 ≤ x.2.2.2.1 ∧ x.2.2.2.1 ≤ (s.length : Int) ∧ x.2.2.2.2.1 = ts ∧ x.2.2.2.2.2 = e) (fun x => ((s.length : Int) - x.2.2.2.1).toNat) ?_ _ _ ⟨rfl, rfl, by simp, by simp, rfl, rfl⟩ (by simp; omega)
  rintro again ⟨s, space, d, i, ts, e⟩ ⟨rfl, rfl, i1, i2, rfl, rfl⟩ ih
  simp only at i1 i2 ih h h1 h2 ⊢
  have ew : i < s.length → IntKind.i64.wrap (i + 1) = i + 1 := fun h => aJ (i + 1) (by omega)
  unfold gH
  dsimp only
  have next : ∀ b : Bool, i < s.length → Tot (again (s, space, b, IntKind.i64.wrap (i + 1), ts, e)) _ := fun b h => ih (s, space, b, IntKind.i64.wrap (i + 1), ts, e)
   (by simp only [ew h]; exact ⟨trivial, trivial, by omega, by omega, trivial, trivial⟩) (by simp only [ew h]; omega)
  repeat' (first | (with_reducible refine aF ?_ ?_ <;> (intro hb; (try simp only [bnl] at hb); (try revert hb; intro _))) | with_reducible refine aU ?_ ?_ | with_reducible refine aG ?_ | (refine aD (co _ _ _) ?_; rintro _ ⟨-, rfl⟩; try dsimp only) | (refine aD (atN _ _ _ h) ?_; rintro ⟨a, b, ts', e'⟩ ⟨-, hq, hf⟩; simp only [Prod.mk.injEq] at hq; obtain ⟨rfl, rfl⟩ := hq; dsimp only at hf ⊢) | fail)
  all_goals first | (first | (simp only [bnl, lnl]; done) | (simp only [bnl, lnl]; omega)) | (refine next _ (by omega)) | exact ⟨_, _, _, _, rfl, rfl, bI.bad h (nz (by decide)), fun h => absurd h (nz (by decide))⟩ | exact ⟨_, _, _, _, rfl, rfl, bI.refl h, fun _ => hf (by assumption)⟩
 refine aD (al9 _) ?_
 rintro (k : Int) ⟨-, hk1, hk2, hk3⟩
 repeat' (first | (with_reducible refine aF ?_ ?_ <;> (intro hb; (try simp only [bnl] at hb); (try revert hb; intro _))) | with_reducible refine aU ?_ ?_ | with_reducible refine aG ?_ | (refine aD (ake _ _ _ _ _ _ _ _ _ _ _ _ h) ?_; rintro _ ⟨-, rfl⟩; try dsimp only) | fail)
 ·by_cases hl : 60 ≤ ts.length
  ·skip
   simp only [if_pos hl]
   exact ⟨_, _, _, _, rfl, rfl, bI.bad h (nz (by decide)), fun h => absurd h (nz (by decide))⟩
  ·simp only [if_neg hl]
   refine ⟨_, _, _, _, rfl, rfl, bI.push (by omega) _ ⟨by simp only; omega, by simp, by simp, by simp, by simp, by simp, by simp, (fun h => by simp only at h; omega), (by simp only; omega), (fun h => by simp only at h; omega)⟩, fun _ => ?_⟩
   simp only [List.length_append, List.length_cons, List.length_nil]
   omega
 ·exact loop
 ·exact loop
end Go.Proofs.Ytdpajabhmmmjoaa
end
noncomputable section
namespace Go.Proofs.Ytdpajabhmmmjoaa
open Go.AM
set_option autoImplicit false
set_option linter.unusedVariables false
set_option linter.unusedSimpArgs false
set_option maxRecDepth 100000
theorem po {α : Type} {l : List α} {i : Nat} {x d : α} (h : l[i]? = some x) : l.getD i d = x := by
 rw [List.getD_eq_getElem?_getD, h]; rfl
theorem auT {α : Type} {l : List α} {i : Nat} {x d : α} (h : i < l.length) : (l.set i x).getD i d = x := po (List.getElem?_set_self h)
theorem auU (ts : List aA) (e c0 c1 : Int) (c2 : List UInt8) (c3 : List aE) (c4 : List (List UInt8)) (at_ : Int) (h : bh (.mk c0 c1 c2 c3 c4)) (hat : e = 0 → 0 ≤ at_ ∧ at_ < ts.length) : ∃ r, fW ts e c0 c1 c2 c3 c4 at_ r := by
 obtain ⟨k1, k2, k3, k4, k5, k6⟩ := h.kids
 apply acL 2000
 unfold nT fx
 refine aD (ajE _ _ _ _ _ _ _ _ h) ?_
 rintro ⟨l, is, ts', e1⟩ ⟨-, h1, h2, rfl, h3⟩
 dsimp only at h1 h2 h3 hat ⊢
 have loop2 : ∀ (hd : Bool) (d : List UInt8) (e1 : Int), (e1 = 0 → e = 0 ∧ l ≠ []) → Tot (aQ 2000 (dH 2000) (at_, l, hd, d, false, 0, ts', e1)) (fun z => ∃ (y0 : List aA) (y1 : Int) (rest : List aK), z.1.dimR = .tup [] ∧ z.2 = some [.ul .atype y0, .int .i64 y1] :: rest ∧ du ts' e c0 c1 c2 c3 c4 at_ (y0, y1)) := by
  intro hd d e1 he1
  refine be (fun x => match x with | (a, l', hd', d', b, i, ts2, e2) => a = at_ ∧ l' = l ∧ hd' = hd ∧ d' = d ∧ 0 ≤ i ∧ i ≤ (l.length : Int) ∧ ts2 = ts' ∧ e2 = e1) (fun x => ((l.length : Int) - x.2.2.2.2.2.1).toNat) ?_ _ _ ⟨rfl, rfl, rfl, rfl, by simp, by simp, rfl, rfl⟩ (by simp; omega)
  rintro again ⟨a, l', hd', d', b, i, ts2, e2⟩ ⟨rfl, rfl, rfl, rfl, i1, i2, rfl, rfl⟩ ih
  dsimp only at ih
  have ew : i < l'.length → IntKind.i64.wrap (i + 1) = i + 1 := fun h => aJ (i + 1) (by omega)
  have next : ∀ b : Bool, i < l'.length → Tot (again (a, l', hd', d', b, IntKind.i64.wrap (i + 1), ts2, e2)) _ := fun b h => ih (a, l', hd', d', b, IntKind.i64.wrap (i + 1), ts2, e2)
   (by simp only [ew h]; exact ⟨trivial, trivial, trivial, trivial, by omega, by omega, trivial, trivial⟩) (by simp only [ew h]; omega)
  unfold dH
  dsimp only
  have fin : ∀ (h0 : e2 = 0) (e3 : Int), e3 = e2 → du ts2 e c0 c1 c2 c3 c4 a (List.set (List.set (List.set ts2 (Int.toNat a) (let e_ := List.getD ts2 (Int.toNat a) (aC .atype); ⟨(e_).kind, (e_).name, (e_).aliases, (e_).items, l', (e_).hasdef, (e_).df, (e_).size, (e_).fields, (e_).branches⟩)) (Int.toNat a) (let e_ := List.getD (List.set ts2 (Int.toNat a) (let e_ := List.getD ts2 (Int.toNat a) (aC .atype); ⟨(e_).kind, (e_).name, (e_).aliases, (e_).items, l', (e_).hasdef, (e_).df, (e_).size, (e_).fields, (e_).branches⟩)) (Int.toNat a) (aC .atype); ⟨(e_).kind, (e_).name, (e_).aliases, (e_).items, (e_).syms, hd', (e_).df, (e_).size, (e_).fields, (e_).branches⟩)) (Int.toNat a) (let e_ := List.getD (List.set (List.set ts2 (Int.toNat a) (let e_ := List.getD ts2 (Int.toNat a) (aC .atype); ⟨(e_).kind, (e_).name, (e_).aliases, (e_).items, l', (e_).hasdef, (e_).df, (e_).size, (e_).fields, (e_).branches⟩)) (Int.toNat a) (let e_ := List.getD (List.set ts2 (Int.toNat a) (let e_ := List.getD ts2 (Int.toNat a) (aC .atype); ⟨(e_).kind, (e_).name, (e_).aliases, (e_).items, l', (e_).hasdef, (e_).df, (e_).size, (e_).fields, (e_).branches⟩)) (Int.toNat a) (aC .atype); ⟨(e_).kind, (e_).name, (e_).aliases, (e_).items, (e_).syms, hd', (e_).df, (e_).size, (e_).fields, (e_).branches⟩)) (Int.toNat a) (aC .atype); ⟨(e_).kind, (e_).name, (e_).aliases, (e_).items, (e_).syms, (e_).hasdef, d', (e_).size, (e_).fields, (e_).branches⟩), e3) := by
   rintro h0 e3 rfl
   have ha := hat (he1 h0).1
   have hl : a.toNat < ts2.length := by omega
   refine ⟨fun h => (he1 h).1, fun h => absurd h0 h, fun _ => ⟨l', hd', d', (he1 h0).2, h1, ts2[a.toNat], List.getElem?_eq_getElem hl, ?_⟩⟩
   have g : ∀ x : aA, (ts2.set a.toNat x).getD a.toNat (aC .atype) = x := fun x => auT hl
   have g0 : ts2.getD a.toNat (aC .atype) = ts2[a.toNat] := po (List.getElem?_eq_getElem hl)
   simp only [List.set_set, g, g0]
  repeat' (first | (with_reducible refine aF ?_ ?_ <;> (intro hb; (try simp only [bnl] at hb); (try revert hb; intro _))) | with_reducible refine aU ?_ ?_ | with_reducible refine aG ?_ | (refine aD (co _ _ _) ?_; rintro _ ⟨-, rfl⟩; try dsimp only) | fail)
  all_goals first | (refine next _ (by omega)) | skip
  all_goals have hat' : e2 = 0 → 0 ≤ a ∧ a < ts2.length := fun h => hat (he1 h).1
  all_goals first | (first | (simp only [bnl, lnl]; done) | (simp only [bnl, lnl]; omega)) | skip
  all_goals first | exact ⟨_, _, _, rfl, rfl, fun h => (he1 h).1, fun _ => rfl, fun h => absurd h (by assumption)⟩ | exact ⟨_, _, _, rfl, rfl, fun h => absurd h (nz (by decide)), fun _ => rfl, fun h => absurd h (nz (by decide))⟩ | exact ⟨_, _, _, rfl, rfl, fin (by assumption) _ rfl⟩ | (exfalso; exact nz (by decide) (by assumption)) | skip
 have loop1 : ∀ (e1 : Int), (e1 = 0 → e = 0 ∧ l ≠ []) → Tot (aQ 2000 (eX 2000) (at_, c0, c1, c2, c3, c4, l, 0, ts', e1)) (fun z => ∃ (y0 : List aA) (y1 : Int) (rest : List aK), z.1.dimR = .tup [] ∧ z.2 = some [.ul .atype y0, .int .i64 y1] :: rest ∧ du ts' e c0 c1 c2 c3 c4 at_ (y0, y1)) := by
  intro e1 he1
  refine be (fun x => match x with | (a, d0, d1, d2, d3, d4, l', i, ts2, e2) => a = at_ ∧ d0 = c0 ∧ d1 = c1 ∧ d2 = c2 ∧ d3 = c3 ∧ d4 = c4 ∧ l' = l ∧ 0 ≤ i ∧ i ≤ (l.length : Int) ∧ ts2 = ts' ∧ (e2 = 0 → e = 0 ∧ l ≠ [])) (fun x => ((l.length : Int) - x.2.2.2.2.2.2.2.1).toNat) ?_ _ _ ⟨rfl, rfl, rfl, rfl, rfl, rfl, rfl, by simp, by simp, rfl, he1⟩ (by simp; omega)
  rintro again ⟨a, d0, d1, d2, d3, d4, l', i, ts2, e2⟩ ⟨rfl, rfl, rfl, rfl, rfl, rfl, rfl, i1, i2, rfl, i3⟩ ih
  dsimp only at ih
  have ew : i < l'.length → IntKind.i64.wrap (i + 1) = i + 1 := fun h => aJ (i + 1) (by omega)
  have next : ∀ e2 : Int, i < l'.length → (e2 = 0 → e = 0 ∧ l' ≠ []) → Tot (again (a, d0, d1, d2, d3, d4, l', IntKind.i64.wrap (i + 1), ts2, e2)) _ := fun e2 h he => ih (a, d0, d1, d2, d3, d4, l', IntKind.i64.wrap (i + 1), ts2, e2)
   (by simp only [ew h]; exact ⟨trivial, trivial, trivial, trivial, trivial, trivial, trivial, by omega, by omega, trivial, he⟩) (by simp only [ew h]; omega)
  have inner : ∀ e2 : Int, i < l'.length → (e2 = 0 → e = 0 ∧ l' ≠ []) → Tot (aQ 2000 (dG 2000 again) (a, d0, d1, d2, d3, d4, l', i, 0, ts2, e2)) (fun z => ∃ (y0 : List aA) (y1 : Int) (rest : List aK), z.1.dimR = .tup [] ∧ z.2 = some [.ul .atype y0, .int .i64 y1] :: rest ∧ du ts2 e d0 d1 d2 d3 d4 a (y0, y1)) := by
   intro e2 hi he
   refine be (fun x => match x with | (a', b0, b1, b2, b3, b4, l2, i', k, ts3, e3) => a' = a ∧ b0 = d0 ∧ b1 = d1 ∧ b2 = d2 ∧ b3 = d3 ∧ b4 = d4 ∧ l2 = l' ∧ i' = i ∧ 0 ≤ k ∧ k ≤ i ∧ ts3 = ts2 ∧ (e3 = 0 → e = 0 ∧ l' ≠ [])) (fun x => (i - x.2.2.2.2.2.2.2.2.1).toNat) ?_ _ _ ⟨rfl, rfl, rfl, rfl, rfl, rfl, rfl, rfl, by simp, i1, rfl, he⟩ (by simp only; omega)
   rintro again1 ⟨a', b0, b1, b2, b3, b4, l2, i', k, ts3, e3⟩ ⟨rfl, rfl, rfl, rfl, rfl, rfl, rfl, rfl, j1, j2, rfl, j3⟩ ih1
   dsimp only at ih1
   have ek : k < i' → IntKind.i64.wrap (k + 1) = k + 1 := fun h => aJ (k + 1) (by omega)
   have next1 : ∀ e2 : Int, k < i' → (e2 = 0 → e = 0 ∧ l2 ≠ []) → Tot (again1 (a', b0, b1, b2, b3, b4, l2, i', IntKind.i64.wrap (k + 1), ts3, e2)) _ := fun e2 h he => ih1 (a', b0, b1, b2, b3, b4, l2, i', IntKind.i64.wrap (k + 1), ts3, e2)
    (by simp only [ek h]; exact ⟨trivial, trivial, trivial, trivial, trivial, trivial, trivial, trivial, by omega, by omega, trivial, he⟩) (by simp only [ek h]; omega)
   unfold dG
   dsimp only
   repeat' (first | (with_reducible refine aF ?_ ?_ <;> (intro hb; (try simp only [bnl] at hb); (try revert hb; intro _))) | with_reducible refine aU ?_ ?_ | with_reducible refine aG ?_ | (refine aD (co _ _ _) ?_; rintro _ ⟨-, rfl⟩; try dsimp only) | fail)
   all_goals first | (first | (simp only [bnl, lnl]; done) | (simp only [bnl, lnl]; omega)) | exact next1 _ (by omega) j3 | exact next1 _ (by omega) (fun h => absurd h (nz (by decide))) | exact next _ hi j3
  unfold eX gF
  dsimp only
  repeat' (first | (with_reducible refine aF ?_ ?_ <;> (intro hb; (try simp only [bnl] at hb); (try revert hb; intro _))) | with_reducible refine aU ?_ ?_ | with_reducible refine aG ?_ | (refine aD (co _ _ _) ?_; rintro _ ⟨-, rfl⟩; try dsimp only) | (refine aD (agk _ ?_) ?_; rotate_left; intro _ _) | (refine aD (pd _ _ _ _ _ _ (by omega)) ?_; intro _ _) | (refine aD (amd _ _ _ _ _ _ _ _ _ h) ?_; rintro ⟨w, ts4, e4⟩ ⟨-, w1, rfl, w2⟩; dsimp only at w2 ⊢) | fail)
  all_goals first | (first | (simp only [bnl, lnl]; done) | (simp only [bnl, lnl]; omega)) | exact inner _ (by omega) i3 | exact inner _ (by omega) (fun h => absurd h (nz (by decide))) | exact loop2 _ _ _ (fun h => i3 (w2 h)) | skip
  ·have : (l'.getD i.toNat (aC .str)).length ≤ 100 := by
    rw [List.getD_eq_getElem?_getD]
    cases hq : l'[i.toNat]? with
    | none => exact Nat.zero_le _
    | some y => exact h2 y (List.mem_of_getElem? hq)
   omega
 have nz' : ∀ {e c : Int}, c ≠ 0 → (if e = 0 then c else e) = 0 → ∀ {p : Prop}, p := fun hc h => absurd h (nz hc)
 repeat' (first | (with_reducible refine aF ?_ ?_ <;> (intro hb; (try simp only [bnl] at hb); (try revert hb; intro _))) | with_reducible refine aU ?_ ?_ | with_reducible refine aG ?_ | (refine aD (co _ _ _) ?_; rintro _ ⟨-, rfl⟩; try dsimp only) | fail)
 all_goals first | exact loop1 _ (fun h => absurd h (nz (by decide))) | skip
 all_goals refine loop1 _ (fun h => ⟨h3 h, fun hl => ?_⟩)
 all_goals subst hl; simp at *
end Go.Proofs.Ytdpajabhmmmjoaa
end
noncomputable section
namespace Go.Proofs.Ytdpajabhmmmjoaa
open Go.AM
set_option autoImplicit false
set_option linter.unusedVariables false
set_option linter.unusedSimpArgs false
set_option maxRecDepth 100000
def abA (deep : Int) : Prop := ∀ (ts : List aA) (e c0 c1 : Int) (c2 : List UInt8) (c3 : List aE) (c4 : List (List UInt8)) (space : List UInt8),
 ts.length ≤ 60 → bh (.mk c0 c1 c2 c3 c4) → (space.length : Int) ≤ 202 * deep → ∃ r, cn ts e c0 c1 c2 c3 c4 space deep r
theorem bI.stuck {ts ts' : List aA} {e e' : Int} (h1 : ts.length ≤ ts'.length) (h2 : ts'.length ≤ 60) (he : e' ≠ 0) : bI ts e ts' e' :=
 ⟨h1, h2, fun h => absurd h he, fun h => absurd h he, fun h => absurd h he⟩
structure md (ts : List aA) (e : Int) (t0 : aA) (at_ : Int) (ts2 : List aA) (e2 : Int) : Prop where
 len : ts.length ≤ ts2.length
 cap : ts2.length ≤ 60
 grow : e2 = 0 → at_ = ts.length ∧ bI (ts ++ [t0]) e ts2 e2
theorem md.add {ts : List aA} {e : Int} {t0 : aA} (h : ts.length ≤ 60) {r : Int × List aA × Int} (hr : r = if 60 ≤ ts.length then (0, ts, if e = 0 then 3 else e) else ((ts.length : Int), ts ++ [t0], e)) : md ts e t0 r.1 r.2.1 r.2.2 := by
 by_cases hl : 60 ≤ ts.length
 ·rw [if_pos hl] at hr
  subst hr
  exact ⟨Nat.le_refl _, h, fun h => absurd h (nz (by decide))⟩
 ·rw [if_neg hl] at hr
  subst hr
  exact ⟨by simp, by simp; omega, fun h => ⟨rfl, bI.refl (by simp; omega)⟩⟩
theorem md.more {ts ts2 ts3 : List aA} {e e2 e3 : Int} {t0 : aA} {a : Int} (h : md ts e t0 a ts2 e2) (h' : bI ts2 e2 ts3 e3) : md ts e t0 a ts3 e3 :=
 ⟨Nat.le_trans h.len h'.len, h'.cap, fun he => ⟨(h.grow (h'.err he)).1, (h.grow (h'.err he)).2.trans h'⟩⟩
theorem md.bad {ts ts2 : List aA} {e e2 e3 : Int} {t0 : aA} {a : Int} (h : md ts e t0 a ts2 e2) (he : e3 ≠ 0) : md ts e t0 a ts2 e3 :=
 ⟨h.len, h.cap, fun h' => absurd h' he⟩
theorem md.stuck {ts ts2 : List aA} {e e2 : Int} {t0 : aA} {a : Int} (h : md ts e t0 a ts2 e2) (he : e2 ≠ 0) : bI ts e ts2 e2 := bI.stuck h.len h.cap he
theorem md.range {ts ts2 : List aA} {e e2 : Int} {t0 : aA} {a : Int} (h : md ts e t0 a ts2 e2) (he : e2 = 0) : 0 ≤ a ∧ a < ts2.length := by
 obtain ⟨rfl, g⟩ := h.grow he
 have := g.len
 simp only [List.length_append, List.length_singleton] at this
 omega
theorem md.done {ts ts2 : List aA} {e e2 : Int} {t0 t : aA} {a : Int} (h : md ts e t0 a ts2 e2) (he : e2 = 0) (ht : iQ ts2.length t) : bI ts e (ts2.set a.toNat t) e2 := by
 obtain ⟨rfl, g⟩ := h.grow he
 rw [Int.toNat_natCast]
 exact g.close ht
theorem md.get {ts ts2 : List aA} {e e2 : Int} {t0 : aA} {a : Int} (h : md ts e t0 a ts2 e2) (he : e2 = 0) : ts2[a.toNat]? = some t0 := by
 obtain ⟨rfl, g⟩ := h.grow he
 rw [Int.toNat_natCast]
 exact g.at_open he
theorem md.kept {ts ts2 : List aA} {e e2 : Int} {t0 : aA} {a : Int} (h : md ts e t0 a ts2 e2) (ht : iQ (ts.length + 1) t0) : bI ts e ts2 e2 := by
 by_cases he : e2 = 0
 ·obtain ⟨rfl, g⟩ := h.grow he
  have := g.len
  have := g.cap
  simp only [List.length_append, List.length_singleton] at *
  exact (bI.push (by omega) t0 ht).trans g
 ·exact h.stuck he
theorem awN (deep : Int) (hd : 1 ≤ deep ∧ deep ≤ 20) (hT : abA (deep + 1)) (ts : List aA) (e c0 c1 : Int) (c2 : List UInt8) (c3 : List aE) (c4 : List (List UInt8)) (space : List UInt8)
  (h : ts.length ≤ 60) (hn : bh (.mk c0 c1 c2 c3 c4)) (hs : (space.length : Int) ≤ 202 * deep) : ∃ r, iS ts e c0 c1 c2 c3 c4 space deep r := by
 obtain ⟨k1, k2, k3, k4, k5, k6⟩ := hn.kids
 apply ae5 2000
 unfold qf gJ
 refine aD (ake _ _ _ _ _ _ _ _ _ _ _ _ h) ?_
 rintro r ⟨-, hr⟩
 have ho := md.add h hr
 clear hr
 obtain ⟨a, ts1, e1⟩ := r
 dsimp only at ho ⊢
 repeat' (first | (with_reducible refine aF ?_ ?_ <;> (intro hb; (try simp only [bnl] at hb); (try revert hb; intro _))) | with_reducible refine aU ?_ ?_ | with_reducible refine aG ?_ | (refine aD (co _ _ _) ?_; rintro _ ⟨-, rfl⟩; try dsimp only) | fail)
 ·exact ⟨_, _, _, _, rfl, rfl, ho.bad (nz (by decide)) |>.stuck (nz (by decide)), fun h => absurd h (nz (by decide))⟩
 ·exact ⟨_, _, _, _, rfl, rfl, ho.bad (nz (by decide)) |>.stuck (nz (by decide)), fun h => absurd h (nz (by decide))⟩
 rename_i hl1 hl2
 refine be (fun x => match x with | (sp, dp, d0, d1, d2, l, d4, a', bs, i, ts2, e2) => sp = space ∧ dp = deep ∧ l = c3 ∧ a' = a ∧ (bs.length : Int) = i ∧ i ≤ (c3.length : Int) ∧ (∀ b ∈ bs, 0 ≤ b ∧ b < (ts2.length : Int)) ∧ md ts e ⟨14, [], [], 0, [], false, [], 0, [], []⟩ a ts2 e2) (fun x => ((c3.length : Int) - x.2.2.2.2.2.2.2.2.2.1).toNat) ?_ _ _
  ⟨rfl, rfl, rfl, rfl, rfl, by simp, by simp, ho⟩ (by simp; omega)
 rintro again ⟨sp, dp, d0, d1, d2, l, d4, a', bs, i, ts2, e2⟩ ⟨rfl, rfl, rfl, rfl, i1, i2, i3, i4⟩ ih
 dsimp only at ih
 have ew : i < l.length → IntKind.i64.wrap (i + 1) = i + 1 := fun h => aJ (i + 1) (by omega)
 have ed : IntKind.i64.wrap (dp + 1) = dp + 1 := aJ (dp + 1) (by omega)
 unfold kq jC
 dsimp only
 have fin : e2 = 0 → i = l.length → iQ ts2.length (let e_ := List.getD ts2 (Int.toNat a') (aC .atype); ⟨(e_).kind, (e_).name, (e_).aliases, (e_).items, (e_).syms, (e_).hasdef, (e_).df, (e_).size, (e_).fields, bs⟩) := by
  intro h0 hi
  rw [po (i4.get h0)]
  have hr := i4.range h0
  exact ⟨⟨by simp, by simp only; omega⟩, by simp, by simp, i3, by simp only; omega, by simp, by simp, fun _ hb => by
   have hb : bs = [] := hb
   rw [hb] at i1
   simp at i1
   omega, by simp, by simp⟩
 have hat : e2 = 0 → 0 ≤ a' ∧ a' < ts2.length := fun h0 => i4.range h0
 repeat' (first | (with_reducible refine aF ?_ ?_ <;> (intro hb; (try simp only [bnl] at hb); (try revert hb; intro _))) | with_reducible refine aU ?_ ?_ | with_reducible refine aG ?_ | (refine aD (co _ _ _) ?_; rintro _ ⟨-, rfl⟩; try dsimp only) | fail)
 all_goals try simp only [ed]
 ·first | (simp only [bnl, lnl]; done) | (simp only [bnl, lnl]; omega)
 ·have hkid := bh.eta.2 (bh.getD k6 i.toNat)
  refine aD (hT _ _ _ _ _ _ _ _ i4.cap hkid (by omega)) ?_
  rintro ⟨k, ts3, e3⟩ ⟨-, g1, g2⟩
  dsimp only at g1 g2 ⊢
  have i5 := i4.more g1
  have hl3 := g1.len
  repeat' (first | (with_reducible refine aF ?_ ?_ <;> (intro hb; (try simp only [bnl] at hb); (try revert hb; intro _))) | with_reducible refine aU ?_ ?_ | with_reducible refine aG ?_ | (refine aD (co _ _ _) ?_; rintro _ ⟨-, rfl⟩; try dsimp only) | fail)
  ·rename_i he3
   exact ⟨_, _, _, _, rfl, rfl, i5.stuck he3, fun h => absurd h he3⟩
  ·have := g2 (by assumption); first | (simp only [bnl, lnl]; done) | (simp only [bnl, lnl]; omega)
  ·have := g2 (by assumption); first | (simp only [bnl, lnl]; done) | (simp only [bnl, lnl]; omega)
  ·have := g2 (by assumption); first | (simp only [bnl, lnl]; done) | (simp only [bnl, lnl]; omega)
  ·first | (simp only [bnl, lnl]; done) | (simp only [bnl, lnl]; omega)
  ·exact ⟨_, _, _, _, rfl, rfl, (i5.bad (nz (by decide))).stuck (nz (by decide)), fun h => absurd h (nz (by decide))⟩
  ·rename_i he3 hk
   have g2' := g2 he3
   refine be (fun x => match x with | (sp', dp', d0, d1, d2, l', d4, a2, bs', i', k', m, ts4, e4) => sp' = sp ∧ dp' = dp ∧ l' = l ∧ a2 = a' ∧ bs' = bs ∧ i' = i ∧ k' = k ∧ 0 ≤ m ∧ m ≤ (bs.length : Int) ∧ ts4 = ts3 ∧ e4 = e3) (fun x => ((bs.length : Int) - x.2.2.2.2.2.2.2.2.2.2.2.1).toNat) ?_ _ _
    ⟨rfl, rfl, rfl, rfl, rfl, rfl, rfl, by simp, by simp, rfl, rfl⟩ (by simp; omega)
   rintro again1 ⟨sp', dp', d0', d1', d2', l', d4', a2, bs', i', k', m, ts4, e4⟩ ⟨rfl, rfl, rfl, rfl, rfl, rfl, rfl, j1, j2, rfl, rfl⟩ ih1
   dsimp only at ih1
   have em : m < bs'.length → IntKind.i64.wrap (m + 1) = m + 1 := fun h => aJ (m + 1) (by omega)
   unfold ga
   dsimp only
   repeat' (first | (with_reducible refine aF ?_ ?_ <;> (intro hb; (try simp only [bnl] at hb); (try revert hb; intro _))) | with_reducible refine aU ?_ ?_ | with_reducible refine aG ?_ | (refine aD (co _ _ _) ?_; rintro _ ⟨-, rfl⟩; try dsimp only) | (refine avn ?_ (ayl _ _) ?_; rotate_left; intro _ _) | fail)
   all_goals first | (first | (simp only [bnl, lnl]; done) | (simp only [bnl, lnl]; omega)) | exact ⟨_, _, _, _, rfl, rfl, (i5.bad (nz (by decide))).stuck (nz (by decide)), fun h => absurd h (nz (by decide))⟩ | skip
   ·rename_i hm _ _ _ _ _
    refine ih1 (sp', dp', d0', d1', d2', l', d4', a2, bs', i', k', _, ts4, e4) ?_ ?_
    ·simp only [em hm]; exact ⟨trivial, trivial, trivial, trivial, trivial, trivial, trivial, by omega, by omega, trivial, trivial⟩
    ·simp only [em hm]; omega
   ·have hil : i' < l'.length := by omega
    refine ih (sp', dp', d0', d1', d2', l', d4', a2, _, _, ts4, e4) ?_ ?_
    ·simp only [ew hil, List.length_append, List.length_cons, List.length_nil]
     refine ⟨trivial, trivial, trivial, trivial, by omega, by omega, ?_, i5⟩
     intro b hb
     rcases List.mem_append.1 hb with hb | hb
     ·have := i3 b hb; omega
     ·simp only [List.mem_singleton] at hb
      subst hb; exact g2'
    ·simp only [ew hil]; omega
 all_goals first | (exfalso; omega) | skip
 all_goals have hat2 := fun h0 => hat h0
 all_goals first | (first | (simp only [bnl, lnl]; done) | (simp only [bnl, lnl]; omega)) | skip
 ·rename_i h0
  exact ⟨_, _, _, _, rfl, rfl, i4.stuck h0, fun h => absurd h h0⟩
 ·rename_i h0
  have hr := i4.range h0
  exact ⟨_, _, _, _, rfl, rfl, i4.done h0 (fin h0 (by omega)), fun _ => by simpa using hr⟩
 ·rename_i h0
  exact ⟨_, _, _, _, rfl, rfl, i4.stuck h0, fun h => absurd h h0⟩
end Go.Proofs.Ytdpajabhmmmjoaa
end
noncomputable section
namespace Go.Proofs.Ytdpajabhmmmjoaa
open Go.AM
set_option autoImplicit false
set_option linter.unusedVariables false
set_option linter.unusedSimpArgs false
set_option maxRecDepth 100000
theorem agy {l : List (List UInt8)} (h : cm l) (i : Nat) : (l.getD i (aC .str)).length ≤ 100 := by
 rw [List.getD_eq_getElem?_getD]
 cases hq : l[i]? with
 | none => exact Nat.zero_le _
 | some y => exact h y (List.mem_of_getElem? hq)
def vN (m : Nat) (l : List aM) : Prop := l.length ≤ 8 ∧ ∀ f ∈ l, 0 ≤ f.typ ∧ f.typ < m ∧ bh f.df
theorem vN.mono {m m' : Nat} {l : List aM} (h : vN m l) (hm : m ≤ m') : vN m' l :=
 ⟨h.1, fun f hf => ⟨(h.2 f hf).1, by have := (h.2 f hf).2.1; omega, (h.2 f hf).2.2⟩⟩
theorem av4 (deep : Int) (hd : 1 ≤ deep ∧ deep ≤ 20) (hT : abA (deep + 1)) (ts : List aA) (e c0 c1 : Int) (c2 : List UInt8) (c3 : List aE) (c4 : List (List UInt8)) (at_ : Int) (space : List UInt8)
  (h : ts.length ≤ 60) (hn : bh (.mk c0 c1 c2 c3 c4)) (hs : (space.length : Int) ≤ 202 * deep + 201) (hat : e = 0 → 0 ≤ at_ ∧ at_ < ts.length) : ∃ r, gz ts e c0 c1 c2 c3 c4 at_ space deep r := by
 obtain ⟨k1, k2, k3, k4, k5, k6⟩ := hn.kids
 apply adY 2000
 unfold pj gb
 refine aD (pd _ _ _ _ _ _ (by omega)) ?_
 rintro r ⟨-, hr⟩
 have hg := tR (k := c0) (names := c4) (name := [102, 105, 101, 108, 100, 115]) k6
 simp only [ct] at hr
 rw [← hr] at hg
 obtain ⟨b0, b1, b2, l, b4, b5⟩ := r
 obtain ⟨g1, g2, g3, g4, g5, g6⟩ := hg.kids
 dsimp only at g2 g6 ⊢
 have bad : ∀ c : Int, c ≠ 0 → dE ts e c0 c1 c2 c3 c4 at_ space deep (ts, if e = 0 then c else e) := fun c hc => ⟨ts, bI.stuck (Nat.le_refl _) h (nz hc), .inl rfl⟩
 repeat' (first | (with_reducible refine aF ?_ ?_ <;> (intro hb; (try simp only [bnl] at hb); (try revert hb; intro _))) | with_reducible refine aU ?_ ?_ | with_reducible refine aG ?_ | (refine aD (co _ _ _) ?_; rintro _ ⟨-, rfl⟩; try dsimp only) | fail)
 ·exact ⟨_, _, _, rfl, rfl, bad 2 (by decide)⟩
 ·exact ⟨_, _, _, rfl, rfl, bad 2 (by decide)⟩
 ·exact ⟨_, _, _, rfl, rfl, bad 3 (by decide)⟩
 rename_i hl
 refine be (fun x => match x with | (a, sp, dp, d0, d1, d2, l', d4, out, i, ts2, e2) => a = at_ ∧ sp = space ∧ dp = deep ∧ l' = l ∧ (out.length : Int) = i ∧ i ≤ (l.length : Int) ∧ bI ts e ts2 e2 ∧ (e2 = 0 → vN ts2.length out)) (fun x => ((l.length : Int) - x.2.2.2.2.2.2.2.2.2.1).toNat) ?_ _ _
  ⟨rfl, rfl, rfl, rfl, rfl, by simp, bI.refl h, fun _ => ⟨by simp, by simp⟩⟩ (by simp; omega)
 rintro again ⟨a, sp, dp, d0, d1, d2, l, d4, out, i, ts2, e2⟩ ⟨rfl, rfl, rfl, rfl, i1, i2, i3, i4⟩ ih
 dsimp only at ih
 have ew : i < l.length → IntKind.i64.wrap (i + 1) = i + 1 := fun h => aJ (i + 1) (by omega)
 have ed : IntKind.i64.wrap (dp + 1) = dp + 1 := aJ (dp + 1) (by omega)
 have hat2 : e2 = 0 → 0 ≤ a ∧ a < ts2.length := fun h0 => by
  have := hat (i3.err h0)
  have := i3.len
  omega
 unfold jF iE
 dsimp only
 have hkid := bh.eta.2 (bh.getD g6 i.toNat)
 have hkk := hkid.kids
 have inner2 : ∀ (ts3 : List aA) (e3 : Int) (nm : List UInt8) (al : List (List UInt8)) (ty : Int) (hd' : Bool) (f0 f1 : Int) (f2 : List UInt8) (f3 : List aE) (f4 : List (List UInt8)), i < l.length → bI ts e ts3 e3 → cm al → al.length ≤ 100 → (e3 = 0 → vN ts3.length out ∧ 0 ≤ ty ∧ ty < ts3.length) → bh (.mk f0 f1 f2 f3 f4) →
   Tot (aQ 2000 (dj 2000 again) (a, sp, dp, d0, d1, d2, l, d4, out, i, 0, ts3, e3, nm, al, ty, hd', f0, f1, f2, f3, f4)) (fun z => ∃ (y0 : List aA) (y1 : Int) (rest : List aK), z.1.dimR = .tup [] ∧ z.2 = some [.ul .atype y0, .int .i64 y1] :: rest ∧ dE ts e c0 c1 c2 c3 c4 a sp dp (y0, y1)) := by
  intro ts3 e3 nm al ty hd' f0 f1 f2 f3 f4 hil hgr hal hal2 hty hnd
  refine be (fun x => match x with | (a', sp', dp', d0', d1', d2', l', d4', out', i', m, ts4, e4, nm', al', ty', hd2, f0', f1', f2', f3', f4') => a' = a ∧ sp' = sp ∧ dp' = dp ∧ l' = l ∧ out' = out ∧ i' = i ∧ 0 ≤ m ∧ m ≤ (al.length : Int) ∧ bI ts e ts4 e4 ∧ al' = al ∧ ty' = ty ∧ (e4 = 0 → vN ts4.length out ∧ 0 ≤ ty ∧ ty < ts4.length) ∧ bh (.mk f0' f1' f2' f3' f4')) (fun x => ((al.length : Int) - x.2.2.2.2.2.2.2.2.2.2.1).toNat) ?_ _ _
   ⟨rfl, rfl, rfl, rfl, rfl, rfl, by simp, by simp, hgr, rfl, rfl, hty, hnd⟩ (by simp; omega)
  rintro again2 ⟨a', sp', dp', d0', d1', d2', l', d4', out', i', m, ts4, e4, nm', al', ty', hd2, f0', f1', f2', f3', f4'⟩ ⟨rfl, rfl, rfl, rfl, rfl, rfl, j1, j2, j3, rfl, rfl, j4, j5⟩ ih2
  dsimp only at ih2
  have em : m < al'.length → IntKind.i64.wrap (m + 1) = m + 1 := fun h => aJ (m + 1) (by omega)
  have out1 : Tot (again (a', sp', dp', d0', d1', d2', l', d4', out' ++ [⟨nm', al', ty', hd2, ⟨f0', f1', f2', f3', f4'⟩⟩], IntKind.i64.wrap (i' + 1), ts4, e4)) _ := ih (a', sp', dp', d0', d1', d2', l', d4', out' ++ [⟨nm', al', ty', hd2, ⟨f0', f1', f2', f3', f4'⟩⟩], IntKind.i64.wrap (i' + 1), ts4, e4)
   (by
    simp only [ew hil, List.length_append, List.length_cons, List.length_nil]
    refine ⟨trivial, trivial, trivial, trivial, by omega, by omega, j3, fun h0 => ?_⟩
    obtain ⟨q1, q2⟩ := j4 h0
    refine ⟨by simp; omega, fun f hf => ?_⟩
    rcases List.mem_append.1 hf with hf | hf
    ·exact q1.2 f hf
    ·simp only [List.mem_singleton] at hf
     subst hf
     exact ⟨q2.1, q2.2, j5⟩) (by simp only [ew hil]; omega)
  have next : ∀ e5 : Int, m < al'.length → bI ts e ts4 e5 → (e5 = 0 → e4 = 0) → Tot (again2 (a', sp', dp', d0', d1', d2', l', d4', out', i', IntKind.i64.wrap (m + 1), ts4, e5, nm', al', ty', hd2, f0', f1', f2', f3', f4')) _ := fun e5 hm hg5 he5 => ih2 (a', sp', dp', d0', d1', d2', l', d4', out', i', IntKind.i64.wrap (m + 1), ts4, e5, nm', al', ty', hd2, f0', f1', f2', f3', f4')
   (by
    simp only [em hm]
    exact ⟨trivial, trivial, trivial, trivial, trivial, trivial, by omega, by omega, hg5, trivial, trivial, fun h0 => j4 (he5 h0), j5⟩) (by simp only [em hm]; omega)
  unfold dj
  dsimp only
  repeat' (first | (with_reducible refine aF ?_ ?_ <;> (intro hb; (try simp only [bnl] at hb); (try revert hb; intro _))) | with_reducible refine aU ?_ ?_ | with_reducible refine aG ?_ | (refine aD (co _ _ _) ?_; rintro _ ⟨-, rfl⟩; try dsimp only) | (refine aD (agk _ ?_) ?_; rotate_left; intro _ _) | fail)
  all_goals first | (first | (simp only [bnl, lnl]; done) | (simp only [bnl, lnl]; omega)) | exact out1 | exact next _ (by omega) j3 (fun h => h) | exact next _ (by omega) (bI.stuck j3.len j3.cap (nz (by decide))) (fun h => absurd h (nz (by decide))) | skip
  ·have := agy hal m.toNat; omega
 have inner1 : ∀ (ts3 : List aA) (e3 : Int) (nm : List UInt8), i < l.length → bI ts2 e2 ts3 e3 →
   Tot (aQ 2000 (ef 2000 again) (a, sp, dp, d0, d1, d2, l, d4, out, i, (List.getD l (Int.toNat i) (aC .jnode)).kind, (List.getD l (Int.toNat i) (aC .jnode)).n, (List.getD l (Int.toNat i) (aC .jnode)).s, (List.getD l (Int.toNat i) (aC .jnode)).l, (List.getD l (Int.toNat i) (aC .jnode)).names, 0, ts3, e3, nm, ([] : List (List UInt8)), 0, false, 0, 0, ([] : List UInt8), ([] : List aE), ([] : List (List UInt8)))) (fun z => ∃ (y0 : List aA) (y1 : Int) (rest : List aK), z.1.dimR = .tup [] ∧ z.2 = some [.ul .atype y0, .int .i64 y1] :: rest ∧ dE ts e c0 c1 c2 c3 c4 a sp dp (y0, y1)) := by
  intro ts3 e3 nm hil hgr
  refine be (fun x => match x with | (a', sp', dp', d0', d1', d2', l', d4', out', i', v0, v1, v2, v3, v4, m, ts4, e4, nm', al', ty', hd2, f0', f1', f2', f3', f4') => a' = a ∧ sp' = sp ∧ dp' = dp ∧ d0' = d0 ∧ d1' = d1 ∧ d2' = d2 ∧ l' = l ∧ d4' = d4 ∧ out' = out ∧ i' = i ∧ bh (.mk v0 v1 v2 v3 v4) ∧ 0 ≤ m ∧ m ≤ (out.length : Int) ∧ bI ts2 e2 ts4 e4) (fun x => ((out.length : Int) - x.2.2.2.2.2.2.2.2.2.2.2.2.2.2.2.1).toNat) ?_ _ _
   ⟨rfl, rfl, rfl, rfl, rfl, rfl, rfl, rfl, rfl, rfl, hkid, by simp, by simp, hgr⟩ (by simp; omega)
  rintro again1 ⟨a', sp', dp', d0', d1', d2', l', d4', out', i', v0, v1, v2, v3, v4, m, ts4, e4, nm', al', ty', hd2, f0', f1', f2', f3', f4'⟩ ⟨rfl, rfl, rfl, rfl, rfl, rfl, rfl, rfl, rfl, rfl, hv, j1, j2, j3⟩ ih1
  dsimp only at ih1
  have em : m < out'.length → IntKind.i64.wrap (m + 1) = m + 1 := fun h => aJ (m + 1) (by omega)
  have next : ∀ e5 : Int, m < out'.length → bI ts2 e2 ts4 e5 → Tot (again1 (a', sp', dp', d0', d1', d2', l', d4', out', i', v0, v1, v2, v3, v4, IntKind.i64.wrap (m + 1), ts4, e5, nm', al', ty', hd2, f0', f1', f2', f3', f4')) _ := fun e5 hm hg5 => ih1 (a', sp', dp', d0', d1', d2', l', d4', out', i', v0, v1, v2, v3, v4, IntKind.i64.wrap (m + 1), ts4, e5, nm', al', ty', hd2, f0', f1', f2', f3', f4')
   (by
    simp only [em hm]
    exact ⟨trivial, trivial, trivial, trivial, trivial, trivial, trivial, trivial, trivial, trivial, hv, by omega, by omega, hg5⟩) (by simp only [em hm]; omega)
  obtain ⟨q1, q2, q3, q4, q5, q6⟩ := hv.kids
  have behind : ∀ (e5 w0 w1 : Int) (w2 : List UInt8) (w3 : List aE) (w4 : List (List UInt8)), bh (.mk w0 w1 w2 w3 w4) → bI ts2 e2 ts4 e5 → Tot (aH (cn ts4 e5 w0 w1 w2 w3 w4 sp' (dp' + 1)) (fun r12 =>
      aH (cT v0 v1 v2 v3 v4 ([100, 101, 102, 97, 117, 108, 116] : List UInt8)) (fun r13 =>
       aH (cU r12.2.1 r12.2.2 v0 v1 v2 v3 v4 ([97, 108, 105, 97, 115, 101, 115] : List UInt8)) (fun r14 =>
        (fun z => aQ 2000 (dj 2000 again) z) (a', sp', dp', d0', d1', d2', l', d4', out', i', 0, r14.2.2.1, r14.2.2.2, nm', r14.1, r12.1, r13.2.2.2.2.2, r13.1, r13.2.1, r13.2.2.1, r13.2.2.2.1, r13.2.2.2.2.1))))) (fun z => ∃ (y0 : List aA) (y1 : Int) (rest : List aK), z.1.dimR = .tup [] ∧ z.2 = some [.ul .atype y0, .int .i64 y1] :: rest ∧ dE ts e c0 c1 c2 c3 c4 a' sp' dp' (y0, y1)) := by
   intro e5 w0 w1 w2 w3 w4 hw hg5
   refine aD (hT _ _ _ _ _ _ _ _ j3.cap hw (by omega)) ?_
   rintro ⟨k, ts5, e6⟩ ⟨-, x1, x2⟩
   dsimp only at x1 x2 ⊢
   refine aD (pd _ _ _ _ _ _ (by omega)) ?_
   rintro r ⟨-, hr⟩
   have hg := tR (k := v0) (names := v4) (name := [100, 101, 102, 97, 117, 108, 116]) q6
   simp only [ct] at hr
   rw [← hr] at hg
   refine aD (ajE _ _ _ _ _ _ _ _ hv) ?_
   rintro ⟨al, is, ts6, e7⟩ ⟨-, t1, t2, rfl, t3⟩
   dsimp only at t1 t2 t3 ⊢
   have hgg := hg5.trans x1
   have g7 : bI ts2 e2 ts6 e7 := by
    by_cases h7 : e7 = 0
    ·have h6 := t3 h7
     rw [h6] at hgg
     rw [h7]; exact hgg
    ·exact bI.stuck hgg.len hgg.cap h7
   exact inner2 ts6 e7 _ _ _ _ _ _ _ _ _ hil (i3.trans g7) t2 t1 (fun h0 => ⟨(i4 (g7.err h0)).mono g7.len, x2 (t3 h0)⟩) hg
  unfold ef iD
  dsimp only
  repeat' (first | (with_reducible refine aF ?_ ?_ <;> (intro hb; (try simp only [bnl] at hb); (try revert hb; intro _))) | with_reducible refine aU ?_ ?_ | with_reducible refine aG ?_ | (refine aD (co _ _ _) ?_; rintro _ ⟨-, rfl⟩; try dsimp only) | fail)
  all_goals first | (first | (simp only [bnl, lnl]; done) | (simp only [bnl, lnl]; omega)) | exact next _ (by omega) j3 | exact next _ (by omega) (bI.stuck j3.len j3.cap (nz (by decide))) | skip
  refine aD (pd _ _ _ _ _ _ (by omega)) ?_
  rintro r ⟨-, hr⟩
  have hg := tR (k := v0) (names := v4) (name := [116, 121, 112, 101]) q6
  simp only [ct] at hr
  rw [← hr] at hg
  repeat' (first | (with_reducible refine aF ?_ ?_ <;> (intro hb; (try simp only [bnl] at hb); (try revert hb; intro _))) | with_reducible refine aU ?_ ?_ | with_reducible refine aG ?_ | (refine aD (co _ _ _) ?_; rintro _ ⟨-, rfl⟩; try dsimp only) | fail)
  all_goals simp only [ed]
  ·exact behind _ _ _ _ _ _ hg (bI.stuck j3.len j3.cap (nz (by decide)))
  ·exact behind _ _ _ _ _ _ hg j3
 repeat' (first | (with_reducible refine aF ?_ ?_ <;> (intro hb; (try simp only [bnl] at hb); (try revert hb; intro _))) | with_reducible refine aU ?_ ?_ | with_reducible refine aG ?_ | (refine aD (co _ _ _) ?_; rintro _ ⟨-, rfl⟩; try dsimp only) | (refine aD (amd _ _ _ _ _ _ _ _ _ hkid) ?_; rintro ⟨w, ts3, e3⟩ ⟨-, w1, rfl, w2⟩; dsimp only at w1 w2 ⊢) | fail)
 all_goals first | (first | (simp only [bnl, lnl]; done) | (simp only [bnl, lnl]; omega)) | skip
 ·exact ⟨_, _, _, rfl, rfl, _, bI.stuck i3.len i3.cap (nz (by decide)), .inl rfl⟩
 ·rename_i he3
  have g0 : bI ts3 e2 ts3 e3 := by
   have := w2 he3
   subst this; rw [he3]; exact bI.refl i3.cap
  repeat' (first | (with_reducible refine aF ?_ ?_ <;> (intro hb; (try simp only [bnl] at hb); (try revert hb; intro _))) | with_reducible refine aU ?_ ?_ | with_reducible refine aG ?_ | (refine aD (agk _ (by omega)) ?_; intro _ _) | (refine aD (co _ _ _) ?_; rintro _ ⟨-, rfl⟩; try dsimp only) | fail)
  ·exact inner1 _ _ _ (by omega) (bI.stuck (Nat.le_refl _) i3.cap (nz (by decide)))
  ·exact inner1 _ _ _ (by omega) g0
 ·rename_i he3
  exact inner1 _ _ _ (by omega) (bI.stuck (Nat.le_refl _) i3.cap he3)
 all_goals first | (exfalso; omega) | skip
 all_goals first | (have := hat2 (by assumption); first | (simp only [bnl, lnl]; done) | (simp only [bnl, lnl]; omega)) | skip
 ·rename_i he
  exact ⟨_, _, _, rfl, rfl, _, i3, .inl rfl⟩
 ·rename_i he
  have hr := hat2 he
  have hl : a.toNat < ts2.length := by omega
  refine ⟨_, _, _, rfl, rfl, ts2, i3, .inr ⟨out, (i4 he).1, (i4 he).2, _, List.getElem?_eq_getElem hl, ?_⟩⟩
  rw [po (List.getElem?_eq_getElem hl)]
 ·exact ⟨_, _, _, rfl, rfl, _, i3, .inl rfl⟩
end Go.Proofs.Ytdpajabhmmmjoaa
end
noncomputable section
namespace Go.Proofs.Ytdpajabhmmmjoaa
open Go.AM
set_option autoImplicit false
set_option linter.unusedVariables false
set_option linter.unusedSimpArgs false
set_option maxRecDepth 100000
theorem awO (deep : Int) (hd : 1 ≤ deep ∧ deep ≤ 20) (hT : abA (deep + 1)) (ts : List aA) (e c0 c1 : Int) (c2 : List UInt8) (c3 : List aE) (c4 : List (List UInt8)) (k : Int) (space : List UInt8)
  (h : ts.length ≤ 60) (hn : bh (.mk c0 c1 c2 c3 c4)) (hs : (space.length : Int) ≤ 202 * deep) (hk : k ≠ 14) (hk2 : 1 ≤ k ∧ k ≤ 14) : ∃ r, iT ts e c0 c1 c2 c3 c4 k space deep r := by
 obtain ⟨k1, k2, k3, k4, k5, k6⟩ := hn.kids
 apply ae8 2000
 unfold qh gP
 have last : ∀ (sp : List UInt8) (e2 o0 : Int) (o1 : List UInt8) (o2 : List (List UInt8)), (sp.length : Int) ≤ 202 * deep + 201 → (e2 = 0 → e = 0) → o0 = k → Tot (eD 2000 (k, sp, deep, c0, c1, c2, c3, c4, ts, e2, o0, o1, o2, 0, [], false, [], 0, [], [])) (fun z => ∃ (y0 : Int) (y1 : List aA) (y2 : Int) (rest : List aK), z.1.dimR = .int .i64 y0 ∧ z.2 = some [.ul .atype y1, .int .i64 y2] :: rest ∧ ft ts e c0 c1 c2 c3 c4 k space deep (y0, y1, y2)) := by
  intro sp e2 o0 o1 o2 hsp he ho
  unfold eD
  dsimp only
  subst ho
  have tk : o0 ≠ 10 → iQ (ts.length + 1) ⟨o0, o1, o2, 0, [], false, [], 0, [], []⟩ := fun h10 => ⟨by simp only; omega, by simp, by simp, by simp, by simp, by simp, by simp, fun h => absurd h hk, hk2, fun h => absurd h h10⟩
  repeat' (first | (with_reducible refine aF ?_ ?_ <;> (intro hb; (try simp only [bnl] at hb); (try revert hb; intro _))) | with_reducible refine aU ?_ ?_ | with_reducible refine aG ?_ | fail)
  ·rename_i h2
   exact ⟨_, _, _, _, rfl, rfl, bI.stuck (Nat.le_refl _) h h2, fun h => absurd h h2⟩
  rename_i h2
  refine aD (ake _ _ _ _ _ _ _ _ _ _ _ _ h) ?_
  rintro r ⟨-, hr⟩
  have ho := md.add h hr
  clear hr
  obtain ⟨a, ts1, e1⟩ := r
  dsimp only at ho ⊢
  have hr1 : e1 = 0 → 0 ≤ a ∧ a < ts1.length := fun h0 => ho.range h0
  have wk : ∀ {ts' : List aA} {e' : Int}, bI ts e2 ts' e' → bI ts e ts' e' := fun g => g.weak he
  have wstuck : ∀ {c : Int}, c ≠ 0 → bI ts e ts1 (if e1 = 0 then c else e1) := fun hc => bI.stuck ho.len ho.cap (nz hc)
  repeat' (first | (with_reducible refine aF ?_ ?_ <;> (intro hb; (try simp only [bnl] at hb); (try revert hb; intro _))) | with_reducible refine aU ?_ ?_ | with_reducible refine aG ?_ | (refine aD (av4 deep hd hT _ _ _ _ _ _ _ _ _ ho.cap hn hsp hr1) ?_; rintro ⟨ts3, e3⟩ ⟨-, ts2, g1, g2⟩; dsimp only at g1 g2 ⊢) | (refine aD (auU _ _ _ _ _ _ _ _ hn hr1) ?_; rintro ⟨ts3, e3⟩ ⟨-, g1, g2⟩; dsimp only at g1 g2 ⊢) | fail)
  ·rename_i h9
   have h10 : o0 ≠ 10 := by omega
   have tk := tk h10
   have ho2 := ho.more g1
   have gk := ho2.kept tk
   refine ⟨_, _, _, _, rfl, rfl, ?_⟩
   rcases g2 with rfl | ⟨l, l1, l2, t, t1, rfl⟩
   ·exact ⟨wk gk, fun h0 => ho2.range h0⟩
   ·by_cases h0 : e3 = 0
    ·rw [ho2.get h0] at t1
     obtain rfl := Option.some.inj t1
     have hr := ho2.range h0
     refine ⟨wk (ho2.done h0 ⟨by simp only; omega, l2, l1, by simp, by simp, by simp, by simp, tk.done, tk.kind, tk.enum⟩), fun _ => ?_⟩
     simpa using hr
    ·exact ⟨bI.stuck (by simpa using gk.len) (by simpa using gk.cap) h0, fun h => absurd h h0⟩
  ·refine ⟨_, _, _, _, rfl, rfl, ?_⟩
   by_cases h0 : e3 = 0
   ·obtain ⟨l, h', d, l0, l1, t, t1, rfl⟩ := g2.2 h0
    have h1 := g1 h0
    rw [ho.get h1] at t1
    obtain rfl := Option.some.inj t1
    have hr := ho.range h1
    have := ho.done h1 (t := ⟨o0, o1, o2, 0, l, h', d, 0, [], []⟩) ⟨by simp only; omega, by simp, by simp, by simp, by simp, l1, by simp, fun h => absurd h hk, hk2, fun _ => l0⟩
    refine ⟨wk (by rw [h0]; rw [h1] at this; exact this), fun _ => ?_⟩
    simpa using hr
   ·have := g2.1 h0
    subst this
    exact ⟨bI.stuck ho.len ho.cap h0, fun h => absurd h h0⟩
  ·refine aD (pd _ _ _ _ _ _ (by omega)) ?_
   rintro r ⟨-, hr⟩
   clear hr
   repeat' (first | (with_reducible refine aF ?_ ?_ <;> (intro hb; (try simp only [bnl] at hb); (try revert hb; intro _))) | with_reducible refine aU ?_ ?_ | with_reducible refine aG ?_ | (refine aD (co _ _ _) ?_; rintro _ ⟨-, rfl⟩; try dsimp only) | fail)
   all_goals first | exact ⟨_, _, _, _, rfl, rfl, wstuck (by decide), fun h => absurd h (nz (by decide))⟩ | (have := hr1 (by assumption); first | (simp only [bnl, lnl]; done) | (simp only [bnl, lnl]; omega)) | (first | (simp only [bnl, lnl]; done) | (simp only [bnl, lnl]; omega)) | skip
   ·rename_i hz0 hz1 h0
    have hr := ho.range h0
    have tk := tk (by assumption)
    rw [po (ho.get h0)]
    refine ⟨_, _, _, _, rfl, rfl, wk (ho.done h0 ⟨by simp only; omega, by simp, by simp, by simp, by simp, by simp, by simp only; omega, tk.done, tk.kind, tk.enum⟩), fun _ => ?_⟩
    simpa using hr
   ·rename_i h0
    exact ⟨_, _, _, _, rfl, rfl, wk (ho.kept (tk (by assumption))), fun h => absurd h h0⟩
 have mid : ∀ (sp : List UInt8) (e2 : Int) (nm : List UInt8) (al : List (List UInt8)), (sp.length : Int) ≤ 202 * deep + 201 → (e2 = 0 → e = 0) → cm al → al.length ≤ 100 → Tot (aQ 2000 (eE 2000) (k, sp, deep, c0, c1, c2, c3, c4, al, 0, ts, e2, k, nm, [], 0, [], false, [], 0, [], [])) (fun z => ∃ (y0 : Int) (y1 : List aA) (y2 : Int) (rest : List aK), z.1.dimR = .int .i64 y0 ∧ z.2 = some [.ul .atype y1, .int .i64 y2] :: rest ∧ ft ts e c0 c1 c2 c3 c4 k space deep (y0, y1, y2)) := by
  intro sp e2 nm al hsp he hal hal2
  refine be (fun x => match x with | (k', sp', dp, d0, d1, d2, d3, d4, al', i, ts', e3, o0, o1, o2, o3, o4, o5, o6, o7, o8, o9) => k' = k ∧ sp' = sp ∧ dp = deep ∧ d0 = c0 ∧ d1 = c1 ∧ d2 = c2 ∧ d3 = c3 ∧ d4 = c4 ∧ al' = al ∧ 0 ≤ i ∧ i ≤ (al.length : Int) ∧ ts' = ts ∧ (e3 = 0 → e = 0) ∧ o0 = k ∧ (o2.length : Int) = i ∧ o3 = 0 ∧ o4 = [] ∧ o5 = false ∧ o6 = [] ∧ o7 = 0 ∧ o8 = [] ∧ o9 = []) (fun x => ((al.length : Int) - x.2.2.2.2.2.2.2.2.2.1).toNat) ?_ _ _
   ⟨rfl, rfl, rfl, rfl, rfl, rfl, rfl, rfl, rfl, by simp, by simp, rfl, he, rfl, rfl, rfl, rfl, rfl, rfl, rfl, rfl, rfl⟩ (by simp; omega)
  rintro again ⟨k', sp', dp, d0, d1, d2, d3, d4, al', i, ts', e3, o0, o1, o2, o3, o4, o5, o6, o7, o8, o9⟩ ⟨rfl, rfl, rfl, rfl, rfl, rfl, rfl, rfl, rfl, i1, i2, rfl, i3, rfl, i4, rfl, rfl, rfl, rfl, rfl, rfl, rfl⟩ ih
  dsimp only at ih
  have ew : i < al'.length → IntKind.i64.wrap (i + 1) = i + 1 := fun h => aJ (i + 1) (by omega)
  have next : ∀ (e5 : Int) (w : List UInt8), i < al'.length → (e5 = 0 → e = 0) → Tot (again (o0, sp', dp, d0, d1, d2, d3, d4, al', IntKind.i64.wrap (i + 1), ts', e5, o0, o1, o2 ++ [w], 0, [], false, [], 0, [], [])) _ := fun e5 w hi he5 => ih (o0, sp', dp, d0, d1, d2, d3, d4, al', IntKind.i64.wrap (i + 1), ts', e5, o0, o1, o2 ++ [w], 0, [], false, [], 0, [], [])
   (by
    simp only [ew hi, List.length_append, List.length_cons, List.length_nil]
    exact ⟨trivial, trivial, trivial, trivial, trivial, trivial, trivial, trivial, trivial, by omega, by omega, trivial, he5, trivial, by omega, trivial, trivial, trivial, trivial, trivial, trivial, trivial⟩) (by simp only [ew hi]; omega)
  have lst : ∀ e4 : Int, (e4 = 0 → e = 0) → Tot (eD 2000 (o0, sp', dp, d0, d1, d2, d3, d4, ts', e4, o0, o1, o2, 0, [], false, [], 0, [], [])) _ := fun e4 h4 => last sp' e4 o0 o1 o2 hsp h4 rfl
  unfold eE jI
  dsimp only
  have wn := agy hal i.toNat
  repeat' (first | (with_reducible refine aF ?_ ?_ <;> (intro hb; (try simp only [bnl] at hb); (try revert hb; intro _))) | with_reducible refine aU ?_ ?_ | with_reducible refine aG ?_ | (refine aD (co _ _ _) ?_; rintro _ ⟨-, rfl⟩; try dsimp only) | (refine aD (aqO _ _ _ _ wn (by omega)) ?_; rintro ⟨w, ts4, e4⟩ ⟨-, w1, rfl, w2⟩; dsimp only at w1 w2 ⊢) | (refine aD (atN _ _ _ h) ?_; rintro ⟨b, c, ts4, e4⟩ ⟨-, hq, hf⟩; simp only [Prod.mk.injEq] at hq; obtain ⟨rfl, rfl⟩ := hq; dsimp only at hf ⊢) | fail)
  all_goals first | (first | (simp only [bnl, lnl]; done) | (simp only [bnl, lnl]; omega)) | exact next _ _ (by omega) (fun h => i3 (w2 h)) | exact lst _ i3 | exact lst _ (fun h => absurd h (nz (by decide))) | skip
 refine aD (amd _ _ _ _ _ _ _ _ _ hn) ?_
 rintro ⟨nm, ts', e1⟩ ⟨-, w1, rfl, w2⟩
 dsimp only at w1 w2 ⊢
 refine aD (pd _ _ _ _ _ _ (by omega)) ?_
 rintro r ⟨-, hr⟩
 have hg := tR (k := c0) (names := c4) (name := [110, 97, 109, 101, 115, 112, 97, 99, 101]) k6
 simp only [ct] at hr
 rw [← hr] at hg
 have g1 := hg.kids.1
 have first : ∀ (sp : List UInt8) (e2 : Int), (sp.length : Int) ≤ 202 * deep → (e2 = 0 → e = 0) → Tot (kt 2000 (k, sp, deep, c0, c1, c2, c3, c4, nm, ts', e2)) (fun z => ∃ (y0 : Int) (y1 : List aA) (y2 : Int) (rest : List aK), z.1.dimR = .int .i64 y0 ∧ z.2 = some [.ul .atype y1, .int .i64 y2] :: rest ∧ ft ts' e c0 c1 c2 c3 c4 k space deep (y0, y1, y2)) := by
  intro sp e2 hsp he
  unfold kt jJ
  dsimp only
  repeat' (first | (with_reducible refine aF ?_ ?_ <;> (intro hb; (try simp only [bnl] at hb); (try revert hb; intro _))) | with_reducible refine aU ?_ ?_ | with_reducible refine aG ?_ | fail)
  ·rename_i h2
   exact ⟨_, _, _, _, rfl, rfl, bI.stuck (Nat.le_refl _) h h2, fun h => absurd h h2⟩
  refine aD (aqO _ _ _ _ w1 (by omega)) ?_
  rintro ⟨w, ts4, e4⟩ ⟨-, x1, rfl, x2⟩
  dsimp only at x1 x2 ⊢
  refine aD (av3 _ (by omega)) ?_
  rintro b ⟨-, hb⟩
  dsimp only [kV] at hb ⊢
  refine aD (ajE _ _ _ _ _ _ _ _ hn) ?_
  rintro ⟨al, is, ts6, e7⟩ ⟨-, t1, t2, rfl, t3⟩
  dsimp only at t1 t2 t3 ⊢
  exact mid _ _ _ _ (by omega) (fun h => he (x2 (t3 h))) t2 t1
 repeat' (first | (with_reducible refine aF ?_ ?_ <;> (intro hb; (try simp only [bnl] at hb); (try revert hb; intro _))) | with_reducible refine aU ?_ ?_ | with_reducible refine aG ?_ | (refine aD (co _ _ _) ?_; rintro _ ⟨-, rfl⟩; try dsimp only) | fail)
 ·exact first _ _ (by omega) (fun h => absurd h (nz (by decide)))
 ·exact first _ _ (by omega) w2
 ·exact first _ _ hs w2
theorem aqQ (deep : Int) (hd : 1 ≤ deep ∧ deep ≤ 21) (hT : deep ≤ 20 → abA (deep + 1)) : abA deep := by
 intro ts e c0 c1 c2 c3 c4 space h hn hs
 obtain ⟨k1, k2, k3, k4, k5, k6⟩ := hn.kids
 apply agx 2000
 unfold rE iY
 dsimp only
 have stuck : ∀ {c : Int}, c ≠ 0 → bI ts e ts (if e = 0 then c else e) := fun hc => bI.stuck (Nat.le_refl _) h (nz hc)
 repeat' (first | (with_reducible refine aF ?_ ?_ <;> (intro hb; (try simp only [bnl] at hb); (try revert hb; intro _))) | with_reducible refine aU ?_ ?_ | with_reducible refine aG ?_ | (refine aD (co _ _ _) ?_; rintro _ ⟨-, rfl⟩; try dsimp only) | (refine aD (aqP _ _ _ _ h k1 (by omega)) ?_; rintro ⟨a, ts', e'⟩ ⟨-, g1, g2⟩; dsimp only at g1 g2 ⊢) | (refine aD (awN deep (by omega) (hT (by omega)) _ _ _ _ _ _ _ _ h hn hs) ?_; rintro ⟨a, ts', e'⟩ ⟨-, g1, g2⟩; dsimp only at g1 g2 ⊢) | fail)
 all_goals first | exact ⟨_, _, _, _, rfl, rfl, stuck (by decide), fun h => absurd h (nz (by decide))⟩ | exact ⟨_, _, _, _, rfl, rfl, g1, g2⟩ | skip
 ·rename_i he
  exact ⟨_, _, _, _, rfl, rfl, bI.refl h, fun h => absurd h he⟩
 rename_i he hdd _ _ _
 have hT := hT (by omega)
 have ed : IntKind.i64.wrap (deep + 1) = deep + 1 := aJ (deep + 1) (by omega)
 refine aD (pd _ _ _ _ _ _ (by omega)) ?_
 rintro r ⟨-, hr⟩
 have hg := tR (k := c0) (names := c4) (name := [116, 121, 112, 101]) k6
 simp only [ct] at hr
 rw [← hr] at hg
 have hgk := hg.kids
 clear hr
 obtain ⟨d0, d1, d2, d3, d4, d5⟩ := r
 dsimp only at hg hgk ⊢
 have part : ∀ (word : List UInt8) (k a : Int) (ts1 : List aA) (e1 : Int), k ≠ 14 → (1 ≤ k ∧ k ≤ 14) → k ≠ 10 → md ts e ⟨k, [], [], 0, [], false, [], 0, [], []⟩ a ts1 e1 → Tot (gS 2000 (space, deep, c0, c1, c2, c3, c4, a, word, ts1, e1)) (fun z => ∃ (y0 : Int) (y1 : List aA) (y2 : Int) (rest : List aK), z.1.dimR = .int .i64 y0 ∧ z.2 = some [.ul .atype y1, .int .i64 y2] :: rest ∧ eB ts e c0 c1 c2 c3 c4 space deep (y0, y1, y2)) := by
  intro word k a ts1 e1 hk hk2 hk10 ho
  unfold gS
  dsimp only
  refine aD (pd _ _ _ _ _ _ (by omega)) ?_
  rintro r ⟨-, hr⟩
  have hg := tR (k := c0) (names := c4) (name := word) k6
  simp only [ct] at hr
  rw [← hr] at hg
  clear hr
  repeat' (first | (with_reducible refine aF ?_ ?_ <;> (intro hb; (try simp only [bnl] at hb); (try revert hb; intro _))) | with_reducible refine aU ?_ ?_ | with_reducible refine aG ?_ | (refine aD (co _ _ _) ?_; rintro _ ⟨-, rfl⟩; try dsimp only) | fail)
  ·exact ⟨_, _, _, _, rfl, rfl, bI.stuck ho.len ho.cap (nz (by decide)), fun h => absurd h (nz (by decide))⟩
  simp only [ed]
  refine aD (hT _ _ _ _ _ _ _ _ ho.cap hg (by omega)) ?_
  rintro ⟨i, ts2, e2⟩ ⟨-, x1, x2⟩
  dsimp only at x1 x2 ⊢
  have ho2 := ho.more x1
  have hr2 : e2 = 0 → 0 ≤ a ∧ a < ts2.length := fun h0 => ho2.range h0
  repeat' (first | (with_reducible refine aF ?_ ?_ <;> (intro hb; (try simp only [bnl] at hb); (try revert hb; intro _))) | with_reducible refine aU ?_ ?_ | with_reducible refine aG ?_ | fail)
  all_goals first | (have := hr2 (by assumption); first | (simp only [bnl, lnl]; done) | (simp only [bnl, lnl]; omega)) | (first | (simp only [bnl, lnl]; done) | (simp only [bnl, lnl]; omega)) | skip
  ·rename_i h0
   have hr := ho2.range h0
   rw [po (ho2.get h0)]
   refine ⟨_, _, _, _, rfl, rfl, ho2.done h0 ⟨x2 h0, by simp, by simp, by simp, by simp, by simp, by simp, fun h => absurd h hk, hk2, fun h => absurd h hk10⟩, fun _ => ?_⟩
   simpa using hr
  ·rename_i h0
   exact ⟨_, _, _, _, rfl, rfl, ho2.stuck h0, fun h => absurd h h0⟩
 have txt : Tot (gT 2000 (space, d0, d1, d2, d3, d4, ts, e)) (fun z => ∃ (y0 : Int) (y1 : List aA) (y2 : Int) (rest : List aK), z.1.dimR = .int .i64 y0 ∧ z.2 = some [.ul .atype y1, .int .i64 y2] :: rest ∧ eB ts e c0 c1 c2 c3 c4 space deep (y0, y1, y2)) := by
  unfold gT
  dsimp only
  refine aD (aqP _ _ _ _ h hgk.1 (by omega)) ?_
  rintro ⟨a, ts', e'⟩ ⟨-, g1, g2⟩
  exact aG ⟨_, _, _, _, rfl, rfl, g1, g2⟩
 have one : ∀ b : Bool, (b = true → d2 = [97, 114, 114, 97, 121] ∨ d2 = [109, 97, 112]) → Tot (gU 2000 (space, deep, c0, c1, c2, c3, c4, d0, d1, d2, d3, d4, b, ts, e)) (fun z => ∃ (y0 : Int) (y1 : List aA) (y2 : Int) (rest : List aK), z.1.dimR = .int .i64 y0 ∧ z.2 = some [.ul .atype y1, .int .i64 y2] :: rest ∧ eB ts e c0 c1 c2 c3 c4 space deep (y0, y1, y2)) := by
  intro b hb
  unfold gU kw
  dsimp only
  refine aF (fun h1 => ?_) (fun h1 => txt)
  refine aD (al9 _) ?_
  rintro (k : Int) ⟨-, hk1, hk2, hk3, hk4, hk5⟩
  have hb := hb h1
  have hk : k ≠ 14 := fun h => by have := hk3 h; subst this; revert hb; decide
  have hk10 : k ≠ 10 := fun h => by have := hk5 h; subst this; revert hb; decide
  have hk0 : k ≠ 0 := fun h => by
   rcases hb with hb | hb
   ·exact hk4 h 11 (by decide) hb.symm
   ·exact hk4 h 12 (by decide) hb.symm
  refine aD (ake _ _ _ _ _ _ _ _ _ _ _ _ h) ?_
  rintro r ⟨-, hr⟩
  have ho := md.add h hr
  clear hr
  obtain ⟨a, ts1, e1⟩ := r
  dsimp only at ho ⊢
  repeat' (first | (with_reducible refine aF ?_ ?_ <;> (intro hb; (try simp only [bnl] at hb); (try revert hb; intro _))) | with_reducible refine aU ?_ ?_ | with_reducible refine aG ?_ | fail)
  all_goals exact part _ k _ _ _ hk (by omega) hk10 ho
 have zero : ∀ b : Bool, (b = true → d2 = [114, 101, 99, 111, 114, 100] ∨ d2 = [101, 110, 117, 109] ∨ d2 = [102, 105, 120, 101, 100]) → Tot (lH 2000 (space, deep, c0, c1, c2, c3, c4, d0, d1, d2, d3, d4, d2, b, ts, e)) (fun z => ∃ (y0 : Int) (y1 : List aA) (y2 : Int) (rest : List aK), z.1.dimR = .int .i64 y0 ∧ z.2 = some [.ul .atype y1, .int .i64 y2] :: rest ∧ eB ts e c0 c1 c2 c3 c4 space deep (y0, y1, y2)) := by
  intro b hb
  unfold lH kz
  dsimp only
  refine aF (fun h1 => ?_) (fun h1 => aF (fun h2 => one _ fun _ => ?_) (fun h2 => one _ fun h3 => ?_))
  ·refine aD (al9 _) ?_
   rintro (k : Int) ⟨-, hk1, hk2, hk3, hk4, hk5⟩
   have hb := hb h1
   have hk : k ≠ 14 := fun h => by have := hk3 h; subst this; revert hb; decide
   have hk0 : k ≠ 0 := fun h => by
    rcases hb with hb | hb | hb
    ·exact hk4 h 8 (by decide) hb.symm
    ·exact hk4 h 9 (by decide) hb.symm
    ·exact hk4 h 10 (by decide) hb.symm
   refine aD (awO deep (by omega) hT _ _ _ _ _ _ _ _ _ h hn hs hk (by omega)) ?_
   rintro ⟨a, ts', e'⟩ ⟨-, g1, g2⟩
   exact aG ⟨_, _, _, _, rfl, rfl, g1, g2⟩
  ·exact .inl (of_decide_eq_true h2)
  ·exact .inr (of_decide_eq_true h3)
 repeat' (first | (with_reducible refine aF ?_ ?_ <;> (intro hb; (try simp only [bnl] at hb); (try revert hb; intro _))) | with_reducible refine aU ?_ ?_ | with_reducible refine aG ?_ | (refine aD (co _ _ _) ?_; rintro _ ⟨-, rfl⟩; try dsimp only) | fail)
 ·exact ⟨_, _, _, _, rfl, rfl, stuck (by decide), fun h => absurd h (nz (by decide))⟩
 ·simp only [ed]
  refine aD (hT _ _ _ _ _ _ _ _ h hg (by omega)) ?_
  rintro ⟨a, ts', e'⟩ ⟨-, g1, g2⟩
  exact aG ⟨_, _, _, _, rfl, rfl, g1, g2⟩
 all_goals refine zero _ fun hb => ?_
 ·exact .inl (by first | assumption | exact of_decide_eq_true hb)
 ·exact .inr (.inl (by first | assumption | exact of_decide_eq_true hb))
 ·exact .inr (.inr (by first | assumption | exact of_decide_eq_true hb))
theorem atQ : ∀ (n : Nat) (deep : Int), deep + n = 21 → 1 ≤ deep → abA deep
 | 0, deep, h, h1 => aqQ deep (by omega) (fun h' => by omega)
 | n + 1, deep, h, h1 => aqQ deep (by omega) (fun _ => atQ n (deep + 1) (by omega) (by omega))
theorem axE (c0 c1 : Int) (c2 : List UInt8) (c3 : List aE) (c4 : List (List UInt8)) (hn : bh (.mk c0 c1 c2 c3 c4)) : ∃ r, sI c0 c1 c2 c3 c4 r := by
 apply apU 1
 unfold aaB aht
 refine aD (atQ 20 1 (by omega) (by omega) _ _ _ _ _ _ _ _ (by simp) hn (by simp)) ?_
 rintro ⟨a, ts', e'⟩ ⟨-, g1, g2⟩
 dsimp only at g1 g2 ⊢
 repeat' (first | (with_reducible refine aF ?_ ?_ <;> (intro hb; (try simp only [bnl] at hb); (try revert hb; intro _))) | with_reducible refine aU ?_ ?_ | with_reducible refine aG ?_ | fail)
 ·rename_i h0
  exact ⟨_, _, _, rfl, rfl, fun h => absurd h h0⟩
 ·rename_i h0
  exact ⟨_, _, _, rfl, rfl, fun _ => by have g2 := g2 h0; rw [h0] at g1; exact g1.sch (by omega)⟩
end Go.Proofs.Ytdpajabhmmmjoaa
end
