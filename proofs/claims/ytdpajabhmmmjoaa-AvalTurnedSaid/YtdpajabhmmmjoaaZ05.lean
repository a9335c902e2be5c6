import Derived.KernelRfl
import Derived.Test.YtdpajabhmmmjoaaZ02
import Derived.Test.YtdpajabhmmmjoaaZ03
import Derived.Test.YtdpajabhmmmjoaaZ04
noncomputable section
namespace Go.Proofs.Ytdpajabhmmmjoaa
open Go.AM
set_option autoImplicit false
set_option linter.unusedVariables false
set_option maxRecDepth 100000
noncomputable def pd : aO := tab (P := Try.prog) [] [] [] []
def aag : IR := Sq (Rs [Mv 7 3, Bc 8 .geq 7 0] (Cn 8 .skip (.exit 0))) (Sq (.block 1 (Rs [Mv 11 0, Mv 12 3, Pp (.idx 13 11 12), Pp (.bin 14 .eql 13 (.c (.int .u8 46)))] (Cn 14 (Rs [Mv 15 0, Mv 16 3, Pp (.subs 17 15 none (some 16)), Mv 2 17] .ret) .skip))) (Rg [Mv 9 3, Bc 10 .sub 9 1, Mv 3 10]))
def aah : IR := Rs [Ms 2 []] .ret
def wW : IR := Rs [Ms 2 []] (Sq (Rs [Mv 4 0, Pp (.lens 5 4), Bc 6 .sub 5 1, Mv 3 6] (.block 0 (.loop [0, 3, 1000000] 0 aag))) aah)
def rK : List RV := [.t 2]
theorem alp : FnC Try.prog pd [] 0 ada Try.f142 wW rK := fnC (by kernel_rfl) Try.func142 (by kernel_rfl) (by kernel_rfl) (by decide)
def ajU (R : IR → (Ex → St → Ro) → St → Ro) (a : St → Ro) : Ex → St → Ro := (bM a [0, 3, 1000000] 0 (aT 0 (bx (R aah) (fin rK))))
abbrev mi : Type := (Bs × Int)
def ll : mi → St := fun (a, b) => { env := (.str a :: .undef :: .undef :: .int .i64 b :: (U 14 [])), hp := [] }
def vj (N : Nat) : (St → Ro) → St → Ro := fun a s => run pd N aag (ajU (run pd N) a) s
def pW (N : Nat) (a : mi → Ro) : mi → Ro := fun (c, b) =>
 cond (decide (0 ≤ b)) (
 chk ((decide (0 ≤ b) && decide (b < ↑(List.length c)))) (
 let d : Int := (↑(UInt8.toNat (List.getD c (Int.toNat b) 0)) : Int)
 cond (d == 46) (
 chk ((decide (0 ≤ b) && decide (b ≤ (↑(List.length c) : Int)))) (
 let e : Bs := (List.drop 0 (List.take (Int.toNat b) c))
 some (.str e, []))) (
 let f : Int := (IntKind.wrap .i64 (b - 1))
 a (c, f)))) (
 some (.str ([] : Bs), []))
theorem aix (N : Nat) : ∀ (a : St → Ro) (x : mi), vj N a (ll x) = pW N (fun y => a (ll y)) x := by
 intro a x
 kernel_rfl
def np (N : Nat) (a : Bs) (b : mi → Ro) : Ro :=
 let c : Int := (↑(List.length a) : Int)
 let d : Int := (IntKind.wrap .i64 (c - 1))
 b (a, d)
def wX (N : Nat) (a : Bs) : Ro := np N a (fun z => aS N (pW N) z)
def am8 (N : Nat) : List (Nat × (St → Ro)) := ba pd N wW (fin rK) ++ []
theorem ajV (N : Nat) (a : Bs) : bc pd N 18 rK wW [.str a] [] = wX N a :=
 (bU (am8 N) (by kernel_rfl) rfl (fun C => np N a (fun z => C 1000000 (ll z))) (fun C => by kernel_rfl)).trans (Eq.trans (b := np N a (fun z => bo N (vj N) (ll z))) (by kernel_rfl) (congrArg (np N a) (funext fun z => bj (ll) (vj N) (pW N) (aix N) N z)))
theorem ajW (N : Nat) (a : Bs) (h : Tot (wX N a) (fun z => ∃ (b : Bs) (rest : List aL), z.1.dimR = .str b ∧ z.2 = rest ∧ lj a (b))) : ∃ r, oU a r := by
 obtain ⟨⟨v, hp⟩, hz, b, rest, e1, e2, hq⟩ := h
 simp only at e1 e2
 subst e2
 exact ⟨(b), aI.dimR (alp.pure (ajV N a) hz) e1, hq⟩
noncomputable def ajh : aO := tab (P := Try.prog) [] [] [] [aqf]
def ahQ : IR := Rs [Bx 2 0, Ms 4 []] (Sq (Rs [Mv 5 1, Bc 6 .lss 5 0, Mv 7 6, Gf 7 (.mov 8 1), Gf 7 (.fad 9 0 2), Gf 7 (.lde 10 1 false 9), Gf 7 (.lenl 11 10), Gf 7 (.bin 12 .geq 8 11), Po 13 7 12] (Cn 13 (Rs [Ms 4 []] .ret) .skip)) (Sq (Rs [Fa 14 0 2, Lq 15 14, Mv 16 1, Ix 17 .atype 15 16, Fa 18 1 17, Lo 19 18, Pp (.bin 20 .neq 19 (kS []))] (Cn 20 (Rs [Fa 21 0 2, Lq 22 21, Mv 23 1, Ix 24 .atype 22 23, Fa 25 1 24, Lo 26 25, Mv 4 26] .ret) .skip)) (Rs [Fa 27 0 2, Lq 28 27, Mv 29 1, Ix 30 .atype 28 29, Fa 31 0 30, Lo 32 31, Ca 33 158 [32], Mv 4 33] .ret)))
def ahR : List RV := [.t 4]
theorem aqL : FnC Try.prog ajh [] 0 ai5 Try.f139 ahQ ahR := fnC (by kernel_rfl) Try.func139 (by kernel_rfl) (by kernel_rfl) (by decide)
def ahS (N : Nat) (a : List aA) (b : Int)  : Ro :=
 cond (decide (b < 0)) (
 some (.str ([] : Bs), [])) (
 let f : Int := (↑(List.length a) : Int)
 cond (decide (f ≤ b)) (
 some (.str ([] : Bs), [])) (
 chk ((decide (0 ≤ b) && decide (b < ↑(List.length a)))) (
 let g : Bs := (List.getD a (Int.toNat b) (aC .atype)).name
 let c : Bool := (!decide (g = ([] : Bs)))
 cond c (
 chk ((decide (0 ≤ b) && decide (b < ↑(List.length a)))) (
 let d : Bs := (List.getD a (Int.toNat b) (aC .atype)).name
 some (.str d, []))) (
 chk ((decide (0 ≤ b) && decide (b < ↑(List.length a)))) (
 let e : Int := (List.getD a (Int.toNat b) (aC .atype)).kind
 aG (sB e) (fun (h : Bs) =>
 some (.str h, [])))))))
def abh (N : Nat) (a : List aA) (b : Int) : Ro := ahS N a b
theorem ao2 (N : Nat) (a : List aA) (b : Int) : bc ajh N 34 ahR ahQ [.agg [.sl .atype (.may false) a], .int .i64 b] [] = abh N a b := by kernel_rfl
theorem ao3 (N : Nat) (a : List aA) (b : Int) (h : Tot (abh N a b) (fun z => ∃ (c : Bs) (rest : List aL), z.1.dimR = .str c ∧ z.2 = rest)) : ∃ r, rc a b r := by
 obtain ⟨⟨v, hp⟩, hz, c, rest, e1, e2⟩ := h
 simp only at e1 e2
 subst e2
 exact ⟨(c), aI.dimR (aqL.pure (ao2 N a b) hz) e1⟩
noncomputable def jj : aO := tab (P := Try.prog) [] [cS] [] [aro, aqh]
def um : IR := Sq (Rs [Mv 12 8, Mv 13 1, Pp (.lens 14 13), Bi 15 .lss 12 14] (Cn 15 .skip (.exit 0))) (Sq (.block 1 (Rs [Mv 18 1, Mv 19 8, Pp (.idx 20 18 19), Pp (.bin 21 .eql 20 (.c (.int .u8 46)))] (Cn 21 (Rg [Mv 22 1, Mv 7 22]) .skip))) (Rg [Mv 16 8, Bc 17 .add 16 1, Mv 8 17]))
def uo : IR := Sq (Rs [Mv 23 1, Pp (.bin 24 .eql 23 (kS [])), Mv 25 24, Gf 25 (.mov 26 7), Gf 25 (.call 27 160 [26]), Gf 25 (.un 28 .not 27), Po 29 25 28] (Cn 29 (Rg [Mv 30 0, Ca 31 110 [30, kI 6]]) .skip)) (Rs [Mv 32 7, Mv 6 32] .ret)
def pX : IR := Rs [Ms 6 []] (Rs [Mv 9 2, Mv 10 1, Ca 11 159 [9, 10], Mv 7 11] (Sq (Rs [Mi 8 0] (.block 0 (.loop [0, 1, 7, 8, 1000000] 1 um))) uo))
def lG : List RV := [.t 6]
theorem aeK : FnC Try.prog jj [110, 2000110] 1 xu Try.f141 pX lG := fnC (by kernel_rfl) Try.func141 (by kernel_rfl) (by kernel_rfl) (by decide)
def adu (R : IR → (Ex → St → Ro) → St → Ro) (a : St → Ro) : Ex → St → Ro := (bM a [0, 1, 7, 8, 1000000] 1 (aT 0 (bx (R uo) (fin lG))))
abbrev gr : Type := (Bs × Bs × Int × List aA × Int)
def fO : gr → St := fun (a, b, c, d, e) => { env := (.ptr 0 0 :: .str a :: (U 5 (.str b :: .int .i64 c :: (U 24 [])))), hp := [some [.ul .atype d, .int .i64 e]] }
def pe (N : Nat) : (St → Ro) → St → Ro := fun a s => run jj N um (adu (run jj N) a) s
def kD (N : Nat) (c : gr → Ro) : gr → Ro := fun (d, f, e, a, b) =>
 let i : Int := (↑(List.length d) : Int)
 cond (decide (e < i)) (
 chk ((decide (0 ≤ e) && decide (e < ↑(List.length d)))) (
 let j : Int := (↑(UInt8.toNat (List.getD d (Int.toNat e) 0)) : Int)
 cond (j == 46) (
 let k : Int := (IntKind.wrap .i64 (e + 1))
 c (d, d, k, a, b)) (
 let l : Int := (IntKind.wrap .i64 (e + 1))
 c (d, f, l, a, b)))) (
 let m : Bool := decide (d = ([] : Bs))
 cond m (
 aG (aK a b 6) (fun g =>
 some (.str f, [some [.ul .atype g.2.1, .int .i64 g.2.2]]))) (
 aG (sC f) (fun (n : Bool) =>
 cond (!n) (
 aG (aK a b 6) (fun h =>
 some (.str f, [some [.ul .atype h.2.1, .int .i64 h.2.2]]))) (
 some (.str f, [some [.ul .atype a, .int .i64 b]])))))
theorem acr (N : Nat) : ∀ (a : St → Ro) (x : gr), pe N a (fO x) = kD N (fun y => a (fO y)) x := by
 intro a x
 kernel_rfl
def gX (N : Nat) (a : List aA) (b : Int) (c d : Bs) (e : gr → Ro) : Ro :=
 aG (uf d c) (fun (f : Bs) =>
 e (c, f, 0, a, b))
def pY (N : Nat) (a : List aA) (b : Int) (c d : Bs) : Ro := gX N a b c d (fun z => aS N (kD N) z)
def agh (N : Nat) : List (Nat × (St → Ro)) := ba jj N pX (fin lG) ++ []
theorem adv (N : Nat) (a : List aA) (c : Int) (d e : Bs) : bc jj N 33 lG pX [.ptr 0 0, .str d, .str e] [some [.ul .atype a, .int .i64 c]] = pY N a c d e :=
 (bU (agh N) (by kernel_rfl) rfl (fun C => gX N a c d e (fun z => C 1000000 (fO z))) (fun C => by kernel_rfl)).trans (Eq.trans (b := gX N a c d e (fun z => bo N (pe N) (fO z))) (by kernel_rfl) (congrArg (gX N a c d e) (funext fun z => bj (fO) (pe N) (kD N) (acr N) N z)))
theorem adw (N : Nat) (a : List aA) (b : Int) (e f : Bs) (h : Tot (pY N a b e f) (fun z => ∃ (g : Bs) (c : List aA) (d : Int) (rest : List aL), z.1.dimR = .str g ∧ z.2 = some [.ul .atype c, .int .i64 d] :: rest ∧ uc a b e f (g, c, d))) : ∃ r, fG a b e f r := by
 obtain ⟨⟨v, hp⟩, hz, g, c, d, rest, e1, e2, hq⟩ := h
 simp only at e1 e2
 subst e2
 exact ⟨(g, c, d), bl.dimR (FnC.objs (css := [[.ul .atype a, .int .i64 b]]) (css' := [[.ul .atype c, .int .i64 d]]) aeK (adv N a b e f) hz rfl) e1, hq⟩
noncomputable def y8 : aO := tab (P := Try.prog) [] [cS] [] [pS]
def xA : IR := Rs [Bx 5 1, Ms 8 []] (Rs [Ld 12 5 true 5, Mv 13 2, Ca 14 113 [12, 13], Mv 11 14, Ex_ 15 0 11, Ex_ 16 1 11, Pp (.alr 9 5), Fz 9 5 15, Mv 10 16] (Sq (Rs [Mv 17 10, Un 18 17, Mv 19 18, Gt 19 (.mov 20 3), Gt 19 (.un 21 .not 20), Pa 22 19 21] (Cn 22 (Rs [Ms 8 []] .ret) .skip)) (Sq (Rs [Mv 23 10, Un 24 23, Mv 25 24, Gf 25 (.fad 26 0 9), Gf 25 (.lde 27 1 false 26), Gf 25 (.bin 28 .neq 27 (kI 4)), Po 29 25 28] (Cn 29 (Rs [Mv 30 0, Ca 31 110 [30, kI 2]] (Rs [Ms 8 []] .ret)) .skip)) (Rs [Fa 32 2 9, Lq 33 32, Mv 8 33] .ret))))
def xB : List RV := [.t 8]
theorem agi : FnC Try.prog y8 [110, 2000110] 1 yQ Try.f140 xA xB := fnC (by kernel_rfl) Try.func140 (by kernel_rfl) (by kernel_rfl) (by decide)
def xC (N : Nat) (a : List aA) (b d e : Int) (f : Bs) (g : List aD) (h : Bss) (m : Bs) (n : Bool)  : Ro :=
 aG (db d e f g h m) (fun c =>
 cond (!c.2.2.2.2.2) (
 cond (!n) (
 some (.str ([] : Bs), [some [.ul .atype a, .int .i64 b]])) (
 cond (!c.2.2.2.2.2) (
 aG (aK a b 2) (fun i =>
 some (.str ([] : Bs), [some [.ul .atype i.2.1, .int .i64 i.2.2]]))) (
 cond (!(c.1 == 4)) (
 aG (aK a b 2) (fun j =>
 some (.str ([] : Bs), [some [.ul .atype j.2.1, .int .i64 j.2.2]]))) (
 some (.str c.2.2.1, [some [.ul .atype a, .int .i64 b]]))))) (
 cond (!c.2.2.2.2.2) (
 aG (aK a b 2) (fun k =>
 some (.str ([] : Bs), [some [.ul .atype k.2.1, .int .i64 k.2.2]]))) (
 cond (!(c.1 == 4)) (
 aG (aK a b 2) (fun l =>
 some (.str ([] : Bs), [some [.ul .atype l.2.1, .int .i64 l.2.2]]))) (
 some (.str c.2.2.1, [some [.ul .atype a, .int .i64 b]])))))
def rl (N : Nat) (a : List aA) (b c d : Int) (e : Bs) (f : List aD) (g : Bss) (h : Bs) (i : Bool) : Ro := xC N a b c d e f g h i
theorem aeL (N : Nat) (a : List aA) (b c d : Int) (e : Bs) (f : List aD) (g : Bss) (h : Bs) (i : Bool) : bc y8 N 34 xB xA [.ptr 0 0, .agg [.int .i64 c, .int .i64 d, .str e, .sl .jnode (.may false) f, .sl .str (.may false) g], .str h, .bool i] [some [.ul .atype a, .int .i64 b]] = rl N a b c d e f g h i := by kernel_rfl
theorem aeM (N : Nat) (a : List aA) (b c d : Int) (e : Bs) (f : List aD) (g : Bss) (k : Bs) (l : Bool) (h : Tot (rl N a b c d e f g k l) (fun z => ∃ (m : Bs) (i : List aA) (j : Int) (rest : List aL), z.1.dimR = .str m ∧ z.2 = some [.ul .atype i, .int .i64 j] :: rest ∧ vE a b c d e f g k l (m, i, j))) : ∃ r, dO a b c d e f g k l r := by
 obtain ⟨⟨v, hp⟩, hz, m, i, j, rest, e1, e2, hq⟩ := h
 simp only at e1 e2
 subst e2
 exact ⟨(m, i, j), bl.dimR (FnC.objs (css := [[.ul .atype a, .int .i64 b]]) (css' := [[.ul .atype i, .int .i64 j]]) agi (aeL N a b c d e f g k l) hz rfl) e1, hq⟩
noncomputable def jk : aO := tab (P := Try.prog) [] [cS] [] [pS]
def uq : IR := Sq (Rs [Mv 25 11, Fa 26 3 8, Lq 27 26, Ll 28 27, Bi 29 .lss 25 28, Mv 30 29, Gt 30 (.mov 31 0), Gt 30 (.nck 32 31), Gt 30 (.fad 33 1 32), Gt 30 (.ld 34 1 false false 33), Gt 30 (.bin 35 .eql 34 (kI 0)), Pa 36 30 35] (Cn 36 .skip (.exit 0))) (Sq (.block 1 (Sq (Rs [Fa 39 3 8, Lq 40 39, Mv 41 11, Ix 42 .jnode 40 41, Fa 43 0 42, Lo 44 43, Bc 45 .neq 44 4] (Cn 45 (Rg [Mv 46 0, Ca 47 110 [46, kI 2]]) .skip)) (Rg [Pp (.mov 48 (.tk 10)), Fa 49 3 8, Lq 50 49, Mv 51 11, Ix 52 .jnode 50 51, Fa 53 2 52, Lo 54 53, Pp (.bsl 55 .str [54] true), Pp (.app 56 .str (.tk 48) 55), Pp (.mov 10 (.tk 56))]))) (Rg [Mv 37 11, Bc 38 .add 37 1, Mv 11 38]))
def tG : IR := Rs [Mv 57 10, Mv 6 57, Mb 7 true] .ret
def pZ : IR := Rs [Bx 4 1, Pp (.mov 6 (.c (nl .str))), Mb 7 false] (Rs [Ld 13 5 true 4, Mv 14 2, Ca 15 113 [13, 14], Mv 12 15, Ex_ 16 0 12, Ex_ 17 1 12, Pp (.alr 8 5), Fz 8 5 16, Mv 9 17] (Sq (Rs [Mv 18 9, Un 19 18] (Cn 19 (Rs [Pp (.mov 6 (.c (nl .str))), Mb 7 false] .ret) .skip)) (Sq (Rs [Fa 20 0 8, Lq 21 20, Bc 22 .neq 21 5] (Cn 22 (Rg [Mv 23 0, Ca 24 110 [23, kI 2]]) .skip)) (Rs [Pp (.mov 10 (.c (nl .str)))] (Sq (Rs [Mi 11 0] (.block 0 (.loop [0, 8, 10, 11, 1000000] 1 uq))) tG)))))
def lH : List RV := [.t 6, .t 7]
theorem aeN : FnC Try.prog jk [110, 2000110] 1 xr Try.f143 pZ lH := fnC (by kernel_rfl) Try.func143 (by kernel_rfl) (by kernel_rfl) (by decide)
def adx (R : IR → (Ex → St → Ro) → St → Ro) (a : St → Ro) : Ex → St → Ro := (bM a [0, 8, 10, 11, 1000000] 1 (aT 0 (bx (R tG) (fin lH))))
abbrev gt : Type := (Int × Int × Bs × List aD × Bss × Bss × Int × List aA × Int)
def fP : gt → St := fun (a, b, c, d, e, f, g, h, i) => { env := (.ptr 0 0 :: (U 7 (.ea [.int .i64 a, .int .i64 b, .str c, .sl .jnode (.may false) d, .sl .str (.may false) e] :: .undef :: .sl .str .own f :: .int .i64 g :: (U 46 [])))), hp := [some [.ul .atype h, .int .i64 i]] }
def pf (N : Nat) : (St → Ro) → St → Ro := fun a s => run jk N uq (adx (run jk N) a) s
def gu (N : Nat) (d : gt → Ro) : gt → Ro := fun (g, h, i, a, j, f, b, e, c) =>
 let r : Int := (↑(List.length a) : Int)
 cond (decide (b < r)) (
 cond (c == 0) (
 chk ((decide (0 ≤ b) && decide (b < ↑(List.length a)))) (
 let t : Int := (List.getD a (Int.toNat b) (aC .jnode)).kind
 cond (!(t == 4)) (
 aG (aK e c 2) (fun p =>
 chk ((decide (0 ≤ b) && decide (b < ↑(List.length a)))) (
 let q : Bs := (List.getD a (Int.toNat b) (aC .jnode)).s
 chk (decide ((List.length f + List.length ([q] : Bss)) * 16 ≤ 140737488355328)) (
 let l : Bss := (f ++ ([q] : Bss))
 let m : Int := (IntKind.wrap .i64 (b + 1))
 d (g, h, i, a, j, l, m, p.2.1, p.2.2))))) (
 chk ((decide (0 ≤ b) && decide (b < ↑(List.length a)))) (
 let k : Bs := (List.getD a (Int.toNat b) (aC .jnode)).s
 chk (decide ((List.length f + List.length ([k] : Bss)) * 16 ≤ 140737488355328)) (
 let n : Bss := (f ++ ([k] : Bss))
 let o : Int := (IntKind.wrap .i64 (b + 1))
 d (g, h, i, a, j, n, o, e, c)))))) (
 some (.tup [.sl .str (.may false) f, .bool true], [some [.ul .atype e, .int .i64 c]]))) (
 some (.tup [.sl .str (.may false) f, .bool true], [some [.ul .atype e, .int .i64 c]]))
theorem acs (N : Nat) : ∀ (a : St → Ro) (x : gt), pf N a (fP x) = gu N (fun y => a (fP y)) x := by
 intro a x
 kernel_rfl
def gY (N : Nat) (b : List aA) (c d e : Int) (f : Bs) (g : List aD) (h : Bss) (k : Bs) (i : gt → Ro) : Ro :=
 aG (db d e f g h k) (fun a =>
 cond (!a.2.2.2.2.2) (
 some (.tup [.sl .str (.may false) ([] : Bss), .bool false], [some [.ul .atype b, .int .i64 c]])) (
 cond (!(a.1 == 5)) (
 aG (aK b c 2) (fun j =>
 i (a.1, a.2.1, a.2.2.1, a.2.2.2.1, a.2.2.2.2.1, ([] : Bss), 0, j.2.1, j.2.2))) (
 i (a.1, a.2.1, a.2.2.1, a.2.2.2.1, a.2.2.2.2.1, ([] : Bss), 0, b, c))))
def p5 (N : Nat) (a : List aA) (b c d : Int) (e : Bs) (f : List aD) (g : Bss) (h : Bs) : Ro := gY N a b c d e f g h (fun z => aS N (gu N) z)
def agj (N : Nat) : List (Nat × (St → Ro)) := ba jk N pZ (fin lH) ++ []
theorem ady (N : Nat) (a : List aA) (c d e : Int) (f : Bs) (g : List aD) (h : Bss) (i : Bs) : bc jk N 58 lH pZ [.ptr 0 0, .agg [.int .i64 d, .int .i64 e, .str f, .sl .jnode (.may false) g, .sl .str (.may false) h], .str i] [some [.ul .atype a, .int .i64 c]] = p5 N a c d e f g h i :=
 (bU (agj N) (by kernel_rfl) rfl (fun C => gY N a c d e f g h i (fun z => C 1000000 (fP z))) (fun C => by kernel_rfl)).trans (Eq.trans (b := gY N a c d e f g h i (fun z => bo N (pf N) (fP z))) (by kernel_rfl) (congrArg (gY N a c d e f g h i) (funext fun z => bj (fP) (pf N) (gu N) (acs N) N z)))
theorem adz (N : Nat) (a : List aA) (b c d : Int) (e : Bs) (f : List aD) (g : Bss) (k : Bs) (h : Tot (p5 N a b c d e f g k) (fun z => ∃ (l : Bss) (m : Bool) (i : List aA) (j : Int) (rest : List aL), z.1.dimR = .tup [.sl .str (.may false) l, .bool m] ∧ z.2 = some [.ul .atype i, .int .i64 j] :: rest ∧ nR a b c d e f g k (l, m, i, j))) : ∃ r, dc a b c d e f g k r := by
 obtain ⟨⟨v, hp⟩, hz, l, m, i, j, rest, e1, e2, hq⟩ := h
 simp only at e1 e2
 subst e2
 exact ⟨(l, m, i, j), bl.dimR (FnC.objs (css := [[.ul .atype a, .int .i64 b]]) (css' := [[.ul .atype i, .int .i64 j]]) aeN (ady N a b c d e f g k) hz rfl) e1, hq⟩
noncomputable def bG : aO := tab (P := Try.prog) [] [cS, sA, rf] [] [pS, acl]
def sP : IR := Sq (Rs [Mv 56 9, Mv 57 8, Bi 58 .lss 56 57] (Cn 58 .skip (.exit 2))) (Sq (.block 3 (Sq (.reg [Mv 61 6, Mv 62 9, Ix 63 .str 61 62, Lq 64 63, Mv 65 6, Mv 66 8, Ix 67 .str 65 66, Lq 68 67, Bi 69 .eql 64 68] [[], [], [0, 1], [0, 1, 2], [], [], [4, 5], [4, 5, 6], rg 0 7]) (Cn 69 (Rg [Mv 70 0, Ca 71 110 [70, kI 5]]) .skip))) (Rg [Mv 59 9, Bc 60 .add 59 1, Mv 9 60]))
def rL : IR := Rg [Mv 46 8, Bc 47 .add 46 1, Mv 8 47]
def gL : IR := Sq (Rs [Mv 35 8, Mv 36 6, Ll 37 36, Bi 38 .lss 35 37, Mv 39 38, Gt 39 (.mov 40 0), Gt 39 (.nck 41 40), Gt 39 (.fad 42 1 41), Gt 39 (.ld 43 1 false false 42), Gt 39 (.bin 44 .eql 43 (kI 0)), Pa 45 39 44] (Cn 45 .skip (.exit 0))) (Sq (.block 1 (Sq (Rs [Mv 48 6, Mv 49 8, Ix 50 .str 48 49, Lq 51 50, Ca 52 161 [51], Un 53 52] (Cn 53 (Rg [Mv 54 0, Ca 55 110 [54, kI 6]]) .skip)) (Rs [Mi 9 0] (.block 2 (.loop [0, 2, 4, 6, 8, 9, 1000000] 1 sP))))) rL)
def rM : IR := Sq (Rs [Mv 80 14, Mv 81 6, Ll 82 81, Bi 83 .lss 80 82] (Cn 83 .skip (.exit 4))) (Sq (.block 5 (Rg [Mv 86 13, Mv 87 86, Gf 87 (.mov 88 6), Gf 87 (.mov 89 14), Gf 87 (.ixa 90 .str 88 89), Gf 87 (.lde 91 1 false 90), Gf 87 (.mov 92 12), Gf 87 (.bin 93 .eql 91 92), Po 94 87 93, Mv 13 94])) (Rg [Mv 84 14, Bc 85 .add 84 1, Mv 14 85]))
def rN : IR := Sq (Rs [Mv 95 11, Mv 96 95, Gt 96 (.mov 97 13), Gt 96 (.un 98 .not 97), Pa 99 96 98] (Cn 99 (Rg [Mv 100 0, Ca 101 110 [100, kI 6]]) .skip)) (Rs [Mv 102 0, Nk 103 102, Fa 104 1 103, Lo 105 104, Bc 106 .eql 105 0] (Cn 106 (.gh (.opn (.cell 0 0)) (.ghp (.cls (.cell 0 0)) (.reg [Mv 107 0, Nk 108 107, Fa 109 0 108, Fa 110 0 109, Fo [0] [] (.ld 111 1 false false 110), Mv 112 2, Mv 113 0, Nk 114 113, Fa 115 0 114, Fa 116 0 115, Fo [0] [] (.ld 117 1 false false 116), Mv 118 2, Mv 119 0, Nk 120 119, Fa 121 0 120, Fa 122 0 121, Fo [0] [] (.ld 123 1 false false 122), Mv 124 2, Mv 125 6, Mv 126 11, Mv 127 12, Pp (.ixw 128 .atype 111 112), Pp (.fdw 129 4 128), Fo [] [1] (.stw none 1 129 125), Pp (.ixw 130 .atype 117 118), Pp (.fdw 131 5 130), Fo [] [1] (.stw none 1 131 126), Pp (.ixw 132 .atype 123 124), Pp (.fdw 133 6 132), Fo [] [1] (.stw none 1 133 127)] [[], [0], [0, 1], [0, 1, 2], rg 0 3, [], [], [6], [6, 7], [6, 7, 8], rg 6 9, [], [], [12], [12, 13], [12, 13, 14], rg 12 15, [], [], [], [], rg 0 10 ++ rg 12 16 ++ [18], rg 0 10 ++ rg 12 16 ++ [18] ++ [21], rg 0 10 ++ rg 12 16 ++ [18] ++ [21, 22], rg 0 16 ++ [18, 19] ++ [21, 22, 23], rg 0 16 ++ [18, 19] ++ rg 21 24, rg 0 16 ++ [18, 19] ++ rg 21 25, rg 0 26, rg 0 27, rg 0 28]))) .skip))
def lI : IR := Rs [Ld 73 5 true 4, Ca 74 113 [73, kS [100, 101, 102, 97, 117, 108, 116]], Mv 72 74, Ex_ 75 0 72, Ex_ 76 1 72, Pp (.alr 10 5), Fz 10 5 75, Mv 11 76] (Rs [Mv 77 0, Ld 78 5 true 4, Ca 79 140 [77, 78, kS [100, 101, 102, 97, 117, 108, 116], kB false], Mv 12 79] (Rs [Mb 13 false] (Sq (Rs [Mi 14 0] (.block 4 (.loop [0, 2, 6, 11, 12, 13, 14, 1000002] 1 rM))) rN)))
def nS : IR := Rs [Bx 4 1] (Rs [Mv 16 0, Ld 17 5 true 4, Ca 18 143 [16, 17, kS [115, 121, 109, 98, 111, 108, 115]], Mv 15 18, Ex_ 19 0 15, Ex_ 20 1 15, Mv 6 19, Mv 7 20] (Sq (Rs [Mv 21 7, Un 22 21] (Cn 22 (Rg [Mv 23 0, Ca 24 110 [23, kI 2]]) .skip)) (Sq (Rs [Mv 25 6, Ll 26 25, Bc 27 .eql 26 0] (Cn 27 (Rg [Mv 28 0, Ca 29 110 [28, kI 6]]) .skip)) (Sq (Rs [Mv 30 6, Ll 31 30, Bc 32 .gtr 31 30] (Cn 32 (Rg [Mv 33 0, Ca 34 110 [33, kI 3]]) .skip)) (Sq (Rs [Mi 8 0] (.block 0 (.loop [0, 2, 4, 6, 8, 1000001] 1 gL))) lI)))))
def eu : List RV := []
theorem acu : FnC Try.prog bG [110, 140, 143, 2000110, 2000140, 2000143] 1 vF Try.f145 nS eu := fnC (by kernel_rfl) Try.func145 (by kernel_rfl) (by kernel_rfl) (by decide)
def iN (R : IR → (Ex → St → Ro) → St → Ro) (a : St → Ro) : Ex → St → Ro := (bM a [0, 2, 4, 6, 8, 1000001] 1 (aT 0 (bx (R lI) (fin eu))))
abbrev cJ : Type := (Int × Int × Int × Bs × List aD × Bss × Bss × Int × List aA × Int)
def bI : cJ → St := fun (a, b, c, d, e, f, g, h, i, j) => { env := (.ptr 0 0 :: .undef :: .int .i64 a :: .undef :: .ea [.int .i64 b, .int .i64 c, .str d, .sl .jnode (.may false) e, .sl .str (.may false) f] :: .undef :: .sl .str (.may false) g :: .undef :: .int .i64 h :: (U 125 [])), hp := [some [.ul .atype i, .int .i64 j]] }
def abw (R : IR → (Ex → St → Ro) → St → Ro) (a b : St → Ro) : Ex → St → Ro := (bM b [0, 2, 4, 6, 8, 9, 1000000] 1 (aT 2 (aT 1 (bx (R rL) (iN R a)))))
abbrev fe : Type := (Int × Int × Int × Bs × List aD × Bss × Bss × Int × Int × List aA × Int)
def dI : fe → St := fun (b, c, d, e, f, g, h, i, j, k, a) => { env := (.ptr 0 0 :: .undef :: .int .i64 b :: .undef :: .ea [.int .i64 c, .int .i64 d, .str e, .sl .jnode (.may false) f, .sl .str (.may false) g] :: .undef :: .sl .str (.may false) h :: .undef :: .int .i64 i :: .int .i64 j :: (U 124 [])), hp := [some [.ul .atype k, .int .i64 a]] }
def iO (N : Nat) (a : St → Ro) : (St → Ro) → St → Ro := fun b s => run bG N sP (abw (run bG N) a b) s
def dR (N : Nat) (i : cJ → Ro) (a : fe → Ro) : fe → Ro := fun (m, b, c, d, e, f, j, k, l, g, h) =>
 cond (decide (l < k)) (
 chk ((decide (0 ≤ l) && decide (l < ↑(List.length j)))) (
 let o : Bs := List.getD j (Int.toNat l) (aC .str)
 chk ((decide (0 ≤ k) && decide (k < ↑(List.length j)))) (
 let p : Bs := List.getD j (Int.toNat k) (aC .str)
 cond (decide (o = p)) (
 aG (aK g h 5) (fun n =>
 let q : Int := (IntKind.wrap .i64 (l + 1))
 a (m, b, c, d, e, f, j, k, q, n.2.1, n.2.2))) (
 let r : Int := (IntKind.wrap .i64 (l + 1))
 a (m, b, c, d, e, f, j, k, r, g, h))))) (
 let s : Int := (IntKind.wrap .i64 (k + 1))
 i (m, b, c, d, e, f, j, s, g, h))
theorem abi (N : Nat) (b : St → Ro) : ∀ (a : St → Ro) (x : fe), iO N b a (dI x) = dR N (fun y => b (bI y)) (fun y => a (dI y)) x := by
 intro a x
 kernel_rfl
def abx (R : IR → (Ex → St → Ro) → St → Ro) (a : St → Ro) : Ex → St → Ro := (bM a [0, 2, 6, 11, 12, 13, 14, 1000002] 1 (aT 4 (bx (R rN) (fin eu))))
abbrev ff : Type := (Int × Bss × Bool × Bs × Bool × Int × List aA × Int)
def dJ : ff → St := fun (a, b, c, d, e, f, g, h) => { env := (.ptr 0 0 :: .undef :: .int .i64 a :: (U 3 (.sl .str (.may false) b :: (U 4 (.bool c :: .str d :: .bool e :: .int .i64 f :: (U 119 [])))))), hp := [some [.ul .atype g, .int .i64 h]] }
def iP (N : Nat) : (St → Ro) → St → Ro := fun a s => run bG N rM (abx (run bG N) a) s
def dS (N : Nat) (f : ff → Ro) : ff → Ro := fun (c, j, g, h, q, i, b, d) =>
 let u : Int := (↑(List.length j) : Int)
 cond (decide (i < u)) (
 cond q (
 let v : Int := (IntKind.wrap .i64 (i + 1))
 f (c, j, g, h, true, v, b, d)) (
 chk ((decide (0 ≤ i) && decide (i < ↑(List.length j)))) (
 let w : Bs := List.getD j (Int.toNat i) (aC .str)
 let x : Int := (IntKind.wrap .i64 (i + 1))
 f (c, j, g, h, decide (w = h), x, b, d)))) (
 cond g (
 cond (!q) (
 aG (aK b d 6) (fun e =>
 cond (e.2.2 == 0) (
 chk (decide (0 < List.length e.2.1)) (
 chk ((decide (0 ≤ c) && decide (c < ↑(List.length e.2.1)))) (
 chk (decide ((Int.toNat c) < List.length e.2.1)) (
 let k : List aA := (List.set e.2.1 (Int.toNat c) (let a := List.getD e.2.1 (Int.toNat c) (aC .atype); ⟨a.kind, a.name, a.aliases, a.items, j, a.hasdef, a.df, a.size, a.fields, a.branches⟩))
 chk ((decide (0 ≤ c) && decide (c < ↑(List.length e.2.1)))) (
 chk (decide ((Int.toNat c) < List.length k)) (
 let l : List aA := (List.set k (Int.toNat c) (let a := List.getD k (Int.toNat c) (aC .atype); ⟨a.kind, a.name, a.aliases, a.items, a.syms, g, a.df, a.size, a.fields, a.branches⟩))
 chk ((decide (0 ≤ c) && decide (c < ↑(List.length e.2.1)))) (
 chk (decide ((Int.toNat c) < List.length l)) (
 let r : List aA := (List.set l (Int.toNat c) (let a := List.getD l (Int.toNat c) (aC .atype); ⟨a.kind, a.name, a.aliases, a.items, a.syms, a.hasdef, h, a.size, a.fields, a.branches⟩))
 chk (Nat.beq (List.length e.2.1) (List.length r)) (
 some (.tup [], [some [.ul .atype r, .int .i64 e.2.2], none, none])))))))))) (
 some (.tup [], [some [.ul .atype e.2.1, .int .i64 e.2.2]])))) (
 cond (d == 0) (
 chk (decide (0 < List.length b)) (
 chk ((decide (0 ≤ c) && decide (c < ↑(List.length b)))) (
 chk (decide ((Int.toNat c) < List.length b)) (
 let m : List aA := (List.set b (Int.toNat c) (let a := List.getD b (Int.toNat c) (aC .atype); ⟨a.kind, a.name, a.aliases, a.items, j, a.hasdef, a.df, a.size, a.fields, a.branches⟩))
 chk ((decide (0 ≤ c) && decide (c < ↑(List.length b)))) (
 chk (decide ((Int.toNat c) < List.length m)) (
 let n : List aA := (List.set m (Int.toNat c) (let a := List.getD m (Int.toNat c) (aC .atype); ⟨a.kind, a.name, a.aliases, a.items, a.syms, g, a.df, a.size, a.fields, a.branches⟩))
 chk ((decide (0 ≤ c) && decide (c < ↑(List.length b)))) (
 chk (decide ((Int.toNat c) < List.length n)) (
 let s : List aA := (List.set n (Int.toNat c) (let a := List.getD n (Int.toNat c) (aC .atype); ⟨a.kind, a.name, a.aliases, a.items, a.syms, a.hasdef, h, a.size, a.fields, a.branches⟩))
 chk (Nat.beq (List.length b) (List.length s)) (
 some (.tup [], [some [.ul .atype s, .int .i64 d], none, none])))))))))) (
 some (.tup [], [some [.ul .atype b, .int .i64 d]])))) (
 cond (d == 0) (
 chk (decide (0 < List.length b)) (
 chk ((decide (0 ≤ c) && decide (c < ↑(List.length b)))) (
 chk (decide ((Int.toNat c) < List.length b)) (
 let o : List aA := (List.set b (Int.toNat c) (let a := List.getD b (Int.toNat c) (aC .atype); ⟨a.kind, a.name, a.aliases, a.items, j, a.hasdef, a.df, a.size, a.fields, a.branches⟩))
 chk ((decide (0 ≤ c) && decide (c < ↑(List.length b)))) (
 chk (decide ((Int.toNat c) < List.length o)) (
 let p : List aA := (List.set o (Int.toNat c) (let a := List.getD o (Int.toNat c) (aC .atype); ⟨a.kind, a.name, a.aliases, a.items, a.syms, g, a.df, a.size, a.fields, a.branches⟩))
 chk ((decide (0 ≤ c) && decide (c < ↑(List.length b)))) (
 chk (decide ((Int.toNat c) < List.length p)) (
 let t : List aA := (List.set p (Int.toNat c) (let a := List.getD p (Int.toNat c) (aC .atype); ⟨a.kind, a.name, a.aliases, a.items, a.syms, a.hasdef, h, a.size, a.fields, a.branches⟩))
 chk (Nat.beq (List.length b) (List.length t)) (
 some (.tup [], [some [.ul .atype t, .int .i64 d], none, none])))))))))) (
 some (.tup [], [some [.ul .atype b, .int .i64 d]]))))
theorem abj (N : Nat) : ∀ (a : St → Ro) (x : ff), iP N a (dJ x) = dS N (fun y => a (dJ y)) x := by
 intro a x
 kernel_rfl
def iQ (N : Nat) : (St → Ro) → St → Ro := fun a s => run bG N gL (iN (run bG N) a) s
def gZ (N : Nat) (k : cJ → Ro) (o : fe → Ro) (p : ff → Ro) : cJ → Ro := fun (l, a, b, c, d, e, h, j, g, f) =>
 let r : Int := (↑(List.length h) : Int)
 cond (decide (j < r)) (
 cond (f == 0) (
 chk ((decide (0 ≤ j) && decide (j < ↑(List.length h)))) (
 let s : Bs := List.getD h (Int.toNat j) (aC .str)
 aG (jP s) (fun (t : Bool) =>
 cond (!t) (
 aG (aK g f 6) (fun q =>
 o (l, a, b, c, d, e, h, j, 0, q.2.1, q.2.2))) (
 o (l, a, b, c, d, e, h, j, 0, g, f))))) (
 aG (db a b c d e ([100, 101, 102, 97, 117, 108, 116] : Bs)) (fun u =>
 aG (dO g f a b c d e ([100, 101, 102, 97, 117, 108, 116] : Bs) false) (fun m =>
 p (l, h, u.2.2.2.2.2, m.1, false, 0, m.2.1, m.2.2))))) (
 aG (db a b c d e ([100, 101, 102, 97, 117, 108, 116] : Bs)) (fun n =>
 aG (dO g f a b c d e ([100, 101, 102, 97, 117, 108, 116] : Bs) false) (fun i =>
 p (l, h, n.2.2.2.2.2, i.1, false, 0, i.2.1, i.2.2))))
def fg (N : Nat) (a : cJ → Ro) (x : cJ) : Ro := gZ N a (fun z => aS N (dR N a) z) (fun z => aS N (dS N) z) x
def mP (N : Nat) (a : St → Ro) : List (Nat × (St → Ro)) := (ba bG N gL (iN (run bG N) a) ++ (ba bG N lI (fin eu) ++ []))
theorem abk (N : Nat) : ∀ (a : St → Ro) (x : cJ), iQ N a (bI x) = fg N (fun y => a (bI y)) x := by
 intro a x
 have hX : ∀ C : Nat → St → Ro, bT C bG N gL (iN (bT C bG N) a) (bI x) = gZ N (fun y => a (bI y)) (fun z => C 1000000 (dI z)) (fun z => C 1000002 (dJ z)) x := by
  intro C
  kernel_rfl
 have h : iQ N a (bI x) = gZ N (fun y => a (bI y)) (fun z => bo N (iO N a) (dI z)) (fun z => bo N (iP N) (dJ z)) x := (cp (C := dM (mP N a)) (bR (aX (l := (mP N a)) (by kernel_rfl))) (oJ (cD (eF (bR (dl (aX (l := (mP N a)) (by kernel_rfl)))) rfl))) _).trans ((hX _).trans (by kernel_rfl))
 have e1 : (fun z => bo N (iO N a) (dI z)) = (fun z => aS N (dR N (fun y => a (bI y))) z) := funext fun z => bj (dI) (iO N a) (dR N (fun y => a (bI y))) (abi N a) N z
 have e2 : (fun z => bo N (iP N) (dJ z)) = (fun z => aS N (dS N) z) := funext fun z => bj (dJ) (iP N) (dS N) (abj N) N z
 rw [h, e1, e2]
 rfl
def fQ (N : Nat) (k : List aA) (l a b : Int) (c : Bs) (d : List aD) (e : Bss) (h : Int) (i : cJ → Ro) : Ro :=
 aG (dc k l a b c d e ([115, 121, 109, 98, 111, 108, 115] : Bs)) (fun f =>
 cond (!f.2.1) (
 aG (aK f.2.2.1 f.2.2.2 2) (fun j =>
 let v : Int := (↑(List.length f.1) : Int)
 cond (v == 0) (
 aG (aK j.2.1 j.2.2 6) (fun p =>
 let w : Int := (↑(List.length f.1) : Int)
 cond (decide (30 < w)) (
 aG (aK p.2.1 p.2.2 3) (fun u =>
 i (h, a, b, c, d, e, f.1, 0, u.2.1, u.2.2))) (
 i (h, a, b, c, d, e, f.1, 0, p.2.1, p.2.2)))) (
 let q : Int := (↑(List.length f.1) : Int)
 cond (decide (30 < q)) (
 aG (aK j.2.1 j.2.2 3) (fun m =>
 i (h, a, b, c, d, e, f.1, 0, m.2.1, m.2.2))) (
 i (h, a, b, c, d, e, f.1, 0, j.2.1, j.2.2))))) (
 let r : Int := (↑(List.length f.1) : Int)
 cond (r == 0) (
 aG (aK f.2.2.1 f.2.2.2 6) (fun g =>
 let s : Int := (↑(List.length f.1) : Int)
 cond (decide (30 < s)) (
 aG (aK g.2.1 g.2.2 3) (fun n =>
 i (h, a, b, c, d, e, f.1, 0, n.2.1, n.2.2))) (
 i (h, a, b, c, d, e, f.1, 0, g.2.1, g.2.2)))) (
 let t : Int := (↑(List.length f.1) : Int)
 cond (decide (30 < t)) (
 aG (aK f.2.2.1 f.2.2.2 3) (fun o =>
 i (h, a, b, c, d, e, f.1, 0, o.2.1, o.2.2))) (
 i (h, a, b, c, d, e, f.1, 0, f.2.2.1, f.2.2.2)))))
def nT (N : Nat) (a : List aA) (b c d : Int) (e : Bs) (f : List aD) (g : Bss) (h : Int) : Ro := fQ N a b c d e f g h (fun z => aS N (fg N) z)
def adA (N : Nat) : List (Nat × (St → Ro)) := ba bG N nS (fin eu) ++ []
theorem aby (N : Nat) (a : List aA) (c d e : Int) (f : Bs) (g : List aD) (h : Bss) (i : Int) : bc bG N 134 eu nS [.ptr 0 0, .agg [.int .i64 d, .int .i64 e, .str f, .sl .jnode (.may false) g, .sl .str (.may false) h], .int .i64 i] [some [.ul .atype a, .int .i64 c]] = nT N a c d e f g h i :=
 (bU (adA N) (by kernel_rfl) rfl (fun C => fQ N a c d e f g h i (fun z => C 1000001 (bI z))) (fun C => by kernel_rfl)).trans (Eq.trans (b := fQ N a c d e f g h i (fun z => bo N (iQ N) (bI z))) (by kernel_rfl) (congrArg (fQ N a c d e f g h i) (funext fun z => bj (bI) (iQ N) (fg N) (abk N) N z)))
theorem abz (N : Nat) (a : List aA) (b c d : Int) (e : Bs) (f : List aD) (g : Bss) (k : Int) (h : Tot (nT N a b c d e f g k) (fun z => ∃ (i : List aA) (j : Int) (rest : List aL), z.1.dimR = .tup [] ∧ z.2 = some [.ul .atype i, .int .i64 j] :: rest ∧ dG a b c d e f g k (i, j))) : ∃ r, gn a b c d e f g k r := by
 obtain ⟨⟨v, hp⟩, hz, i, j, rest, e1, e2, hq⟩ := h
 simp only at e1 e2
 subst e2
 exact ⟨(i, j), bl.dimR (FnC.objs (css := [[.ul .atype a, .int .i64 b]]) (css' := [[.ul .atype i, .int .i64 j]]) acu (aby N a b c d e f g k) hz rfl) e1, hq⟩
noncomputable def kq : aO := tab (P := Try.prog) [] [cS, ol, yR] [] [ahq]
def vK : IR := Sq (Rs [Mv 26 9, Mv 27 1, Pp (.lens 28 27), Bi 29 .lss 26 28] (Cn 29 .skip (.exit 0))) (Sq (.block 1 (Rg [Mv 32 8, Mv 33 32, Gf 33 (.mov 34 1), Gf 33 (.mov 35 9), Gf 33 (.idx 36 34 35), Gf 33 (.bin 37 .eql 36 (.c (.int .u8 46))), Po 38 33 37, Mv 8 38])) (Rg [Mv 30 9, Bc 31 .add 30 1, Mv 9 31]))
def ur : IR := Sq (Rs [Mv 39 8, Un 40 39, Mv 41 40, Gt 41 (.mov 42 2), Gt 41 (.bin 43 .neq 42 (kS [])), Pa 44 41 43] (Cn 44 (Rs [Mv 46 0, Mv 47 2, Pp (.bin 48 .add 47 (kS [46])), Mv 49 1, Bi 50 .add 48 49, Ca 51 138 [46, 50], Mv 45 51, Ex_ 52 0 45, Ex_ 53 1 45, Mv 10 52, Mv 11 53] (Rs [Mv 54 11] (Cn 54 (Rs [Mv 55 10, Mv 6 55] .ret) .skip))) .skip)) (Rs [Mv 57 0, Mv 58 1, Ca 59 138 [57, 58], Mv 56 59, Ex_ 60 0 56, Ex_ 61 1 56, Mv 12 60, Mv 13 61] (Sq (Rs [Mv 62 13, Un 63 62] (Cn 63 (Rs [Mv 64 0, Ca 65 110 [64, kI 4], Mv 6 65] .ret) .skip)) (Rs [Mv 66 12, Mv 6 66] .ret)))
def rm : IR := Rs [Mi 6 0] (Rs [Mv 14 1, Ca 15 115 [14], Mv 7 15] (Sq (Rs [Mv 16 7, Bc 17 .geq 16 1, Mv 18 17, Gt 18 (.mov 19 7), Gt 18 (.bin 20 .leq 19 (kI 8)), Pa 21 18 20] (Cn 21 (Rs [Mv 22 0, Mv 23 7, Pp (.bld 24 [vI 0, vS, fu .str true, vI 0, fu .str true, .bool false, vS, vI 0, fu .afield true, fu (.num .i64) true] [(0, 1, 23)]), Ca 25 116 [22, 24], Mv 6 25] .ret) .skip)) (Rs [Mb 8 false] (Sq (Rs [Mi 9 0] (.block 0 (.loop [0, 1, 2, 8, 9, 1000000] 1 vK))) ur))))
def mH : List RV := [.t 6]
theorem agk : FnC Try.prog kq [110, 116, 138, 2000110, 2000116, 2000138] 1 yO Try.f111 rm mH := fnC (by kernel_rfl) Try.func111 (by kernel_rfl) (by kernel_rfl) (by decide)
def aeO (R : IR → (Ex → St → Ro) → St → Ro) (a : St → Ro) : Ex → St → Ro := (bM a [0, 1, 2, 8, 9, 1000000] 1 (aT 0 (bx (R ur) (fin mH))))
abbrev hH : Type := (Bs × Bs × Bool × Int × List aA × Int)
def gv : hH → St := fun (a, b, c, d, e, f) => { env := (.ptr 0 0 :: .str a :: .str b :: (U 5 (.bool c :: .int .i64 d :: (U 57 [])))), hp := [some [.ul .atype e, .int .i64 f]] }
def p6 (N : Nat) : (St → Ro) → St → Ro := fun a s => run kq N vK (aeO (run kq N) a) s
def hJ (N : Nat) (c : hH → Ro) : hH → Ro := fun (d, j, n, e, a, b) =>
 let p : Int := (↑(List.length d) : Int)
 cond (decide (e < p)) (
 cond n (
 let q : Int := (IntKind.wrap .i64 (e + 1))
 c (d, j, true, q, a, b)) (
 chk ((decide (0 ≤ e) && decide (e < ↑(List.length d)))) (
 let r : Int := (↑(UInt8.toNat (List.getD d (Int.toNat e) 0)) : Int)
 let s : Int := (IntKind.wrap .i64 (e + 1))
 c (d, j, (r == 46), s, a, b)))) (
 cond (!n) (
 let t : Bool := (!decide (j = ([] : Bs)))
 cond t (
 chk (decide (List.length j + List.length ([46] : Bs) ≤ 9223372036854775807)) (
 let o : Bs := (j ++ ([46] : Bs))
 chk (decide (List.length o + List.length d ≤ 9223372036854775807)) (
 aG (cT a b (o ++ d)) (fun f =>
 cond f.2.1 (
 some (.int .i64 f.1, [some [.ul .atype f.2.2.1, .int .i64 f.2.2.2]])) (
 aG (cT f.2.2.1 f.2.2.2 d) (fun g =>
 cond (!g.2.1) (
 aG (aK g.2.2.1 g.2.2.2 4) (fun k =>
 some (.int .i64 k.1, [some [.ul .atype k.2.1, .int .i64 k.2.2]]))) (
 some (.int .i64 g.1, [some [.ul .atype g.2.2.1, .int .i64 g.2.2.2]])))))))) (
 aG (cT a b d) (fun h =>
 cond (!h.2.1) (
 aG (aK h.2.2.1 h.2.2.2 4) (fun l =>
 some (.int .i64 l.1, [some [.ul .atype l.2.1, .int .i64 l.2.2]]))) (
 some (.int .i64 h.1, [some [.ul .atype h.2.2.1, .int .i64 h.2.2.2]]))))) (
 aG (cT a b d) (fun i =>
 cond (!i.2.1) (
 aG (aK i.2.2.1 i.2.2.2 4) (fun m =>
 some (.int .i64 m.1, [some [.ul .atype m.2.1, .int .i64 m.2.2]]))) (
 some (.int .i64 i.1, [some [.ul .atype i.2.2.1, .int .i64 i.2.2.2]])))))
theorem adB (N : Nat) : ∀ (a : St → Ro) (x : hH), p6 N a (gv x) = hJ N (fun y => a (gv y)) x := by
 intro a x
 kernel_rfl
def jm (N : Nat) (a : List aA) (b : Int) (c f : Bs) (g : hH → Ro) : Ro :=
 aG (mh c) (fun (d : Int) =>
 cond (decide (1 ≤ d)) (
 cond (decide (d ≤ 8)) (
 aG (eB a b d ([] : Bs) ([] : Bss) 0 ([] : Bss) false ([] : Bs) 0 ([] : List aM) ([] : List Int)) (fun e =>
 some (.int .i64 e.1, [some [.ul .atype e.2.1, .int .i64 e.2.2]]))) (
 g (c, f, false, 0, a, b))) (
 g (c, f, false, 0, a, b)))
def rn (N : Nat) (a : List aA) (b : Int) (c d : Bs) : Ro := jm N a b c d (fun z => aS N (hJ N) z)
def ahT (N : Nat) : List (Nat × (St → Ro)) := ba kq N rm (fin mH) ++ []
theorem aeP (N : Nat) (a : List aA) (c : Int) (d e : Bs) : bc kq N 67 mH rm [.ptr 0 0, .str d, .str e] [some [.ul .atype a, .int .i64 c]] = rn N a c d e :=
 (bU (ahT N) (by kernel_rfl) rfl (fun C => jm N a c d e (fun z => C 1000000 (gv z))) (fun C => by kernel_rfl)).trans (Eq.trans (b := jm N a c d e (fun z => bo N (p6 N) (gv z))) (by kernel_rfl) (congrArg (jm N a c d e) (funext fun z => bj (gv) (p6 N) (hJ N) (adB N) N z)))
theorem aeQ (N : Nat) (a : List aA) (b : Int) (e f : Bs) (h : Tot (rn N a b e f) (fun z => ∃ (g : Int) (c : List aA) (d : Int) (rest : List aL), z.1.dimR = .int .i64 g ∧ z.2 = some [.ul .atype c, .int .i64 d] :: rest ∧ oT a b e f (g, c, d))) : ∃ r, gm a b e f r := by
 obtain ⟨⟨v, hp⟩, hz, g, c, d, rest, e1, e2, hq⟩ := h
 simp only at e1 e2
 subst e2
 exact ⟨(g, c, d), bl.dimR (FnC.objs (css := [[.ul .atype a, .int .i64 b]]) (css' := [[.ul .atype c, .int .i64 d]]) agk (aeP N a b e f) hz rfl) e1, hq⟩
noncomputable def cj : aO := tab (P := Try.prog) [] [ni, cS, ol] [139] [arj]
def tH : IR := Sq (Rs [Mv 70 13, Mv 71 10, Ll 72 71, Bi 73 .lss 70 72] (Cn 73 .skip (.exit 2))) (Sq (.block 3 (Sq (.gh (.opn (.cell 0 0)) (.ghp (.cls (.cell 0 0)) (.reg [Mv 76 0, Nk 77 76, Fa 78 0 77, Fo [0] [] (.ld 79 1 true false 78), Mv 80 10, Mv 81 13, Ix 82 (.num .i64) 80 81, Lq 83 82, Fo [1] [] (.call 84 139 [79, 83]), Mv 85 0, Nk 86 85, Fa 87 0 86, Fo [0] [] (.ld 88 1 true false 87), Mv 89 12, Fo [1] [] (.call 90 139 [88, 89]), Bi 91 .eql 84 90] [[], [0], [0, 1], [0, 1, 2], [], [], [4, 5], [4, 5, 6], rg 0 7, [], [9], [9, 10], [9, 10, 11], [], rg 0 13, rg 0 14]))) (Cn 91 (Rs [Mv 92 0, Ca 93 110 [92, kI 6], Mv 8 93] .ret) .skip))) (Rg [Mv 74 13, Bc 75 .add 74 1, Mv 13 75]))
def tI : IR := Rg [Pp (.mov 94 (.tk 10)), Mv 95 12, Pp (.bsl 96 (.num .i64) [95] true), Pp (.app 97 (.num .i64) (.tk 94) 96), Pp (.mov 10 (.tk 97))]
def tJ : IR := Rg [Mv 41 11, Bc 42 .add 41 1, Mv 11 42]
def iR : IR := Sq (Rs [Mv 29 11, Fa 30 3 5, Lq 31 30, Ll 32 31, Bi 33 .lss 29 32, Mv 34 33, Gt 34 (.mov 35 0), Gt 34 (.nck 36 35), Gt 34 (.fad 37 1 36), Gt 34 (.ld 38 1 false false 37), Gt 34 (.bin 39 .eql 38 (kI 0)), Pa 40 34 39] (Cn 40 .skip (.exit 0))) (Sq (.block 1 (Rs [Mv 43 0, Fa 44 3 5, Lq 45 44, Mv 46 11, Ix 47 .jnode 45 46, Ld 48 5 true 47, Mv 49 2, Mv 50 3, Bc 51 .add 50 1, Ca 52 72 [43, 48, 49, 51], Mv 12 52] (Sq (Rs [Mv 53 0, Nk 54 53, Fa 55 1 54, Lo 56 55, Bc 57 .neq 56 0] (Cn 57 (Rs [Mi 8 0] .ret) .skip)) (Sq (Sq (.gh (.opn (.cell 0 0)) (.ghp (.cls (.cell 0 0)) (Rg [Mv 58 0, Nk 59 58, Fa 60 0 59, Fa 61 0 60, Lo 62 61, Mv 63 12, Pp (.ixw 64 .atype 62 63), Pp (.fdw 65 0 64), Pp (.ldw 66 1 false 65), Bc 67 .eql 66 14]))) (Cn 67 (Rs [Mv 68 0, Ca 69 110 [68, kI 6], Mv 8 69] .ret) .skip)) (Sq (Rs [Mi 13 0] (.block 2 (.loop [0, 2, 3, 5, 9, 10, 11, 12, 13, 1000000] 1 tH))) tI))))) tJ)
def mQ : IR := Sq (Rs [Mv 98 0, Nk 99 98, Fa 100 1 99, Lo 101 100, Bc 102 .eql 101 0] (Cn 102 (.gh (.opn (.cell 0 0)) (.ghp (.cls (.cell 0 0)) (Rg [Mv 103 0, Nk 104 103, Fa 105 0 104, Fa 106 0 105, Lo 107 106, Mv 108 9, Mv 109 10, Pp (.ixw 110 .atype 107 108), Pp (.fdw 111 9 110), Pp (.stw none 1 111 109)]))) .skip)) (Rs [Mv 112 9, Mv 8 112] .ret)
def p7 : IR := Rs [Bx 5 1, Mi 8 0] (Rs [Mv 14 0, Pp (.bld 15 [vI 0, vS, fu .str true, vI 0, fu .str true, .bool false, vS, vI 0, fu .afield true, fu (.num .i64) true] [(0, 1, kI 14)]), Ca 16 116 [14, 15], Mv 9 16] (Sq (Rs [Fa 17 3 5, Lq 18 17, Ll 19 18, Bc 20 .eql 19 0] (Cn 20 (Rs [Mv 21 0, Ca 22 110 [21, kI 6], Mv 8 22] .ret) .skip)) (Sq (Rs [Fa 23 3 5, Lq 24 23, Ll 25 24, Bc 26 .gtr 25 30] (Cn 26 (Rs [Mv 27 0, Ca 28 110 [27, kI 3], Mv 8 28] .ret) .skip)) (Rs [Pp (.mov 10 (.c (nl (.num .i64))))] (Sq (Rs [Mi 11 0] (.block 0 (.loop [0, 2, 3, 5, 9, 10, 11, 1000001] 1 iR))) mQ)))))
def hM : List RV := [.t 8]
theorem aeR : FnC Try.prog cj [72, 110, 116, 139, 2000072, 2000110, 2000116, 2000139] 1 xt Try.f112 p7 hM := fnC (by kernel_rfl) Try.func112 (by kernel_rfl) (by kernel_rfl) (by decide)
def kE (R : IR → (Ex → St → Ro) → St → Ro) (a : St → Ro) : Ex → St → Ro := (bM a [0, 2, 3, 5, 9, 10, 11, 1000001] 1 (aT 0 (bx (R mQ) (fin hM))))
abbrev dg : Type := (Bs × Int × Int × Int × Bs × List aD × Bss × Int × List Int × Int × List aA × Int)
def bQ : dg → St := fun (c, d, e, f, g, h, i, j, k, l, a, b) => { env := (.ptr 0 0 :: .undef :: .str c :: .int .i64 d :: .undef :: .ea [.int .i64 e, .int .i64 f, .str g, .sl .jnode (.may false) h, .sl .str (.may false) i] :: (U 3 (.int .i64 j :: .sl (.num .i64) .own k :: .int .i64 l :: (U 101 [])))), hp := [some [.ul .atype a, .int .i64 b]] }
def adC (R : IR → (Ex → St → Ro) → St → Ro) (a b : St → Ro) : Ex → St → Ro := (bM b [0, 2, 3, 5, 9, 10, 11, 12, 13, 1000000] 1 (aT 2 (bx (R tI) (aT 1 (bx (R tJ) (kE R a))))))
abbrev gw : Type := (Bs × Int × Int × Int × Bs × List aD × Bss × Int × List Int × Int × Int × Int × List aA × Int)
def ey : gw → St := fun (e, f, g, h, i, j, k, l, m, n, a, b, c, d) => { env := (.ptr 0 0 :: .undef :: .str e :: .int .i64 f :: .undef :: .ea [.int .i64 g, .int .i64 h, .str i, .sl .jnode (.may false) j, .sl .str (.may false) k] :: (U 3 (.int .i64 l :: .sl (.num .i64) .own m :: .int .i64 n :: .int .i64 a :: .int .i64 b :: (U 99 [])))), hp := [some [.ul .atype c, .int .i64 d]] }
def kF (N : Nat) (a : St → Ro) : (St → Ro) → St → Ro := fun b s => run cj N tH (adC (run cj N) a b) s
def gz (N : Nat) (e : dg → Ro) (f : gw → Ro) : gw → Ro := fun (t, u, h, i, j, k, l, v, b, m, g, c, a, d) =>
 let n : Int := (↑(List.length b) : Int)
 cond (decide (c < n)) (
 chk (decide (0 < List.length a)) (
 chk ((decide (0 ≤ c) && decide (c < ↑(List.length b)))) (
 let o : Int := List.getD b (Int.toNat c) (aC (.num .i64))
 apo (rc a o) ((Nat.beq (List.length a) (List.length a) && true)) (fun (w : Bs) =>
 apo (rc a g) ((Nat.beq (List.length a) (List.length a) && true)) (fun (x : Bs) =>
 chk (Nat.beq (List.length a) (List.length a)) (
 cond (decide (w = x)) (
 aG (aK a d 6) (fun p =>
 some (.int .i64 p.1, [some [.ul .atype p.2.1, .int .i64 p.2.2], none, none]))) (
 let q : Int := (IntKind.wrap .i64 (c + 1))
 f (t, u, h, i, j, k, l, v, b, m, g, q, a, d)))))))) (
 chk (decide ((List.length b + List.length ([g] : List Int)) * 8 ≤ 140737488355328)) (
 let r : List Int := (b ++ ([g] : List Int))
 let s : Int := (IntKind.wrap .i64 (m + 1))
 e (t, u, h, i, j, k, l, v, r, s, a, d)))
theorem acv (N : Nat) (b : St → Ro) : ∀ (a : St → Ro) (x : gw), kF N b a (ey x) = gz N (fun y => b (bQ y)) (fun y => a (ey y)) x := by
 intro a x
 kernel_rfl
def kG (N : Nat) : (St → Ro) → St → Ro := fun a s => run cj N iR (kE (run cj N) a) s
def jQ (N : Nat) (q : dg → Ro) (w : gw → Ro) : dg → Ro := fun (u, v, i, j, k, b, m, g, h, d, a, c) =>
 let x : Int := (↑(List.length b) : Int)
 cond (decide (d < x)) (
 cond (c == 0) (
 chk ((decide (0 ≤ d) && decide (d < ↑(List.length b)))) (
 let y : Int := (List.getD b (Int.toNat d) (aC .jnode)).kind
 let z : Int := (List.getD b (Int.toNat d) (aC .jnode)).n
 let x6 : Bs := (List.getD b (Int.toNat d) (aC .jnode)).s
 let x7 : List aD := (List.getD b (Int.toNat d) (aC .jnode)).l
 let x8 : Bss := (List.getD b (Int.toNat d) (aC .jnode)).names
 let x9 : Int := (IntKind.wrap .i64 (v + 1))
 aG (cz a c y z x6 x7 x8 u x9) (fun f =>
 cond (!(f.2.2 == 0)) (
 some (.int .i64 0, [some [.ul .atype f.2.1, .int .i64 f.2.2]])) (
 chk (decide (0 < List.length f.2.1)) (
 chk ((decide (0 ≤ f.1) && decide (f.1 < ↑(List.length f.2.1)))) (
 chk (decide ((Int.toNat f.1) < List.length f.2.1)) (
 let r : Int := (List.getD f.2.1 (Int.toNat f.1) (aC .atype)).kind
 chk (Nat.beq (List.length f.2.1) (List.length f.2.1)) (
 cond (r == 14) (
 aG (aK f.2.1 f.2.2 6) (fun t =>
 some (.int .i64 t.1, [some [.ul .atype t.2.1, .int .i64 t.2.2], none, none]))) (
 w (u, v, i, j, k, b, m, g, h, d, f.1, 0, f.2.1, f.2.2)))))))))) (
 cond (c == 0) (
 chk (decide (0 < List.length a)) (
 chk ((decide (0 ≤ g) && decide (g < ↑(List.length a)))) (
 chk (decide ((Int.toNat g) < List.length a)) (
 let o : List aA := (List.set a (Int.toNat g) (let e := List.getD a (Int.toNat g) (aC .atype); ⟨e.kind, e.name, e.aliases, e.items, e.syms, e.hasdef, e.df, e.size, e.fields, h⟩))
 chk (Nat.beq (List.length a) (List.length o)) (
 some (.int .i64 g, [some [.ul .atype o, .int .i64 c], none, none])))))) (
 some (.int .i64 g, [some [.ul .atype a, .int .i64 c]])))) (
 cond (c == 0) (
 chk (decide (0 < List.length a)) (
 chk ((decide (0 ≤ g) && decide (g < ↑(List.length a)))) (
 chk (decide ((Int.toNat g) < List.length a)) (
 let p : List aA := (List.set a (Int.toNat g) (let e := List.getD a (Int.toNat g) (aC .atype); ⟨e.kind, e.name, e.aliases, e.items, e.syms, e.hasdef, e.df, e.size, e.fields, h⟩))
 chk (Nat.beq (List.length a) (List.length p)) (
 some (.int .i64 g, [some [.ul .atype p, .int .i64 c], none, none])))))) (
 some (.int .i64 g, [some [.ul .atype a, .int .i64 c]])))
def kH (N : Nat) (a : dg → Ro) (x : dg) : Ro := jQ N a (fun z => aS N (gz N a) z) x
def pg (N : Nat) (a : St → Ro) : List (Nat × (St → Ro)) := (ba cj N iR (kE (run cj N) a) ++ (ba cj N mQ (fin hM) ++ []))
theorem acw (N : Nat) : ∀ (a : St → Ro) (x : dg), kG N a (bQ x) = kH N (fun y => a (bQ y)) x := by
 intro a x
 have hX : ∀ C : Nat → St → Ro, bT C cj N iR (kE (bT C cj N) a) (bQ x) = jQ N (fun y => a (bQ y)) (fun z => C 1000000 (ey z)) x := by
  intro C
  kernel_rfl
 have h : kG N a (bQ x) = jQ N (fun y => a (bQ y)) (fun z => bo N (kF N a) (ey z)) x := (cp (C := dM (pg N a)) (bR (aX (l := (pg N a)) (by kernel_rfl))) (oJ (cD (eF (bR (dl (aX (l := (pg N a)) (by kernel_rfl)))) rfl))) _).trans ((hX _).trans (by kernel_rfl))
 have e1 : (fun z => bo N (kF N a) (ey z)) = (fun z => aS N (gz N (fun y => a (bQ y))) z) := funext fun z => bj (ey) (kF N a) (gz N (fun y => a (bQ y))) (acv N a) N z
 rw [h, e1]
 rfl
def hU (N : Nat) (c : List aA) (d e f : Int) (g : Bs) (a : List aD) (h : Bss) (k : Bs) (l : Int) (m : dg → Ro) : Ro :=
 aG (eB c d 14 ([] : Bs) ([] : Bss) 0 ([] : Bss) false ([] : Bs) 0 ([] : List aM) ([] : List Int)) (fun b =>
 let n : Int := (↑(List.length a) : Int)
 cond (n == 0) (
 aG (aK b.2.1 b.2.2 6) (fun i =>
 some (.int .i64 i.1, [some [.ul .atype i.2.1, .int .i64 i.2.2]]))) (
 let o : Int := (↑(List.length a) : Int)
 cond (decide (30 < o)) (
 aG (aK b.2.1 b.2.2 3) (fun j =>
 some (.int .i64 j.1, [some [.ul .atype j.2.1, .int .i64 j.2.2]]))) (
 m (k, l, e, f, g, a, h, b.1, ([] : List Int), 0, b.2.1, b.2.2))))
def p8 (N : Nat) (a : List aA) (b c d : Int) (e : Bs) (f : List aD) (g : Bss) (h : Bs) (i : Int) : Ro := hU N a b c d e f g h i (fun z => aS N (kH N) z)
def agl (N : Nat) : List (Nat × (St → Ro)) := ba cj N p7 (fin hM) ++ []
theorem adD (N : Nat) (a : List aA) (c d e : Int) (f : Bs) (g : List aD) (h : Bss) (i : Bs) (j : Int) : bc cj N 113 hM p7 [.ptr 0 0, .agg [.int .i64 d, .int .i64 e, .str f, .sl .jnode (.may false) g, .sl .str (.may false) h], .str i, .int .i64 j] [some [.ul .atype a, .int .i64 c]] = p8 N a c d e f g h i j :=
 (bU (agl N) (by kernel_rfl) rfl (fun C => hU N a c d e f g h i j (fun z => C 1000001 (bQ z))) (fun C => by kernel_rfl)).trans (Eq.trans (b := hU N a c d e f g h i j (fun z => bo N (kG N) (bQ z))) (by kernel_rfl) (congrArg (hU N a c d e f g h i j) (funext fun z => bj (bQ) (kG N) (kH N) (acw N) N z)))
theorem adE (N : Nat) (a : List aA) (b c d : Int) (e : Bs) (f : List aD) (g : Bss) (k : Bs) (l : Int) (h : Tot (p8 N a b c d e f g k l) (fun z => ∃ (m : Int) (i : List aA) (j : Int) (rest : List aL), z.1.dimR = .int .i64 m ∧ z.2 = some [.ul .atype i, .int .i64 j] :: rest ∧ ub a b c d e f g k l (m, i, j))) : ∃ r, jg a b c d e f g k l r := by
 obtain ⟨⟨v, hp⟩, hz, m, i, j, rest, e1, e2, hq⟩ := h
 simp only at e1 e2
 subst e2
 exact ⟨(m, i, j), bl.dimR (FnC.objs (css := [[.ul .atype a, .int .i64 b]]) (css' := [[.ul .atype i, .int .i64 j]]) aeR (adD N a b c d e f g k l) hz rfl) e1, hq⟩
noncomputable def aW : aO := tab (P := Try.prog) [] [ni, cS, sA, rf] [] [pS, acl]
def hY : IR := Sq (Rs [Mv 81 16, Mv 82 12, Ll 83 82, Bi 84 .lss 81 83] (Cn 84 .skip (.exit 2))) (Sq (.block 3 (Sq (.reg [Mv 87 12, Mv 88 16, Ix 89 .afield 87 88, Fa 90 0 89, Fo [] [] (.ld 91 1 false false 90), Fa 92 0 15, Fo [1] [] (.ld 93 1 false false 92), Bi 94 .eql 91 93] [[], [], [0, 1], [0, 1, 2], rg 0 3, [], [5], rg 0 6]) (Cn 94 (Rg [Mv 95 0, Ca 96 110 [95, kI 5]]) .skip))) (Rg [Mv 85 16, Bc 86 .add 85 1, Mv 16 86]))
def sQ : IR := Sq (Rs [Mv 127 19, Fa 128 1 15, Lo 129 128, Ll 130 129, Bi 131 .lss 127 130, Mv 132 131, Gt 132 (.mov 133 0), Gt 132 (.nck 134 133), Gt 132 (.fad 135 1 134), Gt 132 (.ld 136 1 false false 135), Gt 132 (.bin 137 .eql 136 (kI 0)), Pa 138 132 137] (Cn 138 .skip (.exit 4))) (Sq (.block 5 (Rs [Fa 141 1 15, Lo 142 141, Mv 143 19, Ix 144 .str 142 143, Lq 145 144, Ca 146 161 [145], Un 147 146] (Cn 147 (Rg [Mv 148 0, Ca 149 110 [148, kI 6]]) .skip))) (Rg [Mv 139 19, Bc 140 .add 139 1, Mv 19 140]))
def sR : IR := Rg [Pp (.mov 150 (.tk 12)), Pp (.ld 151 9 true false 15), Pp (.bsl 152 .afield [151] true), Pp (.app 153 .afield (.tk 150) 152), Pp (.mov 12 (.tk 153))]
def mj : IR := Rs [Ld 98 5 true 14, Ca 99 113 [98, kS [116, 121, 112, 101]], Mv 97 99, Ex_ 100 0 97, Ex_ 101 1 97, Pp (.alr 17 5), Fz 17 5 100, Mv 18 101] (Sq (Rs [Mv 102 18, Un 103 102] (Cn 103 (Rg [Mv 104 0, Ca 105 110 [104, kI 2]]) .skip)) (Rs [Mv 106 0, Ld 107 5 true 17, Mv 108 3, Mv 109 4, Bc 110 .add 109 1, Ca 111 72 [106, 107, 108, 110], Fa 112 2 15, Sv 1 112 111] (Rs [Ld 114 5 true 14, Ca 115 113 [114, kS [100, 101, 102, 97, 117, 108, 116]], Mv 113 115, Ex_ 116 0 113, Ex_ 117 1 113, Fa 118 4 15, Sv 5 118 116, Fa 119 3 15, Sv 1 119 117] (Rs [Mv 121 0, Ld 122 5 true 14, Ca 123 143 [121, 122, kS [97, 108, 105, 97, 115, 101, 115]], Mv 120 123, Ex_ 124 0 120, Ex_ 125 1 120, Fa 126 1 15, Sk 1 126 124] (Sq (Rs [Mi 19 0] (.block 4 (.loop [0, 2, 3, 4, 10, 12, 13, 15, 19, 1000001] 2 sQ))) sR)))))
def eX : IR := Rg [Mv 52 13, Bc 53 .add 52 1, Mv 13 53]
def hZ : IR := Sq (Rs [Mv 40 13, Fa 41 3 10, Lq 42 41, Ll 43 42, Bi 44 .lss 40 43, Mv 45 44, Gt 45 (.mov 46 0), Gt 45 (.nck 47 46), Gt 45 (.fad 48 1 47), Gt 45 (.ld 49 1 false false 48), Gt 45 (.bin 50 .eql 49 (kI 0)), Pa 51 45 50] (Cn 51 .skip (.exit 0))) (Sq (.block 1 (Rs [Fa 54 3 10, Lq 55 54, Mv 56 13, Ix 57 .jnode 55 56, Ld 58 5 true 57, Pp (.alr 14 5), Fz 14 5 58] (Sq (Rs [Fa 59 0 14, Lq 60 59, Bc 61 .neq 60 6] (Cn 61 (Rs [Mv 62 0, Ca 63 110 [62, kI 2]] .ret) .skip)) (Rs [Mv 64 0, Ld 65 5 true 14, Ca 66 140 [64, 65, kS [110, 97, 109, 101], kB true], Pp (.bld 67 [vS, nl .str, vI 0, .bool false, vI 0, vI 0, vS, nl .jnode, nl .str] [(0, 1, 66)]), Pp (.new 15 [vS, nl .str, vI 0, .bool false, vI 0, vI 0, vS, nl .jnode, nl .str]), Sv 9 15 67] (Sq (Rs [Mv 68 0, Nk 69 68, Fa 70 1 69, Lo 71 70, Bc 72 .eql 71 0, Mv 73 72, Gt 73 (.fad 74 0 15), Gt 73 (.ld 75 1 false false 74), Gt 73 (.call 76 161 [75]), Gt 73 (.un 77 .not 76), Pa 78 73 77] (Cn 78 (Rg [Mv 79 0, Ca 80 110 [79, kI 6]]) .skip)) (Sq (Rs [Mi 16 0] (.block 2 (.loop [0, 2, 3, 4, 10, 12, 13, 14, 15, 16, 1000000] 2 hY))) mj)))))) eX)
def ia : IR := Rs [Mv 154 0, Nk 155 154, Fa 156 1 155, Lo 157 156, Bc 158 .eql 157 0] (Cn 158 (.gh (.opn (.cell 0 0)) (.ghp (.cls (.cell 0 0)) (Rg [Mv 159 0, Nk 160 159, Fa 161 0 160, Fa 162 0 161, Lo 163 162, Mv 164 2, Mv 165 12, Pp (.ixw 166 .atype 163 164), Pp (.fdw 167 8 166), Pp (.stw none 1 167 165)]))) .skip)
def ph : IR := Rs [Bx 6 1] (Rs [Ld 21 5 true 6, Ca 22 113 [21, kS [102, 105, 101, 108, 100, 115]], Mv 20 22, Ex_ 23 0 20, Ex_ 24 1 20, Pp (.alr 10 5), Fz 10 5 23, Mv 11 24] (Sq (Rs [Mv 25 11, Un 26 25, Mv 27 26, Gf 27 (.fad 28 0 10), Gf 27 (.lde 29 1 false 28), Gf 27 (.bin 30 .neq 29 (kI 5)), Po 31 27 30] (Cn 31 (Rs [Mv 32 0, Ca 33 110 [32, kI 2]] .ret) .skip)) (Sq (Rs [Fa 34 3 10, Lq 35 34, Ll 36 35, Bc 37 .gtr 36 30] (Cn 37 (Rs [Mv 38 0, Ca 39 110 [38, kI 3]] .ret) .skip)) (Rs [Pp (.mov 12 (.c (nl .afield)))] (Sq (Rs [Mi 13 0] (.block 0 (.loop [0, 2, 3, 4, 10, 12, 13, 1000002] 1 hZ))) ia)))))
def eL : List RV := []
theorem adF : FnC Try.prog aW [72, 110, 140, 143, 2000072, 2000110, 2000140, 2000143] 1 wH Try.f144 ph eL := fnC (by kernel_rfl) Try.func144 (by kernel_rfl) (by kernel_rfl) (by decide)
def dx (R : IR → (Ex → St → Ro) → St → Ro) (a : St → Ro) : Ex → St → Ro := (bM a [0, 2, 3, 4, 10, 12, 13, 1000002] 1 (aT 0 (bx (R ia) (fin eL))))
abbrev ck : Type := (Int × Bs × Int × Int × Int × Bs × List aD × Bss × List aM × Int × List aA × Int)
def bd : ck → St := fun (c, d, e, f, g, h, i, j, k, l, a, b) => { env := (.ptr 0 0 :: .undef :: .int .i64 c :: .str d :: .int .i64 e :: (U 5 (.ea [.int .i64 f, .int .i64 g, .str h, .sl .jnode (.may false) i, .sl .str (.may false) j] :: .undef :: .sl .afield .own k :: .int .i64 l :: (U 154 [])))), hp := [some [.ul .atype a, .int .i64 b]] }
def nU (R : IR → (Ex → St → Ro) → St → Ro) (a b : St → Ro) : Ex → St → Ro := (bM b [0, 2, 3, 4, 10, 12, 13, 14, 15, 16, 1000000] 2 (aT 2 (bx (R mj) (aT 1 (bx (R eX) (dx R a))))))
abbrev dy : Type := (Int × Bs × Int × Int × Int × Bs × List aD × Bss × List aM × Int × Int × Int × Bs × List aD × Bss × Int × List aA × Int × Bs × Bss × Int × Bool × Int × Int × Bs × List aD × Bss)
def cd : dy → St := fun (r, s, t, u, v, w, x, y, z, x9, a, b, c, d, e, f, g, h, i, j, k, l, m, n, o, p, q) => { env := (.ptr 0 0 :: .undef :: .int .i64 r :: .str s :: .int .i64 t :: (U 5 (.ea [.int .i64 u, .int .i64 v, .str w, .sl .jnode (.may false) x, .sl .str (.may false) y] :: .undef :: .sl .afield .own z :: .int .i64 x9 :: .ea [.int .i64 a, .int .i64 b, .str c, .sl .jnode (.may false) d, .sl .str (.may false) e] :: .ptr 1 0 :: .int .i64 f :: (U 151 [])))), hp := [some [.ul .atype g, .int .i64 h], some [.str i, .sl .str .own j, .int .i64 k, .bool l, .int .i64 m, .int .i64 n, .str o, .sl .jnode .own p, .sl .str .own q]] }
def acx (R : IR → (Ex → St → Ro) → St → Ro) (a b : St → Ro) : Ex → St → Ro := (bM b [0, 2, 3, 4, 10, 12, 13, 15, 19, 1000001] 2 (aT 4 (bx (R sR) (aT 1 (bx (R eX) (dx R a))))))
abbrev fR : Type := (Int × Bs × Int × Int × Int × Bs × List aD × Bss × List aM × Int × Int × List aA × Int × Bs × Bss × Int × Bool × Int × Int × Bs × List aD × Bss)
def dT : fR → St := fun (m, n, o, p, q, r, s, t, u, v, a, b, c, d, e, f, g, h, i, j, k, l) => { env := (.ptr 0 0 :: .undef :: .int .i64 m :: .str n :: .int .i64 o :: (U 5 (.ea [.int .i64 p, .int .i64 q, .str r, .sl .jnode (.may false) s, .sl .str (.may false) t] :: .undef :: .sl .afield .own u :: .int .i64 v :: .undef :: .ptr 1 0 :: (U 3 (.int .i64 a :: (U 148 [])))))), hp := [some [.ul .atype b, .int .i64 c], some [.str d, .sl .str (.may false) e, .int .i64 f, .bool g, .int .i64 h, .int .i64 i, .str j, .sl .jnode (.may false) k, .sl .str (.may false) l]] }
def jR (N : Nat) (a : St → Ro) : (St → Ro) → St → Ro := fun b s => run aW N sQ (acx (run aW N) a b) s
def dz (N : Nat) (p : ck → Ro) (q : fR → Ro) : fR → Ro := fun (w, x, y, j, k, l, m, n, s, u, t, r, o, b, a, c, d, e, f, g, h, i) =>
 let z : Int := (↑(List.length a) : Int)
 cond (decide (t < z)) (
 cond (o == 0) (
 chk ((decide (0 ≤ t) && decide (t < ↑(List.length a)))) (
 let aa : Bs := List.getD a (Int.toNat t) (aC .str)
 aG (jP aa) (fun (ab : Bool) =>
 cond (!ab) (
 aG (aK r o 6) (fun v =>
 let ac : Int := (IntKind.wrap .i64 (t + 1))
 q (w, x, y, j, k, l, m, n, s, u, ac, v.2.1, v.2.2, b, a, c, d, e, f, g, h, i))) (
 let ad : Int := (IntKind.wrap .i64 (t + 1))
 q (w, x, y, j, k, l, m, n, s, u, ad, r, o, b, a, c, d, e, f, g, h, i))))) (
 chk (decide ((List.length s + List.length ([⟨b, a, c, d, ⟨e, f, g, h, i⟩⟩] : List aM)) * 136 ≤ 140737488355328)) (
 let ae : List aM := (s ++ ([⟨b, a, c, d, ⟨e, f, g, h, i⟩⟩] : List aM))
 let af : Int := (IntKind.wrap .i64 (u + 1))
 p (w, x, y, j, k, l, m, n, ae, af, r, o)))) (
 chk (decide ((List.length s + List.length ([⟨b, a, c, d, ⟨e, f, g, h, i⟩⟩] : List aM)) * 136 ≤ 140737488355328)) (
 let ag : List aM := (s ++ ([⟨b, a, c, d, ⟨e, f, g, h, i⟩⟩] : List aM))
 let ah : Int := (IntKind.wrap .i64 (u + 1))
 p (w, x, y, j, k, l, m, n, ag, ah, r, o)))
theorem abA (N : Nat) (b : St → Ro) : ∀ (a : St → Ro) (x : fR), jR N b a (dT x) = dz N (fun y => b (bd y)) (fun y => a (dT y)) x := by
 intro a x
 kernel_rfl
def fS (N : Nat) (a : St → Ro) : (St → Ro) → St → Ro := fun b s => run aW N hY (nU (run aW N) a b) s
def iS (N : Nat) (aj : ck → Ro) (n : dy → Ro) (q2 : fR → Ro) : dy → Ro := fun (v2, v3, v4, g, h, i, j, k, m, t, a, b, c, d, e, q, o, p, l, u, v, w, x, y, z, aa, ab) =>
 let x8 : Int := (↑(List.length m) : Int)
 cond (decide (q < x8)) (
 chk ((decide (0 ≤ q) && decide (q < ↑(List.length m)))) (
 let x9 : Bs := (List.getD m (Int.toNat q) (aC .afield)).name
 cond (decide (x9 = l)) (
 aG (aK o p 5) (fun r9 =>
 let al : Int := (IntKind.wrap .i64 (q + 1))
 n (v2, v3, v4, g, h, i, j, k, m, t, a, b, c, d, e, al, r9.2.1, r9.2.2, l, u, v, w, x, y, z, aa, ab))) (
 let am : Int := (IntKind.wrap .i64 (q + 1))
 n (v2, v3, v4, g, h, i, j, k, m, t, a, b, c, d, e, am, o, p, l, u, v, w, x, y, z, aa, ab)))) (
 aG (db a b c d e ([116, 121, 112, 101] : Bs)) (fun f =>
 cond (!f.2.2.2.2.2) (
 aG (aK o p 2) (fun ai =>
 let an : Int := (IntKind.wrap .i64 (v4 + 1))
 aG (cz ai.2.1 ai.2.2 f.1 f.2.1 f.2.2.1 f.2.2.2.1 f.2.2.2.2.1 v3 an) (fun ac =>
 aG (db a b c d e ([100, 101, 102, 97, 117, 108, 116] : Bs)) (fun r =>
 aG (dc ac.2.1 ac.2.2 a b c d e ([97, 108, 105, 97, 115, 101, 115] : Bs)) (fun ad =>
 q2 (v2, v3, v4, g, h, i, j, k, m, t, 0, ad.2.2.1, ad.2.2.2, l, ad.1, ac.1, r.2.2.2.2.2, r.1, r.2.1, r.2.2.1, r.2.2.2.1, r.2.2.2.2.1)))))) (
 let ao : Int := (IntKind.wrap .i64 (v4 + 1))
 aG (cz o p f.1 f.2.1 f.2.2.1 f.2.2.2.1 f.2.2.2.2.1 v3 ao) (fun ae =>
 aG (db a b c d e ([100, 101, 102, 97, 117, 108, 116] : Bs)) (fun s =>
 aG (dc ae.2.1 ae.2.2 a b c d e ([97, 108, 105, 97, 115, 101, 115] : Bs)) (fun af =>
 q2 (v2, v3, v4, g, h, i, j, k, m, t, 0, af.2.2.1, af.2.2.2, l, af.1, ae.1, s.2.2.2.2.2, s.1, s.2.1, s.2.2.1, s.2.2.2.1, s.2.2.2.2.1)))))))
def ez (N : Nat) (a : ck → Ro) (b : dy → Ro) (x : dy) : Ro := iS N a b (fun z => aS N (dz N a) z) x
def fT (N : Nat) (a b : St → Ro) : List (Nat × (St → Ro)) := (ba aW N hY (nU (run aW N) a b) ++ (ba aW N mj (aT 1 (bx (run aW N eX) (dx (run aW N) a))) ++ (ba aW N eX (dx (run aW N) a) ++ (ba aW N ia (fin eL) ++ []))))
theorem abB (N : Nat) (a : St → Ro) : ∀ (b : St → Ro) (x : dy), fS N a b (cd x) = ez N (fun y => a (bd y)) (fun y => b (cd y)) x := by
 intro b x
 have hX : ∀ C : Nat → St → Ro, bT C aW N hY (nU (bT C aW N) a b) (cd x) = iS N (fun y => a (bd y)) (fun y => b (cd y)) (fun z => C 1000001 (dT z)) x := by
  intro C
  kernel_rfl
 have h : fS N a b (cd x) = iS N (fun y => a (bd y)) (fun y => b (cd y)) (fun z => bo N (jR N a) (dT z)) x := (cp (C := dM (fT N a b)) (bR (aX (l := (fT N a b)) (by kernel_rfl))) (oJ (cD (eF (bR (dl (aX (l := (fT N a b)) (by kernel_rfl)))) (cD (eF (bR (dl (dl (aX (l := (fT N a b)) (by kernel_rfl))))) (oJ (cD (eF (bR (dl (dl (dl (aX (l := (fT N a b)) (by kernel_rfl)))))) rfl)))))))) _).trans ((hX _).trans (by kernel_rfl))
 have e2 : (fun z => bo N (jR N a) (dT z)) = (fun z => aS N (dz N (fun y => a (bd y))) z) := funext fun z => bj (dT) (jR N a) (dz N (fun y => a (bd y))) (abA N a) N z
 rw [h, e2]
 rfl
def jS (N : Nat) : (St → Ro) → St → Ro := fun a s => run aW N hZ (dx (run aW N) a) s
def iT (N : Nat) (r : ck → Ro) (x : dy → Ro) : ck → Ro := fun (j, y, z, f, g, h, b, i, k, d, a, c) =>
 let x2 : Int := (↑(List.length b) : Int)
 cond (decide (d < x2)) (
 cond (c == 0) (
 chk ((decide (0 ≤ d) && decide (d < ↑(List.length b)))) (
 let o : Int := (List.getD b (Int.toNat d) (aC .jnode)).kind
 let t : Int := (List.getD b (Int.toNat d) (aC .jnode)).n
 let u : Bs := (List.getD b (Int.toNat d) (aC .jnode)).s
 let v : List aD := (List.getD b (Int.toNat d) (aC .jnode)).l
 let w : Bss := (List.getD b (Int.toNat d) (aC .jnode)).names
 cond (!(o == 6)) (
 aG (aK a c 2) (fun r5 =>
 some (.tup [], [some [.ul .atype r5.2.1, .int .i64 r5.2.2]]))) (
 aG (dO a c o t u v w ([110, 97, 109, 101] : Bs) true) (fun m =>
 cond (m.2.2 == 0) (
 aG (jP m.1) (fun (r7 : Bool) =>
 cond (!r7) (
 aG (aK m.2.1 m.2.2 6) (fun r8 =>
 x (j, y, z, f, g, h, b, i, k, d, o, t, u, v, w, 0, r8.2.1, r8.2.2, m.1, ([] : Bss), 0, false, 0, 0, ([] : Bs), ([] : List aD), ([] : Bss)))) (
 x (j, y, z, f, g, h, b, i, k, d, o, t, u, v, w, 0, m.2.1, m.2.2, m.1, ([] : Bss), 0, false, 0, 0, ([] : Bs), ([] : List aD), ([] : Bss))))) (
 x (j, y, z, f, g, h, b, i, k, d, o, t, u, v, w, 0, m.2.1, m.2.2, m.1, ([] : Bss), 0, false, 0, 0, ([] : Bs), ([] : List aD), ([] : Bss))))))) (
 cond (c == 0) (
 chk (decide (0 < List.length a)) (
 chk ((decide (0 ≤ j) && decide (j < ↑(List.length a)))) (
 chk (decide ((Int.toNat j) < List.length a)) (
 let p : List aA := (List.set a (Int.toNat j) (let e := List.getD a (Int.toNat j) (aC .atype); ⟨e.kind, e.name, e.aliases, e.items, e.syms, e.hasdef, e.df, e.size, k, e.branches⟩))
 chk (Nat.beq (List.length a) (List.length p)) (
 some (.tup [], [some [.ul .atype p, .int .i64 c], none, none])))))) (
 some (.tup [], [some [.ul .atype a, .int .i64 c]])))) (
 cond (c == 0) (
 chk (decide (0 < List.length a)) (
 chk ((decide (0 ≤ j) && decide (j < ↑(List.length a)))) (
 chk (decide ((Int.toNat j) < List.length a)) (
 let q : List aA := (List.set a (Int.toNat j) (let e := List.getD a (Int.toNat j) (aC .atype); ⟨e.kind, e.name, e.aliases, e.items, e.syms, e.hasdef, e.df, e.size, k, e.branches⟩))
 chk (Nat.beq (List.length a) (List.length q)) (
 some (.tup [], [some [.ul .atype q, .int .i64 c], none, none])))))) (
 some (.tup [], [some [.ul .atype a, .int .i64 c]])))
def jT (N : Nat) (a : ck → Ro) (x : ck) : Ro := iT N a (fun z => aS N (ez N a) z) x
def nV (N : Nat) (a : St → Ro) : List (Nat × (St → Ro)) := (ba aW N hZ (dx (run aW N) a) ++ (ba aW N ia (fin eL) ++ []))
theorem abC (N : Nat) : ∀ (a : St → Ro) (x : ck), jS N a (bd x) = jT N (fun y => a (bd y)) x := by
 intro a x
 have hX : ∀ C : Nat → St → Ro, bT C aW N hZ (dx (bT C aW N) a) (bd x) = iT N (fun y => a (bd y)) (fun z => C 1000000 (cd z)) x := by
  intro C
  kernel_rfl
 have h : jS N a (bd x) = iT N (fun y => a (bd y)) (fun z => bo N (fS N a) (cd z)) x := (cp (C := dM (nV N a)) (bR (aX (l := (nV N a)) (by kernel_rfl))) (oJ (cD (eF (bR (dl (aX (l := (nV N a)) (by kernel_rfl)))) rfl))) _).trans ((hX _).trans (by kernel_rfl))
 have e1 : (fun z => bo N (fS N a) (cd z)) = (fun z => aS N (ez N (fun y => a (bd y))) z) := funext fun z => bj (cd) (fS N a) (ez N (fun y => a (bd y))) (abB N a) N z
 rw [h, e1]
 rfl
def gA (N : Nat) (a : List aA) (b d e : Int) (f : Bs) (g : List aD) (h : Bss) (l : Int) (m : Bs) (n : Int) (o : ck → Ro) : Ro :=
 aG (db d e f g h ([102, 105, 101, 108, 100, 115] : Bs)) (fun c =>
 cond (!c.2.2.2.2.2) (
 aG (aK a b 2) (fun i =>
 some (.tup [], [some [.ul .atype i.2.1, .int .i64 i.2.2]]))) (
 cond (!(c.1 == 5)) (
 aG (aK a b 2) (fun j =>
 some (.tup [], [some [.ul .atype j.2.1, .int .i64 j.2.2]]))) (
 let p : Int := (↑(List.length c.2.2.2.1) : Int)
 cond (decide (30 < p)) (
 aG (aK a b 3) (fun k =>
 some (.tup [], [some [.ul .atype k.2.1, .int .i64 k.2.2]]))) (
 o (l, m, n, c.1, c.2.1, c.2.2.1, c.2.2.2.1, c.2.2.2.2.1, ([] : List aM), 0, a, b)))))
def pi (N : Nat) (a : List aA) (b c d : Int) (e : Bs) (f : List aD) (g : Bss) (h : Int) (i : Bs) (j : Int) : Ro := gA N a b c d e f g h i j (fun z => aS N (jT N) z)
def aeS (N : Nat) : List (Nat × (St → Ro)) := ba aW N ph (fin eL) ++ []
theorem acy (N : Nat) (a : List aA) (c d e : Int) (f : Bs) (g : List aD) (h : Bss) (i : Int) (j : Bs) (k : Int) : bc aW N 168 eL ph [.ptr 0 0, .agg [.int .i64 d, .int .i64 e, .str f, .sl .jnode (.may false) g, .sl .str (.may false) h], .int .i64 i, .str j, .int .i64 k] [some [.ul .atype a, .int .i64 c]] = pi N a c d e f g h i j k :=
 (bU (aeS N) (by kernel_rfl) rfl (fun C => gA N a c d e f g h i j k (fun z => C 1000002 (bd z))) (fun C => by kernel_rfl)).trans (Eq.trans (b := gA N a c d e f g h i j k (fun z => bo N (jS N) (bd z))) (by kernel_rfl) (congrArg (gA N a c d e f g h i j k) (funext fun z => bj (bd) (jS N) (jT N) (abC N) N z)))
theorem acz (N : Nat) (a : List aA) (b c d : Int) (e : Bs) (f : List aD) (g : Bss) (k : Int) (l : Bs) (m : Int) (h : Tot (pi N a b c d e f g k l m) (fun z => ∃ (i : List aA) (j : Int) (rest : List aL), z.1.dimR = .tup [] ∧ z.2 = some [.ul .atype i, .int .i64 j] :: rest ∧ dP a b c d e f g k l m (i, j))) : ∃ r, gU a b c d e f g k l m r := by
 obtain ⟨⟨v, hp⟩, hz, i, j, rest, e1, e2, hq⟩ := h
 simp only at e1 e2
 subst e2
 exact ⟨(i, j), bl.dimR (FnC.objs (css := [[.ul .atype a, .int .i64 b]]) (css' := [[.ul .atype i, .int .i64 j]]) adF (acy N a b c d e f g k l m) hz rfl) e1, hq⟩
noncomputable def bS : aO := tab (P := Try.prog) [] [cS, ol, yR, sA, af8, rf, aey, adc] [] [pS, amJ]
def jU : IR := Sq (Rs [Mv 59 17, Mv 60 15, Ll 61 60, Bi 62 .lss 59 61, Mv 63 62, Gt 63 (.mov 64 0), Gt 63 (.nck 65 64), Gt 63 (.fad 66 1 65), Gt 63 (.ld 67 1 false false 66), Gt 63 (.bin 68 .eql 67 (kI 0)), Pa 69 63 68] (Cn 69 .skip (.exit 0))) (Sq (.block 1 (.reg [Fa 72 2 14, Fo [] [1] (.ld 73 1 false true 72), Mv 74 0, Mv 75 15, Mv 76 17, Ix 77 .str 75 76, Lq 78 77, Mv 79 3, Fo [] [0] (.call 80 141 [74, 78, 79]), Pp (.bsl 81 .str [80] true), Pp (.app 82 .str (.tk 73) 81), Fa 83 2 14, Fo [] [1] (.st none 1 83 (.tk 82))] [[], [0], [], [], [], [3, 4], [3, 4, 5], [], rg 2 7, rg 2 8, rg 0 9, rg 0 10, rg 0 11])) (Rg [Mv 70 17, Bc 71 .add 70 1, Mv 17 71]))
def tK : IR := Sq (Rs [Mv 101 0, Nk 102 101, Fa 103 1 102, Lo 104 103, Bc 105 .neq 104 0] (Cn 105 (Rs [Mi 10 0] .ret) .skip)) (Rs [Mv 106 0, Pp (.ld 107 10 true false 14), Ca 108 116 [106, 107], Mv 20 108] (Sq (Rs [Mv 109 2] (.block 2 (Rs [Bc 150 .eql 109 9, Mv 149 150] (Cn 149 (Rg [Mv 151 0, Ld 152 5 true 6, Mv 153 20, Mv 154 3, Mv 155 4, Ca 156 144 [151, 152, 153, 154, 155]]) (Rs [Bc 158 .eql 109 10, Mv 157 158] (Cn 157 (Rg [Mv 159 0, Ld 160 5 true 6, Mv 161 20, Ca 162 145 [159, 160, 161]]) (Rs [Ld 111 5 true 6, Ca 112 113 [111, kS [115, 105, 122, 101]], Mv 110 112, Ex_ 113 0 110, Ex_ 114 1 110, Pp (.alr 21 5), Fz 21 5 113, Mv 22 114] (Sq (Rs [Mv 115 22, Un 116 115, Mv 117 116, Gf 117 (.fad 118 0 21), Gf 117 (.lde 119 1 false 118), Gf 117 (.bin 120 .neq 119 (kI 3)), Po 121 117 120] (Cn 121 (Rs [Mv 122 0, Ca 123 110 [122, kI 2], Mv 10 123] .ret) .skip)) (Sq (Rs [Fa 124 1 21, Lq 125 124, Bc 126 .lss 125 0, Mv 127 126, Gf 127 (.fad 128 1 21), Gf 127 (.lde 129 1 false 128), Gf 127 (.bin 130 .gtr 129 (kI 5000)), Po 131 127 130] (Cn 131 (Rs [Mv 132 0, Ca 133 110 [132, kI 6], Mv 10 133] .ret) .skip)) (Rs [Mv 134 0, Nk 135 134, Fa 136 1 135, Lo 137 136, Bc 138 .eql 137 0] (Cn 138 (.gh (.opn (.cell 0 0)) (.ghp (.cls (.cell 0 0)) (.reg [Mv 139 0, Nk 140 139, Fa 141 0 140, Fa 142 0 141, Fo [0] [] (.ld 143 1 false false 142), Mv 144 20, Fa 145 1 21, Lq 146 145, Pp (.ixw 147 .atype 143 144), Pp (.fdw 148 7 147), Fo [] [2] (.stw none 1 148 146)] [[], [0], [0, 1], [0, 1, 2], rg 0 3, [], [], [6], rg 0 7, rg 0 8, rg 0 9]))) .skip))))))))))) (Rs [Mv 163 20, Mv 10 163] .ret)))
def mR : IR := Rs [Mv 85 0, Fa 86 1 14, Lo 87 86, Ca 88 138 [85, 87], Mv 84 88, Ex_ 89 0 84, Ex_ 90 1 84, Mv 18 89, Mv 19 90] (Sq (Rs [Mv 91 0, Nk 92 91, Fa 93 1 92, Lo 94 93, Bc 95 .eql 94 0, Mv 96 95, Gt 96 (.mov 97 19), Pa 98 96 97] (Cn 98 (Rg [Mv 99 0, Ca 100 110 [99, kI 5]]) .skip)) (.cut [0, 2, 3, 4, 6, 14, 1000001] 2 tK))
def iU : IR := Sq (Rs [Mv 39 0, Nk 40 39, Fa 41 1 40, Lo 42 41, Bc 43 .neq 42 0] (Cn 43 (Rs [Mi 10 0] .ret) .skip)) (Rs [Mv 44 2, Mv 45 0, Mv 46 11, Mv 47 3, Ca 48 141 [45, 46, 47], Pp (.bld 49 [vI 0, vS, nl .str, vI 0, nl .str, .bool false, vS, vI 0, nl .afield, nl (.num .i64)] [(0, 1, 44), (1, 1, 48)]), Pp (.new 14 [vI 0, vS, nl .str, vI 0, nl .str, .bool false, vS, vI 0, nl .afield, nl (.num .i64)]), Sv 10 14 49] (Rs [Fa 50 1 14, Lo 51 50, Ca 52 142 [51], Mv 3 52] (Rs [Mv 54 0, Ld 55 5 true 6, Ca 56 143 [54, 55, kS [97, 108, 105, 97, 115, 101, 115]], Mv 53 56, Ex_ 57 0 53, Ex_ 58 1 53, Mv 15 57, Mv 16 58] (Sq (Rs [Mi 17 0] (.block 0 (.loop [0, 2, 3, 4, 6, 14, 15, 17, 1000000] 2 jU))) mR))))
def p9 : IR := Rs [Bx 6 1, Mi 10 0] (Rs [Mv 23 0, Ld 24 5 true 6, Ca 25 140 [23, 24, kS [110, 97, 109, 101], kB true], Mv 11 25] (Rs [Ld 27 5 true 6, Ca 28 113 [27, kS [110, 97, 109, 101, 115, 112, 97, 99, 101]], Mv 26 28, Ex_ 29 0 26, Ex_ 30 1 26, Pp (.alr 12 5), Fz 12 5 29, Mv 13 30] (Sq (Rs [Mv 31 13] (Cn 31 (Sq (Rs [Fa 32 0 12, Lq 33 32, Bc 34 .neq 33 4] (Cn 34 (Rg [Mv 35 0, Ca 36 110 [35, kI 2]]) .skip)) (Rg [Fa 37 2 12, Lq 38 37, Mv 3 38])) .skip)) (.cut [0, 2, 3, 4, 6, 11, 1000002] 1 iU))))
def cQ : List RV := [.t 10]
theorem aeT : FnC Try.prog bS [110, 116, 138, 140, 141, 143, 144, 145, 2000110, 2000116, 2000138, 2000140, 2000141, 2000143, 2000144, 2000145] 1 xq Try.f114 p9 cQ := fnC (by kernel_rfl) Try.func114 (by kernel_rfl) (by kernel_rfl) (by decide)
abbrev gB : Type := (Int × Bs × Int × Int × Int × Bs × List aD × Bss × Bs × List aA × Int)
def fU : gB → St := fun (b, c, d, e, f, g, h, i, j, k, a) => { env := (.ptr 0 0 :: .undef :: .int .i64 b :: .str c :: .int .i64 d :: .undef :: .ea [.int .i64 e, .int .i64 f, .str g, .sl .jnode (.may false) h, .sl .str (.may false) i] :: (U 4 (.str j :: (U 152 [])))), hp := [some [.ul .atype k, .int .i64 a]] }
def pj (R : IR → (Ex → St → Ro) → St → Ro) (a : St → Ro) : Ex → St → Ro := (bM a [0, 2, 3, 4, 6, 14, 15, 17, 1000000] 2 (aT 0 (bx (R mR) (fin cQ))))
abbrev dK : Type := (Int × Bs × Int × Int × Int × Bs × List aD × Bss × Bss × Int × List aA × Int × Int × Bs × Bss × Int × Bss × Bool × Bs × Int × List aM × List Int)
def cl : dK → St := fun (m, n, o, p, q, r, s, t, u, v, a, b, c, d, e, f, g, h, i, j, k, l) => { env := (.ptr 0 0 :: .undef :: .int .i64 m :: .str n :: .int .i64 o :: .undef :: .ea [.int .i64 p, .int .i64 q, .str r, .sl .jnode (.may false) s, .sl .str (.may false) t] :: (U 7 (.ptr 1 0 :: .sl .str (.may false) u :: .undef :: .int .i64 v :: (U 146 [])))), hp := [some [.ul .atype a, .int .i64 b], some [.int .i64 c, .str d, .sl .str .own e, .int .i64 f, .sl .str .own g, .bool h, .str i, .int .i64 j, .sl .afield .own k, .sl (.num .i64) .own l]] }
abbrev kJ : Type := (Int × Bs × Int × Int × Int × Bs × List aD × Bss × List aA × Int × Int × Bs × Bss × Int × Bss × Bool × Bs × Int × List aM × List Int)
def jV : kJ → St := fun (k, l, m, n, o, p, q, r, s, t, a, b, c, d, e, f, g, h, i, j) => { env := (.ptr 0 0 :: .undef :: .int .i64 k :: .str l :: .int .i64 m :: .undef :: .ea [.int .i64 n, .int .i64 o, .str p, .sl .jnode (.may false) q, .sl .str (.may false) r] :: (U 7 (.ptr 1 0 :: (U 149 [])))), hp := [some [.ul .atype s, .int .i64 t], some [.int .i64 a, .str b, .sl .str .own c, .int .i64 d, .sl .str .own e, .bool f, .str g, .int .i64 h, .sl .afield .own i, .sl (.num .i64) .own j]] }
def pk (N : Nat) : St → Ro := fun s => run bS N tK (fin cQ) s
def eM (N : Nat) : kJ → Ro := fun (v2, v3, v4, l, m, n, o, p, t, q, b, c, d, e, f, g, h, i, j, k) =>
 cond (!(q == 0)) (
 some (.int .i64 0, [some [.ul .atype t, .int .i64 q], some [.int .i64 b, .str c, .sl .str .own d, .int .i64 e, .sl .str .own f, .bool g, .str h, .int .i64 i, .sl .afield .own j, .sl (.num .i64) .own k]])) (
 aG (eB t q b c d e f g h i j k) (fun a =>
 cond (v2 == 9) (
 aG (gU a.2.1 a.2.2 l m n o p a.1 v3 v4) (fun y =>
 some (.int .i64 a.1, [some [.ul .atype y.1, .int .i64 y.2], some [.int .i64 b, .str c, .sl .str .own d, .int .i64 e, .sl .str .own f, .bool g, .str h, .int .i64 i, .sl .afield .own j, .sl (.num .i64) .own k]]))) (
 cond (v2 == 10) (
 aG (gn a.2.1 a.2.2 l m n o p a.1) (fun z =>
 some (.int .i64 a.1, [some [.ul .atype z.1, .int .i64 z.2], some [.int .i64 b, .str c, .sl .str .own d, .int .i64 e, .sl .str .own f, .bool g, .str h, .int .i64 i, .sl .afield .own j, .sl (.num .i64) .own k]]))) (
 aG (db l m n o p ([115, 105, 122, 101] : Bs)) (fun r =>
 cond (!r.2.2.2.2.2) (
 aG (aK a.2.1 a.2.2 2) (fun u =>
 some (.int .i64 u.1, [some [.ul .atype u.2.1, .int .i64 u.2.2], some [.int .i64 b, .str c, .sl .str .own d, .int .i64 e, .sl .str .own f, .bool g, .str h, .int .i64 i, .sl .afield .own j, .sl (.num .i64) .own k]]))) (
 cond (!(r.1 == 3)) (
 aG (aK a.2.1 a.2.2 2) (fun v =>
 some (.int .i64 v.1, [some [.ul .atype v.2.1, .int .i64 v.2.2], some [.int .i64 b, .str c, .sl .str .own d, .int .i64 e, .sl .str .own f, .bool g, .str h, .int .i64 i, .sl .afield .own j, .sl (.num .i64) .own k]]))) (
 cond (decide (r.2.1 < 0)) (
 aG (aK a.2.1 a.2.2 6) (fun w =>
 some (.int .i64 w.1, [some [.ul .atype w.2.1, .int .i64 w.2.2], some [.int .i64 b, .str c, .sl .str .own d, .int .i64 e, .sl .str .own f, .bool g, .str h, .int .i64 i, .sl .afield .own j, .sl (.num .i64) .own k]]))) (
 cond (decide (5000 < r.2.1)) (
 aG (aK a.2.1 a.2.2 6) (fun x =>
 some (.int .i64 x.1, [some [.ul .atype x.2.1, .int .i64 x.2.2], some [.int .i64 b, .str c, .sl .str .own d, .int .i64 e, .sl .str .own f, .bool g, .str h, .int .i64 i, .sl .afield .own j, .sl (.num .i64) .own k]]))) (
 cond (a.2.2 == 0) (
 chk (decide (0 < List.length a.2.1)) (
 chk ((decide (0 ≤ a.1) && decide (a.1 < ↑(List.length a.2.1)))) (
 chk (decide ((Int.toNat a.1) < List.length a.2.1)) (
 let x5 : List aA := (List.set a.2.1 (Int.toNat a.1) (let s := List.getD a.2.1 (Int.toNat a.1) (aC .atype); ⟨s.kind, s.name, s.aliases, s.items, s.syms, s.hasdef, s.df, r.2.1, s.fields, s.branches⟩))
 chk (Nat.beq (List.length a.2.1) (List.length x5)) (
 some (.int .i64 a.1, [some [.ul .atype x5, .int .i64 a.2.2], some [.int .i64 b, .str c, .sl .str .own d, .int .i64 e, .sl .str .own f, .bool g, .str h, .int .i64 i, .sl .afield .own j, .sl (.num .i64) .own k], none, none])))))) (
 some (.int .i64 a.1, [some [.ul .atype a.2.1, .int .i64 a.2.2], some [.int .i64 b, .str c, .sl .str .own d, .int .i64 e, .sl .str .own f, .bool g, .str h, .int .i64 i, .sl .afield .own j, .sl (.num .i64) .own k]])))))))))))
theorem acA (N : Nat) : ∀ (x : kJ), pk N (jV x) = eM N x := by
 intro x
 kernel_rfl
def gD (N : Nat) : (St → Ro) → St → Ro := fun a s => run bS N jU (pj (run bS N) a) s
def jW (N : Nat) (t : dK → Ro) (z : kJ → Ro) : dK → Ro := fun (x, v, y, c, d, e, f, g, u, r, s, q, h, a, b, i, j, k, l, m, n, o) =>
 let x1 : Int := (↑(List.length u) : Int)
 cond (decide (r < x1)) (
 cond (q == 0) (
 chk ((decide (0 ≤ r) && decide (r < ↑(List.length u)))) (
 let x2 : Bs := List.getD u (Int.toNat r) (aC .str)
 aG (fG s q x2 v) (fun r7 =>
 chk (decide ((List.length b + List.length ([r7.1] : Bss)) * 16 ≤ 140737488355328)) (
 let x3 : Bss := (b ++ ([r7.1] : Bss))
 let x4 : Int := (IntKind.wrap .i64 (r + 1))
 t (x, v, y, c, d, e, f, g, u, x4, r7.2.1, r7.2.2, h, a, x3, i, j, k, l, m, n, o))))) (
 aG (cT s q a) (fun w =>
 cond (w.2.2.2 == 0) (
 cond w.2.1 (
 aG (aK w.2.2.1 w.2.2.2 5) (fun r9 =>
 z (x, v, y, c, d, e, f, g, r9.2.1, r9.2.2, h, a, b, i, j, k, l, m, n, o))) (
 z (x, v, y, c, d, e, f, g, w.2.2.1, w.2.2.2, h, a, b, i, j, k, l, m, n, o))) (
 z (x, v, y, c, d, e, f, g, w.2.2.1, w.2.2.2, h, a, b, i, j, k, l, m, n, o))))) (
 aG (cT s q a) (fun p =>
 cond (p.2.2.2 == 0) (
 cond p.2.1 (
 aG (aK p.2.2.1 p.2.2.2 5) (fun aa =>
 z (x, v, y, c, d, e, f, g, aa.2.1, aa.2.2, h, a, b, i, j, k, l, m, n, o))) (
 z (x, v, y, c, d, e, f, g, p.2.2.1, p.2.2.2, h, a, b, i, j, k, l, m, n, o))) (
 z (x, v, y, c, d, e, f, g, p.2.2.1, p.2.2.2, h, a, b, i, j, k, l, m, n, o))))
def eN (N : Nat) (a : dK → Ro) (x : dK) : Ro := jW N a (fun z => eM N z) x
def pl (N : Nat) (a : St → Ro) : List (Nat × (St → Ro)) := (ba bS N jU (pj (run bS N) a) ++ (ba bS N mR (fin cQ) ++ []))
theorem acB (N : Nat) : ∀ (a : St → Ro) (x : dK), gD N a (cl x) = eN N (fun y => a (cl y)) x := by
 intro a x
 have hX : ∀ C : Nat → St → Ro, bT C bS N jU (pj (bT C bS N) a) (cl x) = jW N (fun y => a (cl y)) (fun z => C 1000001 (jV z)) x := by
  intro C
  kernel_rfl
 have h : gD N a (cl x) = jW N (fun y => a (cl y)) (fun z => pk N (jV z)) x := (cp (C := dM (pl N a)) (bR (aX (l := (pl N a)) (by kernel_rfl))) (oJ (cD (eF (bR (dl (aX (l := (pl N a)) (by kernel_rfl)))) rfl))) _).trans ((hX _).trans (by kernel_rfl))
 have e2 : (fun z => pk N (jV z)) = (fun z => eM N z) := funext fun z => acA N z
 rw [h, e2]
 rfl
def pm (N : Nat) : St → Ro := fun s => run bS N iU (fin cQ) s
def jX (N : Nat) (l : dK → Ro) : gB → Ro := fun (k, m, n, b, c, d, e, f, i, g, a) =>
 cond (!(a == 0)) (
 some (.int .i64 0, [some [.ul .atype g, .int .i64 a]])) (
 aG (fG g a i m) (fun h =>
 aG (oU h.1) (fun (o : Bs) =>
 aG (dc h.2.1 h.2.2 b c d e f ([97, 108, 105, 97, 115, 101, 115] : Bs)) (fun j =>
 l (k, o, n, b, c, d, e, f, j.1, 0, j.2.2.1, j.2.2.2, k, h.1, ([] : Bss), 0, ([] : Bss), false, ([] : Bs), 0, ([] : List aM), ([] : List Int))))))
def kK (N : Nat) (x : gB) : Ro := jX N (fun z => aS N (eN N) z) x
def vL (N : Nat) : List (Nat × (St → Ro)) := (ba bS N iU (fin cQ) ++ [])
theorem acC (N : Nat) : ∀ (x : gB), pm N (fU x) = kK N x := by
 intro x
 have hX : ∀ C : Nat → St → Ro, bT C bS N iU (fin cQ) (fU x) = jX N (fun z => C 1000000 (cl z)) x := by
  intro C
  kernel_rfl
 have h : pm N (fU x) = jX N (fun z => bo N (gD N) (cl z)) x := (cp (C := dM (vL N)) (bR (aX (l := (vL N)) (by kernel_rfl))) rfl _).trans ((hX _).trans (by kernel_rfl))
 have e1 : (fun z => bo N (gD N) (cl z)) = (fun z => aS N (eN N) z) := funext fun z => bj (cl) (gD N) (eN N) (acB N) N z
 rw [h, e1]
 rfl
def ib (N : Nat) (g : List aA) (h a b : Int) (c : Bs) (d : List aD) (e : Bss) (j : Int) (n : Bs) (k : Int) (l : gB → Ro) : Ro :=
 aG (dO g h a b c d e ([110, 97, 109, 101] : Bs) true) (fun f =>
 aG (db a b c d e ([110, 97, 109, 101, 115, 112, 97, 99, 101] : Bs)) (fun i =>
 cond i.2.2.2.2.2 (
 cond (!(i.1 == 4)) (
 aG (aK f.2.1 f.2.2 2) (fun m =>
 l (j, i.2.2.1, k, a, b, c, d, e, f.1, m.2.1, m.2.2))) (
 l (j, i.2.2.1, k, a, b, c, d, e, f.1, f.2.1, f.2.2))) (
 l (j, n, k, a, b, c, d, e, f.1, f.2.1, f.2.2))))
def qa (N : Nat) (a : List aA) (b c d : Int) (e : Bs) (f : List aD) (g : Bss) (h : Int) (i : Bs) (j : Int) : Ro := ib N a b c d e f g h i j (fun z => kK N z)
def agm (N : Nat) : List (Nat × (St → Ro)) := ba bS N p9 (fin cQ) ++ []
theorem adG (N : Nat) (a : List aA) (c d e : Int) (f : Bs) (g : List aD) (h : Bss) (i : Int) (j : Bs) (k : Int) : bc bS N 164 cQ p9 [.ptr 0 0, .agg [.int .i64 d, .int .i64 e, .str f, .sl .jnode (.may false) g, .sl .str (.may false) h], .int .i64 i, .str j, .int .i64 k] [some [.ul .atype a, .int .i64 c]] = qa N a c d e f g h i j k :=
 (bU (agm N) (by kernel_rfl) rfl (fun C => ib N a c d e f g h i j k (fun z => C 1000002 (fU z))) (fun C => by kernel_rfl)).trans (Eq.trans (b := ib N a c d e f g h i j k (fun z => pm N (fU z))) (by kernel_rfl) (congrArg (ib N a c d e f g h i j k) (funext fun z => acC N z)))
theorem adH (N : Nat) (a : List aA) (b c d : Int) (e : Bs) (f : List aD) (g : Bss) (k : Int) (l : Bs) (m : Int) (h : Tot (qa N a b c d e f g k l m) (fun z => ∃ (n : Int) (i : List aA) (j : Int) (rest : List aL), z.1.dimR = .int .i64 n ∧ z.2 = some [.ul .atype i, .int .i64 j] :: rest ∧ fN a b c d e f g k l m (n, i, j))) : ∃ r, jh a b c d e f g k l m r := by
 obtain ⟨⟨v, hp⟩, hz, n, i, j, rest, e1, e2, hq⟩ := h
 simp only at e1 e2
 subst e2
 exact ⟨(n, i, j), bl.dimR (FnC.objs (css := [[.ul .atype a, .int .i64 b]]) (css' := [[.ul .atype i, .int .i64 j]]) aeT (adG N a b c d e f g k l m) hz rfl) e1, hq⟩
noncomputable def aY : aO := tab (P := Try.prog) [] [ni, cS, ahp, af4, af6, ol] [] [pS, ahq]
def uu : IR := Rs [Ld 88 5 true 5, Mv 89 12, Ca 90 113 [88, 89], Mv 87 90, Ex_ 91 0 87, Ex_ 92 1 87, Pp (.alr 13 5), Fz 13 5 91, Mv 14 92] (Sq (Rs [Mv 93 14, Un 94 93] (Cn 94 (Rs [Mv 95 0, Ca 96 110 [95, kI 2], Mv 8 96] .ret) .skip)) (Rs [Mv 97 0, Ld 98 5 true 13, Mv 99 2, Mv 100 3, Bc 101 .add 100 1, Ca 102 72 [97, 98, 99, 101], Mv 15 102] (Sq (Rs [Mv 103 0, Nk 104 103, Fa 105 1 104, Lo 106 105, Bc 107 .eql 106 0] (Cn 107 (.gh (.opn (.cell 0 0)) (.ghp (.cls (.cell 0 0)) (Rg [Mv 108 0, Nk 109 108, Fa 110 0 109, Fa 111 0 110, Lo 112 111, Mv 113 11, Mv 114 15, Pp (.ixw 115 .atype 112 113), Pp (.fdw 116 3 115), Pp (.stw none 1 116 114)]))) .skip)) (Rs [Mv 117 11, Mv 8 117] .ret))))
def jY : IR := Cn 75 (Rs [Mv 78 0, Fa 79 2 9, Lq 80 79, Ca 81 115 [80], Pp (.bld 82 [vI 0, vS, fu .str true, vI 0, fu .str true, .bool false, vS, vI 0, fu .afield true, fu (.num .i64) true] [(0, 1, 81)]), Ca 83 116 [78, 82], Mv 11 83] (Rs [Ms 12 [105, 116, 101, 109, 115]] (Sq (Rs [Fa 84 2 9, Lq 85 84, Pp (.bin 86 .eql 85 (kS [109, 97, 112]))] (Cn 86 (Rg [Ms 12 [118, 97, 108, 117, 101, 115]]) .skip)) (.cut [0, 2, 3, 5, 11, 12, 1000000] 1 uu)))) .skip
def jZ : IR := Cn 63 (Sq (.reg [Mv 67 0, Ld 68 5 true 5, Fa 69 2 9, Lq 70 69, Ca 71 115 [70], Mv 72 2, Mv 73 3, Fo [] [0] (.call 74 114 [67, 68, 71, 72, 73]), Mv 8 74] [[], [], [], [2], [2, 3], [], [], rg 0 6, rg 0 7]) .ret) (Sq (Rs [Pp (.bin 76 .eql 62 (kS [97, 114, 114, 97, 121])), Mv 75 76] (Cn 75 .skip (Rg [Pp (.bin 77 .eql 62 (kS [109, 97, 112])), Mv 75 77]))) (.cut [0, 2, 3, 5, 9, 75, 1000001] 1 jY))
def uv : IR := Rs [Mv 118 0, Fa 119 2 9, Lq 120 119, Mv 121 2, Ca 122 111 [118, 120, 121], Mv 8 122] .ret
def j0 : IR := .cut [0, 2, 9, 1000003] 1 uv
def dA : IR := Rs [Mv 123 0, Ca 124 110 [123, kI 2], Mv 8 124] .ret
def rp : IR := Rs [Bx 5 1, Mi 8 0] (Sq (Rs [Mv 16 0, Nk 17 16, Fa 18 1 17, Lo 19 18, Bc 20 .neq 19 0] (Cn 20 (Rs [Mi 8 0] .ret) .skip)) (Sq (Rs [Mv 21 3, Bc 22 .gtr 21 20] (Cn 22 (Rs [Mv 23 0, Ca 24 110 [23, kI 3], Mv 8 24] .ret) .skip)) (Sq (Rs [Fa 25 0 5, Lq 26 25] (.block 0 (Rs [Bc 28 .eql 26 4, Mv 27 28] (Cn 27 (Rs [Mv 29 0, Fa 30 2 5, Lq 31 30, Mv 32 2, Ca 33 111 [29, 31, 32], Mv 8 33] .ret) (Rs [Bc 35 .eql 26 5, Mv 34 35] (Cn 34 (Rs [Mv 36 0, Ld 37 5 true 5, Mv 38 2, Mv 39 3, Ca 40 112 [36, 37, 38, 39], Mv 8 40] .ret) (Rs [Bc 42 .eql 26 6, Mv 41 42] (Cn 41 (Rs [Ld 44 5 true 5, Ca 45 113 [44, kS [116, 121, 112, 101]], Mv 43 45, Ex_ 46 0 43, Ex_ 47 1 43, Pp (.alr 9 5), Fz 9 5 46, Mv 10 47] (Sq (Rs [Mv 48 10, Un 49 48] (Cn 49 (Rs [Mv 50 0, Ca 51 110 [50, kI 2], Mv 8 51] .ret) .skip)) (Sq (Rs [Fa 52 0 9, Lq 53 52, Bc 54 .neq 53 4] (Cn 54 (Rs [Mv 55 0, Ld 56 5 true 9, Mv 57 2, Mv 58 3, Bc 59 .add 58 1, Ca 60 72 [55, 56, 57, 59], Mv 8 60] .ret) .skip)) (Sq (Rs [Fa 61 2 9, Lq 62 61] (.block 1 (Sq (Rs [Pp (.bin 64 .eql 62 (kS [114, 101, 99, 111, 114, 100])), Mv 63 64] (Cn 63 .skip (Rs [Pp (.bin 65 .eql 62 (kS [101, 110, 117, 109])), Mv 63 65] (Cn 63 .skip (Rg [Pp (.bin 66 .eql 62 (kS [102, 105, 120, 101, 100])), Mv 63 66]))))) (.cut [0, 2, 3, 5, 9, 62, 63, 1000002] 1 jZ)))) j0)))) .skip)))))))) dA)))
def dd : List RV := [.t 8]
theorem agn : FnC Try.prog aY [72, 110, 111, 112, 114, 116, 2000072, 2000110, 2000111, 2000112, 2000114, 2000116] 1 yP Try.f72 rp dd := fnC (by kernel_rfl) Try.func72 (by kernel_rfl) (by kernel_rfl) (by decide)
abbrev ic : Type := (Bs × Int × Int × Int × Bs × List aD × Bss × Int × Int × Bs × List aD × Bss × Bs × Bool × List aA × Int)
def gE : ic → St := fun (g, h, i, j, k, l, m, n, o, p, a, b, c, d, e, f) => { env := (.ptr 0 0 :: .undef :: .str g :: .int .i64 h :: .undef :: .ea [.int .i64 i, .int .i64 j, .str k, .sl .jnode (.may false) l, .sl .str (.may false) m] :: (U 3 (.ea [.int .i64 n, .int .i64 o, .str p, .sl .jnode (.may false) a, .sl .str (.may false) b] :: (U 52 (.str c :: .bool d :: (U 61 [])))))), hp := [some [.ul .atype e, .int .i64 f]] }
def dX (R : IR → (Ex → St → Ro) → St → Ro) : Ex → St → Ro := (aT 1 (bx (R j0) (aT 0 (bx (R dA) (fin dd)))))
abbrev ie : Type := (Bs × Int × Int × Int × Bs × List aD × Bss × Int × Int × Bs × List aD × Bss × Bool × List aA × Int)
def eO : ie → St := fun (f, g, h, i, j, k, l, m, n, o, a, b, c, d, e) => { env := (.ptr 0 0 :: .undef :: .str f :: .int .i64 g :: .undef :: .ea [.int .i64 h, .int .i64 i, .str j, .sl .jnode (.may false) k, .sl .str (.may false) l] :: (U 3 (.ea [.int .i64 m, .int .i64 n, .str o, .sl .jnode (.may false) a, .sl .str (.may false) b] :: (U 65 (.bool c :: (U 49 [])))))), hp := [some [.ul .atype d, .int .i64 e]] }
abbrev lJ : Type := (Bs × Int × Int × Int × Bs × List aD × Bss × Int × Bs × List aA × Int)
def kL : lJ → St := fun (b, c, d, e, f, g, h, i, j, k, a) => { env := (.ptr 0 0 :: .undef :: .str b :: .int .i64 c :: .undef :: .ea [.int .i64 d, .int .i64 e, .str f, .sl .jnode (.may false) g, .sl .str (.may false) h] :: (U 5 (.int .i64 i :: .str j :: (U 112 [])))), hp := [some [.ul .atype k, .int .i64 a]] }
def qb (N : Nat) : St → Ro := fun s => run aY N uu (dX (run aY N)) s
def ig (N : Nat) : lJ → Ro := fun (o, p, h, i, j, k, l, b, m, e, f) =>
 aG (db h i j k l m) (fun c =>
 cond (!c.2.2.2.2.2) (
 aG (aK e f 2) (fun g =>
 some (.int .i64 g.1, [some [.ul .atype g.2.1, .int .i64 g.2.2]]))) (
 let q : Int := (IntKind.wrap .i64 (p + 1))
 aG (cz e f c.1 c.2.1 c.2.2.1 c.2.2.2.1 c.2.2.2.2.1 o q) (fun a =>
 cond (a.2.2 == 0) (
 chk (decide (0 < List.length a.2.1)) (
 chk ((decide (0 ≤ b) && decide (b < ↑(List.length a.2.1)))) (
 chk (decide ((Int.toNat b) < List.length a.2.1)) (
 let n : List aA := (List.set a.2.1 (Int.toNat b) (let d := List.getD a.2.1 (Int.toNat b) (aC .atype); ⟨d.kind, d.name, d.aliases, a.1, d.syms, d.hasdef, d.df, d.size, d.fields, d.branches⟩))
 chk (Nat.beq (List.length a.2.1) (List.length n)) (
 some (.int .i64 b, [some [.ul .atype n, .int .i64 a.2.2], none, none])))))) (
 some (.int .i64 b, [some [.ul .atype a.2.1, .int .i64 a.2.2]])))))
theorem adI (N : Nat) : ∀ (x : lJ), qb N (kL x) = ig N x := by
 intro x
 kernel_rfl
abbrev lK : Type := (Bs × Int × Int × Bs × List aD × Bss × List aA × Int)
def kM : lK → St := fun (a, b, c, d, e, f, g, h) => { env := (.ptr 0 0 :: .undef :: .str a :: (U 6 (.ea [.int .i64 b, .int .i64 c, .str d, .sl .jnode (.may false) e, .sl .str (.may false) f] :: (U 115 [])))), hp := [some [.ul .atype g, .int .i64 h]] }
def aeU (R : IR → (Ex → St → Ro) → St → Ro) : Ex → St → Ro := (aT 0 (bx (R dA) (fin dd)))
def qc (N : Nat) : St → Ro := fun s => run aY N uv (aeU (run aY N)) s
def ii (N : Nat) : lK → Ro := fun (e, _, _, b, _, _, c, d) =>
 aG (gm c d b e) (fun a =>
 some (.int .i64 a.1, [some [.ul .atype a.2.1, .int .i64 a.2.2]]))
theorem adJ (N : Nat) : ∀ (x : lK), qc N (kM x) = ii N x := by
 intro x
 kernel_rfl
def lL (N : Nat) : St → Ro := fun s => run aY N jY (dX (run aY N)) s
def kN (N : Nat) (p : lJ → Ro) (r : lK → Ro) : ie → Ro := fun (n, q, c, d, e, f, g, j, k, b, l, m, o, h, i) =>
 cond o (
 aG (mh b) (fun (s : Int) =>
 aG (eB h i s ([] : Bs) ([] : Bss) 0 ([] : Bss) false ([] : Bs) 0 ([] : List aM) ([] : List Int)) (fun a =>
 let t : Bool := decide (b = ([109, 97, 112] : Bs))
 cond t (
 p (n, q, c, d, e, f, g, a.1, ([118, 97, 108, 117, 101, 115] : Bs), a.2.1, a.2.2)) (
 p (n, q, c, d, e, f, g, a.1, ([105, 116, 101, 109, 115] : Bs), a.2.1, a.2.2))))) (
 r (n, j, k, b, l, m, h, i))
def ij (N : Nat) (x : ie) : Ro := kN N (fun z => ig N z) (fun z => ii N z) x
def lM (N : Nat) : List (Nat × (St → Ro)) := (ba aY N jY (dX (run aY N)) ++ (ba aY N j0 (aT 0 (bx (run aY N dA) (fin dd))) ++ (ba aY N dA (fin dd) ++ [])))
theorem adK (N : Nat) : ∀ (x : ie), lL N (eO x) = ij N x := by
 intro x
 have hX : ∀ C : Nat → St → Ro, bT C aY N jY (dX (bT C aY N)) (eO x) = kN N (fun z => C 1000000 (kL z)) (fun z => C 1000003 (kM z)) x := by
  intro C
  kernel_rfl
 have h : lL N (eO x) = kN N (fun z => qb N (kL z)) (fun z => qc N (kM z)) x := (cp (C := dM (lM N)) (bR (aX (l := (lM N)) (by kernel_rfl))) (cD (eF (bR (dl (aX (l := (lM N)) (by kernel_rfl)))) (cD (eF (bR (dl (dl (aX (l := (lM N)) (by kernel_rfl))))) rfl)))) _).trans ((hX _).trans (by kernel_rfl))
 have e2 : (fun z => qb N (kL z)) = (fun z => ig N z) := funext fun z => adI N z
 have e3 : (fun z => qc N (kM z)) = (fun z => ii N z) := funext fun z => adJ N z
 rw [h, e2, e3]
 rfl
def qd (N : Nat) : St → Ro := fun s => run aY N jZ (dX (run aY N)) s
def kO (N : Nat) (r : ie → Ro) : ic → Ro := fun (n, o, a, b, c, d, e, i, j, f, k, l, m, p, g, h) =>
 cond p (
 aG (mh f) (fun (t : Int) =>
 aG (jh g h a b c d e t n o) (fun q =>
 some (.int .i64 q.1, [some [.ul .atype q.2.1, .int .i64 q.2.2]])))) (
 let s : Bool := decide (m = ([97, 114, 114, 97, 121] : Bs))
 cond s (
 r (n, o, a, b, c, d, e, i, j, f, k, l, s, g, h)) (
 let u : Bool := decide (m = ([109, 97, 112] : Bs))
 r (n, o, a, b, c, d, e, i, j, f, k, l, u, g, h)))
def lN (N : Nat) (x : ic) : Ro := kO N (fun z => ij N z) x
def lO (N : Nat) : List (Nat × (St → Ro)) := (ba aY N jZ (dX (run aY N)) ++ (ba aY N j0 (aT 0 (bx (run aY N dA) (fin dd))) ++ (ba aY N dA (fin dd) ++ [])))
theorem adL (N : Nat) : ∀ (x : ic), qd N (gE x) = lN N x := by
 intro x
 have hX : ∀ C : Nat → St → Ro, bT C aY N jZ (dX (bT C aY N)) (gE x) = kO N (fun z => C 1000001 (eO z)) x := by
  intro C
  kernel_rfl
 have h : qd N (gE x) = kO N (fun z => lL N (eO z)) x := (cp (C := dM (lO N)) (bR (aX (l := (lO N)) (by kernel_rfl))) (cD (eF (bR (dl (aX (l := (lO N)) (by kernel_rfl)))) (cD (eF (bR (dl (dl (aX (l := (lO N)) (by kernel_rfl))))) rfl)))) _).trans ((hX _).trans (by kernel_rfl))
 have e1 : (fun z => lL N (eO z)) = (fun z => ij N z) := funext fun z => adK N z
 rw [h, e1]
 rfl
def jn (N : Nat) (b : List aA) (a d f : Int) (e : Bs) (g : List aD) (h : Bss) (j : Bs) (k : Int) (l : ic → Ro) : Ro :=
 cond (!(a == 0)) (
 some (.int .i64 0, [some [.ul .atype b, .int .i64 a]])) (
 cond (decide (20 < k)) (
 aG (aK b a 3) (fun m =>
 some (.int .i64 m.1, [some [.ul .atype m.2.1, .int .i64 m.2.2]]))) (
 cond (d == 4) (
 aG (gm b a e j) (fun n =>
 some (.int .i64 n.1, [some [.ul .atype n.2.1, .int .i64 n.2.2]]))) (
 cond (d == 5) (
 aG (jg b a d f e g h j k) (fun o =>
 some (.int .i64 o.1, [some [.ul .atype o.2.1, .int .i64 o.2.2]]))) (
 cond (d == 6) (
 aG (db d f e g h ([116, 121, 112, 101] : Bs)) (fun c =>
 cond (!c.2.2.2.2.2) (
 aG (aK b a 2) (fun p =>
 some (.int .i64 p.1, [some [.ul .atype p.2.1, .int .i64 p.2.2]]))) (
 cond (!(c.1 == 4)) (
 let t : Int := (IntKind.wrap .i64 (k + 1))
 aG (cz b a c.1 c.2.1 c.2.2.1 c.2.2.2.1 c.2.2.2.2.1 j t) (fun q =>
 some (.int .i64 q.1, [some [.ul .atype q.2.1, .int .i64 q.2.2]]))) (
 let r : Bool := decide (c.2.2.1 = ([114, 101, 99, 111, 114, 100] : Bs))
 cond r (
 l (j, k, d, f, e, g, h, c.1, c.2.1, c.2.2.1, c.2.2.2.1, c.2.2.2.2.1, c.2.2.1, r, b, a)) (
 let s : Bool := decide (c.2.2.1 = ([101, 110, 117, 109] : Bs))
 cond s (
 l (j, k, d, f, e, g, h, c.1, c.2.1, c.2.2.1, c.2.2.2.1, c.2.2.2.2.1, c.2.2.1, s, b, a)) (
 let u : Bool := decide (c.2.2.1 = ([102, 105, 120, 101, 100] : Bs))
 l (j, k, d, f, e, g, h, c.1, c.2.1, c.2.2.1, c.2.2.2.1, c.2.2.2.2.1, c.2.2.1, u, b, a))))))) (
 aG (aK b a 2) (fun i =>
 some (.int .i64 i.1, [some [.ul .atype i.2.1, .int .i64 i.2.2]])))))))
def rq (N : Nat) (a : List aA) (b c d : Int) (e : Bs) (f : List aD) (g : Bss) (h : Bs) (i : Int) : Ro := jn N a b c d e f g h i (fun z => lN N z)
def ahU (N : Nat) : List (Nat × (St → Ro)) := ba aY N rp (fin dd) ++ []
theorem aeV (N : Nat) (a : List aA) (c d e : Int) (f : Bs) (g : List aD) (h : Bss) (i : Bs) (j : Int) : bc aY N 125 dd rp [.ptr 0 0, .agg [.int .i64 d, .int .i64 e, .str f, .sl .jnode (.may false) g, .sl .str (.may false) h], .str i, .int .i64 j] [some [.ul .atype a, .int .i64 c]] = rq N a c d e f g h i j :=
 (bU (ahU N) (by kernel_rfl) rfl (fun C => jn N a c d e f g h i j (fun z => C 1000002 (gE z))) (fun C => by kernel_rfl)).trans (Eq.trans (b := jn N a c d e f g h i j (fun z => qd N (gE z))) (by kernel_rfl) (congrArg (jn N a c d e f g h i j) (funext fun z => adL N z)))
theorem aeW (N : Nat) (a : List aA) (b c d : Int) (e : Bs) (f : List aD) (g : Bss) (k : Bs) (l : Int) (h : Tot (rq N a b c d e f g k l) (fun z => ∃ (m : Int) (i : List aA) (j : Int) (rest : List aL), z.1.dimR = .int .i64 m ∧ z.2 = some [.ul .atype i, .int .i64 j] :: rest ∧ eK a b c d e f g k l (m, i, j))) : ∃ r, cz a b c d e f g k l r := by
 obtain ⟨⟨v, hp⟩, hz, m, i, j, rest, e1, e2, hq⟩ := h
 simp only at e1 e2
 subst e2
 exact ⟨(m, i, j), bl.dimR (FnC.objs (css := [[.ul .atype a, .int .i64 b]]) (css' := [[.ul .atype i, .int .i64 j]]) agn (aeV N a b c d e f g k l) hz rfl) e1, hq⟩
noncomputable def ahV : aO := tab (P := Try.prog) [] [ni] [] []
def afP : IR := Rs [Bx 1 0, Pp (.new 2 [nl .atype]), Mi 3 0] (Rs [Pp (.bld 5 [.ul .atype ([] : List aA), vI 0] []), Pp (.box 6 5), Mv 4 6] (Rs [Mv 7 4, Ld 8 5 true 1, Ca 9 72 [7, 8, kS [], kI 1]] (Sq (Rs [Mv 10 4, Nk 11 10, Fa 12 1 11, Lo 13 12, Bc 14 .neq 13 0] (Cn 14 (Sq (.reg [Pp (.bld 15 [nl .atype] []), Mv 16 4, Nk 17 16, Fa 18 1 17, Fo [1] [] (.ld 19 1 false false 18), Fo [] [0] (.st none 1 2 15), Mv 3 19] [[], [], [1], [1, 2], [1, 2, 3], [0], rg 0 5]) .ret) .skip)) (Sq (.gh (.fz (.cell 1 0)) (Rg [Mv 20 4, Nk 21 20, Fa 22 0 21, Pp (.ld 23 1 true false 22), Sv 1 2 23, Mi 3 0])) .ret))))
def afQ : List RV := [.cell 2 1 true, .t 3]
theorem ao4 : FnC Try.prog ahV [72, 2000072] 0 ahd Try.f39 afP afQ := fnC (by kernel_rfl) Try.func39 (by kernel_rfl) (by kernel_rfl) (by decide)
def afR (N : Nat) (b c : Int) (d : Bs) (e : List aD) (f : Bss)  : Ro :=
 aG (cz ([] : List aA) 0 b c d e f ([] : Bs) 1) (fun a =>
 cond (!(a.2.2 == 0)) (
 some (.tup [.agg [.sl .atype (.may false) ([] : List aA)], .int .i64 a.2.2], [some [.sl .atype .own ([] : List aA)], some [.ul .atype a.2.1, .int .i64 a.2.2]])) (
 some (.tup [.agg [.sl .atype (.may false) a.2.1], .int .i64 0], [some [.sl .atype (.may false) a.2.1], some [.sl .atype .own a.2.1, .int .i64 a.2.2]])))
def zW (N : Nat) (a b : Int) (c : Bs) (d : List aD) (e : Bss) : Ro := afR N a b c d e
theorem am9 (N : Nat) (a b : Int) (c : Bs) (d : List aD) (e : Bss) : bc ahV N 24 afQ afP [.agg [.int .i64 a, .int .i64 b, .str c, .sl .jnode (.may false) d, .sl .str (.may false) e]] [] = zW N a b c d e := by kernel_rfl
theorem ana (N : Nat) (a b : Int) (c : Bs) (d : List aD) (e : Bss) (h : Tot (zW N a b c d e) (fun z => ∃ (f : List aA) (g : Int) (rest : List aL), z.1.dimR = .tup [.agg [.sl .atype (.may false) f], .int .i64 g] ∧ z.2 = rest ∧ wD a b c d e (f, g))) : ∃ r, su a b c d e r := by
 obtain ⟨⟨v, hp⟩, hz, f, g, rest, e1, e2, hq⟩ := h
 simp only at e1 e2
 subst e2
 exact ⟨(f, g), aI.dimR (ao4.pure (am9 N a b c d e) hz) e1, hq⟩
end Go.Proofs.Ytdpajabhmmmjoaa
end
noncomputable section
namespace Go.Proofs.Ytdpajabhmmmjoaa
open Go.AM
set_option autoImplicit false
set_option linter.unusedVariables false
set_option linter.unusedSimpArgs false
set_option maxRecDepth 100000
theorem nz {e c : Int} (hc : c ≠ 0) : (if e = 0 then c else e) ≠ 0 := by split <;> assumption
theorem asy (s : List UInt8) (hs : s.length ≤ 1000000) : ∃ r, oU s r := by
 apply ajW 2000000
 unfold wX np
 dsimp only
 refine bq (fun x => x.1 = s ∧ -1 ≤ x.2 ∧ x.2 < (s.length : Int)) (fun x => (x.2 + 1).toNat) ?_ _ _ ⟨rfl, by simp only [aJ ((s.length : Int) - 1) (by omega)]; omega, by simp only [aJ ((s.length : Int) - 1) (by omega)]; omega⟩ (by simp only [aJ ((s.length : Int) - 1) (by omega)]; omega)
 rintro again ⟨s, i⟩ ⟨rfl, i1, i2⟩ ih
 simp only at i1 i2 ih hs ⊢
 have e := aJ (i - 1) (by omega)
 unfold pW
 dsimp only
 repeat' (first | (with_reducible refine aE ?_ ?_ <;> (intro hb; (try simp only [bnl] at hb); (try revert hb; intro _))) | with_reducible refine aU ?_ ?_ | with_reducible refine aH ?_ | fail)
 ·first | (simp only [bnl, lnl]; done) | (simp only [bnl, lnl]; omega)
 ·first | (simp only [bnl, lnl]; done) | (simp only [bnl, lnl]; omega)
 ·exact ⟨_, _, rfl, rfl, by simp only [lj, List.length_drop, List.length_take]; omega⟩
 ·exact ih (s, _) ⟨rfl, by simp only [e]; omega, by simp only [e]; omega⟩ (by simp only [e]; omega)
 ·exact ⟨_, _, rfl, rfl, by simp [lj]⟩
theorem auA (ts : List aA) (t : Int) : ∃ r, rc ts t r := by
 apply ao3 1
 unfold abh ahS
 dsimp only
 repeat' (first | (with_reducible refine aE ?_ ?_ <;> (intro hb; (try simp only [bnl] at hb); (try revert hb; intro _))) | with_reducible refine aU ?_ ?_ | with_reducible refine aH ?_ | (refine aF (atY _) ?_; intro _ _) | fail)
 all_goals first | exact ⟨_, _, rfl, rfl⟩ | (first | (simp only [bnl, lnl]; done) | (simp only [bnl, lnl]; omega))
theorem anU (ts : List aA) (e : Int) (name space : List UInt8) (h1 : name.length ≤ 100) (h2 : space.length ≤ 10000) : ∃ r, fG ts e name space r := by
 apply adw 2000
 unfold pY gX
 refine aF (atZ _ _ (by omega) (by omega)) ?_
 rintro j ⟨-, hj⟩
 dsimp only [tw] at hj ⊢
 refine bq (fun x => x.1 = name ∧ x.2.1.length ≤ name.length + space.length + 1 ∧ 0 ≤ x.2.2.1 ∧ x.2.2.1 ≤ (name.length : Int) ∧ x.2.2.2.1 = ts ∧ x.2.2.2.2 = e) (fun x => ((name.length : Int) - x.2.2.1).toNat) ?_ _ _ ⟨rfl, by simp only; omega, by simp, by simp, rfl, rfl⟩ (by simp; omega)
 rintro again ⟨name, w, i, ts, e⟩ ⟨rfl, i0, i1, i2, rfl, rfl⟩ ih
 simp only at i0 i1 i2 ih h1 hj ⊢
 have ew : i < name.length → IntKind.i64.wrap (i + 1) = i + 1 := fun h => aJ (i + 1) (by omega)
 unfold kD
 dsimp only
 have next : ∀ q : List UInt8, i < name.length → q.length ≤ name.length + space.length + 1 → Tot (again (name, q, IntKind.i64.wrap (i + 1), ts, e)) _ := fun q h hq => ih (name, q, IntKind.i64.wrap (i + 1), ts, e)
  (by simp only [ew h]; exact ⟨trivial, hq, by omega, by omega, trivial, trivial⟩) (by simp only [ew h]; omega)
 repeat' (first | (with_reducible refine aE ?_ ?_ <;> (intro hb; (try simp only [bnl] at hb); (try revert hb; intro _))) | with_reducible refine aU ?_ ?_ | with_reducible refine aH ?_ | (refine aF (cA _ _ _) ?_; rintro _ ⟨-, rfl⟩; try dsimp only) | (refine aF (atc _ (by omega)) ?_; intro _ _) | fail)
 all_goals first | (first | (simp only [bnl, lnl]; done) | (simp only [bnl, lnl]; omega)) | (refine next _ (by omega) (by omega)) | skip
 ·refine ⟨_, _, _, _, rfl, rfl, ?_, rfl, fun h => absurd h (nz (by decide))⟩
  simp only
  omega
 ·refine ⟨_, _, _, _, rfl, rfl, ?_, rfl, fun h => absurd h (nz (by decide))⟩
  simp only
  omega
 ·refine ⟨_, _, _, _, rfl, rfl, ?_, rfl, fun h => h⟩
  simp only
  omega
theorem ajX (ts : List aA) (e c0 c1 : Int) (c2 : List UInt8) (c3 : List aD) (c4 : List (List UInt8)) (name : List UInt8) (must : Bool) (h : bi (.mk c0 c1 c2 c3 c4)) : ∃ r, dO ts e c0 c1 c2 c3 c4 name must r := by
 obtain ⟨k1, k2, k3, k4, k5, k6⟩ := h.kids
 apply aeM 1
 unfold rl xC
 refine aF (pc _ _ _ _ _ _ (by omega)) ?_
 rintro r ⟨-, hr⟩
 have hg := tB (k := c0) (names := c4) (name := name) k6
 simp only [cG] at hr
 rw [← hr] at hg
 obtain ⟨g1, g2, g3, g4, g5, g6⟩ := hg.kids
 repeat' (first | (with_reducible refine aE ?_ ?_ <;> (intro hb; (try simp only [bnl] at hb); (try revert hb; intro _))) | with_reducible refine aU ?_ ?_ | with_reducible refine aH ?_ | (refine aF (cA _ _ _) ?_; rintro _ ⟨-, rfl⟩; try dsimp only) | fail)
 all_goals first | exact ⟨_, _, _, _, rfl, rfl, g1, rfl, fun h => h⟩ | exact ⟨_, _, _, _, rfl, rfl, Nat.zero_le _, rfl, fun h => h⟩ | exact ⟨_, _, _, _, rfl, rfl, Nat.zero_le _, rfl, fun h => absurd h (nz (by decide))⟩
theorem ahW (ts : List aA) (e c0 c1 : Int) (c2 : List UInt8) (c3 : List aD) (c4 : List (List UInt8)) (name : List UInt8) (h : bi (.mk c0 c1 c2 c3 c4)) : ∃ r, dc ts e c0 c1 c2 c3 c4 name r := by
 obtain ⟨k1, k2, k3, k4, k5, k6⟩ := h.kids
 apply adz 2000
 unfold p5 gY
 refine aF (pc _ _ _ _ _ _ (by omega)) ?_
 rintro r ⟨-, hr⟩
 have hg := tB (k := c0) (names := c4) (name := name) k6
 simp only [cG] at hr
 rw [← hr] at hg
 obtain ⟨d0, d1, d2, l, d4, d5⟩ := r
 obtain ⟨g1, g2, g3, g4, g5, g6⟩ := hg.kids
 dsimp only at g2 g6 ⊢
 have loop : ∀ e1 : Int, (e1 = 0 → e = 0) → Tot (aS 2000 (gu 2000) (d0, d1, d2, l, d4, [], 0, ts, e1)) (fun z => ∃ (y0 : List (List UInt8)) (y1 : Bool) (y2 : List aA) (y3 : Int) (rest : List aL), z.1.dimR = .tup [.sl .str (.may false) y0, .bool y1] ∧ z.2 = some [.ul .atype y2, .int .i64 y3] :: rest ∧ nR ts e c0 c1 c2 c3 c4 name (y0, y1, y2, y3)) := by
  intro e1 he1
  refine bq (fun x => x.2.2.2.1 = l ∧ (x.2.2.2.2.2.1.length : Int) = x.2.2.2.2.2.2.1 ∧ x.2.2.2.2.2.2.1 ≤ (l.length : Int) ∧ cw x.2.2.2.2.2.1 ∧ x.2.2.2.2.2.2.2.1 = ts ∧ (x.2.2.2.2.2.2.2.2 = 0 → e = 0)) (fun x => ((l.length : Int) - x.2.2.2.2.2.2.1).toNat) ?_ _ _ ⟨rfl, rfl, by simp, by simp [cw], rfl, he1⟩ (by simp; omega)
  rintro again ⟨d0, d1, d2, l, d4, out, i, ts, e1⟩ ⟨rfl, i1, i2, i3, rfl, i4⟩ ih
  simp only at i1 i2 i3 i4 ih g2 g6 ⊢
  have ew : i < l.length → IntKind.i64.wrap (i + 1) = i + 1 := fun h => aJ (i + 1) (by omega)
  unfold gu
  dsimp only
  have next : ∀ e2 : Int, i < l.length → (e2 = 0 → e = 0) → Tot (again (d0, d1, d2, l, d4, out ++ [(List.getD l (Int.toNat i) (aC .jnode)).s], IntKind.i64.wrap (i + 1), ts, e2)) _ := fun e2 h hq => ih (d0, d1, d2, l, d4, out ++ [(List.getD l (Int.toNat i) (aC .jnode)).s], IntKind.i64.wrap (i + 1), ts, e2)
   (by
    simp only [ew h, List.length_append, List.length_cons, List.length_nil]
    refine ⟨trivial, by omega, by omega, ?_, trivial, hq⟩
    intro x hx
    rcases List.mem_append.1 hx with hx | hx
    ·exact i3 x hx
    ·simp only [List.mem_singleton] at hx
     subst hx
     exact (bi.eta.2 (bi.getD g6 i.toNat)).kids.1) (by simp only [ew h]; omega)
  repeat' (first | (with_reducible refine aE ?_ ?_ <;> (intro hb; (try simp only [bnl] at hb); (try revert hb; intro _))) | with_reducible refine aU ?_ ?_ | with_reducible refine aH ?_ | (refine aF (cA _ _ _) ?_; rintro _ ⟨-, rfl⟩; try dsimp only) | fail)
  all_goals first | (first | (simp only [bnl, lnl]; done) | (simp only [bnl, lnl]; omega)) | (refine next _ (by omega) ?_) | skip
  ·exact fun h => absurd h (nz (by decide))
  ·exact i4
  ·exact ⟨_, _, _, _, _, rfl, rfl, by simp only; omega, i3, rfl, i4⟩
  ·exact ⟨_, _, _, _, _, rfl, rfl, by simp only; omega, i3, rfl, i4⟩
 repeat' (first | (with_reducible refine aE ?_ ?_ <;> (intro hb; (try simp only [bnl] at hb); (try revert hb; intro _))) | with_reducible refine aU ?_ ?_ | with_reducible refine aH ?_ | (refine aF (cA _ _ _) ?_; rintro _ ⟨-, rfl⟩; try dsimp only) | fail)
 ·exact ⟨_, _, _, _, _, rfl, rfl, by simp, by simp [cw], rfl, fun h => h⟩
 ·exact loop _ fun h => absurd h (nz (by decide))
 ·exact loop _ fun h => h
theorem anV (ts : List aA) (e : Int) (s space : List UInt8) (h : ts.length ≤ 60) (h1 : s.length ≤ 100) (h2 : space.length ≤ 10000) : ∃ r, gm ts e s space r := by
 apply aeQ 2000
 unfold rn jm
 have loop : Tot (aS 2000 (hJ 2000) (s, space, false, 0, ts, e)) (fun z => ∃ (y0 : Int) (y1 : List aA) (y2 : Int) (rest : List aL), z.1.dimR = .int .i64 y0 ∧ z.2 = some [.ul .atype y1, .int .i64 y2] :: rest ∧ oT ts e s space (y0, y1, y2)) := by
  refine bq (fun x => x.1 = s ∧ x.2.1 = space ∧ 0 ≤ x.2.2.2.1 ∧ x.2.2.2.1 ≤ (s.length : Int) ∧ x.2.2.2.2.1 = ts ∧ x.2.2.2.2.2 = e) (fun x => ((s.length : Int) - x.2.2.2.1).toNat) ?_ _ _ ⟨rfl, rfl, by simp, by simp, rfl, rfl⟩ (by simp; omega)
  rintro again ⟨s, space, d, i, ts, e⟩ ⟨rfl, rfl, i1, i2, rfl, rfl⟩ ih
  simp only at i1 i2 ih h h1 h2 ⊢
  have ew : i < s.length → IntKind.i64.wrap (i + 1) = i + 1 := fun h => aJ (i + 1) (by omega)
  unfold hJ
  dsimp only
  have next : ∀ b : Bool, i < s.length → Tot (again (s, space, b, IntKind.i64.wrap (i + 1), ts, e)) _ := fun b h => ih (s, space, b, IntKind.i64.wrap (i + 1), ts, e)
   (by simp only [ew h]; exact ⟨trivial, trivial, by omega, by omega, trivial, trivial⟩) (by simp only [ew h]; omega)
  repeat' (first | (with_reducible refine aE ?_ ?_ <;> (intro hb; (try simp only [bnl] at hb); (try revert hb; intro _))) | with_reducible refine aU ?_ ?_ | with_reducible refine aH ?_ | (refine aF (cA _ _ _) ?_; rintro _ ⟨-, rfl⟩; try dsimp only) | (refine aF (aqJ _ _ _ h) ?_; rintro ⟨a, b, ts', e'⟩ ⟨-, hq, hf⟩; simp only [Prod.mk.injEq] at hq; obtain ⟨rfl, rfl⟩ := hq; dsimp only at hf ⊢) | fail)
  all_goals first | (first | (simp only [bnl, lnl]; done) | (simp only [bnl, lnl]; omega)) | (refine next _ (by omega)) | exact ⟨_, _, _, _, rfl, rfl, bN.bad h (nz (by decide)), fun h => absurd h (nz (by decide))⟩ | exact ⟨_, _, _, _, rfl, rfl, bN.refl h, fun _ => hf (by assumption)⟩
 refine aF (ajT _) ?_
 rintro (k : Int) ⟨-, hk1, hk2, hk3⟩
 repeat' (first | (with_reducible refine aE ?_ ?_ <;> (intro hb; (try simp only [bnl] at hb); (try revert hb; intro _))) | with_reducible refine aU ?_ ?_ | with_reducible refine aH ?_ | (refine aF (aie _ _ _ _ _ _ _ _ _ _ _ _ h) ?_; rintro _ ⟨-, rfl⟩; try dsimp only) | fail)
 ·by_cases hl : 60 ≤ ts.length
  ·skip
   simp only [if_pos hl]
   exact ⟨_, _, _, _, rfl, rfl, bN.bad h (nz (by decide)), fun h => absurd h (nz (by decide))⟩
  ·simp only [if_neg hl]
   refine ⟨_, _, _, _, rfl, rfl, bN.push (by omega) _ ⟨by simp only; omega, by simp, by simp, by simp, by simp, by simp, by simp, (fun h => by simp only at h; omega), (by simp only; omega), (fun h => by simp only at h; omega)⟩, fun _ => ?_⟩
   simp only [List.length_append, List.length_cons, List.length_nil]
   omega
 ·exact loop
 ·exact loop
end Go.Proofs.Ytdpajabhmmmjoaa
end
noncomputable section
namespace Go.Proofs.Ytdpajabhmmmjoaa
open Go.AM
set_option autoImplicit false
set_option linter.unusedVariables false
set_option linter.unusedSimpArgs false
set_option maxRecDepth 100000
theorem pn {α : Type} {l : List α} {i : Nat} {x d : α} (h : l[i]? = some x) : l.getD i d = x := by
 rw [List.getD_eq_getElem?_getD, h]; rfl
theorem arx {α : Type} {l : List α} {i : Nat} {x d : α} (h : i < l.length) : (l.set i x).getD i d = x := pn (List.getElem?_set_self h)
theorem ary (ts : List aA) (e c0 c1 : Int) (c2 : List UInt8) (c3 : List aD) (c4 : List (List UInt8)) (at_ : Int) (h : bi (.mk c0 c1 c2 c3 c4)) (hat : e = 0 → 0 ≤ at_ ∧ at_ < ts.length) : ∃ r, gn ts e c0 c1 c2 c3 c4 at_ r := by
 obtain ⟨k1, k2, k3, k4, k5, k6⟩ := h.kids
 apply abz 2000
 unfold nT fQ
 refine aF (ahW _ _ _ _ _ _ _ _ h) ?_
 rintro ⟨l, is, ts', e1⟩ ⟨-, h1, h2, rfl, h3⟩
 dsimp only at h1 h2 h3 hat ⊢
 have loop2 : ∀ (hd : Bool) (d : List UInt8) (e1 : Int), (e1 = 0 → e = 0 ∧ l ≠ []) → Tot (aS 2000 (dS 2000) (at_, l, hd, d, false, 0, ts', e1)) (fun z => ∃ (y0 : List aA) (y1 : Int) (rest : List aL), z.1.dimR = .tup [] ∧ z.2 = some [.ul .atype y0, .int .i64 y1] :: rest ∧ dG ts' e c0 c1 c2 c3 c4 at_ (y0, y1)) := by
  intro hd d e1 he1
  refine bq (fun x => match x with | (a, l', hd', d', b, i, ts2, e2) => a = at_ ∧ l' = l ∧ hd' = hd ∧ d' = d ∧ 0 ≤ i ∧ i ≤ (l.length : Int) ∧ ts2 = ts' ∧ e2 = e1) (fun x => ((l.length : Int) - x.2.2.2.2.2.1).toNat) ?_ _ _ ⟨rfl, rfl, rfl, rfl, by simp, by simp, rfl, rfl⟩ (by simp; omega)
  rintro again ⟨a, l', hd', d', b, i, ts2, e2⟩ ⟨rfl, rfl, rfl, rfl, i1, i2, rfl, rfl⟩ ih
  dsimp only at ih
  have ew : i < l'.length → IntKind.i64.wrap (i + 1) = i + 1 := fun h => aJ (i + 1) (by omega)
  have next : ∀ b : Bool, i < l'.length → Tot (again (a, l', hd', d', b, IntKind.i64.wrap (i + 1), ts2, e2)) _ := fun b h => ih (a, l', hd', d', b, IntKind.i64.wrap (i + 1), ts2, e2)
   (by simp only [ew h]; exact ⟨trivial, trivial, trivial, trivial, by omega, by omega, trivial, trivial⟩) (by simp only [ew h]; omega)
  unfold dS
  dsimp only
  have fin : ∀ (h0 : e2 = 0) (e3 : Int), e3 = e2 → dG ts2 e c0 c1 c2 c3 c4 a (List.set (List.set (List.set ts2 (Int.toNat a) (let e_ := List.getD ts2 (Int.toNat a) (aC .atype); ⟨(e_).kind, (e_).name, (e_).aliases, (e_).items, l', (e_).hasdef, (e_).df, (e_).size, (e_).fields, (e_).branches⟩)) (Int.toNat a) (let e_ := List.getD (List.set ts2 (Int.toNat a) (let e_ := List.getD ts2 (Int.toNat a) (aC .atype); ⟨(e_).kind, (e_).name, (e_).aliases, (e_).items, l', (e_).hasdef, (e_).df, (e_).size, (e_).fields, (e_).branches⟩)) (Int.toNat a) (aC .atype); ⟨(e_).kind, (e_).name, (e_).aliases, (e_).items, (e_).syms, hd', (e_).df, (e_).size, (e_).fields, (e_).branches⟩)) (Int.toNat a) (let e_ := List.getD (List.set (List.set ts2 (Int.toNat a) (let e_ := List.getD ts2 (Int.toNat a) (aC .atype); ⟨(e_).kind, (e_).name, (e_).aliases, (e_).items, l', (e_).hasdef, (e_).df, (e_).size, (e_).fields, (e_).branches⟩)) (Int.toNat a) (let e_ := List.getD (List.set ts2 (Int.toNat a) (let e_ := List.getD ts2 (Int.toNat a) (aC .atype); ⟨(e_).kind, (e_).name, (e_).aliases, (e_).items, l', (e_).hasdef, (e_).df, (e_).size, (e_).fields, (e_).branches⟩)) (Int.toNat a) (aC .atype); ⟨(e_).kind, (e_).name, (e_).aliases, (e_).items, (e_).syms, hd', (e_).df, (e_).size, (e_).fields, (e_).branches⟩)) (Int.toNat a) (aC .atype); ⟨(e_).kind, (e_).name, (e_).aliases, (e_).items, (e_).syms, (e_).hasdef, d', (e_).size, (e_).fields, (e_).branches⟩), e3) := by
   rintro h0 e3 rfl
   have ha := hat (he1 h0).1
   have hl : a.toNat < ts2.length := by omega
   refine ⟨fun h => (he1 h).1, fun h => absurd h0 h, fun _ => ⟨l', hd', d', (he1 h0).2, h1, ts2[a.toNat], List.getElem?_eq_getElem hl, ?_⟩⟩
   have g : ∀ x : aA, (ts2.set a.toNat x).getD a.toNat (aC .atype) = x := fun x => arx hl
   have g0 : ts2.getD a.toNat (aC .atype) = ts2[a.toNat] := pn (List.getElem?_eq_getElem hl)
   simp only [List.set_set, g, g0]
  repeat' (first | (with_reducible refine aE ?_ ?_ <;> (intro hb; (try simp only [bnl] at hb); (try revert hb; intro _))) | with_reducible refine aU ?_ ?_ | with_reducible refine aH ?_ | (refine aF (cA _ _ _) ?_; rintro _ ⟨-, rfl⟩; try dsimp only) | fail)
  all_goals first | (refine next _ (by omega)) | skip
  all_goals have hat' : e2 = 0 → 0 ≤ a ∧ a < ts2.length := fun h => hat (he1 h).1
  all_goals first | (first | (simp only [bnl, lnl]; done) | (simp only [bnl, lnl]; omega)) | skip
  all_goals first | exact ⟨_, _, _, rfl, rfl, fun h => (he1 h).1, fun _ => rfl, fun h => absurd h (by assumption)⟩ | exact ⟨_, _, _, rfl, rfl, fun h => absurd h (nz (by decide)), fun _ => rfl, fun h => absurd h (nz (by decide))⟩ | exact ⟨_, _, _, rfl, rfl, fin (by assumption) _ rfl⟩ | (exfalso; exact nz (by decide) (by assumption)) | skip
 have loop1 : ∀ (e1 : Int), (e1 = 0 → e = 0 ∧ l ≠ []) → Tot (aS 2000 (fg 2000) (at_, c0, c1, c2, c3, c4, l, 0, ts', e1)) (fun z => ∃ (y0 : List aA) (y1 : Int) (rest : List aL), z.1.dimR = .tup [] ∧ z.2 = some [.ul .atype y0, .int .i64 y1] :: rest ∧ dG ts' e c0 c1 c2 c3 c4 at_ (y0, y1)) := by
  intro e1 he1
  refine bq (fun x => match x with | (a, d0, d1, d2, d3, d4, l', i, ts2, e2) => a = at_ ∧ d0 = c0 ∧ d1 = c1 ∧ d2 = c2 ∧ d3 = c3 ∧ d4 = c4 ∧ l' = l ∧ 0 ≤ i ∧ i ≤ (l.length : Int) ∧ ts2 = ts' ∧ (e2 = 0 → e = 0 ∧ l ≠ [])) (fun x => ((l.length : Int) - x.2.2.2.2.2.2.2.1).toNat) ?_ _ _ ⟨rfl, rfl, rfl, rfl, rfl, rfl, rfl, by simp, by simp, rfl, he1⟩ (by simp; omega)
  rintro again ⟨a, d0, d1, d2, d3, d4, l', i, ts2, e2⟩ ⟨rfl, rfl, rfl, rfl, rfl, rfl, rfl, i1, i2, rfl, i3⟩ ih
  dsimp only at ih
  have ew : i < l'.length → IntKind.i64.wrap (i + 1) = i + 1 := fun h => aJ (i + 1) (by omega)
  have next : ∀ e2 : Int, i < l'.length → (e2 = 0 → e = 0 ∧ l' ≠ []) → Tot (again (a, d0, d1, d2, d3, d4, l', IntKind.i64.wrap (i + 1), ts2, e2)) _ := fun e2 h he => ih (a, d0, d1, d2, d3, d4, l', IntKind.i64.wrap (i + 1), ts2, e2)
   (by simp only [ew h]; exact ⟨trivial, trivial, trivial, trivial, trivial, trivial, trivial, by omega, by omega, trivial, he⟩) (by simp only [ew h]; omega)
  have inner : ∀ e2 : Int, i < l'.length → (e2 = 0 → e = 0 ∧ l' ≠ []) → Tot (aS 2000 (dR 2000 again) (a, d0, d1, d2, d3, d4, l', i, 0, ts2, e2)) (fun z => ∃ (y0 : List aA) (y1 : Int) (rest : List aL), z.1.dimR = .tup [] ∧ z.2 = some [.ul .atype y0, .int .i64 y1] :: rest ∧ dG ts2 e d0 d1 d2 d3 d4 a (y0, y1)) := by
   intro e2 hi he
   refine bq (fun x => match x with | (a', b0, b1, b2, b3, b4, l2, i', k, ts3, e3) => a' = a ∧ b0 = d0 ∧ b1 = d1 ∧ b2 = d2 ∧ b3 = d3 ∧ b4 = d4 ∧ l2 = l' ∧ i' = i ∧ 0 ≤ k ∧ k ≤ i ∧ ts3 = ts2 ∧ (e3 = 0 → e = 0 ∧ l' ≠ [])) (fun x => (i - x.2.2.2.2.2.2.2.2.1).toNat) ?_ _ _ ⟨rfl, rfl, rfl, rfl, rfl, rfl, rfl, rfl, by simp, i1, rfl, he⟩ (by simp only; omega)
   rintro again1 ⟨a', b0, b1, b2, b3, b4, l2, i', k, ts3, e3⟩ ⟨rfl, rfl, rfl, rfl, rfl, rfl, rfl, rfl, j1, j2, rfl, j3⟩ ih1
   dsimp only at ih1
   have ek : k < i' → IntKind.i64.wrap (k + 1) = k + 1 := fun h => aJ (k + 1) (by omega)
   have next1 : ∀ e2 : Int, k < i' → (e2 = 0 → e = 0 ∧ l2 ≠ []) → Tot (again1 (a', b0, b1, b2, b3, b4, l2, i', IntKind.i64.wrap (k + 1), ts3, e2)) _ := fun e2 h he => ih1 (a', b0, b1, b2, b3, b4, l2, i', IntKind.i64.wrap (k + 1), ts3, e2)
    (by simp only [ek h]; exact ⟨trivial, trivial, trivial, trivial, trivial, trivial, trivial, trivial, by omega, by omega, trivial, he⟩) (by simp only [ek h]; omega)
   unfold dR
   dsimp only
   repeat' (first | (with_reducible refine aE ?_ ?_ <;> (intro hb; (try simp only [bnl] at hb); (try revert hb; intro _))) | with_reducible refine aU ?_ ?_ | with_reducible refine aH ?_ | (refine aF (cA _ _ _) ?_; rintro _ ⟨-, rfl⟩; try dsimp only) | fail)
   all_goals first | (first | (simp only [bnl, lnl]; done) | (simp only [bnl, lnl]; omega)) | exact next1 _ (by omega) j3 | exact next1 _ (by omega) (fun h => absurd h (nz (by decide))) | exact next _ hi j3
  unfold fg gZ
  dsimp only
  repeat' (first | (with_reducible refine aE ?_ ?_ <;> (intro hb; (try simp only [bnl] at hb); (try revert hb; intro _))) | with_reducible refine aU ?_ ?_ | with_reducible refine aH ?_ | (refine aF (cA _ _ _) ?_; rintro _ ⟨-, rfl⟩; try dsimp only) | (refine aF (aeJ _ ?_) ?_; rotate_left; intro _ _) | (refine aF (pc _ _ _ _ _ _ (by omega)) ?_; intro _ _) | (refine aF (ajX _ _ _ _ _ _ _ _ _ h) ?_; rintro ⟨w, ts4, e4⟩ ⟨-, w1, rfl, w2⟩; dsimp only at w2 ⊢) | fail)
  all_goals first | (first | (simp only [bnl, lnl]; done) | (simp only [bnl, lnl]; omega)) | exact inner _ (by omega) i3 | exact inner _ (by omega) (fun h => absurd h (nz (by decide))) | exact loop2 _ _ _ (fun h => i3 (w2 h)) | skip
  ·have : (l'.getD i.toNat (aC .str)).length ≤ 100 := by
    rw [List.getD_eq_getElem?_getD]
    cases hq : l'[i.toNat]? with
    | none => exact Nat.zero_le _
    | some y => exact h2 y (List.mem_of_getElem? hq)
   omega
 have nz' : ∀ {e c : Int}, c ≠ 0 → (if e = 0 then c else e) = 0 → ∀ {p : Prop}, p := fun hc h => absurd h (nz hc)
 repeat' (first | (with_reducible refine aE ?_ ?_ <;> (intro hb; (try simp only [bnl] at hb); (try revert hb; intro _))) | with_reducible refine aU ?_ ?_ | with_reducible refine aH ?_ | (refine aF (cA _ _ _) ?_; rintro _ ⟨-, rfl⟩; try dsimp only) | fail)
 all_goals first | exact loop1 _ (fun h => absurd h (nz (by decide))) | skip
 all_goals refine loop1 _ (fun h => ⟨h3 h, fun hl => ?_⟩)
 all_goals subst hl; simp at *
end Go.Proofs.Ytdpajabhmmmjoaa
end
noncomputable section
namespace Go.Proofs.Ytdpajabhmmmjoaa
open Go.AM
set_option autoImplicit false
set_option linter.unusedVariables false
set_option linter.unusedSimpArgs false
set_option maxRecDepth 100000
def aaH (deep : Int) : Prop := ∀ (ts : List aA) (e c0 c1 : Int) (c2 : List UInt8) (c3 : List aD) (c4 : List (List UInt8)) (space : List UInt8),
 ts.length ≤ 60 → bi (.mk c0 c1 c2 c3 c4) → (space.length : Int) ≤ 202 * deep → ∃ r, cz ts e c0 c1 c2 c3 c4 space deep r
theorem bN.stuck {ts ts' : List aA} {e e' : Int} (h1 : ts.length ≤ ts'.length) (h2 : ts'.length ≤ 60) (he : e' ≠ 0) : bN ts e ts' e' :=
 ⟨h1, h2, fun h => absurd h he, fun h => absurd h he, fun h => absurd h he⟩
structure ml (ts : List aA) (e : Int) (t0 : aA) (at_ : Int) (ts2 : List aA) (e2 : Int) : Prop where
 len : ts.length ≤ ts2.length
 cap : ts2.length ≤ 60
 grow : e2 = 0 → at_ = ts.length ∧ bN (ts ++ [t0]) e ts2 e2
theorem ml.add {ts : List aA} {e : Int} {t0 : aA} (h : ts.length ≤ 60) {r : Int × List aA × Int} (hr : r = if 60 ≤ ts.length then (0, ts, if e = 0 then 3 else e) else ((ts.length : Int), ts ++ [t0], e)) : ml ts e t0 r.1 r.2.1 r.2.2 := by
 by_cases hl : 60 ≤ ts.length
 ·rw [if_pos hl] at hr
  subst hr
  exact ⟨Nat.le_refl _, h, fun h => absurd h (nz (by decide))⟩
 ·rw [if_neg hl] at hr
  subst hr
  exact ⟨by simp, by simp; omega, fun h => ⟨rfl, bN.refl (by simp; omega)⟩⟩
theorem ml.more {ts ts2 ts3 : List aA} {e e2 e3 : Int} {t0 : aA} {a : Int} (h : ml ts e t0 a ts2 e2) (h' : bN ts2 e2 ts3 e3) : ml ts e t0 a ts3 e3 :=
 ⟨Nat.le_trans h.len h'.len, h'.cap, fun he => ⟨(h.grow (h'.err he)).1, (h.grow (h'.err he)).2.trans h'⟩⟩
theorem ml.bad {ts ts2 : List aA} {e e2 e3 : Int} {t0 : aA} {a : Int} (h : ml ts e t0 a ts2 e2) (he : e3 ≠ 0) : ml ts e t0 a ts2 e3 :=
 ⟨h.len, h.cap, fun h' => absurd h' he⟩
theorem ml.stuck {ts ts2 : List aA} {e e2 : Int} {t0 : aA} {a : Int} (h : ml ts e t0 a ts2 e2) (he : e2 ≠ 0) : bN ts e ts2 e2 := bN.stuck h.len h.cap he
theorem ml.range {ts ts2 : List aA} {e e2 : Int} {t0 : aA} {a : Int} (h : ml ts e t0 a ts2 e2) (he : e2 = 0) : 0 ≤ a ∧ a < ts2.length := by
 obtain ⟨rfl, g⟩ := h.grow he
 have := g.len
 simp only [List.length_append, List.length_singleton] at this
 omega
theorem ml.done {ts ts2 : List aA} {e e2 : Int} {t0 t : aA} {a : Int} (h : ml ts e t0 a ts2 e2) (he : e2 = 0) (ht : je ts2.length t) : bN ts e (ts2.set a.toNat t) e2 := by
 obtain ⟨rfl, g⟩ := h.grow he
 rw [Int.toNat_natCast]
 exact g.close ht
theorem ml.get {ts ts2 : List aA} {e e2 : Int} {t0 : aA} {a : Int} (h : ml ts e t0 a ts2 e2) (he : e2 = 0) : ts2[a.toNat]? = some t0 := by
 obtain ⟨rfl, g⟩ := h.grow he
 rw [Int.toNat_natCast]
 exact g.at_open he
theorem ml.kept {ts ts2 : List aA} {e e2 : Int} {t0 : aA} {a : Int} (h : ml ts e t0 a ts2 e2) (ht : je (ts.length + 1) t0) : bN ts e ts2 e2 := by
 by_cases he : e2 = 0
 ·obtain ⟨rfl, g⟩ := h.grow he
  have := g.len
  have := g.cap
  simp only [List.length_append, List.length_singleton] at *
  exact (bN.push (by omega) t0 ht).trans g
 ·exact h.stuck he
theorem atg (deep : Int) (hd : 1 ≤ deep ∧ deep ≤ 20) (hT : aaH (deep + 1)) (ts : List aA) (e c0 c1 : Int) (c2 : List UInt8) (c3 : List aD) (c4 : List (List UInt8)) (space : List UInt8)
  (h : ts.length ≤ 60) (hn : bi (.mk c0 c1 c2 c3 c4)) (hs : (space.length : Int) ≤ 202 * deep) : ∃ r, jg ts e c0 c1 c2 c3 c4 space deep r := by
 obtain ⟨k1, k2, k3, k4, k5, k6⟩ := hn.kids
 apply adE 2000
 unfold p8 hU
 refine aF (aie _ _ _ _ _ _ _ _ _ _ _ _ h) ?_
 rintro r ⟨-, hr⟩
 have ho := ml.add h hr
 clear hr
 obtain ⟨a, ts1, e1⟩ := r
 dsimp only at ho ⊢
 repeat' (first | (with_reducible refine aE ?_ ?_ <;> (intro hb; (try simp only [bnl] at hb); (try revert hb; intro _))) | with_reducible refine aU ?_ ?_ | with_reducible refine aH ?_ | (refine aF (cA _ _ _) ?_; rintro _ ⟨-, rfl⟩; try dsimp only) | fail)
 ·exact ⟨_, _, _, _, rfl, rfl, ho.bad (nz (by decide)) |>.stuck (nz (by decide)), fun h => absurd h (nz (by decide))⟩
 ·exact ⟨_, _, _, _, rfl, rfl, ho.bad (nz (by decide)) |>.stuck (nz (by decide)), fun h => absurd h (nz (by decide))⟩
 rename_i hl1 hl2
 refine bq (fun x => match x with | (sp, dp, d0, d1, d2, l, d4, a', bs, i, ts2, e2) => sp = space ∧ dp = deep ∧ l = c3 ∧ a' = a ∧ (bs.length : Int) = i ∧ i ≤ (c3.length : Int) ∧ (∀ b ∈ bs, 0 ≤ b ∧ b < (ts2.length : Int)) ∧ ml ts e ⟨14, [], [], 0, [], false, [], 0, [], []⟩ a ts2 e2) (fun x => ((c3.length : Int) - x.2.2.2.2.2.2.2.2.2.1).toNat) ?_ _ _
  ⟨rfl, rfl, rfl, rfl, rfl, by simp, by simp, ho⟩ (by simp; omega)
 rintro again ⟨sp, dp, d0, d1, d2, l, d4, a', bs, i, ts2, e2⟩ ⟨rfl, rfl, rfl, rfl, i1, i2, i3, i4⟩ ih
 dsimp only at ih
 have ew : i < l.length → IntKind.i64.wrap (i + 1) = i + 1 := fun h => aJ (i + 1) (by omega)
 have ed : IntKind.i64.wrap (dp + 1) = dp + 1 := aJ (dp + 1) (by omega)
 unfold kH jQ
 dsimp only
 have fin : e2 = 0 → i = l.length → je ts2.length (let e_ := List.getD ts2 (Int.toNat a') (aC .atype); ⟨(e_).kind, (e_).name, (e_).aliases, (e_).items, (e_).syms, (e_).hasdef, (e_).df, (e_).size, (e_).fields, bs⟩) := by
  intro h0 hi
  rw [pn (i4.get h0)]
  have hr := i4.range h0
  exact ⟨⟨by simp, by simp only; omega⟩, by simp, by simp, i3, by simp only; omega, by simp, by simp, fun _ hb => by
   have hb : bs = [] := hb
   rw [hb] at i1
   simp at i1
   omega, by simp, by simp⟩
 have hat : e2 = 0 → 0 ≤ a' ∧ a' < ts2.length := fun h0 => i4.range h0
 repeat' (first | (with_reducible refine aE ?_ ?_ <;> (intro hb; (try simp only [bnl] at hb); (try revert hb; intro _))) | with_reducible refine aU ?_ ?_ | with_reducible refine aH ?_ | (refine aF (cA _ _ _) ?_; rintro _ ⟨-, rfl⟩; try dsimp only) | fail)
 all_goals try simp only [ed]
 ·first | (simp only [bnl, lnl]; done) | (simp only [bnl, lnl]; omega)
 ·have hkid := bi.eta.2 (bi.getD k6 i.toNat)
  refine aF (hT _ _ _ _ _ _ _ _ i4.cap hkid (by omega)) ?_
  rintro ⟨k, ts3, e3⟩ ⟨-, g1, g2⟩
  dsimp only at g1 g2 ⊢
  have i5 := i4.more g1
  have hl3 := g1.len
  repeat' (first | (with_reducible refine aE ?_ ?_ <;> (intro hb; (try simp only [bnl] at hb); (try revert hb; intro _))) | with_reducible refine aU ?_ ?_ | with_reducible refine aH ?_ | (refine aF (cA _ _ _) ?_; rintro _ ⟨-, rfl⟩; try dsimp only) | fail)
  ·rename_i he3
   exact ⟨_, _, _, _, rfl, rfl, i5.stuck he3, fun h => absurd h he3⟩
  ·have := g2 (by assumption); first | (simp only [bnl, lnl]; done) | (simp only [bnl, lnl]; omega)
  ·have := g2 (by assumption); first | (simp only [bnl, lnl]; done) | (simp only [bnl, lnl]; omega)
  ·have := g2 (by assumption); first | (simp only [bnl, lnl]; done) | (simp only [bnl, lnl]; omega)
  ·first | (simp only [bnl, lnl]; done) | (simp only [bnl, lnl]; omega)
  ·exact ⟨_, _, _, _, rfl, rfl, (i5.bad (nz (by decide))).stuck (nz (by decide)), fun h => absurd h (nz (by decide))⟩
  ·rename_i he3 hk
   have g2' := g2 he3
   refine bq (fun x => match x with | (sp', dp', d0, d1, d2, l', d4, a2, bs', i', k', m, ts4, e4) => sp' = sp ∧ dp' = dp ∧ l' = l ∧ a2 = a' ∧ bs' = bs ∧ i' = i ∧ k' = k ∧ 0 ≤ m ∧ m ≤ (bs.length : Int) ∧ ts4 = ts3 ∧ e4 = e3) (fun x => ((bs.length : Int) - x.2.2.2.2.2.2.2.2.2.2.2.1).toNat) ?_ _ _
    ⟨rfl, rfl, rfl, rfl, rfl, rfl, rfl, by simp, by simp, rfl, rfl⟩ (by simp; omega)
   rintro again1 ⟨sp', dp', d0', d1', d2', l', d4', a2, bs', i', k', m, ts4, e4⟩ ⟨rfl, rfl, rfl, rfl, rfl, rfl, rfl, j1, j2, rfl, rfl⟩ ih1
   dsimp only at ih1
   have em : m < bs'.length → IntKind.i64.wrap (m + 1) = m + 1 := fun h => aJ (m + 1) (by omega)
   unfold gz
   dsimp only
   repeat' (first | (with_reducible refine aE ?_ ?_ <;> (intro hb; (try simp only [bnl] at hb); (try revert hb; intro _))) | with_reducible refine aU ?_ ?_ | with_reducible refine aH ?_ | (refine aF (cA _ _ _) ?_; rintro _ ⟨-, rfl⟩; try dsimp only) | (refine arQ ?_ (auA _ _) ?_; rotate_left; intro _ _) | fail)
   all_goals first | (first | (simp only [bnl, lnl]; done) | (simp only [bnl, lnl]; omega)) | exact ⟨_, _, _, _, rfl, rfl, (i5.bad (nz (by decide))).stuck (nz (by decide)), fun h => absurd h (nz (by decide))⟩ | skip
   ·rename_i hm _ _ _ _ _
    refine ih1 (sp', dp', d0', d1', d2', l', d4', a2, bs', i', k', _, ts4, e4) ?_ ?_
    ·simp only [em hm]; exact ⟨trivial, trivial, trivial, trivial, trivial, trivial, trivial, by omega, by omega, trivial, trivial⟩
    ·simp only [em hm]; omega
   ·have hil : i' < l'.length := by omega
    refine ih (sp', dp', d0', d1', d2', l', d4', a2, _, _, ts4, e4) ?_ ?_
    ·simp only [ew hil, List.length_append, List.length_cons, List.length_nil]
     refine ⟨trivial, trivial, trivial, trivial, by omega, by omega, ?_, i5⟩
     intro b hb
     rcases List.mem_append.1 hb with hb | hb
     ·have := i3 b hb; omega
     ·simp only [List.mem_singleton] at hb
      subst hb; exact g2'
    ·simp only [ew hil]; omega
 all_goals first | (exfalso; omega) | skip
 all_goals have hat2 := fun h0 => hat h0
 all_goals first | (first | (simp only [bnl, lnl]; done) | (simp only [bnl, lnl]; omega)) | skip
 ·rename_i h0
  exact ⟨_, _, _, _, rfl, rfl, i4.stuck h0, fun h => absurd h h0⟩
 ·rename_i h0
  have hr := i4.range h0
  exact ⟨_, _, _, _, rfl, rfl, i4.done h0 (fin h0 (by omega)), fun _ => by simpa using hr⟩
 ·rename_i h0
  exact ⟨_, _, _, _, rfl, rfl, i4.stuck h0, fun h => absurd h h0⟩
end Go.Proofs.Ytdpajabhmmmjoaa
end
noncomputable section
namespace Go.Proofs.Ytdpajabhmmmjoaa
open Go.AM
set_option autoImplicit false
set_option linter.unusedVariables false
set_option linter.unusedSimpArgs false
set_option maxRecDepth 100000
theorem aeX {l : List (List UInt8)} (h : cw l) (i : Nat) : (l.getD i (aC .str)).length ≤ 100 := by
 rw [List.getD_eq_getElem?_getD]
 cases hq : l[i]? with
 | none => exact Nat.zero_le _
 | some y => exact h y (List.mem_of_getElem? hq)
def vk (m : Nat) (l : List aM) : Prop := l.length ≤ 8 ∧ ∀ f ∈ l, 0 ≤ f.typ ∧ f.typ < m ∧ bi f.df
theorem vk.mono {m m' : Nat} {l : List aM} (h : vk m l) (hm : m ≤ m') : vk m' l :=
 ⟨h.1, fun f hf => ⟨(h.2 f hf).1, by have := (h.2 f hf).2.1; omega, (h.2 f hf).2.2⟩⟩
theorem asz (deep : Int) (hd : 1 ≤ deep ∧ deep ≤ 20) (hT : aaH (deep + 1)) (ts : List aA) (e c0 c1 : Int) (c2 : List UInt8) (c3 : List aD) (c4 : List (List UInt8)) (at_ : Int) (space : List UInt8)
  (h : ts.length ≤ 60) (hn : bi (.mk c0 c1 c2 c3 c4)) (hs : (space.length : Int) ≤ 202 * deep + 201) (hat : e = 0 → 0 ≤ at_ ∧ at_ < ts.length) : ∃ r, gU ts e c0 c1 c2 c3 c4 at_ space deep r := by
 obtain ⟨k1, k2, k3, k4, k5, k6⟩ := hn.kids
 apply acz 2000
 unfold pi gA
 refine aF (pc _ _ _ _ _ _ (by omega)) ?_
 rintro r ⟨-, hr⟩
 have hg := tB (k := c0) (names := c4) (name := [102, 105, 101, 108, 100, 115]) k6
 simp only [cG] at hr
 rw [← hr] at hg
 obtain ⟨b0, b1, b2, l, b4, b5⟩ := r
 obtain ⟨g1, g2, g3, g4, g5, g6⟩ := hg.kids
 dsimp only at g2 g6 ⊢
 have bad : ∀ c : Int, c ≠ 0 → dP ts e c0 c1 c2 c3 c4 at_ space deep (ts, if e = 0 then c else e) := fun c hc => ⟨ts, bN.stuck (Nat.le_refl _) h (nz hc), .inl rfl⟩
 repeat' (first | (with_reducible refine aE ?_ ?_ <;> (intro hb; (try simp only [bnl] at hb); (try revert hb; intro _))) | with_reducible refine aU ?_ ?_ | with_reducible refine aH ?_ | (refine aF (cA _ _ _) ?_; rintro _ ⟨-, rfl⟩; try dsimp only) | fail)
 ·exact ⟨_, _, _, rfl, rfl, bad 2 (by decide)⟩
 ·exact ⟨_, _, _, rfl, rfl, bad 2 (by decide)⟩
 ·exact ⟨_, _, _, rfl, rfl, bad 3 (by decide)⟩
 rename_i hl
 refine bq (fun x => match x with | (a, sp, dp, d0, d1, d2, l', d4, out, i, ts2, e2) => a = at_ ∧ sp = space ∧ dp = deep ∧ l' = l ∧ (out.length : Int) = i ∧ i ≤ (l.length : Int) ∧ bN ts e ts2 e2 ∧ (e2 = 0 → vk ts2.length out)) (fun x => ((l.length : Int) - x.2.2.2.2.2.2.2.2.2.1).toNat) ?_ _ _
  ⟨rfl, rfl, rfl, rfl, rfl, by simp, bN.refl h, fun _ => ⟨by simp, by simp⟩⟩ (by simp; omega)
 rintro again ⟨a, sp, dp, d0, d1, d2, l, d4, out, i, ts2, e2⟩ ⟨rfl, rfl, rfl, rfl, i1, i2, i3, i4⟩ ih
 dsimp only at ih
 have ew : i < l.length → IntKind.i64.wrap (i + 1) = i + 1 := fun h => aJ (i + 1) (by omega)
 have ed : IntKind.i64.wrap (dp + 1) = dp + 1 := aJ (dp + 1) (by omega)
 have hat2 : e2 = 0 → 0 ≤ a ∧ a < ts2.length := fun h0 => by
  have := hat (i3.err h0)
  have := i3.len
  omega
 unfold jT iT
 dsimp only
 have hkid := bi.eta.2 (bi.getD g6 i.toNat)
 have hkk := hkid.kids
 have inner2 : ∀ (ts3 : List aA) (e3 : Int) (nm : List UInt8) (al : List (List UInt8)) (ty : Int) (hd' : Bool) (f0 f1 : Int) (f2 : List UInt8) (f3 : List aD) (f4 : List (List UInt8)), i < l.length → bN ts e ts3 e3 → cw al → al.length ≤ 100 → (e3 = 0 → vk ts3.length out ∧ 0 ≤ ty ∧ ty < ts3.length) → bi (.mk f0 f1 f2 f3 f4) →
   Tot (aS 2000 (dz 2000 again) (a, sp, dp, d0, d1, d2, l, d4, out, i, 0, ts3, e3, nm, al, ty, hd', f0, f1, f2, f3, f4)) (fun z => ∃ (y0 : List aA) (y1 : Int) (rest : List aL), z.1.dimR = .tup [] ∧ z.2 = some [.ul .atype y0, .int .i64 y1] :: rest ∧ dP ts e c0 c1 c2 c3 c4 a sp dp (y0, y1)) := by
  intro ts3 e3 nm al ty hd' f0 f1 f2 f3 f4 hil hgr hal hal2 hty hnd
  refine bq (fun x => match x with | (a', sp', dp', d0', d1', d2', l', d4', out', i', m, ts4, e4, nm', al', ty', hd2, f0', f1', f2', f3', f4') => a' = a ∧ sp' = sp ∧ dp' = dp ∧ l' = l ∧ out' = out ∧ i' = i ∧ 0 ≤ m ∧ m ≤ (al.length : Int) ∧ bN ts e ts4 e4 ∧ al' = al ∧ ty' = ty ∧ (e4 = 0 → vk ts4.length out ∧ 0 ≤ ty ∧ ty < ts4.length) ∧ bi (.mk f0' f1' f2' f3' f4')) (fun x => ((al.length : Int) - x.2.2.2.2.2.2.2.2.2.2.1).toNat) ?_ _ _
   ⟨rfl, rfl, rfl, rfl, rfl, rfl, by simp, by simp, hgr, rfl, rfl, hty, hnd⟩ (by simp; omega)
  rintro again2 ⟨a', sp', dp', d0', d1', d2', l', d4', out', i', m, ts4, e4, nm', al', ty', hd2, f0', f1', f2', f3', f4'⟩ ⟨rfl, rfl, rfl, rfl, rfl, rfl, j1, j2, j3, rfl, rfl, j4, j5⟩ ih2
  dsimp only at ih2
  have em : m < al'.length → IntKind.i64.wrap (m + 1) = m + 1 := fun h => aJ (m + 1) (by omega)
  have out1 : Tot (again (a', sp', dp', d0', d1', d2', l', d4', out' ++ [⟨nm', al', ty', hd2, ⟨f0', f1', f2', f3', f4'⟩⟩], IntKind.i64.wrap (i' + 1), ts4, e4)) _ := ih (a', sp', dp', d0', d1', d2', l', d4', out' ++ [⟨nm', al', ty', hd2, ⟨f0', f1', f2', f3', f4'⟩⟩], IntKind.i64.wrap (i' + 1), ts4, e4)
   (by
    simp only [ew hil, List.length_append, List.length_cons, List.length_nil]
    refine ⟨trivial, trivial, trivial, trivial, by omega, by omega, j3, fun h0 => ?_⟩
    obtain ⟨q1, q2⟩ := j4 h0
    refine ⟨by simp; omega, fun f hf => ?_⟩
    rcases List.mem_append.1 hf with hf | hf
    ·exact q1.2 f hf
    ·simp only [List.mem_singleton] at hf
     subst hf
     exact ⟨q2.1, q2.2, j5⟩) (by simp only [ew hil]; omega)
  have next : ∀ e5 : Int, m < al'.length → bN ts e ts4 e5 → (e5 = 0 → e4 = 0) → Tot (again2 (a', sp', dp', d0', d1', d2', l', d4', out', i', IntKind.i64.wrap (m + 1), ts4, e5, nm', al', ty', hd2, f0', f1', f2', f3', f4')) _ := fun e5 hm hg5 he5 => ih2 (a', sp', dp', d0', d1', d2', l', d4', out', i', IntKind.i64.wrap (m + 1), ts4, e5, nm', al', ty', hd2, f0', f1', f2', f3', f4')
   (by
    simp only [em hm]
    exact ⟨trivial, trivial, trivial, trivial, trivial, trivial, by omega, by omega, hg5, trivial, trivial, fun h0 => j4 (he5 h0), j5⟩) (by simp only [em hm]; omega)
  unfold dz
  dsimp only
  repeat' (first | (with_reducible refine aE ?_ ?_ <;> (intro hb; (try simp only [bnl] at hb); (try revert hb; intro _))) | with_reducible refine aU ?_ ?_ | with_reducible refine aH ?_ | (refine aF (cA _ _ _) ?_; rintro _ ⟨-, rfl⟩; try dsimp only) | (refine aF (aeJ _ ?_) ?_; rotate_left; intro _ _) | fail)
  all_goals first | (first | (simp only [bnl, lnl]; done) | (simp only [bnl, lnl]; omega)) | exact out1 | exact next _ (by omega) j3 (fun h => h) | exact next _ (by omega) (bN.stuck j3.len j3.cap (nz (by decide))) (fun h => absurd h (nz (by decide))) | skip
  ·have := aeX hal m.toNat; omega
 have inner1 : ∀ (ts3 : List aA) (e3 : Int) (nm : List UInt8), i < l.length → bN ts2 e2 ts3 e3 →
   Tot (aS 2000 (ez 2000 again) (a, sp, dp, d0, d1, d2, l, d4, out, i, (List.getD l (Int.toNat i) (aC .jnode)).kind, (List.getD l (Int.toNat i) (aC .jnode)).n, (List.getD l (Int.toNat i) (aC .jnode)).s, (List.getD l (Int.toNat i) (aC .jnode)).l, (List.getD l (Int.toNat i) (aC .jnode)).names, 0, ts3, e3, nm, ([] : List (List UInt8)), 0, false, 0, 0, ([] : List UInt8), ([] : List aD), ([] : List (List UInt8)))) (fun z => ∃ (y0 : List aA) (y1 : Int) (rest : List aL), z.1.dimR = .tup [] ∧ z.2 = some [.ul .atype y0, .int .i64 y1] :: rest ∧ dP ts e c0 c1 c2 c3 c4 a sp dp (y0, y1)) := by
  intro ts3 e3 nm hil hgr
  refine bq (fun x => match x with | (a', sp', dp', d0', d1', d2', l', d4', out', i', v0, v1, v2, v3, v4, m, ts4, e4, nm', al', ty', hd2, f0', f1', f2', f3', f4') => a' = a ∧ sp' = sp ∧ dp' = dp ∧ d0' = d0 ∧ d1' = d1 ∧ d2' = d2 ∧ l' = l ∧ d4' = d4 ∧ out' = out ∧ i' = i ∧ bi (.mk v0 v1 v2 v3 v4) ∧ 0 ≤ m ∧ m ≤ (out.length : Int) ∧ bN ts2 e2 ts4 e4) (fun x => ((out.length : Int) - x.2.2.2.2.2.2.2.2.2.2.2.2.2.2.2.1).toNat) ?_ _ _
   ⟨rfl, rfl, rfl, rfl, rfl, rfl, rfl, rfl, rfl, rfl, hkid, by simp, by simp, hgr⟩ (by simp; omega)
  rintro again1 ⟨a', sp', dp', d0', d1', d2', l', d4', out', i', v0, v1, v2, v3, v4, m, ts4, e4, nm', al', ty', hd2, f0', f1', f2', f3', f4'⟩ ⟨rfl, rfl, rfl, rfl, rfl, rfl, rfl, rfl, rfl, rfl, hv, j1, j2, j3⟩ ih1
  dsimp only at ih1
  have em : m < out'.length → IntKind.i64.wrap (m + 1) = m + 1 := fun h => aJ (m + 1) (by omega)
  have next : ∀ e5 : Int, m < out'.length → bN ts2 e2 ts4 e5 → Tot (again1 (a', sp', dp', d0', d1', d2', l', d4', out', i', v0, v1, v2, v3, v4, IntKind.i64.wrap (m + 1), ts4, e5, nm', al', ty', hd2, f0', f1', f2', f3', f4')) _ := fun e5 hm hg5 => ih1 (a', sp', dp', d0', d1', d2', l', d4', out', i', v0, v1, v2, v3, v4, IntKind.i64.wrap (m + 1), ts4, e5, nm', al', ty', hd2, f0', f1', f2', f3', f4')
   (by
    simp only [em hm]
    exact ⟨trivial, trivial, trivial, trivial, trivial, trivial, trivial, trivial, trivial, trivial, hv, by omega, by omega, hg5⟩) (by simp only [em hm]; omega)
  obtain ⟨q1, q2, q3, q4, q5, q6⟩ := hv.kids
  have behind : ∀ (e5 w0 w1 : Int) (w2 : List UInt8) (w3 : List aD) (w4 : List (List UInt8)), bi (.mk w0 w1 w2 w3 w4) → bN ts2 e2 ts4 e5 → Tot (aG (cz ts4 e5 w0 w1 w2 w3 w4 sp' (dp' + 1)) (fun r12 =>
      aG (db v0 v1 v2 v3 v4 ([100, 101, 102, 97, 117, 108, 116] : List UInt8)) (fun r13 =>
       aG (dc r12.2.1 r12.2.2 v0 v1 v2 v3 v4 ([97, 108, 105, 97, 115, 101, 115] : List UInt8)) (fun r14 =>
        (fun z => aS 2000 (dz 2000 again) z) (a', sp', dp', d0', d1', d2', l', d4', out', i', 0, r14.2.2.1, r14.2.2.2, nm', r14.1, r12.1, r13.2.2.2.2.2, r13.1, r13.2.1, r13.2.2.1, r13.2.2.2.1, r13.2.2.2.2.1))))) (fun z => ∃ (y0 : List aA) (y1 : Int) (rest : List aL), z.1.dimR = .tup [] ∧ z.2 = some [.ul .atype y0, .int .i64 y1] :: rest ∧ dP ts e c0 c1 c2 c3 c4 a' sp' dp' (y0, y1)) := by
   intro e5 w0 w1 w2 w3 w4 hw hg5
   refine aF (hT _ _ _ _ _ _ _ _ j3.cap hw (by omega)) ?_
   rintro ⟨k, ts5, e6⟩ ⟨-, x1, x2⟩
   dsimp only at x1 x2 ⊢
   refine aF (pc _ _ _ _ _ _ (by omega)) ?_
   rintro r ⟨-, hr⟩
   have hg := tB (k := v0) (names := v4) (name := [100, 101, 102, 97, 117, 108, 116]) q6
   simp only [cG] at hr
   rw [← hr] at hg
   refine aF (ahW _ _ _ _ _ _ _ _ hv) ?_
   rintro ⟨al, is, ts6, e7⟩ ⟨-, t1, t2, rfl, t3⟩
   dsimp only at t1 t2 t3 ⊢
   have hgg := hg5.trans x1
   have g7 : bN ts2 e2 ts6 e7 := by
    by_cases h7 : e7 = 0
    ·have h6 := t3 h7
     rw [h6] at hgg
     rw [h7]; exact hgg
    ·exact bN.stuck hgg.len hgg.cap h7
   exact inner2 ts6 e7 _ _ _ _ _ _ _ _ _ hil (i3.trans g7) t2 t1 (fun h0 => ⟨(i4 (g7.err h0)).mono g7.len, x2 (t3 h0)⟩) hg
  unfold ez iS
  dsimp only
  repeat' (first | (with_reducible refine aE ?_ ?_ <;> (intro hb; (try simp only [bnl] at hb); (try revert hb; intro _))) | with_reducible refine aU ?_ ?_ | with_reducible refine aH ?_ | (refine aF (cA _ _ _) ?_; rintro _ ⟨-, rfl⟩; try dsimp only) | fail)
  all_goals first | (first | (simp only [bnl, lnl]; done) | (simp only [bnl, lnl]; omega)) | exact next _ (by omega) j3 | exact next _ (by omega) (bN.stuck j3.len j3.cap (nz (by decide))) | skip
  refine aF (pc _ _ _ _ _ _ (by omega)) ?_
  rintro r ⟨-, hr⟩
  have hg := tB (k := v0) (names := v4) (name := [116, 121, 112, 101]) q6
  simp only [cG] at hr
  rw [← hr] at hg
  repeat' (first | (with_reducible refine aE ?_ ?_ <;> (intro hb; (try simp only [bnl] at hb); (try revert hb; intro _))) | with_reducible refine aU ?_ ?_ | with_reducible refine aH ?_ | (refine aF (cA _ _ _) ?_; rintro _ ⟨-, rfl⟩; try dsimp only) | fail)
  all_goals simp only [ed]
  ·exact behind _ _ _ _ _ _ hg (bN.stuck j3.len j3.cap (nz (by decide)))
  ·exact behind _ _ _ _ _ _ hg j3
 repeat' (first | (with_reducible refine aE ?_ ?_ <;> (intro hb; (try simp only [bnl] at hb); (try revert hb; intro _))) | with_reducible refine aU ?_ ?_ | with_reducible refine aH ?_ | (refine aF (cA _ _ _) ?_; rintro _ ⟨-, rfl⟩; try dsimp only) | (refine aF (ajX _ _ _ _ _ _ _ _ _ hkid) ?_; rintro ⟨w, ts3, e3⟩ ⟨-, w1, rfl, w2⟩; dsimp only at w1 w2 ⊢) | fail)
 all_goals first | (first | (simp only [bnl, lnl]; done) | (simp only [bnl, lnl]; omega)) | skip
 ·exact ⟨_, _, _, rfl, rfl, _, bN.stuck i3.len i3.cap (nz (by decide)), .inl rfl⟩
 ·rename_i he3
  have g0 : bN ts3 e2 ts3 e3 := by
   have := w2 he3
   subst this; rw [he3]; exact bN.refl i3.cap
  repeat' (first | (with_reducible refine aE ?_ ?_ <;> (intro hb; (try simp only [bnl] at hb); (try revert hb; intro _))) | with_reducible refine aU ?_ ?_ | with_reducible refine aH ?_ | (refine aF (aeJ _ (by omega)) ?_; intro _ _) | (refine aF (cA _ _ _) ?_; rintro _ ⟨-, rfl⟩; try dsimp only) | fail)
  ·exact inner1 _ _ _ (by omega) (bN.stuck (Nat.le_refl _) i3.cap (nz (by decide)))
  ·exact inner1 _ _ _ (by omega) g0
 ·rename_i he3
  exact inner1 _ _ _ (by omega) (bN.stuck (Nat.le_refl _) i3.cap he3)
 all_goals first | (exfalso; omega) | skip
 all_goals first | (have := hat2 (by assumption); first | (simp only [bnl, lnl]; done) | (simp only [bnl, lnl]; omega)) | skip
 ·rename_i he
  exact ⟨_, _, _, rfl, rfl, _, i3, .inl rfl⟩
 ·rename_i he
  have hr := hat2 he
  have hl : a.toNat < ts2.length := by omega
  refine ⟨_, _, _, rfl, rfl, ts2, i3, .inr ⟨out, (i4 he).1, (i4 he).2, _, List.getElem?_eq_getElem hl, ?_⟩⟩
  rw [pn (List.getElem?_eq_getElem hl)]
 ·exact ⟨_, _, _, rfl, rfl, _, i3, .inl rfl⟩
end Go.Proofs.Ytdpajabhmmmjoaa
end
noncomputable section
namespace Go.Proofs.Ytdpajabhmmmjoaa
open Go.AM
set_option autoImplicit false
set_option linter.unusedVariables false
set_option linter.unusedSimpArgs false
set_option maxRecDepth 100000
theorem ath (deep : Int) (hd : 1 ≤ deep ∧ deep ≤ 20) (hT : aaH (deep + 1)) (ts : List aA) (e c0 c1 : Int) (c2 : List UInt8) (c3 : List aD) (c4 : List (List UInt8)) (k : Int) (space : List UInt8)
  (h : ts.length ≤ 60) (hn : bi (.mk c0 c1 c2 c3 c4)) (hs : (space.length : Int) ≤ 202 * deep) (hk : k ≠ 14) (hk2 : 1 ≤ k ∧ k ≤ 14) : ∃ r, jh ts e c0 c1 c2 c3 c4 k space deep r := by
 obtain ⟨k1, k2, k3, k4, k5, k6⟩ := hn.kids
 apply adH 2000
 unfold qa ib
 have last : ∀ (sp : List UInt8) (e2 o0 : Int) (o1 : List UInt8) (o2 : List (List UInt8)), (sp.length : Int) ≤ 202 * deep + 201 → (e2 = 0 → e = 0) → o0 = k → Tot (eM 2000 (k, sp, deep, c0, c1, c2, c3, c4, ts, e2, o0, o1, o2, 0, [], false, [], 0, [], [])) (fun z => ∃ (y0 : Int) (y1 : List aA) (y2 : Int) (rest : List aL), z.1.dimR = .int .i64 y0 ∧ z.2 = some [.ul .atype y1, .int .i64 y2] :: rest ∧ fN ts e c0 c1 c2 c3 c4 k space deep (y0, y1, y2)) := by
  intro sp e2 o0 o1 o2 hsp he ho
  unfold eM
  dsimp only
  subst ho
  have tk : o0 ≠ 10 → je (ts.length + 1) ⟨o0, o1, o2, 0, [], false, [], 0, [], []⟩ := fun h10 => ⟨by simp only; omega, by simp, by simp, by simp, by simp, by simp, by simp, fun h => absurd h hk, hk2, fun h => absurd h h10⟩
  repeat' (first | (with_reducible refine aE ?_ ?_ <;> (intro hb; (try simp only [bnl] at hb); (try revert hb; intro _))) | with_reducible refine aU ?_ ?_ | with_reducible refine aH ?_ | fail)
  ·rename_i h2
   exact ⟨_, _, _, _, rfl, rfl, bN.stuck (Nat.le_refl _) h h2, fun h => absurd h h2⟩
  rename_i h2
  refine aF (aie _ _ _ _ _ _ _ _ _ _ _ _ h) ?_
  rintro r ⟨-, hr⟩
  have ho := ml.add h hr
  clear hr
  obtain ⟨a, ts1, e1⟩ := r
  dsimp only at ho ⊢
  have hr1 : e1 = 0 → 0 ≤ a ∧ a < ts1.length := fun h0 => ho.range h0
  have wk : ∀ {ts' : List aA} {e' : Int}, bN ts e2 ts' e' → bN ts e ts' e' := fun g => g.weak he
  have wstuck : ∀ {c : Int}, c ≠ 0 → bN ts e ts1 (if e1 = 0 then c else e1) := fun hc => bN.stuck ho.len ho.cap (nz hc)
  repeat' (first | (with_reducible refine aE ?_ ?_ <;> (intro hb; (try simp only [bnl] at hb); (try revert hb; intro _))) | with_reducible refine aU ?_ ?_ | with_reducible refine aH ?_ | (refine aF (asz deep hd hT _ _ _ _ _ _ _ _ _ ho.cap hn hsp hr1) ?_; rintro ⟨ts3, e3⟩ ⟨-, ts2, g1, g2⟩; dsimp only at g1 g2 ⊢) | (refine aF (ary _ _ _ _ _ _ _ _ hn hr1) ?_; rintro ⟨ts3, e3⟩ ⟨-, g1, g2⟩; dsimp only at g1 g2 ⊢) | fail)
  ·rename_i h9
   have h10 : o0 ≠ 10 := by omega
   have tk := tk h10
   have ho2 := ho.more g1
   have gk := ho2.kept tk
   refine ⟨_, _, _, _, rfl, rfl, ?_⟩
   rcases g2 with rfl | ⟨l, l1, l2, t, t1, rfl⟩
   ·exact ⟨wk gk, fun h0 => ho2.range h0⟩
   ·by_cases h0 : e3 = 0
    ·rw [ho2.get h0] at t1
     obtain rfl := Option.some.inj t1
     have hr := ho2.range h0
     refine ⟨wk (ho2.done h0 ⟨by simp only; omega, l2, l1, by simp, by simp, by simp, by simp, tk.done, tk.kind, tk.enum⟩), fun _ => ?_⟩
     simpa using hr
    ·exact ⟨bN.stuck (by simpa using gk.len) (by simpa using gk.cap) h0, fun h => absurd h h0⟩
  ·refine ⟨_, _, _, _, rfl, rfl, ?_⟩
   by_cases h0 : e3 = 0
   ·obtain ⟨l, h', d, l0, l1, t, t1, rfl⟩ := g2.2 h0
    have h1 := g1 h0
    rw [ho.get h1] at t1
    obtain rfl := Option.some.inj t1
    have hr := ho.range h1
    have := ho.done h1 (t := ⟨o0, o1, o2, 0, l, h', d, 0, [], []⟩) ⟨by simp only; omega, by simp, by simp, by simp, by simp, l1, by simp, fun h => absurd h hk, hk2, fun _ => l0⟩
    refine ⟨wk (by rw [h0]; rw [h1] at this; exact this), fun _ => ?_⟩
    simpa using hr
   ·have := g2.1 h0
    subst this
    exact ⟨bN.stuck ho.len ho.cap h0, fun h => absurd h h0⟩
  ·refine aF (pc _ _ _ _ _ _ (by omega)) ?_
   rintro r ⟨-, hr⟩
   clear hr
   repeat' (first | (with_reducible refine aE ?_ ?_ <;> (intro hb; (try simp only [bnl] at hb); (try revert hb; intro _))) | with_reducible refine aU ?_ ?_ | with_reducible refine aH ?_ | (refine aF (cA _ _ _) ?_; rintro _ ⟨-, rfl⟩; try dsimp only) | fail)
   all_goals first | exact ⟨_, _, _, _, rfl, rfl, wstuck (by decide), fun h => absurd h (nz (by decide))⟩ | (have := hr1 (by assumption); first | (simp only [bnl, lnl]; done) | (simp only [bnl, lnl]; omega)) | (first | (simp only [bnl, lnl]; done) | (simp only [bnl, lnl]; omega)) | skip
   ·rename_i hz0 hz1 h0
    have hr := ho.range h0
    have tk := tk (by assumption)
    rw [pn (ho.get h0)]
    refine ⟨_, _, _, _, rfl, rfl, wk (ho.done h0 ⟨by simp only; omega, by simp, by simp, by simp, by simp, by simp, by simp only; omega, tk.done, tk.kind, tk.enum⟩), fun _ => ?_⟩
    simpa using hr
   ·rename_i h0
    exact ⟨_, _, _, _, rfl, rfl, wk (ho.kept (tk (by assumption))), fun h => absurd h h0⟩
 have mid : ∀ (sp : List UInt8) (e2 : Int) (nm : List UInt8) (al : List (List UInt8)), (sp.length : Int) ≤ 202 * deep + 201 → (e2 = 0 → e = 0) → cw al → al.length ≤ 100 → Tot (aS 2000 (eN 2000) (k, sp, deep, c0, c1, c2, c3, c4, al, 0, ts, e2, k, nm, [], 0, [], false, [], 0, [], [])) (fun z => ∃ (y0 : Int) (y1 : List aA) (y2 : Int) (rest : List aL), z.1.dimR = .int .i64 y0 ∧ z.2 = some [.ul .atype y1, .int .i64 y2] :: rest ∧ fN ts e c0 c1 c2 c3 c4 k space deep (y0, y1, y2)) := by
  intro sp e2 nm al hsp he hal hal2
  refine bq (fun x => match x with | (k', sp', dp, d0, d1, d2, d3, d4, al', i, ts', e3, o0, o1, o2, o3, o4, o5, o6, o7, o8, o9) => k' = k ∧ sp' = sp ∧ dp = deep ∧ d0 = c0 ∧ d1 = c1 ∧ d2 = c2 ∧ d3 = c3 ∧ d4 = c4 ∧ al' = al ∧ 0 ≤ i ∧ i ≤ (al.length : Int) ∧ ts' = ts ∧ (e3 = 0 → e = 0) ∧ o0 = k ∧ (o2.length : Int) = i ∧ o3 = 0 ∧ o4 = [] ∧ o5 = false ∧ o6 = [] ∧ o7 = 0 ∧ o8 = [] ∧ o9 = []) (fun x => ((al.length : Int) - x.2.2.2.2.2.2.2.2.2.1).toNat) ?_ _ _
   ⟨rfl, rfl, rfl, rfl, rfl, rfl, rfl, rfl, rfl, by simp, by simp, rfl, he, rfl, rfl, rfl, rfl, rfl, rfl, rfl, rfl, rfl⟩ (by simp; omega)
  rintro again ⟨k', sp', dp, d0, d1, d2, d3, d4, al', i, ts', e3, o0, o1, o2, o3, o4, o5, o6, o7, o8, o9⟩ ⟨rfl, rfl, rfl, rfl, rfl, rfl, rfl, rfl, rfl, i1, i2, rfl, i3, rfl, i4, rfl, rfl, rfl, rfl, rfl, rfl, rfl⟩ ih
  dsimp only at ih
  have ew : i < al'.length → IntKind.i64.wrap (i + 1) = i + 1 := fun h => aJ (i + 1) (by omega)
  have next : ∀ (e5 : Int) (w : List UInt8), i < al'.length → (e5 = 0 → e = 0) → Tot (again (o0, sp', dp, d0, d1, d2, d3, d4, al', IntKind.i64.wrap (i + 1), ts', e5, o0, o1, o2 ++ [w], 0, [], false, [], 0, [], [])) _ := fun e5 w hi he5 => ih (o0, sp', dp, d0, d1, d2, d3, d4, al', IntKind.i64.wrap (i + 1), ts', e5, o0, o1, o2 ++ [w], 0, [], false, [], 0, [], [])
   (by
    simp only [ew hi, List.length_append, List.length_cons, List.length_nil]
    exact ⟨trivial, trivial, trivial, trivial, trivial, trivial, trivial, trivial, trivial, by omega, by omega, trivial, he5, trivial, by omega, trivial, trivial, trivial, trivial, trivial, trivial, trivial⟩) (by simp only [ew hi]; omega)
  have lst : ∀ e4 : Int, (e4 = 0 → e = 0) → Tot (eM 2000 (o0, sp', dp, d0, d1, d2, d3, d4, ts', e4, o0, o1, o2, 0, [], false, [], 0, [], [])) _ := fun e4 h4 => last sp' e4 o0 o1 o2 hsp h4 rfl
  unfold eN jW
  dsimp only
  have wn := aeX hal i.toNat
  repeat' (first | (with_reducible refine aE ?_ ?_ <;> (intro hb; (try simp only [bnl] at hb); (try revert hb; intro _))) | with_reducible refine aU ?_ ?_ | with_reducible refine aH ?_ | (refine aF (cA _ _ _) ?_; rintro _ ⟨-, rfl⟩; try dsimp only) | (refine aF (anU _ _ _ _ wn (by omega)) ?_; rintro ⟨w, ts4, e4⟩ ⟨-, w1, rfl, w2⟩; dsimp only at w1 w2 ⊢) | (refine aF (aqJ _ _ _ h) ?_; rintro ⟨b, c, ts4, e4⟩ ⟨-, hq, hf⟩; simp only [Prod.mk.injEq] at hq; obtain ⟨rfl, rfl⟩ := hq; dsimp only at hf ⊢) | fail)
  all_goals first | (first | (simp only [bnl, lnl]; done) | (simp only [bnl, lnl]; omega)) | exact next _ _ (by omega) (fun h => i3 (w2 h)) | exact lst _ i3 | exact lst _ (fun h => absurd h (nz (by decide))) | skip
 refine aF (ajX _ _ _ _ _ _ _ _ _ hn) ?_
 rintro ⟨nm, ts', e1⟩ ⟨-, w1, rfl, w2⟩
 dsimp only at w1 w2 ⊢
 refine aF (pc _ _ _ _ _ _ (by omega)) ?_
 rintro r ⟨-, hr⟩
 have hg := tB (k := c0) (names := c4) (name := [110, 97, 109, 101, 115, 112, 97, 99, 101]) k6
 simp only [cG] at hr
 rw [← hr] at hg
 have g1 := hg.kids.1
 have first : ∀ (sp : List UInt8) (e2 : Int), (sp.length : Int) ≤ 202 * deep → (e2 = 0 → e = 0) → Tot (kK 2000 (k, sp, deep, c0, c1, c2, c3, c4, nm, ts', e2)) (fun z => ∃ (y0 : Int) (y1 : List aA) (y2 : Int) (rest : List aL), z.1.dimR = .int .i64 y0 ∧ z.2 = some [.ul .atype y1, .int .i64 y2] :: rest ∧ fN ts' e c0 c1 c2 c3 c4 k space deep (y0, y1, y2)) := by
  intro sp e2 hsp he
  unfold kK jX
  dsimp only
  repeat' (first | (with_reducible refine aE ?_ ?_ <;> (intro hb; (try simp only [bnl] at hb); (try revert hb; intro _))) | with_reducible refine aU ?_ ?_ | with_reducible refine aH ?_ | fail)
  ·rename_i h2
   exact ⟨_, _, _, _, rfl, rfl, bN.stuck (Nat.le_refl _) h h2, fun h => absurd h h2⟩
  refine aF (anU _ _ _ _ w1 (by omega)) ?_
  rintro ⟨w, ts4, e4⟩ ⟨-, x1, rfl, x2⟩
  dsimp only at x1 x2 ⊢
  refine aF (asy _ (by omega)) ?_
  rintro b ⟨-, hb⟩
  dsimp only [lj] at hb ⊢
  refine aF (ahW _ _ _ _ _ _ _ _ hn) ?_
  rintro ⟨al, is, ts6, e7⟩ ⟨-, t1, t2, rfl, t3⟩
  dsimp only at t1 t2 t3 ⊢
  exact mid _ _ _ _ (by omega) (fun h => he (x2 (t3 h))) t2 t1
 repeat' (first | (with_reducible refine aE ?_ ?_ <;> (intro hb; (try simp only [bnl] at hb); (try revert hb; intro _))) | with_reducible refine aU ?_ ?_ | with_reducible refine aH ?_ | (refine aF (cA _ _ _) ?_; rintro _ ⟨-, rfl⟩; try dsimp only) | fail)
 ·exact first _ _ (by omega) (fun h => absurd h (nz (by decide)))
 ·exact first _ _ (by omega) w2
 ·exact first _ _ hs w2
theorem anW (deep : Int) (hd : 1 ≤ deep ∧ deep ≤ 21) (hT : deep ≤ 20 → aaH (deep + 1)) : aaH deep := by
 intro ts e c0 c1 c2 c3 c4 space h hn hs
 obtain ⟨k1, k2, k3, k4, k5, k6⟩ := hn.kids
 apply aeW 2000
 unfold rq jn
 dsimp only
 have stuck : ∀ {c : Int}, c ≠ 0 → bN ts e ts (if e = 0 then c else e) := fun hc => bN.stuck (Nat.le_refl _) h (nz hc)
 repeat' (first | (with_reducible refine aE ?_ ?_ <;> (intro hb; (try simp only [bnl] at hb); (try revert hb; intro _))) | with_reducible refine aU ?_ ?_ | with_reducible refine aH ?_ | (refine aF (cA _ _ _) ?_; rintro _ ⟨-, rfl⟩; try dsimp only) | (refine aF (anV _ _ _ _ h k1 (by omega)) ?_; rintro ⟨a, ts', e'⟩ ⟨-, g1, g2⟩; dsimp only at g1 g2 ⊢) | (refine aF (atg deep (by omega) (hT (by omega)) _ _ _ _ _ _ _ _ h hn hs) ?_; rintro ⟨a, ts', e'⟩ ⟨-, g1, g2⟩; dsimp only at g1 g2 ⊢) | fail)
 all_goals first | exact ⟨_, _, _, _, rfl, rfl, stuck (by decide), fun h => absurd h (nz (by decide))⟩ | exact ⟨_, _, _, _, rfl, rfl, g1, g2⟩ | skip
 ·rename_i he
  exact ⟨_, _, _, _, rfl, rfl, bN.refl h, fun h => absurd h he⟩
 rename_i he hdd _ _ _
 have hT := hT (by omega)
 have ed : IntKind.i64.wrap (deep + 1) = deep + 1 := aJ (deep + 1) (by omega)
 refine aF (pc _ _ _ _ _ _ (by omega)) ?_
 rintro r ⟨-, hr⟩
 have hg := tB (k := c0) (names := c4) (name := [116, 121, 112, 101]) k6
 simp only [cG] at hr
 rw [← hr] at hg
 have hgk := hg.kids
 clear hr
 obtain ⟨d0, d1, d2, d3, d4, d5⟩ := r
 dsimp only at hg hgk ⊢
 have part : ∀ (word : List UInt8) (k a : Int) (ts1 : List aA) (e1 : Int), k ≠ 14 → (1 ≤ k ∧ k ≤ 14) → k ≠ 10 → ml ts e ⟨k, [], [], 0, [], false, [], 0, [], []⟩ a ts1 e1 → Tot (ig 2000 (space, deep, c0, c1, c2, c3, c4, a, word, ts1, e1)) (fun z => ∃ (y0 : Int) (y1 : List aA) (y2 : Int) (rest : List aL), z.1.dimR = .int .i64 y0 ∧ z.2 = some [.ul .atype y1, .int .i64 y2] :: rest ∧ eK ts e c0 c1 c2 c3 c4 space deep (y0, y1, y2)) := by
  intro word k a ts1 e1 hk hk2 hk10 ho
  unfold ig
  dsimp only
  refine aF (pc _ _ _ _ _ _ (by omega)) ?_
  rintro r ⟨-, hr⟩
  have hg := tB (k := c0) (names := c4) (name := word) k6
  simp only [cG] at hr
  rw [← hr] at hg
  clear hr
  repeat' (first | (with_reducible refine aE ?_ ?_ <;> (intro hb; (try simp only [bnl] at hb); (try revert hb; intro _))) | with_reducible refine aU ?_ ?_ | with_reducible refine aH ?_ | (refine aF (cA _ _ _) ?_; rintro _ ⟨-, rfl⟩; try dsimp only) | fail)
  ·exact ⟨_, _, _, _, rfl, rfl, bN.stuck ho.len ho.cap (nz (by decide)), fun h => absurd h (nz (by decide))⟩
  simp only [ed]
  refine aF (hT _ _ _ _ _ _ _ _ ho.cap hg (by omega)) ?_
  rintro ⟨i, ts2, e2⟩ ⟨-, x1, x2⟩
  dsimp only at x1 x2 ⊢
  have ho2 := ho.more x1
  have hr2 : e2 = 0 → 0 ≤ a ∧ a < ts2.length := fun h0 => ho2.range h0
  repeat' (first | (with_reducible refine aE ?_ ?_ <;> (intro hb; (try simp only [bnl] at hb); (try revert hb; intro _))) | with_reducible refine aU ?_ ?_ | with_reducible refine aH ?_ | fail)
  all_goals first | (have := hr2 (by assumption); first | (simp only [bnl, lnl]; done) | (simp only [bnl, lnl]; omega)) | (first | (simp only [bnl, lnl]; done) | (simp only [bnl, lnl]; omega)) | skip
  ·rename_i h0
   have hr := ho2.range h0
   rw [pn (ho2.get h0)]
   refine ⟨_, _, _, _, rfl, rfl, ho2.done h0 ⟨x2 h0, by simp, by simp, by simp, by simp, by simp, by simp, fun h => absurd h hk, hk2, fun h => absurd h hk10⟩, fun _ => ?_⟩
   simpa using hr
  ·rename_i h0
   exact ⟨_, _, _, _, rfl, rfl, ho2.stuck h0, fun h => absurd h h0⟩
 have txt : Tot (ii 2000 (space, d0, d1, d2, d3, d4, ts, e)) (fun z => ∃ (y0 : Int) (y1 : List aA) (y2 : Int) (rest : List aL), z.1.dimR = .int .i64 y0 ∧ z.2 = some [.ul .atype y1, .int .i64 y2] :: rest ∧ eK ts e c0 c1 c2 c3 c4 space deep (y0, y1, y2)) := by
  unfold ii
  dsimp only
  refine aF (anV _ _ _ _ h hgk.1 (by omega)) ?_
  rintro ⟨a, ts', e'⟩ ⟨-, g1, g2⟩
  exact aH ⟨_, _, _, _, rfl, rfl, g1, g2⟩
 have one : ∀ b : Bool, (b = true → d2 = [97, 114, 114, 97, 121] ∨ d2 = [109, 97, 112]) → Tot (ij 2000 (space, deep, c0, c1, c2, c3, c4, d0, d1, d2, d3, d4, b, ts, e)) (fun z => ∃ (y0 : Int) (y1 : List aA) (y2 : Int) (rest : List aL), z.1.dimR = .int .i64 y0 ∧ z.2 = some [.ul .atype y1, .int .i64 y2] :: rest ∧ eK ts e c0 c1 c2 c3 c4 space deep (y0, y1, y2)) := by
  intro b hb
  unfold ij kN
  dsimp only
  refine aE (fun h1 => ?_) (fun h1 => txt)
  refine aF (ajT _) ?_
  rintro (k : Int) ⟨-, hk1, hk2, hk3, hk4, hk5⟩
  have hb := hb h1
  have hk : k ≠ 14 := fun h => by have := hk3 h; subst this; revert hb; decide
  have hk10 : k ≠ 10 := fun h => by have := hk5 h; subst this; revert hb; decide
  have hk0 : k ≠ 0 := fun h => by
   rcases hb with hb | hb
   ·exact hk4 h 11 (by decide) hb.symm
   ·exact hk4 h 12 (by decide) hb.symm
  refine aF (aie _ _ _ _ _ _ _ _ _ _ _ _ h) ?_
  rintro r ⟨-, hr⟩
  have ho := ml.add h hr
  clear hr
  obtain ⟨a, ts1, e1⟩ := r
  dsimp only at ho ⊢
  repeat' (first | (with_reducible refine aE ?_ ?_ <;> (intro hb; (try simp only [bnl] at hb); (try revert hb; intro _))) | with_reducible refine aU ?_ ?_ | with_reducible refine aH ?_ | fail)
  all_goals exact part _ k _ _ _ hk (by omega) hk10 ho
 have zero : ∀ b : Bool, (b = true → d2 = [114, 101, 99, 111, 114, 100] ∨ d2 = [101, 110, 117, 109] ∨ d2 = [102, 105, 120, 101, 100]) → Tot (lN 2000 (space, deep, c0, c1, c2, c3, c4, d0, d1, d2, d3, d4, d2, b, ts, e)) (fun z => ∃ (y0 : Int) (y1 : List aA) (y2 : Int) (rest : List aL), z.1.dimR = .int .i64 y0 ∧ z.2 = some [.ul .atype y1, .int .i64 y2] :: rest ∧ eK ts e c0 c1 c2 c3 c4 space deep (y0, y1, y2)) := by
  intro b hb
  unfold lN kO
  dsimp only
  refine aE (fun h1 => ?_) (fun h1 => aE (fun h2 => one _ fun _ => ?_) (fun h2 => one _ fun h3 => ?_))
  ·refine aF (ajT _) ?_
   rintro (k : Int) ⟨-, hk1, hk2, hk3, hk4, hk5⟩
   have hb := hb h1
   have hk : k ≠ 14 := fun h => by have := hk3 h; subst this; revert hb; decide
   have hk0 : k ≠ 0 := fun h => by
    rcases hb with hb | hb | hb
    ·exact hk4 h 8 (by decide) hb.symm
    ·exact hk4 h 9 (by decide) hb.symm
    ·exact hk4 h 10 (by decide) hb.symm
   refine aF (ath deep (by omega) hT _ _ _ _ _ _ _ _ _ h hn hs hk (by omega)) ?_
   rintro ⟨a, ts', e'⟩ ⟨-, g1, g2⟩
   exact aH ⟨_, _, _, _, rfl, rfl, g1, g2⟩
  ·exact .inl (of_decide_eq_true h2)
  ·exact .inr (of_decide_eq_true h3)
 repeat' (first | (with_reducible refine aE ?_ ?_ <;> (intro hb; (try simp only [bnl] at hb); (try revert hb; intro _))) | with_reducible refine aU ?_ ?_ | with_reducible refine aH ?_ | (refine aF (cA _ _ _) ?_; rintro _ ⟨-, rfl⟩; try dsimp only) | fail)
 ·exact ⟨_, _, _, _, rfl, rfl, stuck (by decide), fun h => absurd h (nz (by decide))⟩
 ·simp only [ed]
  refine aF (hT _ _ _ _ _ _ _ _ h hg (by omega)) ?_
  rintro ⟨a, ts', e'⟩ ⟨-, g1, g2⟩
  exact aH ⟨_, _, _, _, rfl, rfl, g1, g2⟩
 all_goals refine zero _ fun hb => ?_
 ·exact .inl (of_decide_eq_true hb)
 ·exact .inr (.inl (of_decide_eq_true hb))
 ·exact .inr (.inr (of_decide_eq_true hb))
theorem aqM : ∀ (n : Nat) (deep : Int), deep + n = 21 → 1 ≤ deep → aaH deep
 | 0, deep, h, h1 => anW deep (by omega) (fun h' => by omega)
 | n + 1, deep, h, h1 => anW deep (by omega) (fun _ => aqM n (deep + 1) (by omega) (by omega))
theorem at0 (c0 c1 : Int) (c2 : List UInt8) (c3 : List aD) (c4 : List (List UInt8)) (hn : bi (.mk c0 c1 c2 c3 c4)) : ∃ r, su c0 c1 c2 c3 c4 r := by
 apply ana 1
 unfold zW afR
 refine aF (aqM 20 1 (by omega) (by omega) _ _ _ _ _ _ _ _ (by simp) hn (by simp)) ?_
 rintro ⟨a, ts', e'⟩ ⟨-, g1, g2⟩
 dsimp only at g1 g2 ⊢
 repeat' (first | (with_reducible refine aE ?_ ?_ <;> (intro hb; (try simp only [bnl] at hb); (try revert hb; intro _))) | with_reducible refine aU ?_ ?_ | with_reducible refine aH ?_ | fail)
 ·rename_i h0
  exact ⟨_, _, _, rfl, rfl, fun h => absurd h h0⟩
 ·rename_i h0
  exact ⟨_, _, _, rfl, rfl, fun _ => by have g2 := g2 h0; rw [h0] at g1; exact g1.sch (by omega)⟩
end Go.Proofs.Ytdpajabhmmmjoaa
end
