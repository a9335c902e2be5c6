import Derived.KernelRfl
import Derived.Test.YtdpajabhmmmjoaaChecked
import Derived.Test.YtdpajabhmmmjoaaZ02
import Derived.Test.YtdpajabhmmmjoaaZ03
noncomputable section
namespace Go.Proofs.Ytdpajabhmmmjoaa
open Go.AM
set_option autoImplicit false
set_option linter.unusedVariables false
set_option maxRecDepth 100000
noncomputable def jt : aM := tab (P := Try.prog) [] [] [] [aeh, abH, agy]
def vG : IR := Rs [Mv 97 11, Mv 98 97, Gt 98 (.mov 99 8), Gt 98 (.mov 100 99), Gf 100 (.fad 101 0 5), Gf 100 (.lde 102 1 false 101), Gf 100 (.bin 103 .eql 102 (kU 0)), Gt 98 (.pick 104 100 (kB true) 103), Pa 105 98 104, Mv 106 105, Gt 106 (.mov 107 9), Gt 106 (.mov 108 107), Gf 108 (.fad 109 1 5), Gf 108 (.lde 110 1 false 109), Gf 108 (.bin 111 .eql 110 (kS [])), Gt 106 (.pick 112 108 (kB true) 111), Pa 113 106 112, Mv 114 113, Gt 114 (.mov 115 10), Gt 114 (.mov 116 115), Gf 116 (.fad 117 2 5), Gf 116 (.lde 118 1 false 117), Gf 116 (.lenl 119 118), Gf 116 (.bin 120 .eql 119 (kI 0)), Gt 114 (.pick 121 116 (kB true) 120), Pa 122 114 121, Mv 6 122] .ret
def mg : IR := Sq (Rs [Fa 78 0 7, Lq 79 78, Bc 80 .neq 79 13, Mv 81 80, Gt 81 (.fad 82 3 5), Gt 81 (.lde 83 1 false 82), Gt 81 (.lenl 84 83), Gt 81 (.bin 85 .gtr 84 (kI 0)), Pa 86 81 85, Mv 87 86, Gf 87 (.fad 88 0 7), Gf 87 (.lde 89 1 false 88), Gf 87 (.bin 90 .neq 89 (kI 14)), Gf 87 (.mov 91 90), Gt 91 (.fad 92 4 5), Gt 91 (.lde 93 1 false 92), Gt 91 (.bin 94 .neq 93 (kI 0)), Gf 87 (.pick 95 91 94 (kB false)), Po 96 87 95] (Cn 96 (Rs [Mb 6 false] .ret) .skip)) (.cut [5, 8, 9, 10, 11, 1000000] 0 vG)
def uq : IR := Rs [Bx 3 0, Bx 5 2, Mb 6 false] (Sq (Rs [Ld 12 1 true 3, Mv 13 1, Ca 14 45 [12, 13], Un 15 14] (Cn 15 (Rs [Mb 6 false] .ret) .skip)) (Rs [Fa 16 0 3, Lq 17 16, Mv 18 1, Ix 19 .atype 17 18, Ld 20 10 true 19, Pp (.alr 7 10), Fz 7 10 20] (Rs [Mb 8 false, Mb 9 false, Mb 10 false] (Rs [Mb 11 true] (Sq (Rs [Fa 21 0 7, Lq 22 21] (.block 0 (Rs [Bc 28 .eql 22 1, Mv 27 28] (Cn 27 .skip (Rs [Bc 30 .eql 22 2, Mv 29 30] (Cn 29 (.reg [Fa 31 0 5, Lq 32 31, Pp (.bin 33 .leq 32 (kU 1)), Mb 8 true, Mv 11 33] [[], [0], [0, 1], [], rg 0 3]) (Rs [Bc 35 .eql 22 3, Mv 34 35] (Cn 34 (.reg [Fa 36 0 5, Lq 37 36, Pp (.cvi 38 .i64 37), Pp (.bin 39 .geq 38 (kI (-2147483648))), Mv 40 39, Gt 40 (.fad 41 0 5), Gt 40 (.lde 42 1 false 41), Gt 40 (.cvi 43 .i64 42), Gt 40 (.bin 44 .lss 43 (kI 2147483648)), Pa 45 40 44, Mb 8 true, Mv 11 45] [[], [0], [0, 1], [0, 1, 2], rg 0 3, rg 0 4, rg 0 5, rg 0 6, rg 0 7, rg 0 8, rg 0 4, rg 0 10]) (Sq (Rs [Bc 47 .eql 22 4, Mv 46 47] (Cn 46 .skip (Rg [Bc 48 .eql 22 6, Mv 46 48]))) (Cn 46 (Rg [Mb 8 true]) (Rs [Bc 50 .eql 22 5, Mv 49 50] (Cn 49 (.reg [Fa 51 0 5, Lq 52 51, Pp (.bin 53 .lss 52 (kU 4294967296)), Mb 8 true, Mv 11 53] [[], [0], [0, 1], [], rg 0 3]) (Rs [Bc 55 .eql 22 10, Mv 54 55] (Cn 54 (.reg [Fa 56 0 5, Lq 57 56, Fa 58 4 7, Lq 59 58, Ll 60 59, Pp (.cvi 61 .u64 60), Bi 62 .lss 57 61, Mb 8 true, Mv 11 62] [[], [0], [], [2], [2, 3], [2, 3, 4], rg 0 5, [], rg 0 7]) (Rs [Bc 64 .eql 22 7, Mv 63 64] (Cn 63 (Rg [Mb 9 true]) (Rs [Bc 66 .eql 22 8, Mv 65 66] (Cn 65 (Rg [Fa 67 1 5, Lq 68 67, Ca 69 46 [68], Mb 9 true, Mv 11 69]) (Rs [Bc 71 .eql 22 11, Mv 70 71] (Cn 70 (.reg [Fa 72 1 5, Lq 73 72, Pp (.lens 74 73), Fa 75 7 7, Lq 76 75, Bi 77 .eql 74 76, Mb 9 true, Mv 11 77] [[], [0], [0, 1], [], [3], rg 0 4, [], rg 0 6]) (Rg [Ld 23 1 true 3, Ld 24 10 true 7, Ld 25 5 true 5, Ca 26 47 [23, 24, 25], Mb 10 true, Mv 11 26]))))))))))))))))))))) (.cut [5, 7, 8, 9, 10, 11, 1000001] 0 mg))))))
def iB : List RV := [.t 6]
theorem ag4 : FnC Try.prog jt [] 0 abD Try.f18 uq iB := fnC (by kernel_rfl) Try.func18 (by kernel_rfl) (by kernel_rfl) (by decide)
abbrev lg : Type := (Int × Bs × List aB × Bss × Int × Int × Bs × Bss × Int × Bss × Bool × Bs × Int × List aQ × List Int × Bool × Bool × Bool × Bool)
def jY : lg → St := fun (j, k, l, m, n, o, p, q, r, s, a, b, c, d, e, f, g, h, i) => { env := (U 5 (.ea [.int .u64 j, .str k, .sl .aval (.may false) l, .sl .str (.may false) m, .int .i64 n] :: .undef :: .ea [.int .i64 o, .str p, .sl .str (.may false) q, .int .i64 r, .sl .str (.may false) s, .bool a, .str b, .int .i64 c, .sl .afield (.may false) d, .sl (.num .i64) (.may false) e] :: .bool f :: .bool g :: .bool h :: .bool i :: (U 111 []))), hp := [] }
abbrev pB : Type := (Int × Bs × List aB × Bss × Int × Bool × Bool × Bool × Bool)
def nP : pB → St := fun (a, b, c, d, e, f, g, h, i) => { env := (U 5 (.ea [.int .u64 a, .str b, .sl .aval (.may false) c, .sl .str (.may false) d, .int .i64 e] :: .undef :: .undef :: .bool f :: .bool g :: .bool h :: .bool i :: (U 111 []))), hp := [] }
def s0 (N : Nat) : St → Ro := fun s => run jt N vG (fin iB) s
def lh (N : Nat) : pB → Ro := fun (d, c, a, _, _, m, l, b, e) =>
 cond e (
 cond m (
 cond l (
 cond b (
 some (.bool true, [])) (
 let f : Int := (↑(List.length a) : Int)
 some (.bool (f == 0), []))) (
 let g : Bool := decide (c = ([] : Bs))
 cond g (
 cond b (
 some (.bool true, [])) (
 let h : Int := (↑(List.length a) : Int)
 some (.bool (h == 0), []))) (
 some (.bool false, [])))) (
 cond (d == 0) (
 cond l (
 cond b (
 some (.bool true, [])) (
 let i : Int := (↑(List.length a) : Int)
 some (.bool (i == 0), []))) (
 let j : Bool := decide (c = ([] : Bs))
 cond j (
 cond b (
 some (.bool true, [])) (
 let k : Int := (↑(List.length a) : Int)
 some (.bool (k == 0), []))) (
 some (.bool false, [])))) (
 some (.bool false, [])))) (
 some (.bool false, []))
theorem aeI (N : Nat) : ∀ (x : pB), s0 N (nP x) = lh N x := by
 intro x
 kernel_rfl
def s3 (N : Nat) : St → Ro := fun s => run jt N mg (fin iB) s
def nQ (N : Nat) (i : pB → Ro) : lg → Ro := fun (c, d, e, b, a, f, _, _, _, _, _, _, _, _, _, j, k, g, h) =>
 cond (!(f == 13)) (
 let l : Int := (↑(List.length b) : Int)
 cond (decide (0 < l)) (
 some (.bool false, [])) (
 cond (!(f == 14)) (
 cond (!(a == 0)) (
 some (.bool false, [])) (
 i (c, d, e, b, a, j, k, g, h))) (
 i (c, d, e, b, a, j, k, g, h)))) (
 cond (!(f == 14)) (
 cond (!(a == 0)) (
 some (.bool false, [])) (
 i (c, d, e, b, a, j, k, g, h))) (
 i (c, d, e, b, a, j, k, g, h)))
def li (N : Nat) (x : lg) : Ro := nQ N (fun z => lh N z) x
def yh (N : Nat) : List (Nat × (St → Ro)) := (ba jt N mg (fin iB) ++ [])
theorem aeJ (N : Nat) : ∀ (x : lg), s3 N (jY x) = li N x := by
 intro x
 have hX : ∀ C : Nat → St → Ro, bL C jt N mg (fin iB) (jY x) = nQ N (fun z => C 1000000 (nP z)) x := by
  intro C
  kernel_rfl
 have h : s3 N (jY x) = nQ N (fun z => s0 N (nP z)) x := (cN (C := eQ (yh N)) (bU (be (l := (yh N)) (by kernel_rfl))) rfl _).trans ((hX _).trans (by kernel_rfl))
 have e1 : (fun z => s0 N (nP z)) = (fun z => lh N z) := funext fun z => aeI N z
 rw [h, e1]
 rfl
def mU (N : Nat) (c : List ak) (k a : Int) (b : Bs) (d : List aB) (e : Bss) (f : Int) (r : lg → Ro) : Ro :=
 aF (pm c k) (fun (y : Bool) =>
 cond (!y) (
 some (.bool false, [])) (
 chk (decide (0 ≤ k) && decide (k < ↑(List.length c))) (
 let h : Int := (List.getD c (Int.toNat k) (aC .atype)).kind
 let l : Bs := (List.getD c (Int.toNat k) (aC .atype)).name
 let m : Bss := (List.getD c (Int.toNat k) (aC .atype)).aliases
 let n : Int := (List.getD c (Int.toNat k) (aC .atype)).items
 let i : Bss := (List.getD c (Int.toNat k) (aC .atype)).syms
 let o : Bool := (List.getD c (Int.toNat k) (aC .atype)).hasdef
 let p : Bs := (List.getD c (Int.toNat k) (aC .atype)).df
 let j : Int := (List.getD c (Int.toNat k) (aC .atype)).size
 let q : List aQ := (List.getD c (Int.toNat k) (aC .atype)).fields
 let g : List Int := (List.getD c (Int.toNat k) (aC .atype)).branches
 cond (h == 1) (
 r (a, b, d, e, f, h, l, m, n, i, o, p, j, q, g, false, false, false, true)) (
 cond (h == 2) (
 r (a, b, d, e, f, h, l, m, n, i, o, p, j, q, g, true, false, false, decide (a ≤ 1))) (
 cond (h == 3) (
 let s : Bool := decide ((-2147483648) ≤ (IntKind.wrap .i64 a))
 cond s (
 let t : Bool := decide ((IntKind.wrap .i64 a) < 2147483648)
 r (a, b, d, e, f, h, l, m, n, i, o, p, j, q, g, true, false, false, (cond true t false))) (
 r (a, b, d, e, f, h, l, m, n, i, o, p, j, q, g, true, false, false, false))) (
 cond (h == 4) (
 r (a, b, d, e, f, h, l, m, n, i, o, p, j, q, g, true, false, false, true)) (
 cond (h == 6) (
 r (a, b, d, e, f, h, l, m, n, i, o, p, j, q, g, true, false, false, true)) (
 cond (h == 5) (
 let u : Bool := decide (a < 4294967296)
 r (a, b, d, e, f, h, l, m, n, i, o, p, j, q, g, true, false, false, u)) (
 cond (h == 10) (
 let v : Int := (↑(List.length i) : Int)
 let w : Bool := decide (a < (IntKind.wrap .u64 v))
 r (a, b, d, e, f, h, l, m, n, i, o, p, j, q, g, true, false, false, w)) (
 cond (h == 7) (
 r (a, b, d, e, f, h, l, m, n, i, o, p, j, q, g, false, true, false, true)) (
 cond (h == 8) (
 aF (kQ b) (fun (z : Bool) =>
 r (a, b, d, e, f, h, l, m, n, i, o, p, j, q, g, false, true, false, z))) (
 cond (h == 11) (
 let x : Int := (↑(List.length b) : Int)
 r (a, b, d, e, f, h, l, m, n, i, o, p, j, q, g, false, true, false, (x == j))) (
 aF (mH c h l m n i o p j q g a b d e f) (fun (r3 : Bool) =>
 r (a, b, d, e, f, h, l, m, n, i, o, p, j, q, g, false, false, true, r3)))))))))))))))
def ur (N : Nat) (a : List ak) (g b : Int) (c : Bs) (d : List aB) (e : Bss) (f : Int) : Ro := mU N a g b c d e f (fun z => li N z)
def aiE (N : Nat) : List (Nat × (St → Ro)) := ba jt N uq (fin iB) ++ []
theorem afH (N : Nat) (a : List ak) (h c : Int) (d : Bs) (e : List aB) (f : Bss) (g : Int) : bb jt N 123 iB uq [.agg [.sl .atype (.may false) a], .int .i64 h, .agg [.int .u64 c, .str d, .sl .aval (.may false) e, .sl .str (.may false) f, .int .i64 g]] [] = ur N a h c d e f g :=
 (bH (aiE N) (by kernel_rfl) rfl (fun C => mU N a h c d e f g (fun z => C 1000001 (jY z))) (fun C => by kernel_rfl)).trans (Eq.trans (b := mU N a h c d e f g (fun z => s3 N (jY z))) (by kernel_rfl) (congrArg (mU N a h c d e f g) (funext fun z => aeJ N z)))
theorem afI (N : Nat) (a : List ak) (g b : Int) (c : Bs) (d : List aB) (e : Bss) (f : Int) (h : Tot (ur N a g b c d e f) (fun z => ∃ (i : Bool) (rest : List aI), z.1.dimR = .bool i ∧ z.2 = rest ∧ nE a g b c d e f (i))) : ∃ r, dl a g b c d e f r := by
 obtain ⟨⟨v, hp⟩, hz, i, rest, e1, e2, hq⟩ := h
 simp only at e1 e2
 subst e2
 exact ⟨(i), aO.dimR (ag4.pure (afH N a g b c d e f) hz) e1, hq⟩
noncomputable def bZ : aM := tab (P := Try.prog) [] [] [] [abG, abH]
def mh : IR := Sq (Rs [Mv 30 7, Fa 31 3 5, Lq 32 31, Ll 33 32, Bi 34 .lss 30 33] (Cn 34 .skip (.exit 1))) (Sq (.block 2 (Sq (.reg [Fa 37 3 5, Lq 38 37, Mv 39 7, Ix 40 .str 38 39, Lq 41 40, Ca 42 46 [41], Un 43 42, Mv 44 43, Gf 44 (.mov 45 7), Gf 44 (.bin 46 .gtr 45 (kI 0)), Gf 44 (.mov 47 46), Gt 47 (.fad 48 3 5), Gt 47 (.lde 49 1 false 48), Gt 47 (.mov 50 7), Gt 47 (.ixa 51 .str 49 50), Gt 47 (.lde 52 1 false 51), Gt 47 (.fad 53 3 5), Gt 47 (.lde 54 1 false 53), Gt 47 (.mov 55 7), Gt 47 (.bin 56 .sub 55 (kI 1)), Gt 47 (.ixa 57 .str 54 56), Gt 47 (.lde 58 1 false 57), Gt 47 (.bin 59 .leq 52 58), Gf 44 (.pick 60 47 59 (kB false)), Po 61 44 60] [[], [0], [], [0, 1, 2], rg 0 3, rg 0 4, rg 0 5, rg 0 6, rg 0 7, rg 0 8, rg 0 9, rg 0 10, rg 0 11, rg 0 10, rg 0 13, rg 0 14, rg 0 10, rg 0 10 ++ [16], rg 0 10, rg 0 10 ++ [18], rg 0 10 ++ rg 16 19, rg 0 10 ++ rg 16 20, rg 0 21, rg 0 22, rg 0 23]) (Cn 61 (Rs [Mb 6 false] .ret) .skip))) (Rg [Mv 35 7, Bc 36 .add 35 1, Mv 7 36]))
def pQ : IR := Sq (Rs [Mv 95 8, Fa 96 2 5, Lq 97 96, Ll 98 97, Bi 99 .lss 95 98] (Cn 99 .skip (.exit 3))) (Sq (.block 4 (Rs [Fa 102 3 4, Lq 103 102, Mv 9 103] (Sq (Rs [Fa 104 0 4, Lq 105 104, Bc 106 .eql 105 9] (Cn 106 (Rg [Fa 107 8 4, Lq 108 107, Mv 109 8, Ix 110 .afield 108 109, Fa 111 2 110, Lo 112 111, Mv 9 112]) .skip)) (Sq (.reg [Ld 113 1 true 3, Mv 114 9, Fa 115 2 5, Lq 116 115, Mv 117 8, Ix 118 .aval 116 117, Ld 119 5 true 118, Ca 120 18 [113, 114, 119], Un 121 120] [[], [], [], [2], [], [2, 3, 4], rg 2 5, rg 0 6, rg 0 7]) (Cn 121 (Rs [Mb 6 false] .ret) .skip))))) (Rg [Mv 100 8, Bc 101 .add 100 1, Mv 8 101]))
def pR : IR := Rs [Mb 6 true] .ret
def pS : IR := Sq (Rs [Mi 8 0] (.block 3 (.loop [3, 4, 5, 8, 1000001] 0 pQ))) pR
def s4 : IR := Rs [Bx 3 0, Bx 4 1, Bx 5 2, Mb 6 false] (Sq (Rs [Fa 10 0 4, Lq 11 10] (.block 0 (Rs [Bc 13 .eql 11 9, Mv 12 13] (Cn 12 (Rs [Fa 14 2 5, Lq 15 14, Ll 16 15, Fa 17 8 4, Lq 18 17, Ll 19 18, Bi 20 .neq 16 19] (Cn 20 (Rs [Mb 6 false] .ret) .skip)) (Rs [Bc 22 .eql 11 13, Mv 21 22] (Cn 21 (Sq (Rs [Fa 23 2 5, Lq 24 23, Ll 25 24, Fa 26 3 5, Lq 27 26, Ll 28 27, Bi 29 .neq 25 28] (Cn 29 (Rs [Mb 6 false] .ret) .skip)) (Rs [Mi 7 0] (.block 1 (.loop [3, 4, 5, 7, 1000000] 0 mh)))) (Rs [Bc 63 .eql 11 14, Mv 62 63] (Cn 62 (Sq (.reg [Fa 64 4 5, Lq 65 64, Bc 66 .geq 65 0, Mv 67 66, Gt 67 (.fad 68 4 5), Gt 67 (.lde 69 1 false 68), Gt 67 (.fad 70 9 4), Gt 67 (.lde 71 1 false 70), Gt 67 (.lenl 72 71), Gt 67 (.bin 73 .lss 69 72), Pa 74 67 73, Mv 75 74, Gt 75 (.fad 76 2 5), Gt 75 (.lde 77 1 false 76), Gt 75 (.lenl 78 77), Gt 75 (.bin 79 .eql 78 (kI 1)), Pa 80 75 79, Mv 81 80, Gt 81 (.lde 82 1 true 3), Gt 81 (.fad 83 9 4), Gt 81 (.lde 84 1 false 83), Gt 81 (.fad 85 4 5), Gt 81 (.lde 86 1 false 85), Gt 81 (.ixa 87 (.num .i64) 84 86), Gt 81 (.lde 88 1 false 87), Gt 81 (.fad 89 2 5), Gt 81 (.lde 90 1 false 89), Gt 81 (.ixa 91 .aval 90 (kI 0)), Gt 81 (.lde 92 5 true 91), Gt 81 (.call 93 18 [82, 88, 92]), Pa 94 81 93, Mv 6 94] [[], [0], [0, 1], [0, 1, 2], rg 0 3, rg 0 4, rg 0 3, [0, 1, 2, 3, 6], [0, 1, 2, 3, 6, 7], rg 0 8, rg 0 9, rg 0 10, rg 0 11, rg 0 12, rg 0 13, rg 0 14, rg 0 15, rg 0 16, rg 0 17, rg 0 17, rg 0 17 ++ [19], rg 0 17, rg 0 17 ++ [21], rg 0 17 ++ rg 19 22, rg 0 17 ++ rg 19 23, rg 0 17, rg 0 17 ++ [25], rg 0 17 ++ [25, 26], rg 0 17 ++ [25, 26, 27], rg 0 28, rg 0 29, rg 0 30]) .ret) .skip)))))))) pS)
def gq : List RV := [.t 6]
theorem afJ : FnC Try.prog bZ [] 0 aac Try.f47 s4 gq := fnC (by kernel_rfl) Try.func47 (by kernel_rfl) (by kernel_rfl) (by decide)
def aeK (R : IR → (Ex → St → Ro) → St → Ro) (a : St → Ro) : Ex → St → Ro := (bD a [3, 4, 5, 8, 1000001] 0 (aT 3 (bv (R pR) (fin gq))))
abbrev jZ : Type := (List ak × Int × Bs × Bss × Int × Bss × Bool × Bs × Int × List aQ × List Int × Int × Bs × List aB × Bss × Int × Int)
def ju : jZ → St := fun (h, i, j, k, l, m, n, o, p, q, a, b, c, d, e, f, g) => { env := (U 3 (.ea [.sl .atype (.may false) h] :: .ea [.int .i64 i, .str j, .sl .str (.may false) k, .int .i64 l, .sl .str (.may false) m, .bool n, .str o, .int .i64 p, .sl .afield (.may false) q, .sl (.num .i64) (.may false) a] :: .ea [.int .u64 b, .str c, .sl .aval (.may false) d, .sl .str (.may false) e, .int .i64 f] :: .undef :: .undef :: .int .i64 g :: (U 113 []))), hp := [] }
def rY (N : Nat) : (St → Ro) → St → Ro := fun a s => run bZ N pQ (aeK (run bZ N) a) s
def ie (N : Nat) (c : jZ → Ro) : jZ → Ro := fun (d, f, h, i, g, j, k, m, o, e, p, q, r, a, t, u, b) =>
 let x3 : Int := (↑(List.length a) : Int)
 cond (decide (b < x3)) (
 cond (f == 9) (
 chk (decide (0 ≤ b) && decide (b < ↑(List.length e))) (
 let x6 : Int := (List.getD e (Int.toNat b) (aC .afield)).typ
 chk (decide (0 ≤ b) && decide (b < ↑(List.length a))) (
 let v : Int := (List.getD a (Int.toNat b) (aC .aval)).n
 let w : Bs := (List.getD a (Int.toNat b) (aC .aval)).s
 let x : List aB := (List.getD a (Int.toNat b) (aC .aval)).l
 let y : Bss := (List.getD a (Int.toNat b) (aC .aval)).keys
 let z : Int := (List.getD a (Int.toNat b) (aC .aval)).branch
 aF (dl d x6 v w x y z) (fun (r1 : Bool) =>
 cond (!r1) (
 some (.bool false, [])) (
 let aa : Int := (IntKind.wrap .i64 (b + 1))
 c (d, f, h, i, g, j, k, m, o, e, p, q, r, a, t, u, aa)))))) (
 chk (decide (0 ≤ b) && decide (b < ↑(List.length a))) (
 let ab : Int := (List.getD a (Int.toNat b) (aC .aval)).n
 let ac : Bs := (List.getD a (Int.toNat b) (aC .aval)).s
 let ad : List aB := (List.getD a (Int.toNat b) (aC .aval)).l
 let ae : Bss := (List.getD a (Int.toNat b) (aC .aval)).keys
 let af : Int := (List.getD a (Int.toNat b) (aC .aval)).branch
 aF (dl d g ab ac ad ae af) (fun (r2 : Bool) =>
 cond (!r2) (
 some (.bool false, [])) (
 let ag : Int := (IntKind.wrap .i64 (b + 1))
 c (d, f, h, i, g, j, k, m, o, e, p, q, r, a, t, u, ag)))))) (
 some (.bool true, []))
theorem adL (N : Nat) : ∀ (a : St → Ro) (x : jZ), rY N a (ju x) = ie N (fun y => a (ju y)) x := by
 intro a x
 kernel_rfl
def rZ (R : IR → (Ex → St → Ro) → St → Ro) (a : St → Ro) : Ex → St → Ro := (bD a [3, 4, 5, 7, 1000000] 0 (aT 1 (aT 0 (bv (R pS) (fin gq)))))
abbrev e9 : Type := (List ak × Int × Bs × Bss × Int × Bss × Bool × Bs × Int × List aQ × List Int × Int × Bs × List aB × Bss × Int × Int)
def cP : e9 → St := fun (h, i, j, k, l, m, n, o, p, q, a, b, c, d, e, f, g) => { env := (U 3 (.ea [.sl .atype (.may false) h] :: .ea [.int .i64 i, .str j, .sl .str (.may false) k, .int .i64 l, .sl .str (.may false) m, .bool n, .str o, .int .i64 p, .sl .afield (.may false) q, .sl (.num .i64) (.may false) a] :: .ea [.int .u64 b, .str c, .sl .aval (.may false) d, .sl .str (.may false) e, .int .i64 f] :: .undef :: .int .i64 g :: (U 114 []))), hp := [] }
def aeL (R : IR → (Ex → St → Ro) → St → Ro) (a : St → Ro) : Ex → St → Ro := (bD a [3, 4, 5, 8, 1000001] 0 (aT 3 (bv (R pR) (fin gq))))
abbrev j0 : Type := (List ak × Int × Bs × Bss × Int × Bss × Bool × Bs × Int × List aQ × List Int × Int × Bs × List aB × Bss × Int × Int)
def gr : j0 → St := fun (h, i, j, k, l, m, n, o, p, q, a, b, c, d, e, f, g) => { env := (U 3 (.ea [.sl .atype (.may false) h] :: .ea [.int .i64 i, .str j, .sl .str (.may false) k, .int .i64 l, .sl .str (.may false) m, .bool n, .str o, .int .i64 p, .sl .afield (.may false) q, .sl (.num .i64) (.may false) a] :: .ea [.int .u64 b, .str c, .sl .aval (.may false) d, .sl .str (.may false) e, .int .i64 f] :: .undef :: .undef :: .int .i64 g :: (U 113 []))), hp := [] }
def nR (N : Nat) : (St → Ro) → St → Ro := fun a s => run bZ N pQ (aeL (run bZ N) a) s
def j8 (N : Nat) (c : j0 → Ro) : j0 → Ro := fun (d, f, h, i, g, j, k, m, o, e, p, q, r, a, t, u, b) =>
 let v : Int := (↑(List.length a) : Int)
 cond (decide (b < v)) (
 cond (f == 9) (
 chk (decide (0 ≤ b) && decide (b < ↑(List.length e))) (
 let w : Int := (List.getD e (Int.toNat b) (aC .afield)).typ
 chk (decide (0 ≤ b) && decide (b < ↑(List.length a))) (
 let x : Int := (List.getD a (Int.toNat b) (aC .aval)).n
 let y : Bs := (List.getD a (Int.toNat b) (aC .aval)).s
 let z : List aB := (List.getD a (Int.toNat b) (aC .aval)).l
 let aa : Bss := (List.getD a (Int.toNat b) (aC .aval)).keys
 let ab : Int := (List.getD a (Int.toNat b) (aC .aval)).branch
 aF (dl d w x y z aa ab) (fun (r4 : Bool) =>
 cond (!r4) (
 some (.bool false, [])) (
 let ac : Int := (IntKind.wrap .i64 (b + 1))
 c (d, f, h, i, g, j, k, m, o, e, p, q, r, a, t, u, ac)))))) (
 chk (decide (0 ≤ b) && decide (b < ↑(List.length a))) (
 let ad : Int := (List.getD a (Int.toNat b) (aC .aval)).n
 let ae : Bs := (List.getD a (Int.toNat b) (aC .aval)).s
 let af : List aB := (List.getD a (Int.toNat b) (aC .aval)).l
 let ag : Bss := (List.getD a (Int.toNat b) (aC .aval)).keys
 let ah : Int := (List.getD a (Int.toNat b) (aC .aval)).branch
 aF (dl d g ad ae af ag ah) (fun (r5 : Bool) =>
 cond (!r5) (
 some (.bool false, [])) (
 let ai : Int := (IntKind.wrap .i64 (b + 1))
 c (d, f, h, i, g, j, k, m, o, e, p, q, r, a, t, u, ai)))))) (
 some (.bool true, []))
theorem adM (N : Nat) : ∀ (a : St → Ro) (x : j0), nR N a (gr x) = j8 N (fun y => a (gr y)) x := by
 intro a x
 kernel_rfl
def nS (N : Nat) : (St → Ro) → St → Ro := fun a s => run bZ N mh (rZ (run bZ N) a) s
def mi (N : Nat) (b : e9 → Ro) (q2 : j0 → Ro) : e9 → Ro := fun (c, d, e, f, g, h, i, j, k, l, m, n, o, p, a, q, r) =>
 let v : Int := (↑(List.length a) : Int)
 cond (decide (r < v)) (
  chk (decide (0 ≤ r) && decide (r < ↑(List.length a))) (
   let w : Bs := List.getD a (Int.toNat r) (aC .str)
   aF (kQ w) (fun (r3 : Bool) =>
    cond (!r3) (
     some (.bool false, [])) (
     cond (decide (0 < r)) (
      chk (decide (0 ≤ r) && decide (r < ↑(List.length a))) (
       let t : Bs := List.getD a (Int.toNat r) (aC .str)
       let s : Int := (IntKind.wrap .i64 (r - 1))
       chk (decide (0 ≤ s) && decide (s < ↑(List.length a))) (
        let u : Bs := List.getD a (Int.toNat s) (aC .str)
        let x : Bool := (Op.bytesLess t u || decide (t = u))
        cond x (
         some (.bool false, [])) (
         let y : Int := (IntKind.wrap .i64 (r + 1))
         b (c, d, e, f, g, h, i, j, k, l, m, n, o, p, a, q, y))))) (
      let z : Int := (IntKind.wrap .i64 (r + 1))
      b (c, d, e, f, g, h, i, j, k, l, m, n, o, p, a, q, z)))))) (
  q2 (c, d, e, f, g, h, i, j, k, l, m, n, o, p, a, q, 0))
def nT (N : Nat) (a : e9 → Ro) (x : e9) : Ro := mi N a (fun z => aW N (j8 N) z) x
def sa (N : Nat) (a : St → Ro) : List (Nat × (St → Ro)) := (ba bZ N mh (rZ (run bZ N) a) ++ (ba bZ N pS (fin gq) ++ []))
theorem adN (N : Nat) : ∀ (a : St → Ro) (x : e9), nS N a (cP x) = nT N (fun y => a (cP y)) x := by
 intro a x
 have hX : ∀ C : Nat → St → Ro, bL C bZ N mh (rZ (bL C bZ N) a) (cP x) = mi N (fun y => a (cP y)) (fun z => C 1000001 (gr z)) x := by
  intro C
  kernel_rfl
 have h : nS N a (cP x) = mi N (fun y => a (cP y)) (fun z => bi N (nR N) (gr z)) x := (cN (C := eQ (sa N a)) (bU (be (l := (sa N a)) (by kernel_rfl))) (pW (cT (cT (gu (bU (du (be (l := (sa N a)) (by kernel_rfl)))) rfl)))) _).trans ((hX _).trans (by kernel_rfl))
 have e2 : (fun z => bi N (nR N) (gr z)) = (fun z => aW N (j8 N) z) := funext fun z => bj (gr) (nR N) (j8 N) (adM N) N z
 rw [h, e2]
 rfl
def lj (N : Nat) (e : List ak) (c : Int) (h : Bs) (i : Bss) (j : Int) (k : Bss) (m : Bool) (o : Bs) (p : Int) (f : List aQ) (d : List Int) (q : Int) (r : Bs) (a : List aB) (g : Bss) (b : Int) (q0 : jZ → Ro) (q1 : e9 → Ro) : Ro :=
 cond (c == 9) (
 let x1 : Int := (↑(List.length a) : Int)
 let x2 : Int := (↑(List.length f) : Int)
 cond (!(x1 == x2)) (
 some (.bool false, [])) (
 q0 (e, c, h, i, j, k, m, o, p, f, d, q, r, a, g, b, 0))) (
 cond (c == 13) (
 let t : Int := (↑(List.length a) : Int)
 let u : Int := (↑(List.length g) : Int)
 cond (!(t == u)) (
 some (.bool false, [])) (
 q1 (e, c, h, i, j, k, m, o, p, f, d, q, r, a, g, b, 0))) (
 cond (c == 14) (
 cond (decide (0 ≤ b)) (
 let v : Int := (↑(List.length d) : Int)
 cond (decide (b < v)) (
 let w : Int := (↑(List.length a) : Int)
 cond (w == 1) (
 chk (decide (0 ≤ b) && decide (b < ↑(List.length d))) (
 let x : Int := List.getD d (Int.toNat b) (aC (.num .i64))
 chk (decide ((0 : Int) < ↑(List.length a))) (
 let y : Int := (List.getD a (Int.toNat 0) (aC .aval)).n
 let z : Bs := (List.getD a (Int.toNat 0) (aC .aval)).s
 let aa : List aB := (List.getD a (Int.toNat 0) (aC .aval)).l
 let ab : Bss := (List.getD a (Int.toNat 0) (aC .aval)).keys
 let ac : Int := (List.getD a (Int.toNat 0) (aC .aval)).branch
 aF (dl e x y z aa ab ac) (fun (r6 : Bool) =>
 some (.bool r6, []))))) (
 some (.bool false, []))) (
 some (.bool false, []))) (
 some (.bool false, []))) (
 q0 (e, c, h, i, j, k, m, o, p, f, d, q, r, a, g, b, 0))))
def s5 (N : Nat) (a : List ak) (b : Int) (c : Bs) (d : Bss) (e : Int) (f : Bss) (g : Bool) (h : Bs) (i : Int) (j : List aQ) (k : List Int) (l : Int) (m : Bs) (n : List aB) (o : Bss) (p : Int) : Ro := lj N a b c d e f g h i j k l m n o p (fun z => aW N (ie N) z) (fun z => aW N (nT N) z)
def ag5 (N : Nat) : List (Nat × (St → Ro)) := ba bZ N s4 (fin gq) ++ []
theorem aeM (N : Nat) (a : List ak) (c : Int) (d : Bs) (e : Bss) (f : Int) (g : Bss) (h : Bool) (i : Bs) (j : Int) (k : List aQ) (l : List Int) (m : Int) (n : Bs) (o : List aB) (p : Bss) (q : Int) : bb bZ N 122 gq s4 [.agg [.sl .atype (.may false) a], .agg [.int .i64 c, .str d, .sl .str (.may false) e, .int .i64 f, .sl .str (.may false) g, .bool h, .str i, .int .i64 j, .sl .afield (.may false) k, .sl (.num .i64) (.may false) l], .agg [.int .u64 m, .str n, .sl .aval (.may false) o, .sl .str (.may false) p, .int .i64 q]] [] = s5 N a c d e f g h i j k l m n o p q :=
 (bH (ag5 N) (by kernel_rfl) rfl (fun C => lj N a c d e f g h i j k l m n o p q (fun z => C 1000001 (ju z)) (fun z => C 1000000 (cP z))) (fun C => by kernel_rfl)).trans (Eq.trans (b := lj N a c d e f g h i j k l m n o p q (fun z => bi N (rY N) (ju z)) (fun z => bi N (nS N) (cP z))) (by kernel_rfl) (congr (congrArg (lj N a c d e f g h i j k l m n o p q) (funext fun z => bj (ju) (rY N) (ie N) (adL N) N z)) (funext fun z => bj (cP) (nS N) (nT N) (adN N) N z)))
theorem aeN (N : Nat) (a : List ak) (b : Int) (c : Bs) (d : Bss) (e : Int) (f : Bss) (g : Bool) (i : Bs) (j : Int) (k : List aQ) (l : List Int) (m : Int) (n : Bs) (o : List aB) (p : Bss) (q : Int) (h : Tot (s5 N a b c d e f g i j k l m n o p q) (fun z => ∃ (s : Bool) (rest : List aI), z.1.dimR = .bool s ∧ z.2 = rest ∧ ch a b c d e f g i j k l m n o p q (s))) : ∃ r, mH a b c d e f g i j k l m n o p q r := by
 obtain ⟨⟨v, hp⟩, hz, s, rest, e1, e2, hq⟩ := h
 simp only at e1 e2
 subst e2
 exact ⟨(s), aO.dimR (afJ.pure (aeM N a b c d e f g i j k l m n o p q) hz) e1, hq⟩
noncomputable def oQ : aM := tab (P := Try.prog) [] [] [] [abJ]
def wZ : IR := Sq (Rs [Mv 5 0, Pp (.lens 6 5), Bc 7 .gtr 6 0] (Cn 7 .skip (.exit 0))) (.block 1 (Rs [Mv 9 0, Ca 10 79 [9], Mv 8 10, Ex_ 11 0 8, Ex_ 12 1 8, Mv 3 11, Mv 4 12] (Sq (Rs [Mv 13 4, Bc 14 .eql 13 0] (Cn 14 (Rs [Mb 2 false] .ret) .skip)) (Rg [Mv 15 0, Mv 16 4, Pp (.subs 17 15 (some 16) none), Mv 0 17]))))
def w5 : IR := Rs [Mb 2 true] .ret
def uu : IR := Rs [Mb 2 false] (Sq (.block 0 (.loop [0, 1000000] 0 wZ)) w5)
def qG : List RV := [.t 2]
theorem ag6 : FnC Try.prog oQ [] 0 aby Try.f46 uu qG := fnC (by kernel_rfl) Try.func46 (by kernel_rfl) (by kernel_rfl) (by decide)
def afK (R : IR → (Ex → St → Ro) → St → Ro) (a : St → Ro) : Ex → St → Ro := (bD a [0, 1000000] 0 (aT 0 (bv (R w5) (fin qG))))
abbrev lk : Type := (Bs)
def j9 (x : lk) : St := { env := (.str x :: (U 17 [])), hp := [] }
def s6 (N : Nat) : (St → Ro) → St → Ro := fun a s => run oQ N wZ (afK (run oQ N) a) s
def pC (N : Nat) (a : lk → Ro) (x : lk) : Ro :=
 let b : Bs := x
 let d : Int := (↑(List.length b) : Int)
 cond (decide (0 < d)) (
 aF (jl b) (fun c =>
 cond (c.2 == 0) (
 some (.bool false, [])) (
 chk (decide (0 ≤ c.2) && decide (c.2 ≤ (↑(List.length b) : Int))) (
 let e : Bs := (List.drop (Int.toNat c.2) (List.take (List.length b) b))
 a (e))))) (
 some (.bool true, []))
theorem aeO (N : Nat) : ∀ (a : St → Ro) (x : lk), s6 N a (j9 x) = pC N (fun y => a (j9 y)) x := by
 intro a x
 kernel_rfl
def mV (N : Nat) (a : Bs) (b : lk → Ro) : Ro :=
 b (a)
def uv (N : Nat) (a : Bs) : Ro := mV N a (fun z => aW N (pC N) z)
def aiF (N : Nat) : List (Nat × (St → Ro)) := ba oQ N uu (fin qG) ++ []
theorem afL (N : Nat) (a : Bs) : bb oQ N 18 qG uu [.str a] [] = uv N a :=
 (bH (aiF N) (by kernel_rfl) rfl (fun C => mV N a (fun z => C 1000000 (j9 z))) (fun C => by kernel_rfl)).trans (Eq.trans (b := mV N a (fun z => bi N (s6 N) (j9 z))) (by kernel_rfl) (congrArg (mV N a) (funext fun z => bj (j9) (s6 N) (pC N) (aeO N) N z)))
theorem afM (N : Nat) (a : Bs) (h : Tot (uv N a) (fun z => ∃ (b : Bool) (rest : List aI), z.1.dimR = .bool b ∧ z.2 = rest ∧ rC a (b))) : ∃ r, kQ a r := by
 obtain ⟨⟨v, hp⟩, hz, b, rest, e1, e2, hq⟩ := h
 simp only at e1 e2
 subst e2
 exact ⟨(b), aO.dimR (ag6.pure (afL N a) hz) e1, hq⟩
end Go.Proofs.Ytdpajabhmmmjoaa
end
noncomputable section
namespace Go.Proofs.Ytdpajabhmmmjoaa
open Go.AM
set_option autoImplicit false
set_option linter.unusedVariables false
set_option maxRecDepth 100000
noncomputable def sb : aM := tab (P := Try.prog) [] [] [] []
def aaw : IR := Sq (Rs [Fa 7 0 2, Lq 8 7, Bc 9 .eql 8 6, Mv 10 9, Gt 10 (.mov 11 6), Gt 10 (.fad 12 4 2), Gt 10 (.lde 13 1 false 12), Gt 10 (.lenl 14 13), Gt 10 (.bin 15 .lss 11 14), Pa 16 10 15, Mv 17 16, Gt 17 (.mov 18 6), Gt 17 (.fad 19 3 2), Gt 17 (.lde 20 1 false 19), Gt 17 (.lenl 21 20), Gt 17 (.bin 22 .lss 18 21), Pa 23 17 22] (Cn 23 .skip (.exit 0))) (Sq (.block 1 (Rs [Fa 26 4 2, Lq 27 26, Mv 28 6, Ix 29 .str 27 28, Lq 30 29, Mv 31 1, Bi 32 .eql 30 31] (Cn 32 (Rs [Fa 33 3 2, Lq 34 33, Mv 35 6, Ix 36 .jnode 34 35, Ld 37 5 true 36, Sv 5 4 37, Mb 5 true] .ret) .skip))) (Rg [Mv 24 6, Bc 25 .add 24 1, Mv 6 25]))
def aax : IR := Rs [Pp (.bld 38 [vI 0, vI 0, vS, nl .jnode, nl .str] []), Sv 5 4 38, Mb 5 false] .ret
def xj : IR := Rs [Bx 2 0, Pp (.new 4 [vI 0, vI 0, vS, nl .jnode, nl .str]), Mb 5 false] (Sq (Rs [Mi 6 0] (.block 0 (.loop [1, 2, 4, 6, 1000000] 1 aaw))) aax)
def tn : List RV := [.cell 4 5 true, .t 5]
theorem ajr : FnC Try.prog sb [] 0 aeg Try.f113 xj tn := fnC (by kernel_rfl) Try.func113 (by kernel_rfl) (by kernel_rfl) (by decide)
def aiG (R : IR → (Ex → St → Ro) → St → Ro) (a : St → Ro) : Ex → St → Ro := (bD a [1, 2, 4, 6, 1000000] 1 (aT 0 (bv (R aax) (fin tn))))
abbrev oR : Type := (Bs × Int × Int × Bs × List aA × Bss × Int × Int × Int × Bs × List aA × Bss)
def mW : oR → St := fun (c, d, e, f, g, h, i, j, k, l, a, b) => { env := (.undef :: .str c :: .ea [.int .i64 d, .int .i64 e, .str f, .sl .jnode (.may false) g, .sl .str (.may false) h] :: .undef :: .ptr 0 0 :: .undef :: .int .i64 i :: (U 32 [])), hp := [some [.int .i64 j, .int .i64 k, .str l, .sl .jnode .own a, .sl .str .own b]] }
def vH (N : Nat) : (St → Ro) → St → Ro := fun a s => run sb N aaw (aiG (run sb N) a) s
def sc (N : Nat) (d : oR → Ro) : oR → Ro := fun (o, e, f, g, a, b, c, h, i, j, k, m) =>
 cond (e == 6) (
 let v : Int := (↑(List.length b) : Int)
 cond (decide (c < v)) (
 let w : Int := (↑(List.length a) : Int)
 cond (decide (c < w)) (
 chk (decide (0 ≤ c) && decide (c < ↑(List.length b))) (
 let x : Bs := List.getD b (Int.toNat c) (aC .str)
 cond (decide (x = o)) (
 chk (decide (0 ≤ c) && decide (c < ↑(List.length a))) (
 let p : Int := (List.getD a (Int.toNat c) (aC .jnode)).kind
 let q : Int := (List.getD a (Int.toNat c) (aC .jnode)).n
 let r : Bs := (List.getD a (Int.toNat c) (aC .jnode)).s
 let t : List aA := (List.getD a (Int.toNat c) (aC .jnode)).l
 let u : Bss := (List.getD a (Int.toNat c) (aC .jnode)).names
 some (.tup [.agg [.int .i64 p, .int .i64 q, .str r, .sl .jnode (.may false) t, .sl .str (.may false) u], .bool true], [some [.int .i64 p, .int .i64 q, .str r, .sl .jnode (.may false) t, .sl .str (.may false) u]]))) (
 let y : Int := (IntKind.wrap .i64 (c + 1))
 d (o, e, f, g, a, b, y, h, i, j, k, m)))) (
 some (.tup [.agg [.int .i64 0, .int .i64 0, .str ([] : Bs), .sl .jnode (.may false) ([] : List aA), .sl .str (.may false) ([] : Bss)], .bool false], [some [.int .i64 0, .int .i64 0, .str ([] : Bs), .sl .jnode .own ([] : List aA), .sl .str .own ([] : Bss)]]))) (
 some (.tup [.agg [.int .i64 0, .int .i64 0, .str ([] : Bs), .sl .jnode (.may false) ([] : List aA), .sl .str (.may false) ([] : Bss)], .bool false], [some [.int .i64 0, .int .i64 0, .str ([] : Bs), .sl .jnode .own ([] : List aA), .sl .str .own ([] : Bss)]]))) (
 some (.tup [.agg [.int .i64 0, .int .i64 0, .str ([] : Bs), .sl .jnode (.may false) ([] : List aA), .sl .str (.may false) ([] : Bss)], .bool false], [some [.int .i64 0, .int .i64 0, .str ([] : Bs), .sl .jnode .own ([] : List aA), .sl .str .own ([] : Bss)]]))
theorem ag7 (N : Nat) : ∀ (a : St → Ro) (x : oR), vH N a (mW x) = sc N (fun y => a (mW y)) x := by
 intro a x
 kernel_rfl
def qg (N : Nat) (a b : Int) (c : Bs) (d : List aA) (e : Bss) (f : Bs) (g : oR → Ro) : Ro :=
 g (f, a, b, c, d, e, 0, 0, 0, ([] : Bs), ([] : List aA), ([] : Bss))
def xk (N : Nat) (a b : Int) (c : Bs) (d : List aA) (e : Bss) (f : Bs) : Ro := qg N a b c d e f (fun z => aW N (sc N) z)
def akp (N : Nat) : List (Nat × (St → Ro)) := ba sb N xj (fin tn) ++ []
theorem aiH (N : Nat) (a c : Int) (d : Bs) (e : List aA) (f : Bss) (g : Bs) : bb sb N 39 tn xj [.agg [.int .i64 a, .int .i64 c, .str d, .sl .jnode (.may false) e, .sl .str (.may false) f], .str g] [] = xk N a c d e f g :=
 (bH (akp N) (by kernel_rfl) rfl (fun C => qg N a c d e f g (fun z => C 1000000 (mW z))) (fun C => by kernel_rfl)).trans (Eq.trans (b := qg N a c d e f g (fun z => bi N (vH N) (mW z))) (by kernel_rfl) (congrArg (qg N a c d e f g) (funext fun z => bj (mW) (vH N) (sc N) (ag7 N) N z)))
theorem aiI (N : Nat) (a b : Int) (c : Bs) (d : List aA) (e : Bss) (f : Bs) (h : Tot (xk N a b c d e f) (fun z => ∃ (g : Int) (i : Int) (j : Bs) (k : List aA) (l : Bss) (m : Bool) (rest : List aI), z.1.dimR = .tup [.agg [.int .i64 g, .int .i64 i, .str j, .sl .jnode (.may false) k, .sl .str (.may false) l], .bool m] ∧ z.2 = rest ∧ bQ a b c d e f (g, i, j, k, l, m))) : ∃ r, b7 a b c d e f r := by
 obtain ⟨⟨v, hp⟩, hz, g, i, j, k, l, m, rest, e1, e2, hq⟩ := h
 simp only at e1 e2
 subst e2
 exact ⟨(g, i, j, k, l, m), aO.dimR (ajr.pure (aiH N a b c d e f) hz) e1, hq⟩
noncomputable def qh : aM := tab (P := Try.prog) [] [] [] [agE, ah8]
def yi : IR := Sq (Rs [Mv 4 3, Mv 5 0, Pp (.lens 6 5), Bi 7 .lss 4 6] (Cn 7 .skip (.exit 0))) (Sq (.block 1 (Rs [Mv 10 0, Mv 11 3, Pp (.idx 12 10 11), Ca 13 164 [12], Un 14 13, Mv 15 14, Gt 15 (.mov 16 3), Gt 15 (.bin 17 .eql 16 (kI 0)), Gt 15 (.mov 18 17), Gf 18 (.mov 19 0), Gf 18 (.mov 20 3), Gf 18 (.idx 21 19 20), Gf 18 (.call 22 165 [21]), Gf 18 (.un 23 .not 22), Gt 15 (.pick 24 18 (kB true) 23), Pa 25 15 24] (Cn 25 (Rs [Mb 2 false] .ret) .skip))) (Rg [Mv 8 3, Bc 9 .add 8 1, Mv 3 9]))
def yj : IR := Rs [Mv 26 0, Pp (.lens 27 26), Bc 28 .gtr 27 0, Mv 2 28] .ret
def vJ : IR := Rs [Mb 2 false] (Sq (Rs [Mi 3 0] (.block 0 (.loop [0, 3, 1000000] 0 yi))) yj)
def sd : List RV := [.t 2]
theorem aiJ : FnC Try.prog qh [] 0 ac7 Try.f161 vJ sd := fnC (by kernel_rfl) Try.func161 (by kernel_rfl) (by kernel_rfl) (by decide)
def ag8 (R : IR → (Ex → St → Ro) → St → Ro) (a : St → Ro) : Ex → St → Ro := (bD a [0, 3, 1000000] 0 (aT 0 (bv (R yj) (fin sd))))
abbrev mX : Type := (Bs × Int)
def ll : mX → St := fun (a, b) => { env := (.str a :: .undef :: .undef :: .int .i64 b :: (U 25 [])), hp := [] }
def uw (N : Nat) : (St → Ro) → St → Ro := fun a s => run qh N yi (ag8 (run qh N) a) s
def qH (N : Nat) (a : mX → Ro) : mX → Ro := fun (c, b) =>
 let d : Int := (↑(List.length c) : Int)
 cond (decide (b < d)) (
 chk (decide (0 ≤ b) && decide (b < ↑(List.length c))) (
 let e : Int := (↑(UInt8.toNat (List.getD c (Int.toNat b) 0)) : Int)
 aF (mJ e) (fun (f : Bool) =>
 cond (!f) (
 cond (b == 0) (
 some (.bool false, [])) (
 chk (decide (0 ≤ b) && decide (b < ↑(List.length c))) (
 let g : Int := (↑(UInt8.toNat (List.getD c (Int.toNat b) 0)) : Int)
 aF (oB g) (fun (h : Bool) =>
 cond (!h) (
 some (.bool false, [])) (
 let i : Int := (IntKind.wrap .i64 (b + 1))
 a (c, i)))))) (
 let j : Int := (IntKind.wrap .i64 (b + 1))
 a (c, j))))) (
 let k : Int := (↑(List.length c) : Int)
 some (.bool (decide (0 < k)), []))
theorem afN (N : Nat) : ∀ (a : St → Ro) (x : mX), uw N a (ll x) = qH N (fun y => a (ll y)) x := by
 intro a x
 kernel_rfl
def oS (N : Nat) (a : Bs) (b : mX → Ro) : Ro :=
 b (a, 0)
def vK (N : Nat) (a : Bs) : Ro := oS N a (fun z => aW N (qH N) z)
def ajs (N : Nat) : List (Nat × (St → Ro)) := ba qh N vJ (fin sd) ++ []
theorem ag9 (N : Nat) (a : Bs) : bb qh N 29 sd vJ [.str a] [] = vK N a :=
 (bH (ajs N) (by kernel_rfl) rfl (fun C => oS N a (fun z => C 1000000 (ll z))) (fun C => by kernel_rfl)).trans (Eq.trans (b := oS N a (fun z => bi N (uw N) (ll z))) (by kernel_rfl) (congrArg (oS N a) (funext fun z => bj (ll) (uw N) (qH N) (afN N) N z)))
theorem aha (N : Nat) (a : Bs) (h : Tot (vK N a) (fun z => ∃ (b : Bool) (rest : List aI), z.1.dimR = .bool b ∧ z.2 = rest)) : ∃ r, gv a r := by
 obtain ⟨⟨v, hp⟩, hz, b, rest, e1, e2⟩ := h
 simp only at e1 e2
 subst e2
 exact ⟨(b), aO.dimR (aiJ.pure (ag9 N a) hz) e1⟩
noncomputable def aay : aM := tab (P := Try.prog) [] [] [] []
def yk : IR := Rs [Mb 2 false] (Rs [Mv 3 0, Pp (.bin 4 .geq 3 (.c (.int .u8 97))), Mv 5 4, Gt 5 (.mov 6 0), Gt 5 (.bin 7 .leq 6 (.c (.int .u8 122))), Pa 8 5 7, Mv 9 8, Gf 9 (.mov 10 0), Gf 9 (.bin 11 .geq 10 (.c (.int .u8 65))), Gf 9 (.mov 12 11), Gt 12 (.mov 13 0), Gt 12 (.bin 14 .leq 13 (.c (.int .u8 90))), Gf 9 (.pick 15 12 14 (kB false)), Po 16 9 15, Mv 17 16, Gf 17 (.mov 18 0), Gf 17 (.bin 19 .eql 18 (.c (.int .u8 95))), Po 20 17 19, Mv 2 20] .ret)
def yl : List RV := [.t 2]
theorem afO : FnC Try.prog aay [] 0 aad Try.f164 yk yl := fnC (by kernel_rfl) Try.func164 (by kernel_rfl) (by kernel_rfl) (by decide)
def ym (N : Nat) (a : Int) : Ro :=
 cond (decide (97 ≤ a)) (
 cond (decide (a ≤ 122)) (
 some (.bool true, [])) (
 cond (decide (65 ≤ a)) (
 cond (decide (a ≤ 90)) (
 some (.bool true, [])) (
 some (.bool (a == 95), []))) (
 some (.bool (a == 95), [])))) (
 cond (decide (65 ≤ a)) (
 cond (decide (a ≤ 90)) (
 some (.bool true, [])) (
 some (.bool (a == 95), []))) (
 some (.bool (a == 95), [])))
def s7 (N : Nat) (a : Int) : Ro := ym N a
theorem aeP (N : Nat) (a : Int) : bb aay N 21 yl yk [.int .u8 a] [] = s7 N a := by kernel_rfl
theorem aeQ (N : Nat) (a : Int) (h : Tot (s7 N a) (fun z => ∃ (b : Bool) (rest : List aI), z.1.dimR = .bool b ∧ z.2 = rest)) : ∃ r, mJ a r := by
 obtain ⟨⟨v, hp⟩, hz, b, rest, e1, e2⟩ := h
 simp only at e1 e2
 subst e2
 exact ⟨(b), aO.dimR (afO.pure (aeP N a) hz) e1⟩
noncomputable def acm : aM := tab (P := Try.prog) [] [] [] []
def aaz : IR := Rs [Mb 2 false] (Rs [Mv 3 0, Pp (.bin 4 .geq 3 (.c (.int .u8 48))), Mv 5 4, Gt 5 (.mov 6 0), Gt 5 (.bin 7 .leq 6 (.c (.int .u8 57))), Pa 8 5 7, Mv 2 8] .ret)
def aaA : List RV := [.t 2]
theorem ahb : FnC Try.prog acm [] 0 abE Try.f165 aaz aaA := fnC (by kernel_rfl) Try.func165 (by kernel_rfl) (by kernel_rfl) (by decide)
def aaB (N : Nat) (a : Int) : Ro :=
 cond (decide (48 ≤ a)) (
 some (.bool (decide (a ≤ 57)), [])) (
 some (.bool false, []))
def uz (N : Nat) (a : Int) : Ro := aaB N a
theorem afP (N : Nat) (a : Int) : bb acm N 9 aaA aaz [.int .u8 a] [] = uz N a := by kernel_rfl
theorem afQ (N : Nat) (a : Int) (h : Tot (uz N a) (fun z => ∃ (b : Bool) (rest : List aI), z.1.dimR = .bool b ∧ z.2 = rest)) : ∃ r, oB a r := by
 obtain ⟨⟨v, hp⟩, hz, b, rest, e1, e2⟩ := h
 simp only at e1 e2
 subst e2
 exact ⟨(b), aO.dimR (ahb.pure (afP N a) hz) e1⟩
noncomputable def adj : aM := tab (P := Try.prog) [] [] [] []
def acn : IR := Rs [Ms 4 []] (Sq (Rs [Mv 5 0, Pp (.bin 6 .eql 5 (kS [])), Mv 7 6, Gf 7 (.mov 8 1), Gf 7 (.bin 9 .eql 8 (kS [])), Po 10 7 9] (Cn 10 (Rs [Mv 11 0, Mv 12 1, Bi 13 .add 11 12, Mv 4 13] .ret) .skip)) (Rs [Mv 14 0, Pp (.bin 15 .add 14 (kS [46])), Mv 16 1, Bi 17 .add 15 16, Mv 4 17] .ret))
def aco : List RV := [.t 4]
theorem aiK : FnC Try.prog adj [] 0 ac8 Try.f159 acn aco := fnC (by kernel_rfl) Try.func159 (by kernel_rfl) (by kernel_rfl) (by decide)
def acp (N : Nat) (a b : Bs) : Ro :=
 let d : Bool := decide (a = ([] : Bs))
 cond d (
 chk (decide (List.length a + List.length b ≤ 9223372036854775807)) (
 some (.str (a ++ b), []))) (
 let e : Bool := decide (b = ([] : Bs))
 cond e (
 chk (decide (List.length a + List.length b ≤ 9223372036854775807)) (
 some (.str (a ++ b), []))) (
 chk (decide (List.length a + List.length ([46] : Bs) ≤ 9223372036854775807)) (
 let c : Bs := (a ++ ([46] : Bs))
 chk (decide (List.length c + List.length b ≤ 9223372036854775807)) (
 some (.str (c ++ b), [])))))
def vL (N : Nat) (a b : Bs) : Ro := acp N a b
theorem ahc (N : Nat) (a b : Bs) : bb adj N 18 aco acn [.str a, .str b] [] = vL N a b := by kernel_rfl
theorem ahd (N : Nat) (a b : Bs) (h : Tot (vL N a b) (fun z => ∃ (c : Bs) (rest : List aI), z.1.dimR = .str c ∧ z.2 = rest ∧ pl a b (c))) : ∃ r, p9 a b r := by
 obtain ⟨⟨v, hp⟩, hz, c, rest, e1, e2, hq⟩ := h
 simp only at e1 e2
 subst e2
 exact ⟨(c), aO.dimR (aiK.pure (ahc N a b) hz) e1, hq⟩
noncomputable def oT : aM := tab (P := Try.prog) [] [] [] [xc]
def w6 : IR := Sq (Rs [Mv 5 4, Mv 6 0, Pp (.lens 7 6), Bi 8 .leq 5 7] (Cn 8 .skip (.exit 0))) (Sq (.block 1 (Sq (Rs [Mv 11 4, Mv 12 0, Pp (.lens 13 12), Bi 14 .lss 11 13, Mv 15 14, Gt 15 (.mov 16 0), Gt 15 (.mov 17 4), Gt 15 (.idx 18 16 17), Gt 15 (.bin 19 .neq 18 (.c (.int .u8 46))), Pa 20 15 19] (Cn 20 (Rs [Mv 21 3, Mv 22 0, Mv 23 4, Mv 24 4, Bc 25 .add 24 1, Pp (.subs 26 22 (some 23) (some 25)), Bi 27 .add 21 26, Mv 3 27] (.exit 1)) .skip)) (Sq (Rs [Mv 28 3, Ca 29 161 [28], Un 30 29] (Cn 30 (Rs [Mb 2 false] .ret) .skip)) (Rg [Ms 3 []])))) (Rg [Mv 9 4, Bc 10 .add 9 1, Mv 4 10]))
def vM : IR := Rs [Mb 2 true] .ret
def uA : IR := Rs [Mb 2 false] (Rs [Ms 3 []] (Sq (Rs [Mi 4 0] (.block 0 (.loop [0, 3, 4, 1000000] 0 w6))) vM))
def qI : List RV := [.t 2]
theorem ahe : FnC Try.prog oT [] 0 abF Try.f160 uA qI := fnC (by kernel_rfl) Try.func160 (by kernel_rfl) (by kernel_rfl) (by decide)
def afR (R : IR → (Ex → St → Ro) → St → Ro) (a : St → Ro) : Ex → St → Ro := (bD a [0, 3, 4, 1000000] 0 (aT 0 (bv (R vM) (fin qI))))
abbrev lm : Type := (Bs × Bs × Int)
def ka : lm → St := fun (a, b, c) => { env := (.str a :: .undef :: .undef :: .str b :: .int .i64 c :: (U 26 [])), hp := [] }
def s8 (N : Nat) : (St → Ro) → St → Ro := fun a s => run oT N w6 (afR (run oT N) a) s
def pD (N : Nat) (a : lm → Ro) : lm → Ro := fun (c, d, b) =>
 let g : Int := (↑(List.length c) : Int)
 cond (decide (b ≤ g)) (
 let h : Int := (↑(List.length c) : Int)
 cond (decide (b < h)) (
 chk (decide (0 ≤ b) && decide (b < ↑(List.length c))) (
 let i : Int := (↑(UInt8.toNat (List.getD c (Int.toNat b) 0)) : Int)
 cond (!(i == 46)) (
 let e : Int := (IntKind.wrap .i64 (b + 1))
 chk (decide (0 ≤ e) && decide (e ≤ (↑(List.length c) : Int)) && (decide (0 ≤ b) && decide (b ≤ e))) (
 let f : Bs := (List.drop (Int.toNat b) (List.take (Int.toNat e) c))
 chk (decide (List.length d + List.length f ≤ 9223372036854775807)) (
 let j : Int := (IntKind.wrap .i64 (b + 1))
 a (c, (d ++ f), j)))) (
 aF (gv d) (fun (k : Bool) =>
 cond (!k) (
 some (.bool false, [])) (
 let l : Int := (IntKind.wrap .i64 (b + 1))
 a (c, ([] : Bs), l)))))) (
 aF (gv d) (fun (m : Bool) =>
 cond (!m) (
 some (.bool false, [])) (
 let n : Int := (IntKind.wrap .i64 (b + 1))
 a (c, ([] : Bs), n))))) (
 some (.bool true, []))
theorem aeR (N : Nat) : ∀ (a : St → Ro) (x : lm), s8 N a (ka x) = pD N (fun y => a (ka y)) x := by
 intro a x
 kernel_rfl
def mY (N : Nat) (a : Bs) (b : lm → Ro) : Ro :=
 b (a, ([] : Bs), 0)
def uB (N : Nat) (a : Bs) : Ro := mY N a (fun z => aW N (pD N) z)
def aiL (N : Nat) : List (Nat × (St → Ro)) := ba oT N uA (fin qI) ++ []
theorem afS (N : Nat) (a : Bs) : bb oT N 31 qI uA [.str a] [] = uB N a :=
 (bH (aiL N) (by kernel_rfl) rfl (fun C => mY N a (fun z => C 1000000 (ka z))) (fun C => by kernel_rfl)).trans (Eq.trans (b := mY N a (fun z => bi N (s8 N) (ka z))) (by kernel_rfl) (congrArg (mY N a) (funext fun z => bj (ka) (s8 N) (pD N) (aeR N) N z)))
theorem afT (N : Nat) (a : Bs) (h : Tot (uB N a) (fun z => ∃ (b : Bool) (rest : List aI), z.1.dimR = .bool b ∧ z.2 = rest)) : ∃ r, oz a r := by
 obtain ⟨⟨v, hp⟩, hz, b, rest, e1, e2⟩ := h
 simp only at e1 e2
 subst e2
 exact ⟨(b), aO.dimR (ahe.pure (afS N a) hz) e1⟩
noncomputable def acq : aM := tab (P := Try.prog) [] [] [] [abJ]
def aaC : IR := Rs [Pp (.mov 2 (.c (.int .u32 0))), Mi 3 0] (Rs [Mv 4 0, Ca 5 79 [4], Ex_ 6 0 5, Ex_ 7 1 5, Mv 2 6, Mv 3 7] .ret)
def aaD : List RV := [.t 2, .t 3]
theorem ahf : FnC Try.prog acq [] 0 abx Try.f162 aaC aaD := fnC (by kernel_rfl) Try.func162 (by kernel_rfl) (by kernel_rfl) (by decide)
def aaE (N : Nat) (b : Bs) : Ro :=
 aF (jl b) (fun a =>
 some (.tup [.int .u32 a.1, .int .i64 a.2], []))
def uC (N : Nat) (a : Bs) : Ro := aaE N a
theorem afU (N : Nat) (a : Bs) : bb acq N 8 aaD aaC [.str a] [] = uC N a := by kernel_rfl
theorem afV (N : Nat) (a : Bs) (h : Tot (uC N a) (fun z => ∃ (b : Int) (c : Int) (rest : List aI), z.1.dimR = .tup [.int .u32 b, .int .i64 c] ∧ z.2 = rest ∧ wM a (b, c))) : ∃ r, oA a r := by
 obtain ⟨⟨v, hp⟩, hz, b, c, rest, e1, e2, hq⟩ := h
 simp only at e1 e2
 subst e2
 exact ⟨(b, c), aO.dimR (ahf.pure (afU N a) hz) e1, hq⟩
noncomputable def oU : aM := tab (P := Try.prog) [] [] [] []
def vN : IR := Sq (Rs [Mv 50 8, Mv 51 5, Bi 52 .lss 50 51] (Cn 52 .skip (.exit 1))) (Sq (.block 2 (Sq (Rs [Mv 55 0, Mv 56 8, Pp (.idx 57 55 56), Pp (.bin 58 .lss 57 (.c (.int .u8 128))), Mv 59 58, Gf 59 (.mov 60 0), Gf 59 (.mov 61 8), Gf 59 (.idx 62 60 61), Gf 59 (.bin 63 .gtr 62 (.c (.int .u8 191))), Po 64 59 63] (Cn 64 (Rs [Pp (.mov 2 (.c (.int .u32 0))), Mi 3 0] .ret) .skip)) (Rg [Mv 65 6, Pp (.bin 66 .mul 65 (.c (.int .u32 64))), Mv 67 0, Mv 68 8, Pp (.idx 69 67 68), Pp (.bin 70 .sub 69 (.c (.int .u8 128))), Pp (.cvi 71 .u32 70), Bi 72 .add 66 71, Mv 6 72]))) (Rg [Mv 53 8, Bc 54 .add 53 1, Mv 8 54]))
def vO : IR := Sq (Rs [Mv 73 6, Mv 74 7, Bi 75 .lss 73 74, Mv 76 75, Gf 76 (.mov 77 6), Gf 76 (.bin 78 .gtr 77 (.c (.int .u32 1114111))), Po 79 76 78, Mv 80 79, Gf 80 (.mov 81 6), Gf 80 (.bin 82 .geq 81 (.c (.int .u32 55296))), Gf 80 (.mov 83 82), Gt 83 (.mov 84 6), Gt 83 (.bin 85 .leq 84 (.c (.int .u32 57343))), Gf 80 (.pick 86 83 85 (kB false)), Po 87 80 86] (Cn 87 (Rs [Pp (.mov 2 (.c (.int .u32 0))), Mi 3 0] .ret) .skip)) (Rs [Mv 88 6, Mv 89 5, Mv 2 88, Mv 3 89] .ret)
def uD : IR := Rs [Pp (.mov 2 (.c (.int .u32 0))), Mi 3 0] (Sq (Rs [Mv 9 0, Pp (.lens 10 9), Bc 11 .eql 10 0] (Cn 11 (Rs [Pp (.mov 2 (.c (.int .u32 0))), Mi 3 0] .ret) .skip)) (Rs [Mv 12 0, Pp (.idx 13 12 (kI 0)), Pp (.cvi 14 .u32 13), Mv 4 14] (Rs [Mi 5 0, Pp (.mov 6 (.c (.int .u32 0))), Pp (.mov 7 (.c (.int .u32 0)))] (Sq (.block 0 (Rs [Mv 16 4, Pp (.bin 17 .lss 16 (.c (.int .u32 128))), Mv 15 17] (Cn 15 (Rs [Mv 18 4, Mv 2 18, Mi 3 1] .ret) (Rs [Mv 20 4, Pp (.bin 21 .geq 20 (.c (.int .u32 192))), Mv 22 21, Gt 22 (.mov 23 4), Gt 22 (.bin 24 .lss 23 (.c (.int .u32 224))), Pa 25 22 24, Mv 19 25] (Cn 19 (Rg [Mv 26 4, Pp (.bin 27 .sub 26 (.c (.int .u32 192))), Mi 5 2, Mv 6 27, Pp (.mov 7 (.c (.int .u32 128)))]) (Rs [Mv 29 4, Pp (.bin 30 .geq 29 (.c (.int .u32 224))), Mv 31 30, Gt 31 (.mov 32 4), Gt 31 (.bin 33 .lss 32 (.c (.int .u32 240))), Pa 34 31 33, Mv 28 34] (Cn 28 (Rg [Mv 35 4, Pp (.bin 36 .sub 35 (.c (.int .u32 224))), Mi 5 3, Mv 6 36, Pp (.mov 7 (.c (.int .u32 2048)))]) (Rs [Mv 38 4, Pp (.bin 39 .geq 38 (.c (.int .u32 240))), Mv 40 39, Gt 40 (.mov 41 4), Gt 40 (.bin 42 .lss 41 (.c (.int .u32 248))), Pa 43 40 42, Mv 37 43] (Cn 37 (Rg [Mv 44 4, Pp (.bin 45 .sub 44 (.c (.int .u32 240))), Mi 5 4, Mv 6 45, Pp (.mov 7 (.c (.int .u32 65536)))]) (Rs [Pp (.mov 2 (.c (.int .u32 0))), Mi 3 0] .ret)))))))))) (Sq (Rs [Mv 46 0, Pp (.lens 47 46), Mv 48 5, Bi 49 .lss 47 48] (Cn 49 (Rs [Pp (.mov 2 (.c (.int .u32 0))), Mi 3 0] .ret) .skip)) (Sq (Rs [Mi 8 1] (.block 1 (.loop [0, 5, 6, 7, 8, 1000000] 0 vN))) vO))))))
def qJ : List RV := [.t 2, .t 3]
theorem ahg : FnC Try.prog oU [] 0 abz Try.f79 uD qJ := fnC (by kernel_rfl) Try.func79 (by kernel_rfl) (by kernel_rfl) (by decide)
def afW (R : IR → (Ex → St → Ro) → St → Ro) (a : St → Ro) : Ex → St → Ro := (bD a [0, 5, 6, 7, 8, 1000000] 0 (aT 1 (bv (R vO) (fin qJ))))
abbrev ln : Type := (Bs × Int × Int × Int × Int)
def kb : ln → St := fun (a, b, c, d, e) => { env := (.str a :: (U 4 (.int .i64 b :: .int .u32 c :: .int .u32 d :: .int .i64 e :: (U 81 [])))), hp := [] }
def s9 (N : Nat) : (St → Ro) → St → Ro := fun a s => run oU N vN (afW (run oU N) a) s
def cU (N : Nat) (b : ln → Ro) : ln → Ro := fun (c, e, d, k, a) =>
 cond (decide (a < e)) (
 chk (decide (0 ≤ a) && decide (a < ↑(List.length c))) (
 let l : Int := (↑(UInt8.toNat (List.getD c (Int.toNat a) 0)) : Int)
 cond (decide (l < 128)) (
 some (.tup [.int .u32 0, .int .i64 0], [])) (
 chk (decide (0 ≤ a) && decide (a < ↑(List.length c))) (
 let m : Int := (↑(UInt8.toNat (List.getD c (Int.toNat a) 0)) : Int)
 cond (decide (191 < m)) (
 some (.tup [.int .u32 0, .int .i64 0], [])) (
 let f : Int := (IntKind.wrap .u32 (d * 64))
 chk (decide (0 ≤ a) && decide (a < ↑(List.length c))) (
 let g : Int := (↑(UInt8.toNat (List.getD c (Int.toNat a) 0)) : Int)
 let h : Int := (IntKind.wrap .u8 (g - 128))
 let i : Int := (IntKind.wrap .u32 (f + (IntKind.wrap .u32 h)))
 let j : Int := (IntKind.wrap .i64 (a + 1))
 b (c, e, i, k, j))))))) (
 cond (decide (d < k)) (
 some (.tup [.int .u32 0, .int .i64 0], [])) (
 cond (decide (1114111 < d)) (
 some (.tup [.int .u32 0, .int .i64 0], [])) (
 cond (decide (55296 ≤ d)) (
 cond (decide (d ≤ 57343)) (
 some (.tup [.int .u32 0, .int .i64 0], [])) (
 some (.tup [.int .u32 d, .int .i64 e], []))) (
 some (.tup [.int .u32 d, .int .i64 e], [])))))
theorem aeS (N : Nat) : ∀ (a : St → Ro) (x : ln), s9 N a (kb x) = cU N (fun y => a (kb y)) x := by
 intro a x
 kernel_rfl
def mZ (N : Nat) (b : Bs) (c : ln → Ro) : Ro :=
 let x1 : Int := (↑(List.length b) : Int)
 cond (x1 == 0) (
 some (.tup [.int .u32 0, .int .i64 0], [])) (
 chk (decide ((0 : Int) < ↑(List.length b))) (
 let a : Int := (↑(UInt8.toNat (List.getD b (Int.toNat 0) 0)) : Int)
 let x3 : Bool := decide ((IntKind.wrap .u32 a) < 128)
 cond x3 (
 some (.tup [.int .u32 (IntKind.wrap .u32 a), .int .i64 1], [])) (
 let x4 : Bool := decide (192 ≤ (IntKind.wrap .u32 a))
 cond x4 (
 let x5 : Bool := decide ((IntKind.wrap .u32 a) < 224)
 cond x5 (
 let x6 : Int := (IntKind.wrap .u32 ((IntKind.wrap .u32 a) - 192))
 let x7 : Int := (↑(List.length b) : Int)
 cond (decide (x7 < 2)) (
 some (.tup [.int .u32 0, .int .i64 0], [])) (
 c (b, 2, x6, 128, 1))) (
 let d : Bool := decide (224 ≤ (IntKind.wrap .u32 a))
 cond d (
 let e : Bool := decide ((IntKind.wrap .u32 a) < 240)
 cond e (
 let f : Int := (IntKind.wrap .u32 ((IntKind.wrap .u32 a) - 224))
 let g : Int := (↑(List.length b) : Int)
 cond (decide (g < 3)) (
 some (.tup [.int .u32 0, .int .i64 0], [])) (
 c (b, 3, f, 2048, 1))) (
 let h : Bool := decide (240 ≤ (IntKind.wrap .u32 a))
 cond h (
 let i : Bool := decide ((IntKind.wrap .u32 a) < 248)
 cond i (
 let j : Int := (IntKind.wrap .u32 ((IntKind.wrap .u32 a) - 240))
 let k : Int := (↑(List.length b) : Int)
 cond (decide (k < 4)) (
 some (.tup [.int .u32 0, .int .i64 0], [])) (
 c (b, 4, j, 65536, 1))) (
 some (.tup [.int .u32 0, .int .i64 0], []))) (
 some (.tup [.int .u32 0, .int .i64 0], [])))) (
 let l : Bool := decide (240 ≤ (IntKind.wrap .u32 a))
 cond l (
 let m : Bool := decide ((IntKind.wrap .u32 a) < 248)
 cond m (
 let n : Int := (IntKind.wrap .u32 ((IntKind.wrap .u32 a) - 240))
 let o : Int := (↑(List.length b) : Int)
 cond (decide (o < 4)) (
 some (.tup [.int .u32 0, .int .i64 0], [])) (
 c (b, 4, n, 65536, 1))) (
 some (.tup [.int .u32 0, .int .i64 0], []))) (
 some (.tup [.int .u32 0, .int .i64 0], []))))) (
 let p : Bool := decide (224 ≤ (IntKind.wrap .u32 a))
 cond p (
 let q : Bool := decide ((IntKind.wrap .u32 a) < 240)
 cond q (
 let r : Int := (IntKind.wrap .u32 ((IntKind.wrap .u32 a) - 224))
 let s : Int := (↑(List.length b) : Int)
 cond (decide (s < 3)) (
 some (.tup [.int .u32 0, .int .i64 0], [])) (
 c (b, 3, r, 2048, 1))) (
 let t : Bool := decide (240 ≤ (IntKind.wrap .u32 a))
 cond t (
 let u : Bool := decide ((IntKind.wrap .u32 a) < 248)
 cond u (
 let v : Int := (IntKind.wrap .u32 ((IntKind.wrap .u32 a) - 240))
 let w : Int := (↑(List.length b) : Int)
 cond (decide (w < 4)) (
 some (.tup [.int .u32 0, .int .i64 0], [])) (
 c (b, 4, v, 65536, 1))) (
 some (.tup [.int .u32 0, .int .i64 0], []))) (
 some (.tup [.int .u32 0, .int .i64 0], [])))) (
 let x : Bool := decide (240 ≤ (IntKind.wrap .u32 a))
 cond x (
 let y : Bool := decide ((IntKind.wrap .u32 a) < 248)
 cond y (
 let z : Int := (IntKind.wrap .u32 ((IntKind.wrap .u32 a) - 240))
 let aa : Int := (↑(List.length b) : Int)
 cond (decide (aa < 4)) (
 some (.tup [.int .u32 0, .int .i64 0], [])) (
 c (b, 4, z, 65536, 1))) (
 some (.tup [.int .u32 0, .int .i64 0], []))) (
 some (.tup [.int .u32 0, .int .i64 0], [])))))))
def qK (N : Nat) (a : Bs) : Ro := mZ N a (fun z => aW N (cU N) z)
def aiM (N : Nat) : List (Nat × (St → Ro)) := ba oU N uD (fin qJ) ++ []
theorem afX (N : Nat) (a : Bs) : bb oU N 90 qJ uD [.str a] [] = qK N a :=
 (bH (aiM N) (by kernel_rfl) rfl (fun C => mZ N a (fun z => C 1000000 (kb z))) (fun C => by kernel_rfl)).trans (Eq.trans (b := mZ N a (fun z => bi N (s9 N) (kb z))) (by kernel_rfl) (congrArg (mZ N a) (funext fun z => bj (kb) (s9 N) (cU N) (aeS N) N z)))
theorem yn (N : Nat) (a : Bs) (h : Tot (qK N a) (fun z => ∃ (b : Int) (c : Int) (rest : List aI), z.1.dimR = .tup [.int .u32 b, .int .i64 c] ∧ z.2 = rest ∧ wN a (b, c))) : ∃ r, jl a r := by
 obtain ⟨⟨v, hp⟩, hz, b, c, rest, e1, e2, hq⟩ := h
 simp only at e1 e2
 subst e2
 exact ⟨(b, c), aO.dimR (ahg.pure (afX N a) hz) e1, hq⟩
noncomputable def qi : aM := tab (P := Try.prog) [] [] [] []
def yo : IR := Sq (Rs [Mv 14 0, Mv 15 7, Bi 16 .shr 14 15, Pp (.bin 17 .eql 16 (kU 0))] (Cn 17 .skip (.exit 0))) (.block 1 (Rg [Mv 18 7, Bc 19 .sub 18 1, Mv 7 19]))
def w7 : IR := Rs [Mv 20 0, Mv 8 20] (Sq (Rs [Mv 21 7, Mv 22 1, Bi 23 .leq 21 22] (Cn 23 (Rg [Mv 24 0, Mv 25 1, Mv 26 7, Bi 27 .sub 25 26, Bi 28 .shl 24 27, Mv 8 28]) (Rs [Mv 29 7, Mv 30 1, Bi 31 .sub 29 30, Mv 9 31] (Rs [Mv 32 9, Bc 33 .sub 32 1, Pp (.bin 34 .shl (kU 1) 33), Mv 10 34] (Rs [Mv 35 0, Mv 36 9, Pp (.bin 37 .shl (kU 1) 36), Bi 38 .rem 35 37, Mv 11 38] (Rs [Mv 39 0, Mv 40 9, Bi 41 .shr 39 40, Mv 8 41] (Rs [Mv 42 11, Mv 43 10, Bi 44 .gtr 42 43, Mv 45 44, Gf 45 (.mov 46 11), Gf 45 (.mov 47 10), Gf 45 (.bin 48 .eql 46 47), Gf 45 (.mov 49 48), Gt 49 (.mov 50 8), Gt 49 (.bin 51 .rem 50 (kU 2)), Gt 49 (.bin 52 .eql 51 (kU 1)), Gf 45 (.pick 53 49 52 (kB false)), Po 54 45 53] (Cn 54 (Rg [Mv 55 8, Pp (.bin 56 .add 55 (kU 1)), Mv 8 56]) .skip)))))))) (Sq (.reg [Mv 57 7, Mv 58 2, Bi 59 .add 57 58, Pp (.cvi 60 .u64 59), Mv 61 1, Bi 62 .shl 60 61, Mv 63 8, Mv 64 1, Pp (.bin 65 .shl (kU 1) 64), Bi 66 .sub 63 65, Bi 67 .add 62 66, Mv 6 67] [[], [], [0, 1], [0, 1, 2], [], rg 0 4, [], [], [7], [6, 7, 8], rg 0 9, rg 0 10]) .ret))
def vP : IR := Rs [Pp (.mov 6 (kU 0))] (Sq (Rs [Mv 12 0, Pp (.bin 13 .eql 12 (kU 0))] (Cn 13 (Rs [Pp (.mov 6 (kU 0))] .ret) .skip)) (Rs [Mi 7 63] (Sq (.block 0 (.loop [0, 1, 2, 7, 1000000] 0 yo)) w7)))
def se : List RV := [.t 6]
theorem aiN : FnC Try.prog qi [] 0 ac3 Try.f154 vP se := fnC (by kernel_rfl) Try.func154 (by kernel_rfl) (by kernel_rfl) (by decide)
def ahh (R : IR → (Ex → St → Ro) → St → Ro) (a : St → Ro) : Ex → St → Ro := (bD a [0, 1, 2, 7, 1000000] 0 (aT 0 (bv (R w7) (fin se))))
abbrev na : Type := (Int × Int × Int × Int)
def lp : na → St := fun (a, b, c, d) => { env := (.int .u64 a :: .int .i64 b :: .int .i64 c :: (U 4 (.int .i64 d :: (U 60 [])))), hp := [] }
def uE (N : Nat) : (St → Ro) → St → Ro := fun a s => run qi N yo (ahh (run qi N) a) s
def qL (N : Nat) (d : na → Ro) : na → Ro := fun (e, a, f, b) =>
 chk (decide (0 ≤ b)) (
 cond ((od .u64 e b) == 0) (
 let x1 : Int := (IntKind.wrap .i64 (b - 1))
 d (e, a, f, x1)) (
 cond (decide (b ≤ a)) (
 let x2 : Int := (IntKind.wrap .i64 (a - b))
 chk (decide (0 ≤ x2)) (
 let x3 : Int := (IntKind.wrap .i64 (b + f))
 chk (decide (0 ≤ a)) (
 let x4 : Int := (jh .u64 (IntKind.wrap .u64 x3) a)
 chk (decide (0 ≤ a)) (
 let x5 : Int := (IntKind.wrap .u64 ((jh .u64 e x2) - (jh .u64 1 a)))
 let x6 : Int := (IntKind.wrap .u64 (x4 + x5))
 some (.int .u64 x6, []))))) (
 let c : Int := (IntKind.wrap .i64 (b - a))
 let g : Int := (IntKind.wrap .i64 (c - 1))
 chk (decide (0 ≤ g)) (
 chk (decide (0 ≤ c)) (
 chk (!((jh .u64 1 c) == 0)) (
 let x9 : Int := (Int.tmod e (jh .u64 1 c))
 chk (decide (0 ≤ c)) (
 let h : Bool := decide ((jh .u64 1 g) < x9)
 cond h (
 let i : Int := (IntKind.wrap .u64 ((od .u64 e c) + 1))
 let j : Int := (IntKind.wrap .i64 (b + f))
 chk (decide (0 ≤ a)) (
 let k : Int := (jh .u64 (IntKind.wrap .u64 j) a)
 chk (decide (0 ≤ a)) (
 let l : Int := (IntKind.wrap .u64 (i - (jh .u64 1 a)))
 let m : Int := (IntKind.wrap .u64 (k + l))
 some (.int .u64 m, [])))) (
 cond (x9 == (jh .u64 1 g)) (
 let n : Int := (Int.tmod (od .u64 e c) 2)
 cond (n == 1) (
 let o : Int := (IntKind.wrap .u64 ((od .u64 e c) + 1))
 let p : Int := (IntKind.wrap .i64 (b + f))
 chk (decide (0 ≤ a)) (
 let q : Int := (jh .u64 (IntKind.wrap .u64 p) a)
 chk (decide (0 ≤ a)) (
 let r : Int := (IntKind.wrap .u64 (o - (jh .u64 1 a)))
 let s : Int := (IntKind.wrap .u64 (q + r))
 some (.int .u64 s, [])))) (
 let t : Int := (IntKind.wrap .i64 (b + f))
 chk (decide (0 ≤ a)) (
 let u : Int := (jh .u64 (IntKind.wrap .u64 t) a)
 chk (decide (0 ≤ a)) (
 let v : Int := (IntKind.wrap .u64 ((od .u64 e c) - (jh .u64 1 a)))
 let w : Int := (IntKind.wrap .u64 (u + v))
 some (.int .u64 w, []))))) (
 let x : Int := (IntKind.wrap .i64 (b + f))
 chk (decide (0 ≤ a)) (
 let y : Int := (jh .u64 (IntKind.wrap .u64 x) a)
 chk (decide (0 ≤ a)) (
 let z : Int := (IntKind.wrap .u64 ((od .u64 e c) - (jh .u64 1 a)))
 let aa : Int := (IntKind.wrap .u64 (y + z))
 some (.int .u64 aa, []))))))))))))
theorem afY (N : Nat) : ∀ (a : St → Ro) (x : na), uE N a (lp x) = qL N (fun y => a (lp y)) x := by
 intro a x
 kernel_rfl
def oV (N : Nat) (a b c : Int) (d : na → Ro) : Ro :=
 cond (a == 0) (
 some (.int .u64 0, [])) (
 d (a, b, c, 63))
def vQ (N : Nat) (a b c : Int) : Ro := oV N a b c (fun z => aW N (qL N) z)
def ajt (N : Nat) : List (Nat × (St → Ro)) := ba qi N vP (fin se) ++ []
theorem ahi (N : Nat) (a c d : Int) : bb qi N 68 se vP [.int .u64 a, .int .i64 c, .int .i64 d] [] = vQ N a c d :=
 (bH (ajt N) (by kernel_rfl) rfl (fun C => oV N a c d (fun z => C 1000000 (lp z))) (fun C => by kernel_rfl)).trans (Eq.trans (b := oV N a c d (fun z => bi N (uE N) (lp z))) (by kernel_rfl) (congrArg (oV N a c d) (funext fun z => bj (lp) (uE N) (qL N) (afY N) N z)))
theorem ahj (N : Nat) (a b c : Int) (h : Tot (vQ N a b c) (fun z => ∃ (d : Int) (rest : List aI), z.1.dimR = .int .u64 d ∧ z.2 = rest)) : ∃ r, jf a b c r := by
 obtain ⟨⟨v, hp⟩, hz, d, rest, e1, e2⟩ := h
 simp only at e1 e2
 subst e2
 exact ⟨(d), aO.dimR (aiN.pure (ahi N a b c) hz) e1⟩
noncomputable def acr : aM := tab (P := Try.prog) [] [] [] [ac9]
def aaF : IR := Rs [Pp (.mov 2 (.c (.int .u32 0)))] (Sq (Rs [Mv 3 0, Bc 4 .lss 3 0] (Cn 4 (Rs [Mv 5 0, Bc 6 .add 5 1, Pp (.un 7 .neg 6), Pp (.cvi 8 .u64 7), Pp (.bin 9 .add 8 (kU 1)), Ca 10 154 [9, kI 23, kI 127], Pp (.cvi 11 .u32 10), Pp (.bin 12 .or (.c (.int .u32 2147483648)) 11), Mv 2 12] .ret) .skip)) (Rs [Mv 13 0, Pp (.cvi 14 .u64 13), Ca 15 154 [14, kI 23, kI 127], Pp (.cvi 16 .u32 15), Mv 2 16] .ret))
def aaG : List RV := [.t 2]
theorem ahk : FnC Try.prog acr [] 0 abw Try.f132 aaF aaG := fnC (by kernel_rfl) Try.func132 (by kernel_rfl) (by kernel_rfl) (by decide)
def aaH (N : Nat) (a : Int) : Ro :=
 cond (decide (a < 0)) (
 let b : Int := (IntKind.wrap .i64 (a + 1))
 let c : Int := (IntKind.wrap .i64 (0 - b))
 let d : Int := (IntKind.wrap .u64 ((IntKind.wrap .u64 c) + 1))
 aF (jf d 23 127) (fun (e : Int) =>
 let f : Int := (jP .or .u32 2147483648 (IntKind.wrap .u32 e))
 some (.int .u32 f, []))) (
 aF (jf (IntKind.wrap .u64 a) 23 127) (fun (g : Int) =>
 some (.int .u32 (IntKind.wrap .u32 g), [])))
def uF (N : Nat) (a : Int) : Ro := aaH N a
theorem afZ (N : Nat) (a : Int) : bb acr N 17 aaG aaF [.int .i64 a] [] = uF N a := by kernel_rfl
theorem af0 (N : Nat) (a : Int) (h : Tot (uF N a) (fun z => ∃ (b : Int) (rest : List aI), z.1.dimR = .int .u32 b ∧ z.2 = rest)) : ∃ r, ot a r := by
 obtain ⟨⟨v, hp⟩, hz, b, rest, e1, e2⟩ := h
 simp only at e1 e2
 subst e2
 exact ⟨(b), aO.dimR (ahk.pure (afZ N a) hz) e1⟩
noncomputable def aaI : aM := tab (P := Try.prog) [] [] [] [ac9]
def yp : IR := Rs [Pp (.mov 2 (kU 0))] (Sq (Rs [Mv 3 0, Bc 4 .lss 3 0] (Cn 4 (Rs [Mv 5 0, Bc 6 .add 5 1, Pp (.un 7 .neg 6), Pp (.cvi 8 .u64 7), Pp (.bin 9 .add 8 (kU 1)), Ca 10 154 [9, kI 52, kI 1023], Pp (.bin 11 .or (kU 9223372036854775808) 10), Mv 2 11] .ret) .skip)) (Rs [Mv 12 0, Pp (.cvi 13 .u64 12), Ca 14 154 [13, kI 52, kI 1023], Mv 2 14] .ret))
def yq : List RV := [.t 2]
theorem af1 : FnC Try.prog aaI [] 0 z9 Try.f133 yp yq := fnC (by kernel_rfl) Try.func133 (by kernel_rfl) (by kernel_rfl) (by decide)
def yr (N : Nat) (a : Int) : Ro :=
 cond (decide (a < 0)) (
 let b : Int := (IntKind.wrap .i64 (a + 1))
 let c : Int := (IntKind.wrap .i64 (0 - b))
 let d : Int := (IntKind.wrap .u64 ((IntKind.wrap .u64 c) + 1))
 aF (jf d 52 1023) (fun (e : Int) =>
 let f : Int := (jP .or .u64 9223372036854775808 e)
 some (.int .u64 f, []))) (
 aF (jf (IntKind.wrap .u64 a) 52 1023) (fun (g : Int) =>
 some (.int .u64 g, [])))
def ta (N : Nat) (a : Int) : Ro := yr N a
theorem aeT (N : Nat) (a : Int) : bb aaI N 15 yq yp [.int .i64 a] [] = ta N a := by kernel_rfl
theorem aeU (N : Nat) (a : Int) (h : Tot (ta N a) (fun z => ∃ (b : Int) (rest : List aI), z.1.dimR = .int .u64 b ∧ z.2 = rest)) : ∃ r, jO a r := by
 obtain ⟨⟨v, hp⟩, hz, b, rest, e1, e2⟩ := h
 simp only at e1 e2
 subst e2
 exact ⟨(b), aO.dimR (af1.pure (aeT N a) hz) e1⟩
end Go.Proofs.Ytdpajabhmmmjoaa
end
noncomputable section
namespace Go.Proofs.Ytdpajabhmmmjoaa
open Go.AM
set_option autoImplicit false
set_option linter.unusedSimpArgs false
set_option linter.unusedVariables false
theorem u6 (a : UInt8) (n : Nat) (h : n < 256) : (UInt8.ofNat n = a) ↔ (n = a.toNat) := by
 constructor
 ·rintro rfl; simp; omega
 ·intro h; subst h; simp
theorem amV (a b : UInt8) (v : Nat) (hv : v < 32) (ha : a.toNat = 192 + v) :
  gly (v * 64 + b.toNat % 64) = [a, b] ↔ (128 ≤ b.toNat ∧ b.toNat ≤ 191 ∧ 128 ≤ v * 64 + b.toNat % 64) := by
 have hb := UInt8.toNat_lt b
 unfold gly
 by_cases h1 : v * 64 + b.toNat % 64 < 128
 ·rw [if_pos h1]
  constructor
  ·intro h; simp at h
  ·omega
 ·rw [if_neg h1, if_pos (by omega)]
  simp only [List.cons.injEq, and_true]
  rw [u6 _ _ (by omega), u6 _ _ (by omega)]
  omega
theorem amW (a b c : UInt8) (v : Nat) (hv : v < 16) (ha : a.toNat = 224 + v) (r : Nat) (hr : r = (v * 64 + b.toNat % 64) * 64 + c.toNat % 64) :
  gly r = [a, b, c] ↔ (128 ≤ b.toNat ∧ b.toNat ≤ 191 ∧ 128 ≤ c.toNat ∧ c.toNat ≤ 191 ∧ 2048 ≤ r ∧ ¬ (55296 ≤ r ∧ r ≤ 57343)) := by
 have hb := UInt8.toNat_lt b
 have hc := UInt8.toNat_lt c
 unfold gly
 by_cases h1 : r < 128
 ·rw [if_pos h1]
  constructor
  ·intro h; simp at h
  ·omega
 by_cases h2 : r < 2048
 ·rw [if_neg h1, if_pos h2]
  constructor
  ·intro h; simp at h
  ·omega
 by_cases h3 : (55296 ≤ r ∧ r < 57344) ∨ 1114111 < r
 ·rw [if_neg h1, if_neg h2, if_pos h3]
  constructor
  ·intro h
   simp only [List.cons.injEq, and_true] at h
   obtain ⟨rfl, rfl, rfl⟩ := h
   simp at ha hr
   omega
  ·omega
 ·rw [if_neg h1, if_neg h2, if_neg h3, if_pos (by omega)]
  simp only [List.cons.injEq, and_true]
  rw [u6 _ _ (by omega), u6 _ _ (by omega), u6 _ _ (by omega)]
  omega
theorem amX (a b c d : UInt8) (v : Nat) (hv : v < 8) (ha : a.toNat = 240 + v) (r : Nat) (hr : r = ((v * 64 + b.toNat % 64) * 64 + c.toNat % 64) * 64 + d.toNat % 64) :
  gly r = [a, b, c, d] ↔ (128 ≤ b.toNat ∧ b.toNat ≤ 191 ∧ 128 ≤ c.toNat ∧ c.toNat ≤ 191 ∧ 128 ≤ d.toNat ∧ d.toNat ≤ 191 ∧ 65536 ≤ r ∧ r ≤ 1114111) := by
 have hb := UInt8.toNat_lt b
 have hc := UInt8.toNat_lt c
 have hd := UInt8.toNat_lt d
 unfold gly
 by_cases h1 : r < 128
 ·rw [if_pos h1]
  constructor
  ·intro h; simp at h
  ·omega
 by_cases h2 : r < 2048
 ·rw [if_neg h1, if_pos h2]
  constructor
  ·intro h; simp at h
  ·omega
 by_cases h3 : (55296 ≤ r ∧ r < 57344) ∨ 1114111 < r
 ·rw [if_neg h1, if_neg h2, if_pos h3]
  constructor
  ·intro h; simp at h
  ·omega
 by_cases h4 : r < 65536
 ·rw [if_neg h1, if_neg h2, if_neg h3, if_pos h4]
  constructor
  ·intro h; simp at h
  ·omega
 ·rw [if_neg h1, if_neg h2, if_neg h3, if_neg h4]
  simp only [List.cons.injEq, and_true]
  rw [u6 _ _ (by omega), u6 _ _ (by omega), u6 _ _ (by omega), u6 _ _ (by omega)]
  omega
theorem adO (n v : Nat) (s : List UInt8) : (hZ n v s).2 ≤ s.length := by
 unfold hZ
 split
 ·simp
 ·dsimp only
  split
  ·dsimp only; omega
  ·simp
theorem alM (s : List UInt8) : (gZ s).2 ≤ s.length := by
 unfold gZ
 split
 ·simp
 ·rename_i c t
  split
  ·simp
  ·split
   ·exact adO _ _ _
   ·split
    ·exact adO _ _ _
    ·split
     ·exact adO _ _ _
     ·simp
theorem tp : ∀ (k : Nat) (s : List UInt8), s.length ≤ k → vi k s = vi s.length s
 | k, [], h => by cases k <;> rfl
 | 0, _ :: _, h => by simp at h
 | k + 1, c :: s, h => by
   have h1 : s.length + 1 ≤ k + 1 := h
   show (if (gZ (c :: s)).2 = 0 then false else vi k ((c :: s).drop (gZ (c :: s)).2)) = (if (gZ (c :: s)).2 = 0 then false else vi s.length ((c :: s).drop (gZ (c :: s)).2))
   split
   ·rfl
   ·rename_i hp
    have hl : ((c :: s).drop (gZ (c :: s)).2).length ≤ s.length := by simp; omega
    rw [tp k _ (by omega)]
    by_cases hk : s.length = k
    ·rw [hk]; exact (tp k _ (by omega)).symm
    ·exact (tp s.length _ hl).symm
termination_by k => k
decreasing_by all_goals (try simp_wf); all_goals omega
theorem aju (c : UInt8) (s : List UInt8) : jk (c :: s) = if (gZ (c :: s)).2 = 0 then false else jk ((c :: s).drop (gZ (c :: s)).2) := by
 show (if (gZ (c :: s)).2 = 0 then false else vi s.length ((c :: s).drop (gZ (c :: s)).2)) = _
 split
 ·rfl
 ·exact tp _ _ (by simp; omega)
end Go.Proofs.Ytdpajabhmmmjoaa
end
noncomputable section
namespace Go.Proofs.Ytdpajabhmmmjoaa
open Go.AM
set_option autoImplicit false
set_option linter.unusedVariables false
set_option linter.unusedSimpArgs false
set_option maxRecDepth 100000
theorem mj {α R : Type} (n : Nat) (B : (α → Option R) → α → Option R) (x : α) : aW (n + 1) B x = B (aW n B) x := rfl
theorem lq (N : Nat) (rec : (List UInt8 × Int × Int × Int × Int) → Option (V × List aI)) (s : List UInt8) (v n i : Nat) (l : Int) (x : UInt8) (hx : s.getD i 0 = x) (hv : v < 2 ^ 20) (hi : i < n) (hn : n ≤ s.length) (h4 : n ≤ 4) :
  cU N rec (s, (n : Int), (v : Int), l, (i : Int)) = if 128 ≤ x.toNat ∧ x.toNat ≤ 191 then rec (s, (n : Int), ((v * 64 + x.toNat % 64 : Nat) : Int), l, ((i + 1 : Nat) : Int)) else some (.tup [.int .u32 0, .int .i64 0], []) := by
 have hb := UInt8.toNat_lt x
 simp only [cU, Int.toNat_natCast, hx]
 by_cases h1 : x.toNat < 128
 ·rw [if_neg (by omega)]
  simp (disch := omega) only [fG, ]
 by_cases h2 : 191 < x.toNat
 ·rw [if_neg (by omega)]
  simp (disch := omega) only [fG, ]
 ·rw [if_pos (by omega)]
  simp (disch := omega) only [fG, ]
  rw [show (v : Int) * 64 + ((x.toNat : Int) - 128) = ((v * 64 + x.toNat % 64 : Nat) : Int) by omega]
  rfl
theorem zF (N : Nat) (rec : (List UInt8 × Int × Int × Int × Int) → Option (V × List aI)) (s : List UInt8) (v n l : Nat) :
  cU N rec (s, (n : Int), (v : Int), (l : Int), (n : Int)) = if l ≤ v ∧ v ≤ 1114111 ∧ ¬ (55296 ≤ v ∧ v ≤ 57343) then some (.tup [.int .u32 v, .int .i64 n], []) else some (.tup [.int .u32 0, .int .i64 0], []) := by
 simp only [cU]
 by_cases h1 : v < l
 ·rw [if_neg (by omega)]; simp (disch := omega) only [fG, ]
 by_cases h2 : 1114111 < v
 ·rw [if_neg (by omega)]; simp (disch := omega) only [fG, ]
 by_cases h3 : 55296 ≤ v
 ·by_cases h4 : v ≤ 57343
  ·rw [if_neg (by omega)]; simp (disch := omega) only [fG, ]
  ·rw [if_pos (by omega)]; simp (disch := omega) only [fG, ]
 ·rw [if_pos (by omega)]; simp (disch := omega) only [fG, ]
theorem alN (M : Nat) (a b : UInt8) (t : List UInt8) (v : Nat) (hv : v < 32) (ha : a.toNat = 192 + v) :
  aW (M + 5) (cU (M + 5)) (a :: b :: t, ((2 : Nat) : Int), (v : Int), ((128 : Nat) : Int), ((1 : Nat) : Int)) = some (.tup [.int .u32 (hZ 2 v (a :: b :: t)).1, .int .i64 (hZ 2 v (a :: b :: t)).2], []) := by
 have hg := amV a b v hv ha
 rw [mj, lq _ _ _ _ 2 1 _ b rfl (by omega) (by omega) (by simp) (by omega), mj, zF]
 simp only [hZ]
 rw [if_neg (show ¬ (a :: b :: t).length < 2 by simp)]
 simp only [List.take_succ_cons, List.take_zero, List.tail_cons, List.foldl_cons, List.foldl_nil, hg]
 by_cases h1 : 128 ≤ b.toNat ∧ b.toNat ≤ 191
 ·rw [if_pos h1]
  by_cases h2 : 128 ≤ v * 64 + b.toNat % 64
  ·rw [if_pos (by omega), if_pos (by omega)]
  ·rw [if_neg (by omega), if_neg (by omega)]; rfl
 ·rw [if_neg h1, if_neg (by omega)]; rfl
theorem alO (M : Nat) (a b c : UInt8) (t : List UInt8) (v : Nat) (hv : v < 16) (ha : a.toNat = 224 + v) :
  aW (M + 5) (cU (M + 5)) (a :: b :: c :: t, ((3 : Nat) : Int), (v : Int), ((2048 : Nat) : Int), ((1 : Nat) : Int)) = some (.tup [.int .u32 (hZ 3 v (a :: b :: c :: t)).1, .int .i64 (hZ 3 v (a :: b :: c :: t)).2], []) := by
 have hg := amW a b c v hv ha _ rfl
 rw [mj, lq _ _ _ _ 3 1 _ b rfl (by omega) (by omega) (by simp) (by omega), mj, lq _ _ _ _ 3 2 _ c rfl (by omega) (by omega) (by simp) (by omega), mj, zF]
 simp only [hZ]
 rw [if_neg (show ¬ (a :: b :: c :: t).length < 3 by simp)]
 simp only [List.take_succ_cons, List.take_zero, List.tail_cons, List.foldl_cons, List.foldl_nil, hg]
 by_cases h1 : 128 ≤ b.toNat ∧ b.toNat ≤ 191
 ·rw [if_pos h1]
  by_cases h2 : 128 ≤ c.toNat ∧ c.toNat ≤ 191
  ·rw [if_pos h2]
   by_cases h3 : 2048 ≤ (v * 64 + b.toNat % 64) * 64 + c.toNat % 64 ∧ ¬ (55296 ≤ (v * 64 + b.toNat % 64) * 64 + c.toNat % 64 ∧ (v * 64 + b.toNat % 64) * 64 + c.toNat % 64 ≤ 57343)
   ·rw [if_pos (by omega), if_pos (by omega)]
   ·rw [if_neg (by omega), if_neg (by omega)]; rfl
  ·rw [if_neg h2, if_neg (by omega)]; rfl
 ·rw [if_neg h1, if_neg (by omega)]; rfl
theorem alP (M : Nat) (a b c d : UInt8) (t : List UInt8) (v : Nat) (hv : v < 8) (ha : a.toNat = 240 + v) :
  aW (M + 5) (cU (M + 5)) (a :: b :: c :: d :: t, ((4 : Nat) : Int), (v : Int), ((65536 : Nat) : Int), ((1 : Nat) : Int)) = some (.tup [.int .u32 (hZ 4 v (a :: b :: c :: d :: t)).1, .int .i64 (hZ 4 v (a :: b :: c :: d :: t)).2], []) := by
 have hg := amX a b c d v hv ha _ rfl
 rw [mj, lq _ _ _ _ 4 1 _ b rfl (by omega) (by omega) (by simp) (by omega), mj, lq _ _ _ _ 4 2 _ c rfl (by omega) (by omega) (by simp) (by omega), mj, lq _ _ _ _ 4 3 _ d rfl (by omega) (by omega) (by simp) (by omega), mj, zF]
 simp only [hZ]
 rw [if_neg (show ¬ (a :: b :: c :: d :: t).length < 4 by simp)]
 simp only [List.take_succ_cons, List.take_zero, List.tail_cons, List.foldl_cons, List.foldl_nil, hg]
 by_cases h1 : 128 ≤ b.toNat ∧ b.toNat ≤ 191
 ·rw [if_pos h1]
  by_cases h2 : 128 ≤ c.toNat ∧ c.toNat ≤ 191
  ·rw [if_pos h2]
   by_cases h3 : 128 ≤ d.toNat ∧ d.toNat ≤ 191
   ·rw [if_pos h3]
    by_cases h4 : 65536 ≤ ((v * 64 + b.toNat % 64) * 64 + c.toNat % 64) * 64 + d.toNat % 64 ∧ ((v * 64 + b.toNat % 64) * 64 + c.toNat % 64) * 64 + d.toNat % 64 ≤ 1114111
    ·rw [if_pos (by omega), if_pos (by omega)]
    ·rw [if_neg (by omega), if_neg (by omega)]; rfl
   ·rw [if_neg h3, if_neg (by omega)]; rfl
  ·rw [if_neg h2, if_neg (by omega)]; rfl
 ·rw [if_neg h1, if_neg (by omega)]; rfl
theorem vR (M : Nat) (s : List UInt8) (hl : s.length ≤ 9223372036854775807) :
  qK (M + 5) s = some (.tup [.int .u32 (pX s).1, .int .i64 (pX s).2], []) := by
 match s with
 | [] => rfl
 | c :: t =>
   have hc : c.toNat < 256 := UInt8.toNat_lt _
   rw [List.length_cons] at hl
   simp only [qK, mZ, pX, gZ, List.length_cons, Int.toNat_zero, List.getD_cons_zero]
   by_cases h1 : c.toNat < 128
   ·simp (disch := omega) only [fG, ]
    rfl
   by_cases h0 : c.toNat < 192
   ·simp (disch := omega) only [fG, ]
    rfl
   by_cases h2 : c.toNat < 224
   ·have e : c.toNat / 32 = 6 := by omega
    match t with
    | [] => simp (disch := omega) only [fG, hZ, List.length_cons, List.length_nil]; rfl
    | b :: t =>
      rw [List.length_cons] at hl
      simp (disch := omega) only [fG, e, List.length_cons]
      rw [show (c.toNat : Int) - 192 = ((c.toNat % 32 : Nat) : Int) by omega]
      exact alN M c b t _ (by omega) (by omega)
   by_cases h3 : c.toNat < 240
   ·have e : c.toNat / 16 = 14 := by omega
    match t with
    | [] => simp (disch := omega) only [fG, hZ, List.length_cons, List.length_nil]; rfl
    | [b] => simp (disch := omega) only [fG, hZ, List.length_cons, List.length_nil]; rfl
    | b :: d :: t =>
      rw [List.length_cons, List.length_cons] at hl
      simp (disch := omega) only [fG, e, List.length_cons]
      rw [show (c.toNat : Int) - 224 = ((c.toNat % 16 : Nat) : Int) by omega]
      exact alO M c b d t _ (by omega) (by omega)
   by_cases h4 : c.toNat < 248
   ·have e : c.toNat / 8 = 30 := by omega
    match t with
    | [] => simp (disch := omega) only [fG, hZ, List.length_cons, List.length_nil]; rfl
    | [b] => simp (disch := omega) only [fG, hZ, List.length_cons, List.length_nil]; rfl
    | [b, d] => simp (disch := omega) only [fG, hZ, List.length_cons, List.length_nil]; rfl
    | b :: d :: f :: t =>
      rw [List.length_cons, List.length_cons, List.length_cons] at hl
      simp (disch := omega) only [fG, e, List.length_cons]
      rw [show (c.toNat : Int) - 240 = ((c.toNat % 8 : Nat) : Int) by omega]
      exact alP M c b d f t _ (by omega) (by omega)
   ·simp (disch := omega) only [fG, ]
    rfl
end Go.Proofs.Ytdpajabhmmmjoaa
end
noncomputable section
namespace Go.Proofs.Ytdpajabhmmmjoaa
open Go.AM
set_option autoImplicit false
set_option linter.unusedVariables false
set_option linter.unusedSimpArgs false
set_option maxRecDepth 100000
theorem akq (c : Int) : ∃ r, mJ c r := by
 apply aeQ 1
 unfold s7 ym
 repeat' (first | (with_reducible refine aD ?_ ?_ <;> (intro hb; (try simp only [bnl] at hb); (try revert hb; intro _))) | with_reducible refine aN ?_ ?_ | with_reducible refine aG ?_ | fail)
 all_goals exact ⟨_, _, rfl, rfl⟩
theorem ak5 (c : Int) : ∃ r, oB c r := by
 apply afQ 1
 unfold uz aaB
 repeat' (first | (with_reducible refine aD ?_ ?_ <;> (intro hb; (try simp only [bnl] at hb); (try revert hb; intro _))) | with_reducible refine aN ?_ ?_ | with_reducible refine aG ?_ | fail)
 all_goals exact ⟨_, _, rfl, rfl⟩
theorem zG (s : List UInt8) (hs : s.length ≤ 1000000) : ∃ r, gv s r := by
 apply aha 2000000
 unfold vK oS
 refine bd (fun x => x.1 = s ∧ 0 ≤ x.2 ∧ x.2 ≤ (s.length : Int)) (fun x => ((s.length : Int) - x.2).toNat) ?_ _ _ ⟨rfl, by simp, by simp⟩ (by simp; omega)
 rintro again ⟨a, i⟩ ⟨rfl, i1, i2⟩ ih
 simp only at i1 i2 ih hs ⊢
 have next : i < a.length → Tot (again (a, IntKind.i64.wrap (i + 1))) _ := fun h => ih (a, IntKind.i64.wrap (i + 1)) (by simp only [aJ (i + 1) (by omega)]; exact ⟨trivial, by omega, by omega⟩) (by simp only [aJ (i + 1) (by omega)]; omega)
 unfold qH
 dsimp only
 repeat' (first | (with_reducible refine aD ?_ ?_ <;> (intro hb; (try simp only [bnl] at hb); (try revert hb; intro _))) | with_reducible refine aN ?_ ?_ | with_reducible refine aG ?_ | (refine aE (akq _) ?_; intro _ _) | (refine aE (ak5 _) ?_; intro _ _) | (exact next (by assumption)) | fail)
 all_goals first | exact ⟨_, _, rfl, rfl⟩ | (simp only [bnl]; omega)
theorem alQ (a b : List UInt8) (ha : a.length ≤ 1000000) (hb : b.length ≤ 1000000) : ∃ r, p9 a b r := by
 apply ahd 1
 unfold vL acp
 repeat' (first | (with_reducible refine aD ?_ ?_ <;> (intro hb; (try simp only [bnl] at hb); (try revert hb; intro _))) | with_reducible refine aN ?_ ?_ | with_reducible refine aG ?_ | fail)
 all_goals first | exact ⟨_, _, rfl, rfl, by simp only [pl, List.length_append, List.length_cons, List.length_nil]; omega⟩ | (simp only [bnl, List.length_append, List.length_cons, List.length_nil]; omega)
theorem ak6 (s : List UInt8) (hs : s.length ≤ 1000000) : ∃ r, oz s r := by
 apply afT 2000000
 unfold uB mY
 refine bd (fun x => x.1 = s ∧ 0 ≤ x.2.2 ∧ x.2.2 ≤ (s.length : Int) + 1 ∧ (x.2.1.length : Int) ≤ x.2.2) (fun x => ((s.length : Int) + 1 - x.2.2).toNat) ?_ _ _ ⟨rfl, by simp, by simp; omega, by simp⟩ (by simp; omega)
 rintro again ⟨a, p, i⟩ ⟨rfl, i1, i2, i3⟩ ih
 simp only at i1 i2 i3 ih hs ⊢
 have next : ∀ q : List UInt8, i ≤ a.length → (q.length : Int) ≤ i + 1 → Tot (again (a, q, IntKind.i64.wrap (i + 1))) _ := fun q h hq => ih (a, q, IntKind.i64.wrap (i + 1)) (by simp only [aJ (i + 1) (by omega)]; exact ⟨trivial, by omega, by omega, by omega⟩) (by simp only [aJ (i + 1) (by omega)]; omega)
 unfold pD
 dsimp only
 repeat' (first | (with_reducible refine aD ?_ ?_ <;> (intro hb; (try simp only [bnl] at hb); (try revert hb; intro _))) | with_reducible refine aN ?_ ?_ | with_reducible refine aG ?_ | (refine aE (zG _ (by omega)) ?_; intro _ _) | fail)
 all_goals first | exact ⟨_, _, rfl, rfl⟩ | (refine next _ (by omega) ?_) | skip
 all_goals try simp (disch := omega) only [fG, bnl, List.length_append, List.length_cons, List.length_nil, List.length_drop, List.length_take]
 all_goals first | omega | skip
theorem amY (v k : Int) (hk : 0 ≤ k) (h : (od .u64 v k == 0) = true) (hv : 0 < v) : 0 < k := by
 rcases Int.lt_or_eq_of_le hk with h1 | h1
 ·exact h1
 ·subst h1
  simp [od] at h
  omega
theorem amO : ∀ k : Nat, k < 64 → (!(jh .u64 1 (k : Int) == 0)) = true := by
 intro k hk
 have : ∀ k : Fin 64, (!(jh .u64 1 ((k : Nat) : Int) == 0)) = true := by decide
 exact this ⟨k, hk⟩
theorem aiO (v a b : Int) (hv : 0 ≤ v) (ha : 0 ≤ a) (ha2 : a ≤ 60) (hb : 0 ≤ b) (hb2 : b ≤ 2000) : ∃ r, jf v a b r := by
 apply ahj 100
 unfold vQ oV
 repeat' (first | (with_reducible refine aD ?_ ?_ <;> (intro hb; (try simp only [bnl] at hb); (try revert hb; intro _))) | with_reducible refine aN ?_ ?_ | with_reducible refine aG ?_ | fail)
 ·exact ⟨_, _, rfl, rfl⟩
 rename_i hne
 refine bd (fun x => x.1 = v ∧ x.2.1 = a ∧ x.2.2.1 = b ∧ 0 ≤ x.2.2.2 ∧ x.2.2.2 ≤ 63) (fun x => x.2.2.2.toNat) ?_ _ _ ⟨rfl, rfl, rfl, by simp, by simp⟩ (by simp)
 rintro again ⟨v, a, b, k⟩ ⟨rfl, rfl, rfl, i1, i2⟩ ih
 simp only at i1 i2 ih hne hv ha ha2 hb hb2 ⊢
 unfold qL
 dsimp only
 have e1 := aJ (k - 1) (by omega)
 have e2 := aJ (a - k) (by omega)
 have e3 := aJ (k - a) (by omega)
 refine aN (by simp only [bnl]; omega) (aD (fun h => ?_) (fun h => aD (fun h1 => ?_) (fun h1 => ?_)))
 ·have := amY v k i1 h (by omega)
  exact ih (v, a, b, _) (by simp only [e1]; exact ⟨trivial, trivial, trivial, by omega, by omega⟩) (by simp only [e1]; omega)
 ·simp only [bnl] at h1
  repeat' (first | (with_reducible refine aD ?_ ?_ <;> (intro hb; (try simp only [bnl] at hb); (try revert hb; intro _))) | with_reducible refine aN ?_ ?_ | with_reducible refine aG ?_ | fail)
  all_goals first | exact ⟨_, _, rfl, rfl⟩ | (simp only [bnl, e2]; omega)
 ·simp only [bnl] at h1
  have e4 := aJ (k - a - 1) (by omega)
  have := amO (k - a).toNat (by omega)
  rw [Int.toNat_of_nonneg (by omega)] at this
  simp only [e3, e4]
  repeat' (first | (with_reducible refine aD ?_ ?_ <;> (intro hb; (try simp only [bnl] at hb); (try revert hb; intro _))) | with_reducible refine aN ?_ ?_ | with_reducible refine aG ?_ | fail)
  all_goals first | exact ⟨_, _, rfl, rfl⟩ | exact this | (simp only [bnl]; omega)
theorem w9 (n : Int) : 0 ≤ IntKind.u64.wrap n := by
 simp only [IntKind.wrap, IntKind.signed, IntKind.bits, Bool.false_and, Bool.false_eq_true, if_false]
 exact Int.emod_nonneg _ (by decide)
theorem ak7 (n : Int) : ∃ r, ot n r := by
 apply af0 1
 unfold uF aaH
 repeat' (first | (with_reducible refine aD ?_ ?_ <;> (intro hb; (try simp only [bnl] at hb); (try revert hb; intro _))) | with_reducible refine aN ?_ ?_ | with_reducible refine aG ?_ | (refine aE (aiO _ _ _ (w9 _) (by omega) (by omega) (by omega) (by omega)) ?_; intro _ _) | fail)
 all_goals exact ⟨_, _, rfl, rfl⟩
theorem akr (n : Int) : ∃ r, jO n r := by
 apply aeU 1
 unfold ta yr
 repeat' (first | (with_reducible refine aD ?_ ?_ <;> (intro hb; (try simp only [bnl] at hb); (try revert hb; intro _))) | with_reducible refine aN ?_ ?_ | with_reducible refine aG ?_ | (refine aE (aiO _ _ _ (w9 _) (by omega) (by omega) (by omega) (by omega)) ?_; intro _ _) | fail)
 all_goals exact ⟨_, _, rfl, rfl⟩
theorem ak8 (s : List UInt8) (hs : s.length ≤ 1000000) : ∃ r, jl s r := by
 apply yn 100
 exact ⟨_, vR 95 s (by omega), _, _, _, rfl, rfl, rfl⟩
theorem ago (s : List UInt8) : 0 ≤ (pX s).2 ∧ (pX s).2 ≤ s.length := by
 have := alM s
 simp only [pX]
 omega
theorem ak9 (s : List UInt8) (hs : s.length ≤ 1000000) : ∃ r, oA s r := by
 apply afV 1
 unfold uC aaE
 refine aE (ak8 s hs) ?_
 rintro ⟨a, b⟩ ⟨-, h⟩
 exact aG ⟨_, _, _, rfl, rfl, h⟩
theorem lr (k n : Int) (s : List UInt8) (l : List aA) (names : List (List UInt8)) (name : List UInt8) (hl : names.length ≤ 1000) : ∃ r, b7 k n s l names name r := by
 apply aiI 2000
 unfold xk qg
 refine bd (fun x => x.1 = name ∧ x.2.1 = k ∧ x.2.2.2.2.1 = l ∧ x.2.2.2.2.2.1 = names ∧ 0 ≤ x.2.2.2.2.2.2.1 ∧ x.2.2.2.2.2.2.1 ≤ (names.length : Int) ∧ ∀ j : Nat, (j : Int) < x.2.2.2.2.2.2.1 → names.getD j [] ≠ name)
  (fun x => ((names.length : Int) - x.2.2.2.2.2.2.1).toNat) ?_ _ _ ⟨rfl, rfl, rfl, rfl, by simp, by simp, fun j hj => by simp at hj; omega⟩ (by simp; omega)
 rintro again ⟨a0, a1, a2, a3, a4, a5, i, b0, b1, b2, b3, b4⟩ ⟨rfl, rfl, rfl, rfl, i1, i2, i3⟩ ih
 simp only at i1 i2 i3 ih hl ⊢
 unfold sc
 repeat' (first | (with_reducible refine aD ?_ ?_ <;> (intro hb; (try simp only [bnl] at hb); (try revert hb; intro _))) | with_reducible refine aN ?_ ?_ | with_reducible refine aG ?_ | fail)
 ·simp only [bnl]; omega
 ·simp only [bnl]; omega
 ·rename_i hk hb hc hb2
  have e := aiz (names := a5) (l := a4) (name := a0) (i := i.toNat) (by omega) (by omega) (fun j hj => i3 j (by omega)) hb2
  refine ⟨_, _, _, _, _, _, _, rfl, rfl, ?_⟩
  simp only [bQ]
  rw [if_pos hk, e]; rfl
 ·rename_i hk hb hc hb2
  have ew := aJ (i + 1) (by omega)
  refine ih _ ⟨rfl, rfl, rfl, rfl, ?_, ?_, ?_⟩ ?_
  ·simp only [ew]; omega
  ·simp only [ew]; omega
  ·simp only [ew]
   intro j hj
   by_cases e : (j : Int) = i
   ·have : i.toNat = j := by omega
    rw [this] at hb2
    exact hb2
   ·exact i3 j (by omega)
  ·simp only [ew]; omega
 ·rename_i hk hb hc
  refine ⟨_, _, _, _, _, _, _, rfl, rfl, ?_⟩
  simp only [bQ]
  rw [if_pos hk, ach (i := i.toNat) (fun j hj => i3 j (by omega)) (.inr (by omega))]
  rfl
 ·rename_i hk hb
  refine ⟨_, _, _, _, _, _, _, rfl, rfl, ?_⟩
  simp only [bQ]
  rw [if_pos hk, ach (i := i.toNat) (fun j hj => i3 j (by omega)) (.inl (by omega))]
  rfl
 ·rename_i hk
  refine ⟨_, _, _, _, _, _, _, rfl, rfl, ?_⟩
  simp only [bQ]
  rw [if_neg hk]; rfl
end Go.Proofs.Ytdpajabhmmmjoaa
end
noncomputable section
namespace Go.Proofs.Ytdpajabhmmmjoaa
open Go.AM
set_option autoImplicit false
set_option linter.unusedVariables false
set_option maxRecDepth 100000
end Go.Proofs.Ytdpajabhmmmjoaa
end
noncomputable section
namespace Go.AM
set_option autoImplicit false
set_option linter.unusedSimpArgs false
set_option linter.unusedVariables false
end Go.AM
end
noncomputable section
namespace Go.Proofs.Ytdpajabhmmmjoaa
open Go.AM
set_option autoImplicit false
set_option linter.unusedSimpArgs false
set_option linter.unusedVariables false
end Go.Proofs.Ytdpajabhmmmjoaa
end
noncomputable section
namespace Go.Proofs.Ytdpajabhmmmjoaa
open Go.AM
set_option autoImplicit false
set_option linter.unusedSimpArgs false
set_option linter.unusedVariables false
end Go.Proofs.Ytdpajabhmmmjoaa
end
noncomputable section
namespace Go.Proofs.Ytdpajabhmmmjoaa
open Go.AM
set_option autoImplicit false
set_option linter.unusedVariables false
set_option maxRecDepth 100000
end Go.Proofs.Ytdpajabhmmmjoaa
end
noncomputable section
namespace Go.Proofs.Ytdpajabhmmmjoaa
open Go.AM
set_option autoImplicit false
set_option linter.unusedSimpArgs false
set_option linter.unusedVariables false
theorem aB.eta (v : aB) : aB.mk v.n v.s v.l v.keys v.branch = v := by cases v; rfl
theorem tP {α : Type} (l : List α) (i : Nat) (d : α) (h : i < l.length) : l.drop i = l.getD i d :: l.drop (i + 1) := by
 rw [List.drop_eq_getElem_cons h, List.getD_eq_getElem?_getD, List.getElem?_eq_getElem h]
 rfl
theorem aiP : ∀ (l : List aB) (i : Nat), szL (l.drop i) ≤ szL l
 | [], i => by simp
 | v :: l, 0 => by simp
 | v :: l, i + 1 => by
   have := aiP l i
   simp only [List.drop_succ_cons, szL]
   omega
theorem ame (l : List aB) (i : Nat) (h : i < l.length) : szV (l.getD i (aC .aval)) ≤ szL l := by
 have h1 := aiP l i
 rw [tP l i (aC .aval) h, szL] at h1
 omega
theorem ala (v : aB) : szV v = szL v.l + 1 := by cases v; rfl
def oW (l : List (List UInt8)) (i : Nat) : Bool := match i with | 0 => jQ l | i + 1 => l8 (l.getD i []) (l.drop (i + 1))
theorem aiQ (l : List (List UInt8)) : oW l l.length = true := by
 unfold oW
 split
 ·rename_i h
  rw [List.length_eq_zero_iff.1 h]; rfl
 ·rename_i i h
  rw [show l.drop (i + 1) = [] from List.drop_eq_nil_of_le (by omega)]
  rfl
theorem ahl (l : List (List UInt8)) (i : Nat) (h : i < l.length) :
  oW l i = (jk (l.getD i []) && ((decide (i = 0) || Op.bytesLess (l.getD (i - 1) []) (l.getD i [])) && oW l (i + 1))) := by
 cases i with
 | zero =>
   have := tP l 0 [] h
   rw [List.drop_zero] at this
   simp only [oW]
   conv => lhs; rw [this]
   simp [jQ]
 | succ i =>
   simp only [oW]
   rw [tP l (i + 1) [] h]
   simp [l8]
end Go.Proofs.Ytdpajabhmmmjoaa
end
noncomputable section
namespace Go.Proofs.Ytdpajabhmmmjoaa
open Go.AM
set_option autoImplicit false
set_option linter.unusedSimpArgs false
set_option linter.unusedVariables false
set_option maxRecDepth 100000
end Go.Proofs.Ytdpajabhmmmjoaa
end
noncomputable section
namespace Go.Proofs.Ytdpajabhmmmjoaa
open Go.AM
set_option autoImplicit false
set_option linter.unusedVariables false
set_option linter.unusedSimpArgs false
set_option maxRecDepth 100000
theorem u7 {P : Program} {f : FuncId} {vs : List V} {R : Type} {ret : R → V} {r0 : R} (h : (∀ x ∈ vs, x.fits) → ∃ r, aO P f vs (ret r) ∧ r = r0) : ∃ r, aO P f vs (ret r) ∧ r = r0 :=
 ⟨r0, aO.fits fun hf => by obtain ⟨r, h1, rfl⟩ := h hf; exact h1, rfl⟩
theorem agp (s : List UInt8) : ∃ r, kQ s r := by
 refine u7 (ret := fun r => .bool r) fun hf => ?_
 have hs : s.length ≤ 9223372036854775807 := hf (.str s) (by simp)
 have hp : ∀ t : List UInt8, ∃ r, jl t r := fun t => by
  refine u7 (ret := fun (r : Int × Int) => .tup [.int .u32 r.1, .int .i64 r.2]) fun hf => ?_
  have ht : t.length ≤ 9223372036854775807 := hf (.str t) (by simp)
  exact yn 100 t ⟨_, vR 95 t ht, _, _, _, rfl, rfl, rfl⟩
 refine afM (s.length + 1) s ?_
 unfold uv mV
 refine bd (fun x => x.length ≤ s.length ∧ jk x = jk s) (fun x => x.length) ?_ _ _ ⟨Nat.le_refl _, rfl⟩ (by omega)
 rintro again t ⟨h1, h2⟩ ih
 unfold pC
 dsimp only
 cases t with
 | nil =>
   simp only [List.length_nil]
   exact aD (fun h => by simp at h) (fun _ => aG ⟨_, _, rfl, rfl, h2⟩)
 | cons c t =>
   refine aD (fun _ => ?_) (fun h => by simp only [List.length_cons, decide_eq_false_iff_not] at h; omega)
   refine aE (hp _) ?_
   rintro ⟨c', n'⟩ ⟨-, hp'⟩
   have hle := ago (c :: t)
   have hv := aju c t
   have hp' : (c', n') = pX (c :: t) := hp'
   rw [← hp'] at hle
   have hn : n' = ((gZ (c :: t)).2 : Int) := congrArg Prod.snd hp'
   simp only [List.length_cons] at hle h1
   dsimp only at hle ⊢
   repeat' (first | (with_reducible refine aD ?_ ?_ <;> (intro hb; (try simp only [bnl] at hb); (try revert hb; intro _))) | with_reducible refine aN ?_ ?_ | with_reducible refine aG ?_ | fail)
   ·rename_i h
    rw [if_pos (by omega)] at hv
    exact ⟨_, _, rfl, rfl, by rw [rC, ← h2, hv]⟩
   ·simp only [bnl, List.length_cons]; exact hle
   ·rename_i h
    rw [if_neg (by omega)] at hv
    refine ih _ ⟨?_, ?_⟩ ?_
    ·simp only [List.length_drop, List.length_take, List.length_cons]; omega
    ·rw [List.take_length, hn, Int.toNat_natCast, ← hv, h2]
    ·simp only [List.length_drop, List.length_take, List.length_cons]; omega
def kL (ts : List ak) (kind items : Int) (fields : List aQ) (l : List aB) (i : Nat) : Bool :=
 cond (kind == 9) (vj ts (fields.drop i) (l.drop i)) (cS ts items (l.drop i))
theorem alR {α : Type} {l : List α} {i : Nat} {x d : α} (h : l[i]? = some x) : l.getD i d = x := by
 rw [List.getD_eq_getElem?_getD, h]; rfl
def yt (ts : List ak) (n : Nat) : Prop := ∀ (t m : Int) (s : List UInt8) (l : List aB) (ks : List (List UInt8)) (b : Int), szL l + 1 ≤ n → ∃ r, dl ts t m s l ks b r
theorem zH (ts : List ak) (n : Nat) (hF : yt ts n) (N : Nat) (k0 k3 : Int) (k8 : List aQ) (l : List aB) (hl : l.length ≤ 9223372036854775807) (hN : l.length < N) (hs : szL l ≤ n) (hr : k0 = 9 → l.length = k8.length) (Q : V × List aI → Prop) (hQ : Q (.bool (kL ts k0 k3 k8 l 0), []))
  (B : ((List ak × Int × List UInt8 × List (List UInt8) × Int × List (List UInt8) × Bool × List UInt8 × Int × List aQ × List Int × Int × List UInt8 × List aB × List (List UInt8) × Int × Int) → Option (V × List aI)) → (List ak × Int × List UInt8 × List (List UInt8) × Int × List (List UInt8) × Bool × List UInt8 × Int × List aQ × List Int × Int × List UInt8 × List aB × List (List UInt8) × Int × Int) → Option (V × List aI))
  (hB : B = ie N ∨ B = j8 N)
  (k1 : List UInt8) (k2 : List (List UInt8)) (k4 : List (List UInt8)) (k5 : Bool) (k6 : List UInt8) (k7 : Int) (k9 : List Int) (m : Int) (s : List UInt8) (ks : List (List UInt8)) (b : Int) :
  Tot (aW N B (ts, k0, k1, k2, k3, k4, k5, k6, k7, k8, k9, m, s, l, ks, b, 0)) Q := by
 refine bd (fun x => match x with | (ts', v0, v1, v2, v3, v4, v5, v6, v7, v8, v9, m', s', l', ks', b', i) => ts' = ts ∧ v0 = k0 ∧ v3 = k3 ∧ v8 = k8 ∧ l' = l ∧ 0 ≤ i ∧ i ≤ (l.length : Int) ∧ kL ts k0 k3 k8 l i.toNat = kL ts k0 k3 k8 l 0)
  (fun x => ((l.length : Int) - x.2.2.2.2.2.2.2.2.2.2.2.2.2.2.2.2).toNat) ?_ _ _ ⟨rfl, rfl, rfl, rfl, rfl, by simp, by simp, rfl⟩ (by simp; omega)
 rintro again ⟨ts', v0, v1, v2, v3, v4, v5, v6, v7, v8, v9, m', s', l', ks', b', i⟩ ⟨rfl, rfl, rfl, rfl, rfl, i1, i2, i3⟩ ih
 dsimp only at ih
 have eqB : B again (ts', v0, v1, v2, v3, v4, v5, v6, v7, v8, v9, m', s', l', ks', b', i) = ie N again (ts', v0, v1, v2, v3, v4, v5, v6, v7, v8, v9, m', s', l', ks', b', i) := by
  rcases hB with rfl | rfl <;> rfl
 rw [eqB]
 unfold ie
 dsimp only
 refine aD (fun h => ?_) (fun h => ?_)
 ·have h := of_decide_eq_true h
  have hil : i.toNat < l'.length := by omega
  have hsz := ame l' i.toNat hil
  have hsz2 := ala (l'.getD i.toNat (aC .aval))
  have ew : IntKind.i64.wrap (i + 1) = i + 1 := aJ (i + 1) (by omega)
  have et : (i + 1).toNat = i.toNat + 1 := by omega
  have next : kL ts' v0 v3 v8 l' (i.toNat + 1) = kL ts' v0 v3 v8 l' 0 → Tot (again (ts', v0, v1, v2, v3, v4, v5, v6, v7, v8, v9, m', s', l', ks', b', IntKind.i64.wrap (i + 1))) _ := fun hh => ih (ts', v0, v1, v2, v3, v4, v5, v6, v7, v8, v9, m', s', l', ks', b', IntKind.i64.wrap (i + 1))
   (by simp only [ew, et]; exact ⟨trivial, trivial, trivial, trivial, trivial, by omega, by omega, hh⟩) (by simp only [ew]; omega)
  have hd := tP l' i.toNat (aC .aval) hil
  refine aD (fun h9 => ?_) (fun h9 => ?_)
  ·have h9' : v0 = 9 := by simpa using h9
   have hlen := hr h9'
   refine vck (vck ?_)
   refine aE (hF _ _ _ _ _ _ (by omega)) ?_
   rintro _ ⟨-, rfl⟩
   have hfd := tP v8 i.toNat (aC .afield) (by omega)
   have step : kL ts' v0 v3 v8 l' i.toNat = (cO ts' (v8.getD i.toNat (aC .afield)).typ (l'.getD i.toNat (aC .aval)) && kL ts' v0 v3 v8 l' (i.toNat + 1)) := by
    simp only [kL, h9, cond_true]
    rw [hd, hfd]
    simp only [vj, List.headD_cons, List.tail_cons]
   rw [aB.eta]
   refine aD (fun hb => aG ?_) (fun hb => ?_)
   ·have hb' : cO ts' (v8.getD i.toNat (aC .afield)).typ (l'.getD i.toNat (aC .aval)) = false := by simpa using hb
    rw [step, hb', Bool.false_and] at i3
    rw [← i3] at hQ; exact hQ
   ·have hb' : cO ts' (v8.getD i.toNat (aC .afield)).typ (l'.getD i.toNat (aC .aval)) = true := by simpa using hb
    rw [step, hb', Bool.true_and] at i3
    exact next i3
  ·refine vck ?_
   refine aE (hF _ _ _ _ _ _ (by omega)) ?_
   rintro _ ⟨-, rfl⟩
   have step : kL ts' v0 v3 v8 l' i.toNat = (cO ts' v3 (l'.getD i.toNat (aC .aval)) && kL ts' v0 v3 v8 l' (i.toNat + 1)) := by
    simp only [kL, h9, cond_false]
    rw [hd]
    simp only [cS]
   rw [aB.eta]
   refine aD (fun hb => aG ?_) (fun hb => ?_)
   ·have hb' : cO ts' v3 (l'.getD i.toNat (aC .aval)) = false := by simpa using hb
    rw [step, hb', Bool.false_and] at i3
    rw [← i3] at hQ; exact hQ
   ·have hb' : cO ts' v3 (l'.getD i.toNat (aC .aval)) = true := by simpa using hb
    rw [step, hb', Bool.true_and] at i3
    exact next i3
 ·have h := of_decide_eq_false h
  have : i.toNat = l'.length := by omega
  rw [this] at i3
  have e : kL ts' v0 v3 v8 l' l'.length = true := by
   simp only [kL, List.drop_length]
   cases v0 == 9 <;> simp [vj, cS]
  rw [e] at i3
  refine aG ?_
  rw [← i3] at hQ; exact hQ
theorem alb (ts : List ak) (n : Nat) (hF : yt ts n) (k0 : Int) (k1 : List UInt8) (k2 : List (List UInt8)) (k3 : Int) (k4 : List (List UInt8)) (k5 : Bool) (k6 : List UInt8) (k7 : Int) (k8 : List aQ) (k9 : List Int) (m : Int) (s : List UInt8) (l : List aB) (ks : List (List UInt8)) (b : Int) (hs : szL l ≤ n) :
  ∃ r, mH ts k0 k1 k2 k3 k4 k5 k6 k7 k8 k9 m s l ks b r := by
 refine u7 (ret := fun r => .bool r) fun hf => ?_
 have hl : l.length ≤ 9223372036854775807 := hf (.agg [.int .u64 m, .str s, .sl .aval (.may false) l, .sl .str (.may false) ks, .int .i64 b]) (by simp) (.sl .aval (.may false) l) (by simp)
 have hk : ks.length ≤ 9223372036854775807 := hf (.agg [.int .u64 m, .str s, .sl .aval (.may false) l, .sl .str (.may false) ks, .int .i64 b]) (by simp) (.sl .str (.may false) ks) (by simp)
 refine aeN (l.length + ks.length + 2) _ _ _ _ _ _ _ _ _ _ _ _ _ _ _ _ ?_
 generalize hN : l.length + ks.length + 2 = N
 unfold s5 lj
 dsimp only
 refine aD (fun h9 => aD (fun hb => aG ⟨_, _, rfl, rfl, ?_⟩) (fun hb => ?_)) (fun h9 => aD (fun h13 => aD (fun hb => aG ⟨_, _, rfl, rfl, ?_⟩) (fun hb => ?_)) (fun h13 => aD (fun h14 => ?_) (fun h14 => ?_)))
 ·have : ¬ l.length = k8.length := by simp at hb; omega
  simp only [ch, vl, h9, cond_true, this, decide_false, Bool.false_and]
 ·have : l.length = k8.length := by simp at hb; omega
  refine zH ts n hF N k0 k3 k8 l hl (by omega) hs (fun _ => this) _ ⟨_, _, rfl, rfl, ?_⟩ _ (.inl rfl) _ _ _ _ _ _ _ _ _ _ _
  simp only [ch, vl, kL, h9, cond_true, this, decide_true, Bool.true_and, List.drop_zero]
 ·have : ¬ (ks.length : Int) = l.length := by simp at hb; omega
  simp only [ch, vl, h9, h13, cond_true, cond_false, beq_eq_false_iff_ne.2 this, Bool.false_and]
 ·have hlk : (l.length : Int) = ks.length := by simpa using hb
  have goalE : ∀ r : Bool, r = (jQ ks && cS ts k3 l) → ch ts k0 k1 k2 k3 k4 k5 k6 k7 k8 k9 m s l ks b r := by
   intro r hr
   simp only [ch, vl, h9, h13, cond_true, cond_false, hlk.symm, beq_self_eq_true, Bool.true_and]
   exact hr
  refine bd (fun x => match x with | (ts', v0, v1, v2, v3, v4, v5, v6, v7, v8, v9, m', s', l', ks', b', i) => ts' = ts ∧ v0 = k0 ∧ v3 = k3 ∧ v8 = k8 ∧ l' = l ∧ ks' = ks ∧ 0 ≤ i ∧ i ≤ (ks.length : Int) ∧ oW ks i.toNat = jQ ks)
   (fun x => ((ks.length : Int) - x.2.2.2.2.2.2.2.2.2.2.2.2.2.2.2.2).toNat) ?_ _ _ ⟨rfl, rfl, rfl, rfl, rfl, rfl, by simp, by simp, rfl⟩ (by simp; omega)
  rintro again ⟨ts', v0, v1, v2, v3, v4, v5, v6, v7, v8, v9, m', s', l', ks', b', i⟩ ⟨rfl, rfl, rfl, rfl, rfl, rfl, i1, i2, i3⟩ ih
  dsimp only at ih
  unfold nT mi
  dsimp only
  refine aD (fun h => ?_) (fun h => ?_)
  ·have h := of_decide_eq_true h
   have ew : IntKind.i64.wrap (i + 1) = i + 1 := aJ (i + 1) (by omega)
   have et : (i + 1).toNat = i.toNat + 1 := by omega
   have hst := ahl ks' i.toNat (by omega)
   rw [i3] at hst
   have next : oW ks' (i.toNat + 1) = jQ ks' → Tot (again (ts', v0, v1, v2, v3, v4, v5, v6, v7, v8, v9, m', s', l', ks', b', IntKind.i64.wrap (i + 1))) _ := fun hh => ih (ts', v0, v1, v2, v3, v4, v5, v6, v7, v8, v9, m', s', l', ks', b', IntKind.i64.wrap (i + 1))
    (by simp only [ew, et]; exact ⟨trivial, trivial, trivial, trivial, trivial, trivial, by omega, by omega, hh⟩) (by simp only [ew]; omega)
   refine vck ?_
   refine aE (agp _) ?_
   rintro _ ⟨-, rfl⟩
   change Tot (cond (!jk (ks'.getD i.toNat [])) _ _) _
   refine aD (fun hv => aG ⟨_, _, rfl, rfl, goalE _ ?_⟩) (fun hv => ?_)
   ·have hv : jk (ks'.getD i.toNat []) = false := by simpa using hv
    rw [hst, hv]; rfl
   ·have hv : jk (ks'.getD i.toNat []) = true := by simpa using hv
    rw [hv, Bool.true_and] at hst
    refine aD (fun hp => ?_) (fun hp => ?_)
    ·have hp := of_decide_eq_true hp
     have em : IntKind.i64.wrap (i - 1) = i - 1 := aJ (i - 1) (by omega)
     have e1 : (i - 1).toNat = i.toNat - 1 := by omega
     have hz : decide (i.toNat = 0) = false := decide_eq_false (by omega)
     rw [hz, Bool.false_or] at hst
     rw [em, e1]
     refine vck (vck ?_)
     change Tot (cond (Op.bytesLess (ks'.getD i.toNat []) (ks'.getD (i.toNat - 1) []) || decide (ks'.getD i.toNat [] = ks'.getD (i.toNat - 1) [])) _ _) _
     rw [zE]
     refine aD (fun hv => aG ⟨_, _, rfl, rfl, goalE _ ?_⟩) (fun hv => ?_)
     ·have hv : Op.bytesLess (ks'.getD (i.toNat - 1) []) (ks'.getD i.toNat []) = false := by simpa using hv
      rw [hst, hv]; rfl
     ·have hv : Op.bytesLess (ks'.getD (i.toNat - 1) []) (ks'.getD i.toNat []) = true := by simpa using hv
      rw [hv, Bool.true_and] at hst
      exact next hst.symm
    ·have hp := of_decide_eq_false hp
     have hz : decide (i.toNat = 0) = true := decide_eq_true (by omega)
     rw [hz, Bool.true_or, Bool.true_and] at hst
     exact next hst.symm
  ·have h := of_decide_eq_false h
   have hi : i.toNat = ks'.length := by omega
   rw [hi, aiQ] at i3
   refine zH ts' n hF N v0 v3 v8 l' hl (by omega) hs (fun h => by simp [h] at h9) _ ⟨_, _, rfl, rfl, goalE _ ?_⟩ _ (.inr rfl) _ _ _ _ _ _ _ _ _ _ _
   rw [← i3, Bool.true_and]
   simp only [kL, h9, cond_false, List.drop_zero]
 ·
  have goalE : ∀ r : Bool, r = (decide (0 ≤ b) && (decide (b < (k9.length : Int)) && (((l.length : Int) == 1) && cS ts (k9.getD b.toNat 0) l))) → ch ts k0 k1 k2 k3 k4 k5 k6 k7 k8 k9 m s l ks b r := by
   intro r hr
   simp only [ch, vl, h9, h13, h14, cond_true, cond_false]
   exact hr
  refine aD (fun hb => aD (fun hb2 => aD (fun hb3 => ?_) (fun hb3 => aG ⟨_, _, rfl, rfl, goalE _ ?_⟩)) (fun hb2 => aG ⟨_, _, rfl, rfl, goalE _ ?_⟩)) (fun hb => aG ⟨_, _, rfl, rfl, goalE _ ?_⟩)
  ·have hb1 := of_decide_eq_true hb
   have hb2' := of_decide_eq_true hb2
   have hb3' : (l.length : Int) = 1 := by simpa using hb3
   obtain ⟨v, rfl⟩ : ∃ v, l = [v] := by
    match l, hb3' with
    | [v], _ => exact ⟨v, rfl⟩
   have hsz := ala v
   simp only [szL] at hs
   refine vck (aN (by simp) ?_)
   refine aE (hF _ _ _ _ _ _ (by simp only [Int.toNat_zero, List.getD_cons_zero]; omega)) ?_
   rintro _ ⟨-, rfl⟩
   refine aG ⟨_, _, rfl, rfl, goalE _ ?_⟩
   simp only [hb, hb2, hb3, Bool.true_and, Int.toNat_zero, List.getD_cons_zero, aB.eta, cS, Bool.and_true]
   rfl
  ·rw [hb3]; simp
  ·rw [hb2]; simp
  ·rw [hb]; simp
 ·refine zH ts n hF N k0 k3 k8 l hl (by omega) hs (fun h => by simp [h] at h9) _ ⟨_, _, rfl, rfl, ?_⟩ _ (.inl rfl) _ _ _ _ _ _ _ _ _ _ _
  simp only [ch, vl, kL, h9, h13, h14, cond_false, List.drop_zero]
def qS (kind n : Int) (s : List UInt8) (l : List aB) (ks : List (List UInt8)) (b : Int) (num txt prt ok : Bool) : Bool :=
 cond (!(kind == 13) && decide ((0 : Int) < (ks.length : Int))) false (cond (!(kind == 14) && !(b == 0)) false (ok && ((num || (n == 0)) && ((txt || decide (s = [])) && (prt || ((l.length : Int) == 0))))))
theorem af2 (ks : List (List UInt8)) : (((ks.length : Int)) == 0) = !decide ((0 : Int) < (ks.length : Int)) := by
 cases ks with
 | nil => rfl
 | cons a l => simp; omega
theorem lt0 : decide ((0 : Int) < 0) = false := rfl
theorem qT (kind m : Int) (s : List UInt8) (l : List aB) (ks : List (List UInt8)) (b : Int) (ok : Bool) (h1 : kind ≠ 13) (h2 : kind ≠ 14) : qS kind m s l ks b true false false ok = (ok && iK 0 s l ks b) := by
 simp only [qS, iK, beq_eq_false_iff_ne.2 h1, beq_eq_false_iff_ne.2 h2, af2 ks, Bool.not_false, Bool.not_true, Bool.true_and, Bool.false_and, Bool.true_or, Bool.false_or, beq_self_eq_true, decide_true, List.length_nil, Int.ofNat_zero, Int.natCast_zero, Bool.and_true, cond_false, lt0]
 generalize decide ((0 : Int) < (ks.length : Int)) = p
 generalize (b == 0) = q
 generalize (m == 0) = r
 generalize decide (s = []) = t
 generalize ((l.length : Int) == 0) = u
 cases ok <;> cases p <;> cases q <;> cases r <;> cases t <;> cases u <;> rfl
theorem adP (kind m : Int) (s : List UInt8) (l : List aB) (ks : List (List UInt8)) (b : Int) (ok : Bool) (h1 : kind ≠ 13) (h2 : kind ≠ 14) : qS kind m s l ks b false true false ok = (ok && iK m [] l ks b) := by
 simp only [qS, iK, beq_eq_false_iff_ne.2 h1, beq_eq_false_iff_ne.2 h2, af2 ks, Bool.not_false, Bool.not_true, Bool.true_and, Bool.false_and, Bool.true_or, Bool.false_or, beq_self_eq_true, decide_true, List.length_nil, Int.ofNat_zero, Int.natCast_zero, Bool.and_true, cond_false, lt0]
 generalize decide ((0 : Int) < (ks.length : Int)) = p
 generalize (b == 0) = q
 generalize (m == 0) = r
 generalize decide (s = []) = t
 generalize ((l.length : Int) == 0) = u
 cases ok <;> cases p <;> cases q <;> cases r <;> cases t <;> cases u <;> rfl
theorem alc (m : Int) (s : List UInt8) (l : List aB) (ks : List (List UInt8)) (b : Int) : qS 1 m s l ks b false false false true = (iK m s l ks b) := by
 simp only [qS, iK, Int.reduceBEq, af2 ks, Bool.not_false, Bool.not_true, Bool.true_and, Bool.false_and, Bool.true_or, Bool.false_or, beq_self_eq_true, decide_true, List.length_nil, Int.ofNat_zero, Int.natCast_zero, Bool.and_true, cond_false, lt0]
 generalize decide ((0 : Int) < (ks.length : Int)) = p
 generalize (b == 0) = q
 generalize (m == 0) = r
 generalize decide (s = []) = t
 generalize ((l.length : Int) == 0) = u
 cases p <;> cases q <;> cases r <;> cases t <;> cases u <;> rfl
theorem aiR (kind m : Int) (s : List UInt8) (l : List aB) (ks : List (List UInt8)) (b : Int) (ok : Bool) (h1 : kind ≠ 13) (h2 : kind ≠ 14) : qS kind m s l ks b false false true ok = (ok && iK m s [] ks b) := by
 simp only [qS, iK, beq_eq_false_iff_ne.2 h1, beq_eq_false_iff_ne.2 h2, af2 ks, Bool.not_false, Bool.not_true, Bool.true_and, Bool.false_and, Bool.true_or, Bool.false_or, beq_self_eq_true, decide_true, List.length_nil, Int.ofNat_zero, Int.natCast_zero, Bool.and_true, cond_false, lt0]
 generalize decide ((0 : Int) < (ks.length : Int)) = p
 generalize (b == 0) = q
 generalize (m == 0) = r
 generalize decide (s = []) = t
 generalize ((l.length : Int) == 0) = u
 cases ok <;> cases p <;> cases q <;> cases r <;> cases t <;> cases u <;> rfl
theorem alS (m : Int) (s : List UInt8) (l : List aB) (ks : List (List UInt8)) (b : Int) (ok : Bool) : qS 13 m s l ks b false false true ok = (ok && iK m s [] [] b) := by
 simp only [qS, iK, Int.reduceBEq, af2 ks, Bool.not_false, Bool.not_true, Bool.true_and, Bool.false_and, Bool.true_or, Bool.false_or, beq_self_eq_true, decide_true, List.length_nil, Int.ofNat_zero, Int.natCast_zero, Bool.and_true, cond_false, lt0]
 generalize decide ((0 : Int) < (ks.length : Int)) = p
 generalize (b == 0) = q
 generalize (m == 0) = r
 generalize decide (s = []) = t
 generalize ((l.length : Int) == 0) = u
 cases ok <;> cases p <;> cases q <;> cases r <;> cases t <;> cases u <;> rfl
theorem alT (m : Int) (s : List UInt8) (l : List aB) (ks : List (List UInt8)) (b : Int) (ok : Bool) : qS 14 m s l ks b false false true ok = (ok && iK m s [] ks 0) := by
 simp only [qS, iK, Int.reduceBEq, af2 ks, Bool.not_false, Bool.not_true, Bool.true_and, Bool.false_and, Bool.true_or, Bool.false_or, beq_self_eq_true, decide_true, List.length_nil, Int.ofNat_zero, Int.natCast_zero, Bool.and_true, cond_false, lt0]
 generalize decide ((0 : Int) < (ks.length : Int)) = p
 generalize (b == 0) = q
 generalize (m == 0) = r
 generalize decide (s = []) = t
 generalize ((l.length : Int) == 0) = u
 cases ok <;> cases p <;> cases q <;> cases r <;> cases t <;> cases u <;> rfl
theorem amf (m : Int) (h : 0 ≤ m ∧ m ≤ 18446744073709551615) : (m == IntKind.wrap .u64 (IntKind.wrap .i64 (IntKind.wrap .i32 (IntKind.wrap .u32 m)))) = (decide ((-2147483648) ≤ IntKind.wrap .i64 m) && decide (IntKind.wrap .i64 m < 2147483648)) := by
 rw [Bool.eq_iff_iff]
 simp only [beq_iff_eq, Bool.and_eq_true, decide_eq_true_eq]
 rw [ahO, adv, adv, ahQ, ahP]
 omega
theorem ald (m : Int) (h : 0 ≤ m ∧ m ≤ 18446744073709551615) : (od .u64 m 32 == 0) = decide (m < 4294967296) := by
 rw [Bool.eq_iff_iff]
 simp only [beq_iff_eq, decide_eq_true_eq, od, IntKind.bits]
 rw [show (2 : Int) ^ (min (Int.toNat 32) 64) = 4294967296 by decide, Int.fdiv_eq_ediv_of_nonneg _ (by decide)]
 omega
theorem ale (ts : List ak) (hts : eU ts) (n : Nat) (hF : yt ts n) : yt ts (n + 1) := by
 intro t m s l ks b hs
 refine u7 (ret := fun r => .bool r) fun hf => ?_
 have hm := ahR (hf (.agg [.int .u64 m, .str s, .sl .aval (.may false) l, .sl .str (.may false) ks, .int .i64 b]) (by simp)) m (by simp)
 refine afI 1 _ _ _ _ _ _ _ ?_
 unfold ur mU
 dsimp only
 have last : ∀ (num txt prt ok : Bool), Tot (lh 1 (m, s, l, ks, b, num, txt, prt, ok)) (fun z => z = (.bool (ok && ((num || (m == 0)) && ((txt || decide (s = [])) && (prt || ((l.length : Int) == 0))))), [])) := by
  intro num txt prt ok
  unfold lh
  dsimp only
  repeat' (first | (with_reducible refine aD ?_ ?_ <;> (intro hb; (try simp only [bnl] at hb); (try revert hb; intro _))) | with_reducible refine aN ?_ ?_ | with_reducible refine aG ?_ | fail)
  all_goals simp [*]
 have zero : ∀ (k0 : Int) (k1 : List UInt8) (k2 : List (List UInt8)) (k3 : Int) (k4 : List (List UInt8)) (k5 : Bool) (k6 : List UInt8) (k7 : Int) (k8 : List aQ) (k9 : List Int) (num txt prt ok : Bool), qS k0 m s l ks b num txt prt ok = cO ts t (.mk m s l ks b) →
   Tot (li 1 (m, s, l, ks, b, k0, k1, k2, k3, k4, k5, k6, k7, k8, k9, num, txt, prt, ok)) (fun z => ∃ (y0 : Bool) (rest : List aI), z.1.dimR = .bool y0 ∧ z.2 = rest ∧ nE ts t m s l ks b y0) := by
  intro k0 k1 k2 k3 k4 k5 k6 k7 k8 k9 num txt prt ok hr
  have key : Tot (li 1 (m, s, l, ks, b, k0, k1, k2, k3, k4, k5, k6, k7, k8, k9, num, txt, prt, ok)) (fun z => z = (.bool (qS k0 m s l ks b num txt prt ok), [])) := by
   have last := last num txt prt ok
   unfold li nQ
   dsimp only
   simp only [qS]
   cases hA : (k0 == 13) <;> cases hB : decide ((0 : Int) < (ks.length : Int)) <;> cases hC : (k0 == 14) <;> cases hD : (b == 0) <;>
    simp only [Bool.not_true, Bool.not_false, cond_true, cond_false, Bool.true_and, Bool.false_and, Bool.and_true, Bool.and_false] <;> first | exact last | exact aG rfl
  refine alA key ?_
  rintro _ rfl
  exact ⟨_, _, rfl, rfl, hr⟩
 refine aE (akZ ts t) ?_
 rintro _ ⟨-, rfl⟩
 refine aD (fun h => aG ⟨_, _, rfl, rfl, ?_⟩) (fun h => ?_)
 ·have h : isT ts t = false := by simpa using h
  simp only [nE, cO, h, Bool.false_and]
 have h : isT ts t = true := by simpa using h
 have hr : 0 ≤ t ∧ t < ts.length := by simpa [isT] using h
 have hl : t.toNat < ts.length := by omega
 have hK := (hts.2 ts[t.toNat] (List.getElem_mem hl)).kind
 have hg : ts.getD t.toNat (aC .atype) = ts[t.toNat] := alR (List.getElem?_eq_getElem hl)
 refine vck ?_
 have hfit : cO ts t (.mk m s l ks b) = cO ts t (.mk m s l ks b) := rfl
 conv at hfit => rhs; rw [cO, h, Bool.true_and]
 rw [hg] at hfit ⊢
 generalize ts[t.toNat] = k at hfit hK
 obtain ⟨k0, k1, k2, k3, k4, k5, k6, k7, k8, k9⟩ := k
 dsimp only at hK hfit ⊢
 have hcases : k0 = 1 ∨ k0 = 2 ∨ k0 = 3 ∨ k0 = 4 ∨ k0 = 5 ∨ k0 = 6 ∨ k0 = 7 ∨ k0 = 8 ∨ k0 = 9 ∨ k0 = 10 ∨ k0 = 11 ∨ k0 = 12 ∨ k0 = 13 ∨ k0 = 14 := by omega
 have hin := alb ts n hF k0 k1 k2 k3 k4 k5 k6 k7 k8 k9 m s l ks b (by omega)
 rcases hcases with rfl | rfl | rfl | rfl | rfl | rfl | rfl | rfl | rfl | rfl | rfl | rfl | rfl | rfl
 all_goals simp only [Int.reduceBEq, Bool.or_true, Bool.true_or, Bool.or_false, Bool.false_or, cond_true, cond_false] at hfit ⊢
 ·exact zero _ _ _ _ _ _ _ _ _ _ _ _ _ _ (by rw [hfit, alc])
 ·exact zero _ _ _ _ _ _ _ _ _ _ _ _ _ _ (by rw [hfit, qT _ _ _ _ _ _ _ (by decide) (by decide)]; rfl)
 ·have e := amf m hm
  refine aD (fun hx => zero _ _ _ _ _ _ _ _ _ _ _ _ _ _ ?_) (fun hx => zero _ _ _ _ _ _ _ _ _ _ _ _ _ _ ?_)
  ·rw [hfit, qT _ _ _ _ _ _ _ (by decide) (by decide)]
   simp only [aka, Int.reduceBEq, cond_true, cond_false, e, hx, Bool.true_and]
  ·rw [hfit, qT _ _ _ _ _ _ _ (by decide) (by decide)]
   simp only [aka, Int.reduceBEq, cond_true, cond_false, e, hx, Bool.false_and]
 ·exact zero _ _ _ _ _ _ _ _ _ _ _ _ _ _ (by rw [hfit, qT _ _ _ _ _ _ _ (by decide) (by decide)]; rfl)
 ·exact zero _ _ _ _ _ _ _ _ _ _ _ _ _ _ (by rw [hfit, qT _ _ _ _ _ _ _ (by decide) (by decide)]; simp only [aka, Int.reduceBEq, cond_true, cond_false, ald m hm])
 ·exact zero _ _ _ _ _ _ _ _ _ _ _ _ _ _ (by rw [hfit, qT _ _ _ _ _ _ _ (by decide) (by decide)]; rfl)
 ·exact zero _ _ _ _ _ _ _ _ _ _ _ _ _ _ (by rw [hfit, adP _ _ _ _ _ _ _ (by decide) (by decide)]; rfl)
 ·refine aE (agp s) ?_
  rintro _ ⟨-, rfl⟩
  exact zero _ _ _ _ _ _ _ _ _ _ _ _ _ _ (by rw [hfit, adP _ _ _ _ _ _ _ (by decide) (by decide)]; rfl)
 ·refine aE hin ?_
  rintro _ ⟨-, rfl⟩
  exact zero _ _ _ _ _ _ _ _ _ _ _ _ _ _ (by rw [hfit, aiR _ _ _ _ _ _ _ (by decide) (by decide)]; rfl)
 ·exact zero _ _ _ _ _ _ _ _ _ _ _ _ _ _ (by rw [hfit, qT _ _ _ _ _ _ _ (by decide) (by decide)]; rfl)
 ·exact zero _ _ _ _ _ _ _ _ _ _ _ _ _ _ (by rw [hfit, adP _ _ _ _ _ _ _ (by decide) (by decide)]; rfl)
 ·refine aE hin ?_
  rintro _ ⟨-, rfl⟩
  exact zero _ _ _ _ _ _ _ _ _ _ _ _ _ _ (by rw [hfit, aiR _ _ _ _ _ _ _ (by decide) (by decide)]; rfl)
 ·refine aE hin ?_
  rintro _ ⟨-, rfl⟩
  exact zero _ _ _ _ _ _ _ _ _ _ _ _ _ _ (by rw [hfit, alS]; rfl)
 ·refine aE hin ?_
  rintro _ ⟨-, rfl⟩
  exact zero _ _ _ _ _ _ _ _ _ _ _ _ _ _ (by rw [hfit, alT]; rfl)
theorem aiS (ts : List ak) (hts : eU ts) : ∀ n, yt ts n
 | 0 => fun _ _ _ _ _ _ h => by omega
 | n + 1 => ale ts hts n (aiS ts hts n)
theorem alf (ts : List ak) (hts : eU ts) (t m : Int) (s : List UInt8) (l : List aB) (ks : List (List UInt8)) (b : Int) : ∃ r, dl ts t m s l ks b r := aiS ts hts (szL l + 1) t m s l ks b (Nat.le_refl _)
end Go.Proofs.Ytdpajabhmmmjoaa
end
noncomputable section
namespace Go.Proofs.Ytdpajabhmmmjoaa
open Go.AM
set_option autoImplicit false
set_option linter.unusedVariables false
set_option maxRecDepth 100000
noncomputable def fa : aM := tab (P := Try.prog) [] [iM] [] [ai9]
def pF : IR := Sq (Rs [Mv 15 11, Fa 16 3 6, Lq 17 16, Ll 18 17, Bi 19 .lss 15 18] (Cn 19 .skip (.exit 0))) (Sq (.block 1 (Sq (.reg [Mv 23 0, Fa 24 3 5, Lq 25 24, Fa 26 3 6, Lq 27 26, Mv 28 11, Ix 29 .jnode 27 28, Ld 30 5 true 29, Mv 31 3, Bc 32 .add 31 1, Fo [] [0] (.call 33 120 [23, 25, 30, 32]), Mv 22 33, Ex_ 34 0 22, Ex_ 35 1 22, Pp (.alr 12 5), Fz 12 5 34, Mv 13 35] [[], [], [1], [], [3], [], [3, 4, 5], rg 3 6, [], [8], rg 0 9, rg 0 10, rg 0 11, rg 0 11, [], rg 0 12 ++ [14], rg 0 15]) (Sq (Rs [Mv 36 13, Bc 37 .neq 36 0] (Cn 37 (Rs [Pp (.bld 38 [vU 0, vS, nl .aval, nl .str, vI 0] []), Mv 39 13, Sv 5 8 38, Mv 9 39] .ret) .skip)) (Rs [Fa 40 0 5, Lq 41 40, Bc 42 .eql 41 12] (Cn 42 (Rg [Fa 43 2 10, Pp (.ld 44 1 false true 43), Ld 45 5 true 12, Pp (.bsl 46 .aval [45] true), Pp (.app 47 .aval (.tk 44) 46), Fa 48 2 10, Sk 1 48 47]) (.reg [Fo [2] [] (.ld 49 5 true false 10), Fa 50 4 6, Lq 51 50, Mv 52 11, Ix 53 .str 51 52, Lq 54 53, Ld 55 5 true 12, Ca 56 61 [49, 54, 55], Fo [] [2] (.st none 5 10 56)] [[], [], [1], [], [1, 2, 3], rg 1 4, [], rg 0 6, rg 0 7])))))) (Rg [Mv 20 11, Bc 21 .add 20 1, Mv 11 21]))
def oX : IR := Rs [Pp (.ld 57 5 true false 10), Sv 5 8 57, Mi 9 0] .ret
def lu : IR := Rs [Bx 5 1, Bx 6 2, Pp (.new 8 [vU 0, vS, nl .aval, nl .str, vI 0]), Mi 9 0] (Rs [Pp (.bld 14 [vU 0, vS, nl .aval, nl .str, vI 0] []), Pp (.new 10 [vU 0, vS, nl .aval, nl .str, vI 0]), Sv 5 10 14] (Sq (Rs [Mi 11 0] (.block 0 (.loop [0, 3, 5, 6, 8, 10, 11, 1000000] 3 pF))) oX))
def ig : List RV := [.cell 8 5 true, .t 9]
theorem yu : FnC Try.prog fa [120, 2000120] 1 rF Try.f148 lu ig := fnC (by kernel_rfl) Try.func148 (by kernel_rfl) (by kernel_rfl) (by decide)
def xl (R : IR → (Ex → St → Ro) → St → Ro) (a : St → Ro) : Ex → St → Ro := (bD a [0, 3, 5, 6, 8, 10, 11, 1000000] 3 (aT 0 (bv (R oX) (fin ig))))
abbrev dO : Type := (Int × Int × Bs × Bss × Int × Bss × Bool × Bs × Int × List aQ × List Int × Int × Int × Bs × List aA × Bss × Int × List ak × Int × Int × Bs × List aB × Bss × Int × Int × Bs × List aB × Bss × Int) ⊕ (Int × Int × Bs × Bss × Int × Bss × Bool × Bs × Int × List aQ × List Int × Int × Int × Bs × List aA × Bss × Int × List ak × Int × Int × Bs × List aB × Bss × Int × Int × Bs × List aB × Bss × Int)
def u9 : (Int × Int × Bs × Bss × Int × Bss × Bool × Bs × Int × List aQ × List Int × Int × Int × Bs × List aA × Bss × Int × List ak × Int × Int × Bs × List aB × Bss × Int × Int × Bs × List aB × Bss × Int) → St := fun (t, u, v, w, x, y, z, x7, x8, x9, a, b, c, d, e, f, g, h, i, j, k, l, m, n, o, p, q, r, s) => { env := (.ptr 0 0 :: .undef :: .undef :: .int .i64 t :: .undef :: .ea [.int .i64 u, .str v, .sl .str (.may false) w, .int .i64 x, .sl .str (.may false) y, .bool z, .str x7, .int .i64 x8, .sl .afield (.may false) x9, .sl (.num .i64) (.may false) a] :: .ea [.int .i64 b, .int .i64 c, .str d, .sl .jnode (.may false) e, .sl .str (.may false) f] :: .undef :: .ptr 1 0 :: .undef :: .ptr 2 0 :: .int .i64 g :: (U 46 [])), hp := [some [.sl .atype (.may false) h, .int .i64 i], some [.int .u64 j, .str k, .sl .aval .own l, .sl .str .own m, .int .i64 n], some [.int .u64 o, .str p, .sl .aval .own q, .sl .str .own r, .int .i64 s]] }
def va : (Int × Int × Bs × Bss × Int × Bss × Bool × Bs × Int × List aQ × List Int × Int × Int × Bs × List aA × Bss × Int × List ak × Int × Int × Bs × List aB × Bss × Int × Int × Bs × List aB × Bss × Int) → St := fun (t, u, v, w, x, y, z, x7, x8, x9, a, b, c, d, e, f, g, h, i, j, k, l, m, n, o, p, q, r, s) => { env := (.ptr 0 0 :: .undef :: .undef :: .int .i64 t :: .undef :: .ea [.int .i64 u, .str v, .sl .str (.may false) w, .int .i64 x, .sl .str (.may false) y, .bool z, .str x7, .int .i64 x8, .sl .afield (.may false) x9, .sl (.num .i64) (.may false) a] :: .ea [.int .i64 b, .int .i64 c, .str d, .sl .jnode (.may false) e, .sl .str (.may false) f] :: .undef :: .ptr 1 0 :: .undef :: .ptr 2 0 :: .int .i64 g :: (U 46 [])), hp := [some [.sl .atype (.may false) h, .int .i64 i], some [.int .u64 j, .str k, .sl .aval .own l, .sl .str .own m, .int .i64 n], some [.int .u64 o, .str p, .sl .aval (.may false) q, .sl .str (.may false) r, .int .i64 s]] }
def dy : dO → St
 | (Sum.inl x) => u9 x
 | (Sum.inr x) => va x
def km (N : Nat) : (St → Ro) → St → Ro := fun a s => run fa N pF (xl (run fa N) a) s
def dP (N : Nat) (m : dO → Ro) (x : dO) : Ro :=
 match x with
 | (Sum.inl (v3, j, q, r, k, t, u, v, w, y, z, aa, ab, ac, a, h, b, o, p, ad, ae, af, ag, ah, d, e, c, f, g)) =>
   let x1 : Int := (↑(List.length a) : Int)
   cond (decide (b < x1)) (
    chk (decide (0 ≤ b) && decide (b < ↑(List.length a))) (
     let x2 : Int := (List.getD a (Int.toNat b) (aC .jnode)).kind
     let x3 : Int := (List.getD a (Int.toNat b) (aC .jnode)).n
     let x4 : Bs := (List.getD a (Int.toNat b) (aC .jnode)).s
     let x5 : List aA := (List.getD a (Int.toNat b) (aC .jnode)).l
     let x6 : Bss := (List.getD a (Int.toNat b) (aC .jnode)).names
     let x7 : Int := (IntKind.wrap .i64 (v3 + 1))
     aF (bG o p k x2 x3 x4 x5 x6 x7) (fun i =>
      cond (!(i.2.2.2.2.2.1 == 0)) (
       some (.tup [.agg [.int .u64 0, .str ([] : Bs), .sl .aval (.may false) ([] : List aB), .sl .str (.may false) ([] : Bss), .int .i64 0], .int .i64 i.2.2.2.2.2.1], [some [.sl .atype (.may false) i.2.2.2.2.2.2.1, .int .i64 i.2.2.2.2.2.2.2], some [.int .u64 0, .str ([] : Bs), .sl .aval .own ([] : List aB), .sl .str .own ([] : Bss), .int .i64 0], some [.int .u64 d, .str e, .sl .aval .own c, .sl .str .own f, .int .i64 g]])) (
       cond (j == 12) (
        chk (decide ((List.length c + List.length ([⟨i.1, i.2.1, i.2.2.1, i.2.2.2.1, i.2.2.2.2.1⟩] : List aB)) * 80 ≤ 140737488355328)) (
         let x8 : List aB := (c ++ ([⟨i.1, i.2.1, i.2.2.1, i.2.2.2.1, i.2.2.2.2.1⟩] : List aB))
         let x9 : Int := (IntKind.wrap .i64 (b + 1))
         m (Sum.inl (v3, j, q, r, k, t, u, v, w, y, z, aa, ab, ac, a, h, x9, i.2.2.2.2.2.2.1, i.2.2.2.2.2.2.2, ad, ae, af, ag, ah, d, e, x8, f, g)))) (
        chk (decide (0 ≤ b) && decide (b < ↑(List.length h))) (
         let am : Bs := List.getD h (Int.toNat b) (aC .str)
         aF (ne d e c f g am i.1 i.2.1 i.2.2.1 i.2.2.2.1 i.2.2.2.2.1) (fun r2 =>
          let an : Int := (IntKind.wrap .i64 (b + 1))
          m (Sum.inr (v3, j, q, r, k, t, u, v, w, y, z, aa, ab, ac, a, h, an, i.2.2.2.2.2.2.1, i.2.2.2.2.2.2.2, ad, ae, af, ag, ah, r2.1, r2.2.1, r2.2.2.1, r2.2.2.2.1, r2.2.2.2.2))))))))) (
    some (.tup [.agg [.int .u64 d, .str e, .sl .aval (.may false) c, .sl .str (.may false) f, .int .i64 g], .int .i64 0], [some [.sl .atype (.may false) o, .int .i64 p], some [.int .u64 d, .str e, .sl .aval (.may false) c, .sl .str (.may false) f, .int .i64 g], some [.int .u64 d, .str e, .sl .aval .own c, .sl .str .own f, .int .i64 g]]))
 | (Sum.inr (v3, j, q, r, k, t, u, v, w, y, z, aa, ab, ac, a, h, b, o, p, ad, ae, af, ag, ah, d, e, c, f, g)) =>
   let ao : Int := (↑(List.length a) : Int)
   cond (decide (b < ao)) (
    chk (decide (0 ≤ b) && decide (b < ↑(List.length a))) (
     let ap : Int := (List.getD a (Int.toNat b) (aC .jnode)).kind
     let aq : Int := (List.getD a (Int.toNat b) (aC .jnode)).n
     let ar : Bs := (List.getD a (Int.toNat b) (aC .jnode)).s
     let au : List aA := (List.getD a (Int.toNat b) (aC .jnode)).l
     let av : Bss := (List.getD a (Int.toNat b) (aC .jnode)).names
     let aw : Int := (IntKind.wrap .i64 (v3 + 1))
     aF (bG o p k ap aq ar au av aw) (fun r3 =>
      cond (!(r3.2.2.2.2.2.1 == 0)) (
       some (.tup [.agg [.int .u64 0, .str ([] : Bs), .sl .aval (.may false) ([] : List aB), .sl .str (.may false) ([] : Bss), .int .i64 0], .int .i64 r3.2.2.2.2.2.1], [some [.sl .atype (.may false) r3.2.2.2.2.2.2.1, .int .i64 r3.2.2.2.2.2.2.2], some [.int .u64 0, .str ([] : Bs), .sl .aval .own ([] : List aB), .sl .str .own ([] : Bss), .int .i64 0], some [.int .u64 d, .str e, .sl .aval (.may false) c, .sl .str (.may false) f, .int .i64 g]])) (
       cond (j == 12) (
        none) (
        chk (decide (0 ≤ b) && decide (b < ↑(List.length h))) (
         let ax : Bs := List.getD h (Int.toNat b) (aC .str)
         aF (ne d e c f g ax r3.1 r3.2.1 r3.2.2.1 r3.2.2.2.1 r3.2.2.2.2.1) (fun r4 =>
          let ay : Int := (IntKind.wrap .i64 (b + 1))
          m (Sum.inr (v3, j, q, r, k, t, u, v, w, y, z, aa, ab, ac, a, h, ay, r3.2.2.2.2.2.2.1, r3.2.2.2.2.2.2.2, ad, ae, af, ag, ah, r4.1, r4.2.1, r4.2.2.1, r4.2.2.2.1, r4.2.2.2.2))))))))) (
    some (.tup [.agg [.int .u64 d, .str e, .sl .aval (.may false) c, .sl .str (.may false) f, .int .i64 g], .int .i64 0], [some [.sl .atype (.may false) o, .int .i64 p], some [.int .u64 d, .str e, .sl .aval (.may false) c, .sl .str (.may false) f, .int .i64 g], some [.int .u64 d, .str e, .sl .aval (.may false) c, .sl .str (.may false) f, .int .i64 g]]))
theorem wb (N : Nat) : ∀ (a : St → Ro) (x : dO), km N a (dy x) = dP N (fun y => a (dy y)) x := by
 intro a x
 rcases x with x | x <;> kernel_rfl
def eB (N : Nat) (a : List ak) (b c : Int) (d : Bs) (e : Bss) (f : Int) (g : Bss) (h : Bool) (i : Bs) (j : Int) (k : List aQ) (l : List Int) (m n : Int) (o : Bs) (p : List aA) (q : Bss) (r : Int) (s : dO → Ro) : Ro :=
 s (Sum.inl (r, c, d, e, f, g, h, i, j, k, l, m, n, o, p, q, 0, a, b, 0, ([] : Bs), ([] : List aB), ([] : Bss), 0, 0, ([] : Bs), ([] : List aB), ([] : Bss), 0))
def lv (N : Nat) (a : List ak) (b c : Int) (d : Bs) (e : Bss) (f : Int) (g : Bss) (h : Bool) (i : Bs) (j : Int) (k : List aQ) (l : List Int) (m n : Int) (o : Bs) (p : List aA) (q : Bss) (r : Int) : Ro := eB N a b c d e f g h i j k l m n o p q r (fun z => aW N (dP N) z)
def zI (N : Nat) : List (Nat × (St → Ro)) := ba fa N lu (fin ig) ++ []
theorem xm (N : Nat) (a : List ak) (c d : Int) (e : Bs) (f : Bss) (g : Int) (h : Bss) (i : Bool) (j : Bs) (k : Int) (l : List aQ) (m : List Int) (n o : Int) (p : Bs) (q : List aA) (r : Bss) (s : Int) : bb fa N 58 ig lu [.ptr 0 0, .agg [.int .i64 d, .str e, .sl .str (.may false) f, .int .i64 g, .sl .str (.may false) h, .bool i, .str j, .int .i64 k, .sl .afield (.may false) l, .sl (.num .i64) (.may false) m], .agg [.int .i64 n, .int .i64 o, .str p, .sl .jnode (.may false) q, .sl .str (.may false) r], .int .i64 s] [some [.sl .atype (.may false) a, .int .i64 c]] = lv N a c d e f g h i j k l m n o p q r s :=
 (bH (zI N) (by kernel_rfl) rfl (fun C => eB N a c d e f g h i j k l m n o p q r s (fun z => C 1000000 (dy z))) (fun C => by kernel_rfl)).trans (Eq.trans (b := eB N a c d e f g h i j k l m n o p q r s (fun z => bi N (km N) (dy z))) (by kernel_rfl) (congrArg (eB N a c d e f g h i j k l m n o p q r s) (funext fun z => bj (dy) (km N) (dP N) (wb N) N z)))
theorem xn (N : Nat) (a : List ak) (b c : Int) (d : Bs) (e : Bss) (f : Int) (g : Bss) (i : Bool) (j : Bs) (k : Int) (l : List aQ) (m : List Int) (n o : Int) (p : Bs) (q : List aA) (s : Bss) (w : Int) (h : Tot (lv N a b c d e f g i j k l m n o p q s w) (fun z => ∃ (x : Int) (y : Bs) (y2 : List aB) (y3 : Bss) (y4 : Int) (y5 : Int) (t : List ak) (u : Int) (rest : List aI), z.1.dimR = .tup [.agg [.int .u64 x, .str y, .sl .aval (.may false) y2, .sl .str (.may false) y3, .int .i64 y4], .int .i64 y5] ∧ z.2 = some [.sl .atype (.may false) t, .int .i64 u] :: rest ∧ pE a b c d e f g i j k l m n o p q s w (x, y, y2, y3, y4, y5, t, u))) : ∃ r, eX a b c d e f g i j k l m n o p q s w r := by
 obtain ⟨⟨v, hp⟩, hz, x, y, y2, y3, y4, y5, t, u, rest, e1, e2, hq⟩ := h
 simp only at e1 e2
 subst e2
 exact ⟨(x, y, y2, y3, y4, y5, t, u), aY.dimR (FnC.objs (css := [[.sl .atype (.may false) a, .int .i64 b]]) (css' := [[.sl .atype (.may false) t, .int .i64 u]]) yu (xm N a b c d e f g i j k l m n o p q s w) hz rfl) e1, hq⟩
noncomputable def eC : aM := tab (P := Try.prog) [] [iM] [] [mb]
def nU : IR := Sq (Rs [Mv 18 11, Fa 19 8 5, Lq 20 19, Ll 21 20, Bi 22 .lss 18 21] (Cn 22 .skip (.exit 0))) (Sq (.block 1 (Rs [Fa 25 8 5, Lq 26 25, Mv 27 11, Ix 28 .afield 26 27, Ld 29 9 true 28, Pp (.alr 12 9), Fz 12 9 29] (Rs [Ld 31 5 true 6, Fa 32 0 12, Lq 33 32, Ca 34 113 [31, 33], Mv 30 34, Ex_ 35 0 30, Ex_ 36 1 30, Pp (.new 13 [vI 0, vI 0, vS, nl .jnode, nl .str]), Sv 5 13 35, Mv 14 36] (Sq (Rs [Mv 37 14, Un 38 37] (Cn 38 (Sq (Rs [Fa 39 3 12, Lq 40 39, Un 41 40] (Cn 41 (Rs [Pp (.bld 42 [vU 0, vS, nl .aval, nl .str, vI 0] []), Sv 5 8 42, Mi 9 7] .ret) .skip)) (Rg [Fa 43 4 12, Ld 44 5 true 43, Sv 5 13 44])) .skip)) (Rs [Mv 46 0, Fa 47 2 12, Lq 48 47, Pp (.ld 49 5 true false 13), Mv 50 3, Bc 51 .add 50 1, Ca 52 120 [46, 48, 49, 51], Mv 45 52, Ex_ 53 0 45, Ex_ 54 1 45, Pp (.alr 15 5), Fz 15 5 53, Mv 16 54] (Sq (Rs [Mv 55 16, Bc 56 .neq 55 0] (Cn 56 (Rs [Pp (.bld 57 [vU 0, vS, nl .aval, nl .str, vI 0] []), Mv 58 16, Sv 5 8 57, Mv 9 58] .ret) .skip)) (Rg [Fa 59 2 10, Pp (.ld 60 1 false true 59), Ld 61 5 true 15, Pp (.bsl 62 .aval [61] true), Pp (.app 63 .aval (.tk 60) 62), Fa 64 2 10, Sk 1 64 63]))))))) (Rg [Mv 23 11, Bc 24 .add 23 1, Mv 11 24]))
def nV : IR := Rs [Pp (.ld 65 5 true false 10), Sv 5 8 65, Mi 9 0] .ret
def kn : IR := Rs [Bx 5 1, Bx 6 2, Pp (.new 8 [vU 0, vS, nl .aval, nl .str, vI 0]), Mi 9 0] (Rs [Pp (.bld 17 [vU 0, vS, nl .aval, nl .str, vI 0] []), Pp (.new 10 [vU 0, vS, nl .aval, nl .str, vI 0]), Sv 5 10 17] (Sq (Rs [Mi 11 0] (.block 0 (.loop [0, 3, 5, 6, 8, 10, 11, 1000000] 3 nU))) nV))
def gw : List RV := [.cell 8 5 true, .t 9]
theorem xo : FnC Try.prog eC [120, 2000120] 1 rc Try.f149 kn gw := fnC (by kernel_rfl) Try.func149 (by kernel_rfl) (by kernel_rfl) (by decide)
def wc (R : IR → (Ex → St → Ro) → St → Ro) (a : St → Ro) : Ex → St → Ro := (bD a [0, 3, 5, 6, 8, 10, 11, 1000000] 3 (aT 0 (bv (R nV) (fin gw))))
abbrev dz : Type := (Int × Int × Bs × Bss × Int × Bss × Bool × Bs × Int × List aQ × List Int × Int × Int × Bs × List aA × Bss × Int × List ak × Int × Int × Bs × List aB × Bss × Int × Int × Bs × List aB × Bss × Int)
def dn : dz → St := fun (t, u, v, w, x, y, z, x7, x8, x9, a, b, c, d, e, f, g, h, i, j, k, l, m, n, o, p, q, r, s) => { env := (.ptr 0 0 :: .undef :: .undef :: .int .i64 t :: .undef :: .ea [.int .i64 u, .str v, .sl .str (.may false) w, .int .i64 x, .sl .str (.may false) y, .bool z, .str x7, .int .i64 x8, .sl .afield (.may false) x9, .sl (.num .i64) (.may false) a] :: .ea [.int .i64 b, .int .i64 c, .str d, .sl .jnode (.may false) e, .sl .str (.may false) f] :: .undef :: .ptr 1 0 :: .undef :: .ptr 2 0 :: .int .i64 g :: (U 54 [])), hp := [some [.sl .atype (.may false) h, .int .i64 i], some [.int .u64 j, .str k, .sl .aval .own l, .sl .str .own m, .int .i64 n], some [.int .u64 o, .str p, .sl .aval .own q, .sl .str .own r, .int .i64 s]] }
def jH (N : Nat) : (St → Ro) → St → Ro := fun a s => run eC N nU (wc (run eC N) a) s
def fI (N : Nat) (k : dz → Ro) : dz → Ro := fun (v3, v, w, x, y, z, aa, ab, ac, a, ad, p, q, r, t, u, c, m, o, ae, af, ag, ah, ai, d, e, b, f, g) =>
 let x1 : Int := (↑(List.length a) : Int)
 cond (decide (c < x1)) (
 chk (decide (0 ≤ c) && decide (c < ↑(List.length a))) (
 let x2 : Bs := (List.getD a (Int.toNat c) (aC .afield)).name
 let x4 : Int := (List.getD a (Int.toNat c) (aC .afield)).typ
 let x5 : Bool := (List.getD a (Int.toNat c) (aC .afield)).hasdef
 let x6 : Int := (List.getD a (Int.toNat c) (aC .afield)).df.kind
 let x7 : Int := (List.getD a (Int.toNat c) (aC .afield)).df.n
 let x8 : Bs := (List.getD a (Int.toNat c) (aC .afield)).df.s
 let x9 : List aA := (List.getD a (Int.toNat c) (aC .afield)).df.l
 let aj : Bss := (List.getD a (Int.toNat c) (aC .afield)).df.names
 aF (b7 p q r t u x2) (fun h =>
 cond (!h.2.2.2.2.2) (
 cond (!x5) (
 some (.tup [.agg [.int .u64 0, .str ([] : Bs), .sl .aval (.may false) ([] : List aB), .sl .str (.may false) ([] : Bss), .int .i64 0], .int .i64 7], [some [.sl .atype (.may false) m, .int .i64 o], some [.int .u64 0, .str ([] : Bs), .sl .aval .own ([] : List aB), .sl .str .own ([] : Bss), .int .i64 0], some [.int .u64 d, .str e, .sl .aval .own b, .sl .str .own f, .int .i64 g], some [.int .i64 h.1, .int .i64 h.2.1, .str h.2.2.1, .sl .jnode (.may false) h.2.2.2.1, .sl .str (.may false) h.2.2.2.2.1]])) (
 let al : Int := (IntKind.wrap .i64 (v3 + 1))
 aF (bG m o x4 x6 x7 x8 x9 aj al) (fun i =>
 cond (!(i.2.2.2.2.2.1 == 0)) (
 some (.tup [.agg [.int .u64 0, .str ([] : Bs), .sl .aval (.may false) ([] : List aB), .sl .str (.may false) ([] : Bss), .int .i64 0], .int .i64 i.2.2.2.2.2.1], [some [.sl .atype (.may false) i.2.2.2.2.2.2.1, .int .i64 i.2.2.2.2.2.2.2], some [.int .u64 0, .str ([] : Bs), .sl .aval .own ([] : List aB), .sl .str .own ([] : Bss), .int .i64 0], some [.int .u64 d, .str e, .sl .aval .own b, .sl .str .own f, .int .i64 g], some [.int .i64 x6, .int .i64 x7, .str x8, .sl .jnode (.may false) x9, .sl .str (.may false) aj]])) (
 chk (decide ((List.length b + List.length ([⟨i.1, i.2.1, i.2.2.1, i.2.2.2.1, i.2.2.2.2.1⟩] : List aB)) * 80 ≤ 140737488355328)) (
 let am : List aB := (b ++ ([⟨i.1, i.2.1, i.2.2.1, i.2.2.2.1, i.2.2.2.2.1⟩] : List aB))
 let an : Int := (IntKind.wrap .i64 (c + 1))
 k (v3, v, w, x, y, z, aa, ab, ac, a, ad, p, q, r, t, u, an, i.2.2.2.2.2.2.1, i.2.2.2.2.2.2.2, ae, af, ag, ah, ai, d, e, am, f, g)))))) (
 let ao : Int := (IntKind.wrap .i64 (v3 + 1))
 aF (bG m o x4 h.1 h.2.1 h.2.2.1 h.2.2.2.1 h.2.2.2.2.1 ao) (fun j =>
 cond (!(j.2.2.2.2.2.1 == 0)) (
 some (.tup [.agg [.int .u64 0, .str ([] : Bs), .sl .aval (.may false) ([] : List aB), .sl .str (.may false) ([] : Bss), .int .i64 0], .int .i64 j.2.2.2.2.2.1], [some [.sl .atype (.may false) j.2.2.2.2.2.2.1, .int .i64 j.2.2.2.2.2.2.2], some [.int .u64 0, .str ([] : Bs), .sl .aval .own ([] : List aB), .sl .str .own ([] : Bss), .int .i64 0], some [.int .u64 d, .str e, .sl .aval .own b, .sl .str .own f, .int .i64 g], some [.int .i64 h.1, .int .i64 h.2.1, .str h.2.2.1, .sl .jnode (.may false) h.2.2.2.1, .sl .str (.may false) h.2.2.2.2.1]])) (
 chk (decide ((List.length b + List.length ([⟨j.1, j.2.1, j.2.2.1, j.2.2.2.1, j.2.2.2.2.1⟩] : List aB)) * 80 ≤ 140737488355328)) (
 let ap : List aB := (b ++ ([⟨j.1, j.2.1, j.2.2.1, j.2.2.2.1, j.2.2.2.2.1⟩] : List aB))
 let aq : Int := (IntKind.wrap .i64 (c + 1))
 k (v3, v, w, x, y, z, aa, ab, ac, a, ad, p, q, r, t, u, aq, j.2.2.2.2.2.2.1, j.2.2.2.2.2.2.2, ae, af, ag, ah, ai, d, e, ap, f, g)))))))) (
 some (.tup [.agg [.int .u64 d, .str e, .sl .aval (.may false) b, .sl .str (.may false) f, .int .i64 g], .int .i64 0], [some [.sl .atype (.may false) m, .int .i64 o], some [.int .u64 d, .str e, .sl .aval (.may false) b, .sl .str (.may false) f, .int .i64 g], some [.int .u64 d, .str e, .sl .aval .own b, .sl .str .own f, .int .i64 g]]))
theorem vT (N : Nat) : ∀ (a : St → Ro) (x : dz), jH N a (dn x) = fI N (fun y => a (dn y)) x := by
 intro a x
 kernel_rfl
def dQ (N : Nat) (a : List ak) (b c : Int) (d : Bs) (e : Bss) (f : Int) (g : Bss) (h : Bool) (i : Bs) (j : Int) (k : List aQ) (l : List Int) (m n : Int) (o : Bs) (p : List aA) (q : Bss) (r : Int) (s : dz → Ro) : Ro :=
 s (r, c, d, e, f, g, h, i, j, k, l, m, n, o, p, q, 0, a, b, 0, ([] : Bs), ([] : List aB), ([] : Bss), 0, 0, ([] : Bs), ([] : List aB), ([] : Bss), 0)
def ko (N : Nat) (a : List ak) (b c : Int) (d : Bs) (e : Bss) (f : Int) (g : Bss) (h : Bool) (i : Bs) (j : Int) (k : List aQ) (l : List Int) (m n : Int) (o : Bs) (p : List aA) (q : Bss) (r : Int) : Ro := dQ N a b c d e f g h i j k l m n o p q r (fun z => aW N (fI N) z)
def yv (N : Nat) : List (Nat × (St → Ro)) := ba eC N kn (fin gw) ++ []
theorem wd (N : Nat) (a : List ak) (c d : Int) (e : Bs) (f : Bss) (g : Int) (h : Bss) (i : Bool) (j : Bs) (k : Int) (l : List aQ) (m : List Int) (n o : Int) (p : Bs) (q : List aA) (r : Bss) (s : Int) : bb eC N 66 gw kn [.ptr 0 0, .agg [.int .i64 d, .str e, .sl .str (.may false) f, .int .i64 g, .sl .str (.may false) h, .bool i, .str j, .int .i64 k, .sl .afield (.may false) l, .sl (.num .i64) (.may false) m], .agg [.int .i64 n, .int .i64 o, .str p, .sl .jnode (.may false) q, .sl .str (.may false) r], .int .i64 s] [some [.sl .atype (.may false) a, .int .i64 c]] = ko N a c d e f g h i j k l m n o p q r s :=
 (bH (yv N) (by kernel_rfl) rfl (fun C => dQ N a c d e f g h i j k l m n o p q r s (fun z => C 1000000 (dn z))) (fun C => by kernel_rfl)).trans (Eq.trans (b := dQ N a c d e f g h i j k l m n o p q r s (fun z => bi N (jH N) (dn z))) (by kernel_rfl) (congrArg (dQ N a c d e f g h i j k l m n o p q r s) (funext fun z => bj (dn) (jH N) (fI N) (vT N) N z)))
theorem we (N : Nat) (a : List ak) (b c : Int) (d : Bs) (e : Bss) (f : Int) (g : Bss) (i : Bool) (j : Bs) (k : Int) (l : List aQ) (m : List Int) (n o : Int) (p : Bs) (q : List aA) (s : Bss) (w : Int) (h : Tot (ko N a b c d e f g i j k l m n o p q s w) (fun z => ∃ (x : Int) (y : Bs) (y2 : List aB) (y3 : Bss) (y4 : Int) (y5 : Int) (t : List ak) (u : Int) (rest : List aI), z.1.dimR = .tup [.agg [.int .u64 x, .str y, .sl .aval (.may false) y2, .sl .str (.may false) y3, .int .i64 y4], .int .i64 y5] ∧ z.2 = some [.sl .atype (.may false) t, .int .i64 u] :: rest ∧ oo a b c d e f g i j k l m n o p q s w (x, y, y2, y3, y4, y5, t, u))) : ∃ r, ey a b c d e f g i j k l m n o p q s w r := by
 obtain ⟨⟨v, hp⟩, hz, x, y, y2, y3, y4, y5, t, u, rest, e1, e2, hq⟩ := h
 simp only at e1 e2
 subst e2
 exact ⟨(x, y, y2, y3, y4, y5, t, u), aY.dimR (FnC.objs (css := [[.sl .atype (.may false) a, .int .i64 b]]) (css' := [[.sl .atype (.may false) t, .int .i64 u]]) xo (wd N a b c d e f g i j k l m n o p q s w) hz rfl) e1, hq⟩
noncomputable def aK : aM := tab (P := Try.prog) [] [iM, zv, xW] [] [ah0, agC, aje]
def fJ : IR := Cn 68 .skip (Rg [Fa 85 0 10, Lq 86 85, Bc 87 .eql 86 4, Mv 88 87, Gt 88 (.mov 89 11), Pa 90 88 89, Mv 68 90])
def oY : IR := Cn 162 (Rs [Mv 163 12, Pp (.bld 164 [vU 0, vS, nl .aval, nl .str, vI 0] [(1, 1, 163)]), Sv 5 8 164, Mi 9 0] .ret) .skip
def oZ : IR := Sq (Rs [Mv 174 14, Fa 175 4 10, Lq 176 175, Ll 177 176, Bi 178 .lss 174 177] (Cn 178 .skip (.exit 1))) (Sq (.block 2 (Sq (.reg [Fa 181 4 10, Lq 182 181, Mv 183 14, Ix 184 .str 182 183, Lq 185 184, Fa 186 2 6, Lq 187 186, Bi 188 .eql 185 187] [[], [0], [], [0, 1, 2], rg 0 3, [], [5], rg 0 6]) (Cn 188 (Rs [Mv 189 14, Pp (.cvi 190 .u64 189), Pp (.bld 191 [vU 0, vS, nl .aval, nl .str, vI 0] [(0, 1, 190)]), Sv 5 8 191, Mi 9 0] .ret) .skip))) (Rg [Mv 179 14, Bc 180 .add 179 1, Mv 14 180]))
def pa : IR := Cn 192 (Rs [Mv 209 0, Ld 210 10 true 10, Ld 211 5 true 6, Mv 212 3, Ca 213 148 [209, 210, 211, 212], Ex_ 214 0 213, Ex_ 215 1 213, Sv 5 8 214, Mv 9 215] .ret) (Rs [Fa 217 0 10, Lq 218 217, Bc 219 .eql 218 9, Mv 220 219, Gt 220 (.fad 221 0 6), Gt 220 (.lde 222 1 false 221), Gt 220 (.bin 223 .eql 222 (kI 6)), Pa 224 220 223, Mv 216 224] (Cn 216 (Rs [Mv 225 0, Ld 226 10 true 10, Ld 227 5 true 6, Mv 228 3, Ca 229 149 [225, 226, 227, 228], Ex_ 230 0 229, Ex_ 231 1 229, Sv 5 8 230, Mv 9 231] .ret) (Rs [Fa 233 0 10, Lq 234 233, Bc 235 .eql 234 14, Mv 232 235] (Cn 232 (Sq (.reg [Mv 237 0, Fa 238 9 10, Lq 239 238, Pp (.ixa 240 (.num .i64) 239 (kI 0)), Lq 241 240, Ld 242 5 true 6, Mv 243 3, Bc 244 .add 243 1, Fo [] [0] (.call 245 120 [237, 241, 242, 244]), Mv 236 245, Ex_ 246 0 236, Ex_ 247 1 236, Pp (.alr 15 5), Fz 15 5 246, Mv 16 247] [[], [], [1], [1, 2], [1, 2, 3], [], [], [6], rg 0 7, rg 0 8, rg 0 9, rg 0 9, [], rg 0 10 ++ [12], rg 0 13]) (Rs [Ld 248 5 true 15, Pp (.bsl 249 .aval [248] true), Pp (.bld 250 [vU 0, vS, nl .aval, nl .str, vI 0] [(2, 1, 249)]), Mv 251 16, Sv 5 8 250, Mv 9 251] .ret)) .skip))))
def fb : IR := Cn 130 (Rs [Fa 145 2 6, Lq 146 145, Ca 147 147 [146], Mv 144 147, Ex_ 148 0 144, Ex_ 149 1 144, Mv 12 148, Mv 13 149] (Rs [Mv 150 13, Mv 151 150, Gt 151 (.fad 152 0 10), Gt 151 (.lde 153 1 false 152), Gt 151 (.bin 154 .eql 153 (kI 7)), Gt 151 (.mov 155 154), Gf 155 (.mov 156 12), Gf 155 (.lens 157 156), Gf 155 (.fad 158 7 10), Gf 155 (.lde 159 1 false 158), Gf 155 (.bin 160 .eql 157 159), Gt 151 (.pick 161 155 (kB true) 160), Pa 162 151 161] (.cut [8, 12, 162, 1000001] 2 oY))) (Rs [Fa 166 0 10, Lq 167 166, Bc 168 .eql 167 10, Mv 169 168, Gt 169 (.fad 170 0 6), Gt 169 (.lde 171 1 false 170), Gt 169 (.bin 172 .eql 171 (kI 4)), Pa 173 169 172, Mv 165 173] (Cn 165 (Rs [Mi 14 0] (.block 1 (.loop [6, 8, 10, 14, 1000002] 2 oZ))) (Sq (Rs [Fa 193 0 10, Lq 194 193, Bc 195 .eql 194 12, Mv 196 195, Gt 196 (.fad 197 0 6), Gt 196 (.lde 198 1 false 197), Gt 196 (.bin 199 .eql 198 (kI 5)), Pa 200 196 199, Mv 192 200] (Cn 192 .skip (Rg [Fa 201 0 10, Lq 202 201, Bc 203 .eql 202 13, Mv 204 203, Gt 204 (.fad 205 0 6), Gt 204 (.lde 206 1 false 205), Gt 204 (.bin 207 .eql 206 (kI 6)), Pa 208 204 207, Mv 192 208]))) (.cut [0, 3, 6, 8, 10, 192, 1000003] 2 pa))))
def fc : IR := Cn 68 (Rs [Fa 91 1 6, Lq 92 91, Pp (.cvi 93 .u64 92), Pp (.bld 94 [vU 0, vS, nl .aval, nl .str, vI 0] [(0, 1, 93)]), Sv 5 8 94, Mi 9 0] .ret) (Rs [Fa 96 0 10, Lq 97 96, Bc 98 .eql 97 5, Mv 99 98, Gt 99 (.mov 100 11), Pa 101 99 100, Mv 95 101] (Cn 95 (Rs [Fa 102 1 6, Lq 103 102, Ca 104 132 [103], Pp (.cvi 105 .u64 104), Pp (.bld 106 [vU 0, vS, nl .aval, nl .str, vI 0] [(0, 1, 105)]), Sv 5 8 106, Mi 9 0] .ret) (Rs [Fa 108 0 10, Lq 109 108, Bc 110 .eql 109 6, Mv 111 110, Gt 111 (.mov 112 11), Pa 113 111 112, Mv 107 113] (Cn 107 (Rs [Fa 114 1 6, Lq 115 114, Ca 116 133 [115], Pp (.bld 117 [vU 0, vS, nl .aval, nl .str, vI 0] [(0, 1, 116)]), Sv 5 8 117, Mi 9 0] .ret) (Rs [Fa 119 0 10, Lq 120 119, Bc 121 .eql 120 8, Mv 122 121, Gt 122 (.fad 123 0 6), Gt 122 (.lde 124 1 false 123), Gt 122 (.bin 125 .eql 124 (kI 4)), Pa 126 122 125, Mv 118 126] (Cn 118 (Rs [Fa 127 2 6, Lq 128 127, Pp (.bld 129 [vU 0, vS, nl .aval, nl .str, vI 0] [(1, 1, 128)]), Sv 5 8 129, Mi 9 0] .ret) (Rs [Fa 131 0 10, Lq 132 131, Bc 133 .eql 132 7, Mv 134 133, Gf 134 (.fad 135 0 10), Gf 134 (.lde 136 1 false 135), Gf 134 (.bin 137 .eql 136 (kI 11)), Po 138 134 137, Mv 139 138, Gt 139 (.fad 140 0 6), Gt 139 (.lde 141 1 false 140), Gt 139 (.bin 142 .eql 141 (kI 4)), Pa 143 139 142, Mv 130 143] (.cut [0, 3, 6, 8, 10, 130, 1000004] 2 fb))))))))
def jv : IR := .cut [0, 3, 6, 8, 10, 11, 68, 1000005] 2 fc
def b6 : IR := Rs [Pp (.bld 252 [vU 0, vS, nl .aval, nl .str, vI 0] []), Sv 5 8 252, Mi 9 7] .ret
def lw : IR := Rs [Bx 6 2, Pp (.new 8 [vU 0, vS, nl .aval, nl .str, vI 0]), Mi 9 0] (Rs [Mv 17 0, Nk 18 17, Fa 19 1 18, Lo 20 19, Bc 21 .add 20 1, Nk 22 17, Fa 23 1 22, Sv 1 23 21] (Sq (Rs [Mv 24 3, Bc 25 .gtr 24 20, Mv 26 25, Gf 26 (.mov 27 0), Gf 26 (.nck 28 27), Gf 26 (.fad 29 1 28), Gf 26 (.ld 30 1 false false 29), Gf 26 (.bin 31 .gtr 30 (kI 2000)), Po 32 26 31] (Cn 32 (Rs [Pp (.bld 33 [vU 0, vS, nl .aval, nl .str, vI 0] []), Sv 5 8 33, Mi 9 3] .ret) .skip)) (Rs [Mv 34 0, Nk 35 34, Fa 36 0 35, Fa 37 0 36, Lo 38 37, Mv 39 1, Ix 40 .atype 38 39, Ld 41 10 true 40, Pp (.alr 10 10), Fz 10 10 41] (Rs [Fa 42 0 6, Lq 43 42, Bc 44 .eql 43 3, Mv 11 44] (Sq (.block 0 (Rs [Fa 46 0 10, Lq 47 46, Bc 48 .eql 47 1, Mv 49 48, Gt 49 (.fad 50 0 6), Gt 49 (.lde 51 1 false 50), Gt 49 (.bin 52 .eql 51 (kI 1)), Pa 53 49 52, Mv 45 53] (Cn 45 (Rs [Pp (.bld 54 [vU 0, vS, nl .aval, nl .str, vI 0] []), Sv 5 8 54, Mi 9 0] .ret) (Rs [Fa 56 0 10, Lq 57 56, Bc 58 .eql 57 2, Mv 59 58, Gt 59 (.fad 60 0 6), Gt 59 (.lde 61 1 false 60), Gt 59 (.bin 62 .eql 61 (kI 2)), Pa 63 59 62, Mv 55 63] (Cn 55 (Rs [Fa 64 1 6, Lq 65 64, Pp (.cvi 66 .u64 65), Pp (.bld 67 [vU 0, vS, nl .aval, nl .str, vI 0] [(0, 1, 66)]), Sv 5 8 67, Mi 9 0] .ret) (Sq (Rs [Fa 69 0 10, Lq 70 69, Bc 71 .eql 70 3, Mv 72 71, Gt 72 (.mov 73 11), Pa 74 72 73, Mv 75 74, Gt 75 (.fad 76 1 6), Gt 75 (.lde 77 1 false 76), Gt 75 (.bin 78 .geq 77 (kI (-2147483648))), Pa 79 75 78, Mv 80 79, Gt 80 (.fad 81 1 6), Gt 80 (.lde 82 1 false 81), Gt 80 (.bin 83 .lss 82 (kI 2147483648)), Pa 84 80 83, Mv 68 84] (.cut [0, 3, 6, 8, 10, 11, 68, 1000000] 2 fJ)) jv)))))) b6)))))
def bP : List RV := [.cell 8 5 true, .t 9]
theorem yw : FnC Try.prog aK [120, 148, 149, 2000120, 2000148, 2000149] 1 rG Try.f120 lw bP := fnC (by kernel_rfl) Try.func120 (by kernel_rfl) (by kernel_rfl) (by decide)
abbrev dR : Type := (Int × Int × Int × Bs × List aA × Bss × Int × Bs × Bss × Int × Bss × Bool × Bs × Int × List aQ × List Int × Bool × Bool × List ak × Int × Int × Bs × List aB × Bss × Int)
def dA : dR → St := fun (p, q, r, s, t, u, v, w, x, y, a, b, c, d, e, f, g, h, i, j, k, l, m, n, o) => { env := (.ptr 0 0 :: .undef :: .undef :: .int .i64 p :: .undef :: .undef :: .ea [.int .i64 q, .int .i64 r, .str s, .sl .jnode (.may false) t, .sl .str (.may false) u] :: .undef :: .ptr 1 0 :: .undef :: .ea [.int .i64 v, .str w, .sl .str (.may false) x, .int .i64 y, .sl .str (.may false) a, .bool b, .str c, .int .i64 d, .sl .afield (.may false) e, .sl (.num .i64) (.may false) f] :: .bool g :: (U 56 (.bool h :: (U 184 [])))), hp := [some [.sl .atype (.may false) i, .int .i64 j], some [.int .u64 k, .str l, .sl .aval .own m, .sl .str .own n, .int .i64 o]] }
def kp (R : IR → (Ex → St → Ro) → St → Ro) : Ex → St → Ro := (bv (R jv) (aT 0 (bv (R b6) (fin bP))))
abbrev dS : Type := (Int × Int × Int × Bs × List aA × Bss × Int × Bs × Bss × Int × Bss × Bool × Bs × Int × List aQ × List Int × Bool × Bool × List ak × Int × Int × Bs × List aB × Bss × Int)
def cF : dS → St := fun (p, q, r, s, t, u, v, w, x, y, a, b, c, d, e, f, g, h, i, j, k, l, m, n, o) => { env := (.ptr 0 0 :: .undef :: .undef :: .int .i64 p :: .undef :: .undef :: .ea [.int .i64 q, .int .i64 r, .str s, .sl .jnode (.may false) t, .sl .str (.may false) u] :: .undef :: .ptr 1 0 :: .undef :: .ea [.int .i64 v, .str w, .sl .str (.may false) x, .int .i64 y, .sl .str (.may false) a, .bool b, .str c, .int .i64 d, .sl .afield (.may false) e, .sl (.num .i64) (.may false) f] :: .bool g :: (U 56 (.bool h :: (U 184 [])))), hp := [some [.sl .atype (.may false) i, .int .i64 j], some [.int .u64 k, .str l, .sl .aval .own m, .sl .str .own n, .int .i64 o]] }
def bJ (R : IR → (Ex → St → Ro) → St → Ro) : Ex → St → Ro := (aT 0 (bv (R b6) (fin bP)))
abbrev dT : Type := (Int × Int × Int × Bs × List aA × Bss × Int × Bs × Bss × Int × Bss × Bool × Bs × Int × List aQ × List Int × Bool × List ak × Int × Int × Bs × List aB × Bss × Int)
def cG : dT → St := fun (o, p, q, r, s, t, u, v, w, x, a, b, c, d, e, f, g, h, i, j, k, l, m, n) => { env := (.ptr 0 0 :: .undef :: .undef :: .int .i64 o :: .undef :: .undef :: .ea [.int .i64 p, .int .i64 q, .str r, .sl .jnode (.may false) s, .sl .str (.may false) t] :: .undef :: .ptr 1 0 :: .undef :: .ea [.int .i64 u, .str v, .sl .str (.may false) w, .int .i64 x, .sl .str (.may false) a, .bool b, .str c, .int .i64 d, .sl .afield (.may false) e, .sl (.num .i64) (.may false) f] :: (U 119 (.bool g :: (U 122 [])))), hp := [some [.sl .atype (.may false) h, .int .i64 i], some [.int .u64 j, .str k, .sl .aval .own l, .sl .str .own m, .int .i64 n]] }
abbrev gz : Type := (Bs × Bool × List ak × Int × Int × Bs × List aB × Bss × Int)
def fK : gz → St := fun (a, b, c, d, e, f, g, h, i) => { env := (U 8 (.ptr 1 0 :: (U 3 (.str a :: (U 149 (.bool b :: (U 90 []))))))), hp := [some [.sl .atype (.may false) c, .int .i64 d], some [.int .u64 e, .str f, .sl .aval .own g, .sl .str .own h, .int .i64 i]] }
def kq (N : Nat) : St → Ro := fun s => run aK N oY (bJ (run aK N)) s
def dU (N : Nat) : gz → Ro := fun (c, d, a, b, _, _, _, _, _) =>
 cond d (
 some (.tup [.agg [.int .u64 0, .str c, .sl .aval (.may false) ([] : List aB), .sl .str (.may false) ([] : Bss), .int .i64 0], .int .i64 0], [some [.sl .atype (.may false) a, .int .i64 b], some [.int .u64 0, .str c, .sl .aval .own ([] : List aB), .sl .str .own ([] : Bss), .int .i64 0]])) (
 some (.tup [.agg [.int .u64 0, .str ([] : Bs), .sl .aval (.may false) ([] : List aB), .sl .str (.may false) ([] : Bss), .int .i64 0], .int .i64 7], [some [.sl .atype (.may false) a, .int .i64 b], some [.int .u64 0, .str ([] : Bs), .sl .aval .own ([] : List aB), .sl .str .own ([] : Bss), .int .i64 0]]))
theorem wg (N : Nat) : ∀ (x : gz), kq N (fK x) = dU N x := by
 intro x
 kernel_rfl
def xp (R : IR → (Ex → St → Ro) → St → Ro) (a : St → Ro) : Ex → St → Ro := (bD a [6, 8, 10, 14, 1000002] 2 (aT 1 (bJ R)))
abbrev dV : Type := (Int × Int × Bs × List aA × Bss × Int × Bs × Bss × Int × Bss × Bool × Bs × Int × List aQ × List Int × Int × List ak × Int × Int × Bs × List aB × Bss × Int)
def cH : dV → St := fun (n, o, p, q, r, s, t, u, v, w, a, b, c, d, e, f, g, h, i, j, k, l, m) => { env := (U 6 (.ea [.int .i64 n, .int .i64 o, .str p, .sl .jnode (.may false) q, .sl .str (.may false) r] :: .undef :: .ptr 1 0 :: .undef :: .ea [.int .i64 s, .str t, .sl .str (.may false) u, .int .i64 v, .sl .str (.may false) w, .bool a, .str b, .int .i64 c, .sl .afield (.may false) d, .sl (.num .i64) (.may false) e] :: (U 3 (.int .i64 f :: (U 238 []))))), hp := [some [.sl .atype (.may false) g, .int .i64 h], some [.int .u64 i, .str j, .sl .aval .own k, .sl .str .own l, .int .i64 m]] }
def gA (N : Nat) : (St → Ro) → St → Ro := fun a s => run aK N oZ (xp (run aK N) a) s
def cV (N : Nat) (e : dV → Ro) : dV → Ro := fun (p, q, f, r, s, g, h, i, j, a, k, l, m, n, o, b, c, d, t, u, v, w, x) =>
 let y : Int := (↑(List.length a) : Int)
 cond (decide (b < y)) (
 chk (decide (0 ≤ b) && decide (b < ↑(List.length a))) (
 let z : Bs := List.getD a (Int.toNat b) (aC .str)
 cond (decide (z = f)) (
 some (.tup [.agg [.int .u64 (IntKind.wrap .u64 b), .str ([] : Bs), .sl .aval (.may false) ([] : List aB), .sl .str (.may false) ([] : Bss), .int .i64 0], .int .i64 0], [some [.sl .atype (.may false) c, .int .i64 d], some [.int .u64 (IntKind.wrap .u64 b), .str ([] : Bs), .sl .aval .own ([] : List aB), .sl .str .own ([] : Bss), .int .i64 0]])) (
 let aa : Int := (IntKind.wrap .i64 (b + 1))
 e (p, q, f, r, s, g, h, i, j, a, k, l, m, n, o, aa, c, d, t, u, v, w, x)))) (
 some (.tup [.agg [.int .u64 0, .str ([] : Bs), .sl .aval (.may false) ([] : List aB), .sl .str (.may false) ([] : Bss), .int .i64 0], .int .i64 7], [some [.sl .atype (.may false) c, .int .i64 d], some [.int .u64 0, .str ([] : Bs), .sl .aval .own ([] : List aB), .sl .str .own ([] : Bss), .int .i64 0]]))
theorem wh (N : Nat) : ∀ (a : St → Ro) (x : dV), gA N a (cH x) = cV N (fun y => a (cH y)) x := by
 intro a x
 kernel_rfl
abbrev gB : Type := (Int × Int × Int × Bs × List aA × Bss × Int × Bs × Bss × Int × Bss × Bool × Bs × Int × List aQ × List Int × Bool × List ak × Int × Int × Bs × List aB × Bss × Int)
def fL : gB → St := fun (o, p, q, r, s, t, u, v, w, x, a, b, c, d, e, f, g, h, i, j, k, l, m, n) => { env := (.ptr 0 0 :: .undef :: .undef :: .int .i64 o :: .undef :: .undef :: .ea [.int .i64 p, .int .i64 q, .str r, .sl .jnode (.may false) s, .sl .str (.may false) t] :: .undef :: .ptr 1 0 :: .undef :: .ea [.int .i64 u, .str v, .sl .str (.may false) w, .int .i64 x, .sl .str (.may false) a, .bool b, .str c, .int .i64 d, .sl .afield (.may false) e, .sl (.num .i64) (.may false) f] :: (U 181 (.bool g :: (U 60 [])))), hp := [some [.sl .atype (.may false) h, .int .i64 i], some [.int .u64 j, .str k, .sl .aval .own l, .sl .str .own m, .int .i64 n]] }
def kr (N : Nat) : St → Ro := fun s => run aK N pa (bJ (run aK N)) s
def dW (N : Nat) : gB → Ro := fun (w, e, f, g, h, i, b, n, o, p, q, r, s, t, u, a, v, c, d, _, _, _, _, _) =>
 cond v (
 aF (eX c d b n o p q r s t u a e f g h i w) (fun j =>
 some (.tup [.agg [.int .u64 j.1, .str j.2.1, .sl .aval (.may false) j.2.2.1, .sl .str (.may false) j.2.2.2.1, .int .i64 j.2.2.2.2.1], .int .i64 j.2.2.2.2.2.1], [some [.sl .atype (.may false) j.2.2.2.2.2.2.1, .int .i64 j.2.2.2.2.2.2.2], some [.int .u64 j.1, .str j.2.1, .sl .aval (.may false) j.2.2.1, .sl .str (.may false) j.2.2.2.1, .int .i64 j.2.2.2.2.1]]))) (
 cond (b == 9) (
 cond (e == 6) (
 aF (ey c d b n o p q r s t u a e f g h i w) (fun k =>
 some (.tup [.agg [.int .u64 k.1, .str k.2.1, .sl .aval (.may false) k.2.2.1, .sl .str (.may false) k.2.2.2.1, .int .i64 k.2.2.2.2.1], .int .i64 k.2.2.2.2.2.1], [some [.sl .atype (.may false) k.2.2.2.2.2.2.1, .int .i64 k.2.2.2.2.2.2.2], some [.int .u64 k.1, .str k.2.1, .sl .aval (.may false) k.2.2.1, .sl .str (.may false) k.2.2.2.1, .int .i64 k.2.2.2.2.1]]))) (
 cond (b == 14) (
 chk (decide ((0 : Int) < ↑(List.length a))) (
 let x : Int := List.getD a (Int.toNat 0) (aC (.num .i64))
 let y : Int := (IntKind.wrap .i64 (w + 1))
 aF (bG c d x e f g h i y) (fun l =>
 some (.tup [.agg [.int .u64 0, .str ([] : Bs), .sl .aval (.may true) ([⟨l.1, l.2.1, l.2.2.1, l.2.2.2.1, l.2.2.2.2.1⟩] : List aB), .sl .str (.may false) ([] : Bss), .int .i64 0], .int .i64 l.2.2.2.2.2.1], [some [.sl .atype (.may false) l.2.2.2.2.2.2.1, .int .i64 l.2.2.2.2.2.2.2], some [.int .u64 0, .str ([] : Bs), .sl .aval (.may true) ([⟨l.1, l.2.1, l.2.2.1, l.2.2.2.1, l.2.2.2.2.1⟩] : List aB), .sl .str .own ([] : Bss), .int .i64 0]])))) (
 some (.tup [.agg [.int .u64 0, .str ([] : Bs), .sl .aval (.may false) ([] : List aB), .sl .str (.may false) ([] : Bss), .int .i64 0], .int .i64 7], [some [.sl .atype (.may false) c, .int .i64 d], some [.int .u64 0, .str ([] : Bs), .sl .aval .own ([] : List aB), .sl .str .own ([] : Bss), .int .i64 0]])))) (
 cond (b == 14) (
 chk (decide ((0 : Int) < ↑(List.length a))) (
 let z : Int := List.getD a (Int.toNat 0) (aC (.num .i64))
 let aa : Int := (IntKind.wrap .i64 (w + 1))
 aF (bG c d z e f g h i aa) (fun m =>
 some (.tup [.agg [.int .u64 0, .str ([] : Bs), .sl .aval (.may true) ([⟨m.1, m.2.1, m.2.2.1, m.2.2.2.1, m.2.2.2.2.1⟩] : List aB), .sl .str (.may false) ([] : Bss), .int .i64 0], .int .i64 m.2.2.2.2.2.1], [some [.sl .atype (.may false) m.2.2.2.2.2.2.1, .int .i64 m.2.2.2.2.2.2.2], some [.int .u64 0, .str ([] : Bs), .sl .aval (.may true) ([⟨m.1, m.2.1, m.2.2.1, m.2.2.2.1, m.2.2.2.2.1⟩] : List aB), .sl .str .own ([] : Bss), .int .i64 0]])))) (
 some (.tup [.agg [.int .u64 0, .str ([] : Bs), .sl .aval (.may false) ([] : List aB), .sl .str (.may false) ([] : Bss), .int .i64 0], .int .i64 7], [some [.sl .atype (.may false) c, .int .i64 d], some [.int .u64 0, .str ([] : Bs), .sl .aval .own ([] : List aB), .sl .str .own ([] : Bss), .int .i64 0]]))))
theorem wi (N : Nat) : ∀ (x : gB), kr N (fL x) = dW N x := by
 intro x
 kernel_rfl
def gD (N : Nat) : St → Ro := fun s => run aK N fb (bJ (run aK N)) s
def fM (N : Nat) (q3 : gz → Ro) (q4 : dV → Ro) (w : gB → Ro) : dT → Ro := fun (x, b, t, s, u, v, a, d, e, f, g, h, i, c, j, k, y, l, m, n, o, p, q, r) =>
 cond y (
 aF (p8 s) (fun z =>
 cond z.2 (
 cond (a == 7) (
 q3 (z.1, true, l, m, n, o, p, q, r)) (
 let ab : Int := (↑(List.length z.1) : Int)
 q3 (z.1, (ab == c), l, m, n, o, p, q, r))) (
 q3 (z.1, false, l, m, n, o, p, q, r)))) (
 cond (a == 10) (
 cond (b == 4) (
 q4 (b, t, s, u, v, a, d, e, f, g, h, i, c, j, k, 0, l, m, n, o, p, q, r)) (
 cond (a == 12) (
 cond (b == 5) (
 w (x, b, t, s, u, v, a, d, e, f, g, h, i, c, j, k, true, l, m, n, o, p, q, r)) (
 cond (a == 13) (
 w (x, b, t, s, u, v, a, d, e, f, g, h, i, c, j, k, (b == 6), l, m, n, o, p, q, r)) (
 w (x, b, t, s, u, v, a, d, e, f, g, h, i, c, j, k, false, l, m, n, o, p, q, r)))) (
 cond (a == 13) (
 w (x, b, t, s, u, v, a, d, e, f, g, h, i, c, j, k, (b == 6), l, m, n, o, p, q, r)) (
 w (x, b, t, s, u, v, a, d, e, f, g, h, i, c, j, k, false, l, m, n, o, p, q, r))))) (
 cond (a == 12) (
 cond (b == 5) (
 w (x, b, t, s, u, v, a, d, e, f, g, h, i, c, j, k, true, l, m, n, o, p, q, r)) (
 cond (a == 13) (
 w (x, b, t, s, u, v, a, d, e, f, g, h, i, c, j, k, (b == 6), l, m, n, o, p, q, r)) (
 w (x, b, t, s, u, v, a, d, e, f, g, h, i, c, j, k, false, l, m, n, o, p, q, r)))) (
 cond (a == 13) (
 w (x, b, t, s, u, v, a, d, e, f, g, h, i, c, j, k, (b == 6), l, m, n, o, p, q, r)) (
 w (x, b, t, s, u, v, a, d, e, f, g, h, i, c, j, k, false, l, m, n, o, p, q, r)))))
def dX (N : Nat) (x : dT) : Ro := fM N (fun z => dU N z) (fun z => aW N (cV N) z) (fun z => dW N z) x
def kt (N : Nat) : List (Nat × (St → Ro)) := (ba aK N fb (bJ (run aK N)) ++ (ba aK N b6 (fin bP) ++ []))
theorem wj (N : Nat) : ∀ (x : dT), gD N (cG x) = dX N x := by
 intro x
 have hX : ∀ C : Nat → St → Ro, bL C aK N fb (bJ (bL C aK N)) (cG x) = fM N (fun z => C 1000001 (fK z)) (fun z => C 1000002 (cH z)) (fun z => C 1000003 (fL z)) x := by
  intro C
  kernel_rfl
 have h : gD N (cG x) = fM N (fun z => kq N (fK z)) (fun z => bi N (gA N) (cH z)) (fun z => kr N (fL z)) x := (cN (C := eQ (kt N)) (bU (be (l := (kt N)) (by kernel_rfl))) (cT (gu (bU (du (be (l := (kt N)) (by kernel_rfl)))) rfl)) _).trans ((hX _).trans (by kernel_rfl))
 have e3 : (fun z => kq N (fK z)) = (fun z => dU N z) := funext fun z => wg N z
 have e4 : (fun z => bi N (gA N) (cH z)) = (fun z => aW N (cV N) z) := funext fun z => bj (cH) (gA N) (cV N) (wh N) N z
 have e5 : (fun z => kr N (fL z)) = (fun z => dW N z) := funext fun z => wi N z
 rw [h, e3, e4, e5]
 rfl
def gE (N : Nat) : St → Ro := fun s => run aK N fc (bJ (run aK N)) s
def fN (N : Nat) (w : dT → Ro) : dS → Ro := fun (x, b, o, l, p, q, a, c, d, e, f, g, h, i, j, k, y, z, m, n, r, s, t, u, v) =>
 cond z (
 some (.tup [.agg [.int .u64 (IntKind.wrap .u64 o), .str ([] : Bs), .sl .aval (.may false) ([] : List aB), .sl .str (.may false) ([] : Bss), .int .i64 0], .int .i64 0], [some [.sl .atype (.may false) m, .int .i64 n], some [.int .u64 (IntKind.wrap .u64 o), .str ([] : Bs), .sl .aval .own ([] : List aB), .sl .str .own ([] : Bss), .int .i64 0]])) (
 cond (a == 5) (
 cond y (
 aF (ot o) (fun (r1 : Int) =>
 some (.tup [.agg [.int .u64 (IntKind.wrap .u64 r1), .str ([] : Bs), .sl .aval (.may false) ([] : List aB), .sl .str (.may false) ([] : Bss), .int .i64 0], .int .i64 0], [some [.sl .atype (.may false) m, .int .i64 n], some [.int .u64 (IntKind.wrap .u64 r1), .str ([] : Bs), .sl .aval .own ([] : List aB), .sl .str .own ([] : Bss), .int .i64 0]]))) (
 cond (a == 6) (
 cond y (
 aF (jO o) (fun (r2 : Int) =>
 some (.tup [.agg [.int .u64 r2, .str ([] : Bs), .sl .aval (.may false) ([] : List aB), .sl .str (.may false) ([] : Bss), .int .i64 0], .int .i64 0], [some [.sl .atype (.may false) m, .int .i64 n], some [.int .u64 r2, .str ([] : Bs), .sl .aval .own ([] : List aB), .sl .str .own ([] : Bss), .int .i64 0]]))) (
 cond (a == 8) (
 cond (b == 4) (
 some (.tup [.agg [.int .u64 0, .str l, .sl .aval (.may false) ([] : List aB), .sl .str (.may false) ([] : Bss), .int .i64 0], .int .i64 0], [some [.sl .atype (.may false) m, .int .i64 n], some [.int .u64 0, .str l, .sl .aval .own ([] : List aB), .sl .str .own ([] : Bss), .int .i64 0]])) (
 cond (a == 7) (
 w (x, b, o, l, p, q, a, c, d, e, f, g, h, i, j, k, (b == 4), m, n, r, s, t, u, v)) (
 cond (a == 11) (
 w (x, b, o, l, p, q, a, c, d, e, f, g, h, i, j, k, (b == 4), m, n, r, s, t, u, v)) (
 w (x, b, o, l, p, q, a, c, d, e, f, g, h, i, j, k, false, m, n, r, s, t, u, v))))) (
 cond (a == 7) (
 w (x, b, o, l, p, q, a, c, d, e, f, g, h, i, j, k, (b == 4), m, n, r, s, t, u, v)) (
 cond (a == 11) (
 w (x, b, o, l, p, q, a, c, d, e, f, g, h, i, j, k, (b == 4), m, n, r, s, t, u, v)) (
 w (x, b, o, l, p, q, a, c, d, e, f, g, h, i, j, k, false, m, n, r, s, t, u, v)))))) (
 cond (a == 8) (
 cond (b == 4) (
 some (.tup [.agg [.int .u64 0, .str l, .sl .aval (.may false) ([] : List aB), .sl .str (.may false) ([] : Bss), .int .i64 0], .int .i64 0], [some [.sl .atype (.may false) m, .int .i64 n], some [.int .u64 0, .str l, .sl .aval .own ([] : List aB), .sl .str .own ([] : Bss), .int .i64 0]])) (
 cond (a == 7) (
 w (x, b, o, l, p, q, a, c, d, e, f, g, h, i, j, k, (b == 4), m, n, r, s, t, u, v)) (
 cond (a == 11) (
 w (x, b, o, l, p, q, a, c, d, e, f, g, h, i, j, k, (b == 4), m, n, r, s, t, u, v)) (
 w (x, b, o, l, p, q, a, c, d, e, f, g, h, i, j, k, false, m, n, r, s, t, u, v))))) (
 cond (a == 7) (
 w (x, b, o, l, p, q, a, c, d, e, f, g, h, i, j, k, (b == 4), m, n, r, s, t, u, v)) (
 cond (a == 11) (
 w (x, b, o, l, p, q, a, c, d, e, f, g, h, i, j, k, (b == 4), m, n, r, s, t, u, v)) (
 w (x, b, o, l, p, q, a, c, d, e, f, g, h, i, j, k, false, m, n, r, s, t, u, v))))))) (
 cond (a == 6) (
 cond y (
 aF (jO o) (fun (r8 : Int) =>
 some (.tup [.agg [.int .u64 r8, .str ([] : Bs), .sl .aval (.may false) ([] : List aB), .sl .str (.may false) ([] : Bss), .int .i64 0], .int .i64 0], [some [.sl .atype (.may false) m, .int .i64 n], some [.int .u64 r8, .str ([] : Bs), .sl .aval .own ([] : List aB), .sl .str .own ([] : Bss), .int .i64 0]]))) (
 cond (a == 8) (
 cond (b == 4) (
 some (.tup [.agg [.int .u64 0, .str l, .sl .aval (.may false) ([] : List aB), .sl .str (.may false) ([] : Bss), .int .i64 0], .int .i64 0], [some [.sl .atype (.may false) m, .int .i64 n], some [.int .u64 0, .str l, .sl .aval .own ([] : List aB), .sl .str .own ([] : Bss), .int .i64 0]])) (
 cond (a == 7) (
 w (x, b, o, l, p, q, a, c, d, e, f, g, h, i, j, k, (b == 4), m, n, r, s, t, u, v)) (
 cond (a == 11) (
 w (x, b, o, l, p, q, a, c, d, e, f, g, h, i, j, k, (b == 4), m, n, r, s, t, u, v)) (
 w (x, b, o, l, p, q, a, c, d, e, f, g, h, i, j, k, false, m, n, r, s, t, u, v))))) (
 cond (a == 7) (
 w (x, b, o, l, p, q, a, c, d, e, f, g, h, i, j, k, (b == 4), m, n, r, s, t, u, v)) (
 cond (a == 11) (
 w (x, b, o, l, p, q, a, c, d, e, f, g, h, i, j, k, (b == 4), m, n, r, s, t, u, v)) (
 w (x, b, o, l, p, q, a, c, d, e, f, g, h, i, j, k, false, m, n, r, s, t, u, v)))))) (
 cond (a == 8) (
 cond (b == 4) (
 some (.tup [.agg [.int .u64 0, .str l, .sl .aval (.may false) ([] : List aB), .sl .str (.may false) ([] : Bss), .int .i64 0], .int .i64 0], [some [.sl .atype (.may false) m, .int .i64 n], some [.int .u64 0, .str l, .sl .aval .own ([] : List aB), .sl .str .own ([] : Bss), .int .i64 0]])) (
 cond (a == 7) (
 w (x, b, o, l, p, q, a, c, d, e, f, g, h, i, j, k, (b == 4), m, n, r, s, t, u, v)) (
 cond (a == 11) (
 w (x, b, o, l, p, q, a, c, d, e, f, g, h, i, j, k, (b == 4), m, n, r, s, t, u, v)) (
 w (x, b, o, l, p, q, a, c, d, e, f, g, h, i, j, k, false, m, n, r, s, t, u, v))))) (
 cond (a == 7) (
 w (x, b, o, l, p, q, a, c, d, e, f, g, h, i, j, k, (b == 4), m, n, r, s, t, u, v)) (
 cond (a == 11) (
 w (x, b, o, l, p, q, a, c, d, e, f, g, h, i, j, k, (b == 4), m, n, r, s, t, u, v)) (
 w (x, b, o, l, p, q, a, c, d, e, f, g, h, i, j, k, false, m, n, r, s, t, u, v)))))))
def dY (N : Nat) (x : dS) : Ro := fN N (fun z => dX N z) x
def ku (N : Nat) : List (Nat × (St → Ro)) := (ba aK N fc (bJ (run aK N)) ++ (ba aK N b6 (fin bP) ++ []))
theorem wm (N : Nat) : ∀ (x : dS), gE N (cF x) = dY N x := by
 intro x
 have hX : ∀ C : Nat → St → Ro, bL C aK N fc (bJ (bL C aK N)) (cF x) = fN N (fun z => C 1000004 (cG z)) x := by
  intro C
  kernel_rfl
 have h : gE N (cF x) = fN N (fun z => gD N (cG z)) x := (cN (C := eQ (ku N)) (bU (be (l := (ku N)) (by kernel_rfl))) (cT (gu (bU (du (be (l := (ku N)) (by kernel_rfl)))) rfl)) _).trans ((hX _).trans (by kernel_rfl))
 have e2 : (fun z => gD N (cG z)) = (fun z => dX N z) := funext fun z => wj N z
 rw [h, e2]
 rfl
def kv (N : Nat) : St → Ro := fun s => run aK N fJ (kp (run aK N)) s
def fO (N : Nat) (x : dS → Ro) : dR → Ro := fun (y, k, l, m, n, o, a, b, c, d, e, f, g, h, i, j, w, z, p, q, r, s, t, u, v) =>
 cond z (
 x (y, k, l, m, n, o, a, b, c, d, e, f, g, h, i, j, w, true, p, q, r, s, t, u, v)) (
 cond (a == 4) (
 x (y, k, l, m, n, o, a, b, c, d, e, f, g, h, i, j, w, w, p, q, r, s, t, u, v)) (
 x (y, k, l, m, n, o, a, b, c, d, e, f, g, h, i, j, w, false, p, q, r, s, t, u, v)))
def gF (N : Nat) (x : dR) : Ro := fO N (fun z => dY N z) x
def gG (N : Nat) : List (Nat × (St → Ro)) := (ba aK N fJ (kp (run aK N)) ++ (ba aK N jv (aT 0 (bv (run aK N b6) (fin bP))) ++ (ba aK N b6 (fin bP) ++ [])))
theorem wo (N : Nat) : ∀ (x : dR), kv N (dA x) = gF N x := by
 intro x
 have hX : ∀ C : Nat → St → Ro, bL C aK N fJ (kp (bL C aK N)) (dA x) = fO N (fun z => C 1000005 (cF z)) x := by
  intro C
  kernel_rfl
 have h : kv N (dA x) = fO N (fun z => gE N (cF z)) x := (cN (C := eQ (gG N)) (bU (be (l := (gG N)) (by kernel_rfl))) (gu (bU (du (be (l := (gG N)) (by kernel_rfl)))) (cT (gu (bU (du (du (be (l := (gG N)) (by kernel_rfl))))) rfl))) _).trans ((hX _).trans (by kernel_rfl))
 have e1 : (fun z => gE N (cF z)) = (fun z => dY N z) := funext fun z => wm N z
 rw [h, e1]
 rfl
def eD (N : Nat) (b : List ak) (u t a c : Int) (d : Bs) (e : List aA) (f : Bss) (k : Int) (l : dR → Ro) : Ro :=
 let j : Int := (IntKind.wrap .i64 (u + 1))
 cond (decide (20 < k)) (
 some (.tup [.agg [.int .u64 0, .str ([] : Bs), .sl .aval (.may false) ([] : List aB), .sl .str (.may false) ([] : Bss), .int .i64 0], .int .i64 3], [some [.sl .atype (.may false) b, .int .i64 j], some [.int .u64 0, .str ([] : Bs), .sl .aval .own ([] : List aB), .sl .str .own ([] : Bss), .int .i64 0]])) (
 cond (decide (2000 < j)) (
 some (.tup [.agg [.int .u64 0, .str ([] : Bs), .sl .aval (.may false) ([] : List aB), .sl .str (.may false) ([] : Bss), .int .i64 0], .int .i64 3], [some [.sl .atype (.may false) b, .int .i64 j], some [.int .u64 0, .str ([] : Bs), .sl .aval .own ([] : List aB), .sl .str .own ([] : Bss), .int .i64 0]])) (
 chk (decide (0 ≤ t) && decide (t < ↑(List.length b))) (
 let i : Int := (List.getD b (Int.toNat t) (aC .atype)).kind
 let m : Bs := (List.getD b (Int.toNat t) (aC .atype)).name
 let n : Bss := (List.getD b (Int.toNat t) (aC .atype)).aliases
 let o : Int := (List.getD b (Int.toNat t) (aC .atype)).items
 let p : Bss := (List.getD b (Int.toNat t) (aC .atype)).syms
 let q : Bool := (List.getD b (Int.toNat t) (aC .atype)).hasdef
 let r : Bs := (List.getD b (Int.toNat t) (aC .atype)).df
 let s : Int := (List.getD b (Int.toNat t) (aC .atype)).size
 let g : List aQ := (List.getD b (Int.toNat t) (aC .atype)).fields
 let h : List Int := (List.getD b (Int.toNat t) (aC .atype)).branches
 cond (i == 1) (
 cond (a == 1) (
 some (.tup [.agg [.int .u64 0, .str ([] : Bs), .sl .aval (.may false) ([] : List aB), .sl .str (.may false) ([] : Bss), .int .i64 0], .int .i64 0], [some [.sl .atype (.may false) b, .int .i64 j], some [.int .u64 0, .str ([] : Bs), .sl .aval .own ([] : List aB), .sl .str .own ([] : Bss), .int .i64 0]])) (
 cond (i == 2) (
 cond (a == 2) (
 some (.tup [.agg [.int .u64 (IntKind.wrap .u64 c), .str ([] : Bs), .sl .aval (.may false) ([] : List aB), .sl .str (.may false) ([] : Bss), .int .i64 0], .int .i64 0], [some [.sl .atype (.may false) b, .int .i64 j], some [.int .u64 (IntKind.wrap .u64 c), .str ([] : Bs), .sl .aval .own ([] : List aB), .sl .str .own ([] : Bss), .int .i64 0]])) (
 cond (i == 3) (
 cond (a == 3) (
 let v : Bool := decide ((-2147483648) ≤ c)
 cond v (
 let w : Bool := decide (c < 2147483648)
 l (k, a, c, d, e, f, i, m, n, o, p, q, r, s, g, h, (a == 3), w, b, j, 0, ([] : Bs), ([] : List aB), ([] : Bss), 0)) (
 l (k, a, c, d, e, f, i, m, n, o, p, q, r, s, g, h, (a == 3), false, b, j, 0, ([] : Bs), ([] : List aB), ([] : Bss), 0))) (
 l (k, a, c, d, e, f, i, m, n, o, p, q, r, s, g, h, (a == 3), false, b, j, 0, ([] : Bs), ([] : List aB), ([] : Bss), 0))) (
 l (k, a, c, d, e, f, i, m, n, o, p, q, r, s, g, h, (a == 3), false, b, j, 0, ([] : Bs), ([] : List aB), ([] : Bss), 0)))) (
 cond (i == 3) (
 cond (a == 3) (
 let x : Bool := decide ((-2147483648) ≤ c)
 cond x (
 let y : Bool := decide (c < 2147483648)
 l (k, a, c, d, e, f, i, m, n, o, p, q, r, s, g, h, (a == 3), y, b, j, 0, ([] : Bs), ([] : List aB), ([] : Bss), 0)) (
 l (k, a, c, d, e, f, i, m, n, o, p, q, r, s, g, h, (a == 3), false, b, j, 0, ([] : Bs), ([] : List aB), ([] : Bss), 0))) (
 l (k, a, c, d, e, f, i, m, n, o, p, q, r, s, g, h, (a == 3), false, b, j, 0, ([] : Bs), ([] : List aB), ([] : Bss), 0))) (
 l (k, a, c, d, e, f, i, m, n, o, p, q, r, s, g, h, (a == 3), false, b, j, 0, ([] : Bs), ([] : List aB), ([] : Bss), 0))))) (
 cond (i == 2) (
 cond (a == 2) (
 some (.tup [.agg [.int .u64 (IntKind.wrap .u64 c), .str ([] : Bs), .sl .aval (.may false) ([] : List aB), .sl .str (.may false) ([] : Bss), .int .i64 0], .int .i64 0], [some [.sl .atype (.may false) b, .int .i64 j], some [.int .u64 (IntKind.wrap .u64 c), .str ([] : Bs), .sl .aval .own ([] : List aB), .sl .str .own ([] : Bss), .int .i64 0]])) (
 cond (i == 3) (
 cond (a == 3) (
 let z : Bool := decide ((-2147483648) ≤ c)
 cond z (
 let aa : Bool := decide (c < 2147483648)
 l (k, a, c, d, e, f, i, m, n, o, p, q, r, s, g, h, (a == 3), aa, b, j, 0, ([] : Bs), ([] : List aB), ([] : Bss), 0)) (
 l (k, a, c, d, e, f, i, m, n, o, p, q, r, s, g, h, (a == 3), false, b, j, 0, ([] : Bs), ([] : List aB), ([] : Bss), 0))) (
 l (k, a, c, d, e, f, i, m, n, o, p, q, r, s, g, h, (a == 3), false, b, j, 0, ([] : Bs), ([] : List aB), ([] : Bss), 0))) (
 l (k, a, c, d, e, f, i, m, n, o, p, q, r, s, g, h, (a == 3), false, b, j, 0, ([] : Bs), ([] : List aB), ([] : Bss), 0)))) (
 cond (i == 3) (
 cond (a == 3) (
 let ab : Bool := decide ((-2147483648) ≤ c)
 cond ab (
 let ac : Bool := decide (c < 2147483648)
 l (k, a, c, d, e, f, i, m, n, o, p, q, r, s, g, h, (a == 3), ac, b, j, 0, ([] : Bs), ([] : List aB), ([] : Bss), 0)) (
 l (k, a, c, d, e, f, i, m, n, o, p, q, r, s, g, h, (a == 3), false, b, j, 0, ([] : Bs), ([] : List aB), ([] : Bss), 0))) (
 l (k, a, c, d, e, f, i, m, n, o, p, q, r, s, g, h, (a == 3), false, b, j, 0, ([] : Bs), ([] : List aB), ([] : Bss), 0))) (
 l (k, a, c, d, e, f, i, m, n, o, p, q, r, s, g, h, (a == 3), false, b, j, 0, ([] : Bs), ([] : List aB), ([] : Bss), 0)))))))
def lz (N : Nat) (a : List ak) (b h c d : Int) (e : Bs) (f : List aA) (g : Bss) (i : Int) : Ro := eD N a b h c d e f g i (fun z => gF N z)
def zJ (N : Nat) : List (Nat × (St → Ro)) := ba aK N lw (fin bP) ++ []
theorem xq (N : Nat) (a : List ak) (c i d e : Int) (f : Bs) (g : List aA) (h : Bss) (j : Int) : bb aK N 253 bP lw [.ptr 0 0, .int .i64 i, .agg [.int .i64 d, .int .i64 e, .str f, .sl .jnode (.may false) g, .sl .str (.may false) h], .int .i64 j] [some [.sl .atype (.may false) a, .int .i64 c]] = lz N a c i d e f g h j :=
 (bH (zJ N) (by kernel_rfl) rfl (fun C => eD N a c i d e f g h j (fun z => C 1000000 (dA z))) (fun C => by kernel_rfl)).trans (Eq.trans (b := eD N a c i d e f g h j (fun z => kv N (dA z))) (by kernel_rfl) (congrArg (eD N a c i d e f g h j) (funext fun z => wo N z)))
theorem xr (N : Nat) (a : List ak) (b k c d : Int) (e : Bs) (f : List aA) (g : Bss) (l : Int) (h : Tot (lz N a b k c d e f g l) (fun z => ∃ (m : Int) (n : Bs) (o : List aB) (p : Bss) (q : Int) (s : Int) (i : List ak) (j : Int) (rest : List aI), z.1.dimR = .tup [.agg [.int .u64 m, .str n, .sl .aval (.may false) o, .sl .str (.may false) p, .int .i64 q], .int .i64 s] ∧ z.2 = some [.sl .atype (.may false) i, .int .i64 j] :: rest ∧ bS a b k c d e f g l (m, n, o, p, q, s, i, j))) : ∃ r, bG a b k c d e f g l r := by
 obtain ⟨⟨v, hp⟩, hz, m, n, o, p, q, s, i, j, rest, e1, e2, hq⟩ := h
 simp only at e1 e2
 subst e2
 exact ⟨(m, n, o, p, q, s, i, j), aY.dimR (FnC.objs (css := [[.sl .atype (.may false) a, .int .i64 b]]) (css' := [[.sl .atype (.may false) i, .int .i64 j]]) yw (xq N a b k c d e f g l) hz rfl) e1, hq⟩
noncomputable def aaJ : aM := tab (P := Try.prog) [] [iM] [] [aeh]
def yx : IR := Rs [Bx 3 0, Bx 5 2, Pp (.new 6 [vU 0, vS, nl .aval, nl .str, vI 0]), Mi 7 0] (Sq (Rs [Ld 11 1 true 3, Mv 12 1, Ca 13 45 [11, 12], Un 14 13] (Cn 14 (Rs [Pp (.bld 15 [vU 0, vS, nl .aval, nl .str, vI 0] []), Sv 5 6 15, Mi 7 1] .ret) .skip)) (Rs [Ld 16 1 true 3, Pp (.bld 17 [fu .atype true, vI 0] [(0, 1, 16)]), Pp (.box 18 17), Mv 8 18] (Rs [Mv 20 8, Mv 21 1, Ld 22 5 true 5, Ca 23 120 [20, 21, 22, kI 1], Mv 19 23, Ex_ 24 0 19, Ex_ 25 1 19, Pp (.alr 9 5), Fz 9 5 24, Mv 10 25] (Sq (Rs [Mv 26 10, Bc 27 .neq 26 0] (Cn 27 (Rs [Pp (.bld 28 [vU 0, vS, nl .aval, nl .str, vI 0] []), Mv 29 10, Sv 5 6 28, Mv 7 29] .ret) .skip)) (Rs [Ld 30 5 true 9, Sv 5 6 30, Mi 7 0] .ret)))))
def yy : List RV := [.cell 6 5 true, .t 7]
theorem af3 : FnC Try.prog aaJ [120, 2000120] 0 aab Try.f74 yx yy := fnC (by kernel_rfl) Try.func74 (by kernel_rfl) (by kernel_rfl) (by decide)
def yz (N : Nat) (b : List ak) (h c d : Int) (e : Bs) (f : List aA) (g : Bss) : Ro :=
 aF (pm b h) (fun (i : Bool) =>
 cond (!i) (
 some (.tup [.agg [.int .u64 0, .str ([] : Bs), .sl .aval (.may false) ([] : List aB), .sl .str (.may false) ([] : Bss), .int .i64 0], .int .i64 1], [some [.int .u64 0, .str ([] : Bs), .sl .aval .own ([] : List aB), .sl .str .own ([] : Bss), .int .i64 0]])) (
 aF (bG b 0 h c d e f g 1) (fun a =>
 cond (!(a.2.2.2.2.2.1 == 0)) (
 some (.tup [.agg [.int .u64 0, .str ([] : Bs), .sl .aval (.may false) ([] : List aB), .sl .str (.may false) ([] : Bss), .int .i64 0], .int .i64 a.2.2.2.2.2.1], [some [.int .u64 0, .str ([] : Bs), .sl .aval .own ([] : List aB), .sl .str .own ([] : Bss), .int .i64 0], some [.sl .atype (.may false) a.2.2.2.2.2.2.1, .int .i64 a.2.2.2.2.2.2.2]])) (
 some (.tup [.agg [.int .u64 a.1, .str a.2.1, .sl .aval (.may false) a.2.2.1, .sl .str (.may false) a.2.2.2.1, .int .i64 a.2.2.2.2.1], .int .i64 0], [some [.int .u64 a.1, .str a.2.1, .sl .aval (.may false) a.2.2.1, .sl .str (.may false) a.2.2.2.1, .int .i64 a.2.2.2.2.1], some [.sl .atype (.may false) a.2.2.2.2.2.2.1, .int .i64 a.2.2.2.2.2.2.2]])))))
def tb (N : Nat) (a : List ak) (g b c : Int) (d : Bs) (e : List aA) (f : Bss) : Ro := yz N a g b c d e f
theorem aeV (N : Nat) (a : List ak) (g b c : Int) (d : Bs) (e : List aA) (f : Bss) : bb aaJ N 31 yy yx [.agg [.sl .atype (.may false) a], .int .i64 g, .agg [.int .i64 b, .int .i64 c, .str d, .sl .jnode (.may false) e, .sl .str (.may false) f]] [] = tb N a g b c d e f := by kernel_rfl
theorem aeW (N : Nat) (a : List ak) (g b c : Int) (d : Bs) (e : List aA) (f : Bss) (h : Tot (tb N a g b c d e f) (fun z => ∃ (i : Int) (j : Bs) (k : List aB) (l : Bss) (m : Int) (n : Int) (rest : List aI), z.1.dimR = .tup [.agg [.int .u64 i, .str j, .sl .aval (.may false) k, .sl .str (.may false) l, .int .i64 m], .int .i64 n] ∧ z.2 = rest)) : ∃ r, mI a g b c d e f r := by
 obtain ⟨⟨v, hp⟩, hz, i, j, k, l, m, n, rest, e1, e2⟩ := h
 simp only at e1 e2
 subst e2
 exact ⟨(i, j, k, l, m, n), aO.dimR (af3.pure (aeV N a g b c d e f) hz) e1⟩
noncomputable def cq : aM := tab (P := Try.prog) [] [] [] [agA]
def uT : IR := Sq (Rs [Mv 17 6, Fa 18 0 1, Lq 19 18, Mv 20 5, Ix 21 .atype 19 20, Fa 22 8 21, Lo 23 22, Ll 24 23, Bi 25 .lss 17 24] (Cn 25 .skip (.exit 2))) (Sq (.block 3 (Rs [Fa 28 0 1, Lq 29 28, Mv 30 5, Ix 31 .atype 29 30, Fa 32 8 31, Lo 33 32, Mv 34 6, Ix 35 .afield 33 34, Ld 36 9 true 35, Pp (.alr 7 9), Fz 7 9 36] (Sq (Rs [Fa 37 3 7, Lq 38 37, Un 39 38] (Cn 39 (.exit 3) .skip)) (Rs [Ld 41 1 true 1, Fa 42 2 7, Lq 43 42, Fa 44 4 7, Ld 45 5 true 44, Ca 46 74 [41, 43, 45], Mv 40 46, Ex_ 47 0 40, Ex_ 48 1 40, Pp (.alr 8 5), Fz 8 5 47, Mv 9 48] (Rs [Mv 49 9, Bc 50 .neq 49 0] (Cn 50 (Rs [Mv 51 9, Mv 52 5, Mv 53 6, Mv 2 51, Mv 3 52, Mv 4 53] .ret) .skip)))))) (Rg [Mv 26 6, Bc 27 .add 26 1, Mv 6 27]))
def uU : IR := Rg [Mv 15 5, Bc 16 .add 15 1, Mv 5 16]
def kM : IR := Sq (Rs [Mv 10 5, Fa 11 0 1, Lq 12 11, Ll 13 12, Bi 14 .lss 10 13] (Cn 14 .skip (.exit 0))) (Sq (.block 1 (Rs [Mi 6 0] (.block 2 (.loop [1, 5, 6, 1000000] 0 uT)))) uU)
def pT : IR := Rs [Mi 2 0, Mi 3 0, Mi 4 0] .ret
def tc : IR := Rs [Bx 1 0, Mi 2 0, Mi 3 0, Mi 4 0] (Sq (Rs [Mi 5 0] (.block 0 (.loop [1, 5, 1000001] 0 kM))) pT)
def lA : List RV := [.t 2, .t 3, .t 4]
theorem af4 : FnC Try.prog cq [] 0 aaa Try.f41 tc lA := fnC (by kernel_rfl) Try.func41 (by kernel_rfl) (by kernel_rfl) (by decide)
def nW (R : IR → (Ex → St → Ro) → St → Ro) (a : St → Ro) : Ex → St → Ro := (bD a [1, 5, 1000001] 0 (aT 0 (bv (R pT) (fin lA))))
abbrev dG : Type := (List ak × Int)
def bR : dG → St := fun (a, b) => { env := (.undef :: .ea [.sl .atype (.may false) a] :: (U 3 (.int .i64 b :: (U 48 [])))), hp := [] }
def aeX (R : IR → (Ex → St → Ro) → St → Ro) (a b : St → Ro) : Ex → St → Ro := (bD b [1, 5, 6, 1000000] 0 (aT 2 (aT 1 (bv (R uU) (nW R a)))))
abbrev kc : Type := (List ak × Int × Int)
def gt : kc → St := fun (a, b, c) => { env := (.undef :: .ea [.sl .atype (.may false) a] :: (U 3 (.int .i64 b :: .int .i64 c :: (U 47 [])))), hp := [] }
def nX (N : Nat) (a : St → Ro) : (St → Ro) → St → Ro := fun b s => run cq N uT (aeX (run cq N) a b) s
def kd (N : Nat) (f : dG → Ro) (c : kc → Ro) : kc → Ro := fun (a, e, d) =>
 chk (decide (0 ≤ e) && decide (e < ↑(List.length a))) (
 let g : List aQ := (List.getD a (Int.toNat e) (aC .atype)).fields
 let h : Int := (↑(List.length g) : Int)
 cond (decide (d < h)) (
 chk (decide (0 ≤ e) && decide (e < ↑(List.length a))) (
 let b : List aQ := (List.getD a (Int.toNat e) (aC .atype)).fields
 chk (decide (0 ≤ d) && decide (d < ↑(List.length b))) (
 let i : Int := (List.getD b (Int.toNat d) (aC .afield)).typ
 let j : Bool := (List.getD b (Int.toNat d) (aC .afield)).hasdef
 let k : Int := (List.getD b (Int.toNat d) (aC .afield)).df.kind
 let m : Int := (List.getD b (Int.toNat d) (aC .afield)).df.n
 let o : Bs := (List.getD b (Int.toNat d) (aC .afield)).df.s
 let p : List aA := (List.getD b (Int.toNat d) (aC .afield)).df.l
 let q : Bss := (List.getD b (Int.toNat d) (aC .afield)).df.names
 cond (!j) (
 let r : Int := (IntKind.wrap .i64 (d + 1))
 c (a, e, r)) (
 aF (mI a i k m o p q) (fun v =>
 cond (!(v.2.2.2.2.2 == 0)) (
 some (.tup [.int .i64 v.2.2.2.2.2, .int .i64 e, .int .i64 d], [])) (
 let t : Int := (IntKind.wrap .i64 (d + 1))
 c (a, e, t))))))) (
 let u : Int := (IntKind.wrap .i64 (e + 1))
 f (a, u)))
theorem adQ (N : Nat) (b : St → Ro) : ∀ (a : St → Ro) (x : kc), nX N b a (gt x) = kd N (fun y => b (bR y)) (fun y => a (gt y)) x := by
 intro a x
 kernel_rfl
def nY (N : Nat) : (St → Ro) → St → Ro := fun a s => run cq N kM (nW (run cq N) a) s
def ml (N : Nat) (b : dG → Ro) (d : kc → Ro) : dG → Ro := fun (a, c) =>
 let e : Int := (↑(List.length a) : Int)
 cond (decide (c < e)) (
 d (a, c, 0)) (
 some (.tup [.int .i64 0, .int .i64 0, .int .i64 0], []))
def nZ (N : Nat) (a : dG → Ro) (x : dG) : Ro := ml N a (fun z => aW N (kd N a) z) x
def sf (N : Nat) (a : St → Ro) : List (Nat × (St → Ro)) := (ba cq N kM (nW (run cq N) a) ++ (ba cq N pT (fin lA) ++ []))
theorem adR (N : Nat) : ∀ (a : St → Ro) (x : dG), nY N a (bR x) = nZ N (fun y => a (bR y)) x := by
 intro a x
 have hX : ∀ C : Nat → St → Ro, bL C cq N kM (nW (bL C cq N) a) (bR x) = ml N (fun y => a (bR y)) (fun z => C 1000000 (gt z)) x := by
  intro C
  kernel_rfl
 have h : nY N a (bR x) = ml N (fun y => a (bR y)) (fun z => bi N (nX N a) (gt z)) x := (cN (C := eQ (sf N a)) (bU (be (l := (sf N a)) (by kernel_rfl))) (pW (cT (gu (bU (du (be (l := (sf N a)) (by kernel_rfl)))) rfl))) _).trans ((hX _).trans (by kernel_rfl))
 have e1 : (fun z => bi N (nX N a) (gt z)) = (fun z => aW N (kd N (fun y => a (bR y))) z) := funext fun z => bj (gt) (nX N a) (kd N (fun y => a (bR y))) (adQ N a) N z
 rw [h, e1]
 rfl
def lB (N : Nat) (a : List ak) (b : dG → Ro) : Ro :=
 b (a, 0)
def td (N : Nat) (a : List ak) : Ro := lB N a (fun z => aW N (nZ N) z)
def ahm (N : Nat) : List (Nat × (St → Ro)) := ba cq N tc (fin lA) ++ []
theorem aeY (N : Nat) (a : List ak) : bb cq N 54 lA tc [.agg [.sl .atype (.may false) a]] [] = td N a :=
 (bH (ahm N) (by kernel_rfl) rfl (fun C => lB N a (fun z => C 1000001 (bR z))) (fun C => by kernel_rfl)).trans (Eq.trans (b := lB N a (fun z => bi N (nY N) (bR z))) (by kernel_rfl) (congrArg (lB N a) (funext fun z => bj (bR) (nY N) (nZ N) (adR N) N z)))
theorem aeZ (N : Nat) (a : List ak) (h : Tot (td N a) (fun z => ∃ (b : Int) (c : Int) (d : Int) (rest : List aI), z.1.dimR = .tup [.int .i64 b, .int .i64 c, .int .i64 d] ∧ z.2 = rest)) : ∃ r, mG a r := by
 obtain ⟨⟨v, hp⟩, hz, b, c, d, rest, e1, e2⟩ := h
 simp only at e1 e2
 subst e2
 exact ⟨(b, c, d), aO.dimR (af4.pure (aeY N a) hz) e1⟩
noncomputable def qj : aM := tab (P := Try.prog) [] [] [] [ah6]
def yA : IR := Sq (Rs [Mv 7 0, Pp (.lens 8 7), Bc 9 .gtr 8 0] (Cn 9 .skip (.exit 0))) (.block 1 (Rs [Mv 11 0, Ca 12 162 [11], Mv 10 12, Ex_ 13 0 10, Ex_ 14 1 10, Mv 5 13, Mv 6 14] (Sq (Rs [Mv 15 6, Bc 16 .eql 15 0, Mv 17 16, Gf 17 (.mov 18 5), Gf 17 (.bin 19 .gtr 18 (.c (.int .u32 255))), Po 20 17 19] (Cn 20 (Rs [Ms 2 [], Mb 3 false] .ret) .skip)) (.reg [Mv 21 4, Mv 22 5, Pp (.cvi 23 .u8 22), Pp (.bsl 24 .u8 [23] true), Pp (.b2s 25 24), Bi 26 .add 21 25, Mv 27 0, Mv 28 6, Pp (.subs 29 27 (some 28) none), Mv 4 26, Mv 0 29] [[], [], [1], [1, 2], [1, 2, 3], rg 0 4, [], [], [6, 7], rg 0 5, rg 0 9]))))
def yB : IR := Rs [Mv 30 4, Mv 2 30, Mb 3 true] .ret
def vV : IR := Rs [Ms 2 [], Mb 3 false] (Rs [Ms 4 []] (Sq (.block 0 (.loop [0, 4, 1000000] 0 yA)) yB))
def sg : List RV := [.t 2, .t 3]
theorem aiT : FnC Try.prog qj [] 0 ac6 Try.f147 vV sg := fnC (by kernel_rfl) Try.func147 (by kernel_rfl) (by kernel_rfl) (by decide)
def ahn (R : IR → (Ex → St → Ro) → St → Ro) (a : St → Ro) : Ex → St → Ro := (bD a [0, 4, 1000000] 0 (aT 0 (bv (R yB) (fin sg))))
abbrev nc : Type := (Bs × Bs)
def lC : nc → St := fun (a, b) => { env := (.str a :: (U 3 (.str b :: (U 26 [])))), hp := [] }
def uG (N : Nat) : (St → Ro) → St → Ro := fun a s => run qj N yA (ahn (run qj N) a) s
def qM (N : Nat) (a : nc → Ro) : nc → Ro := fun (c, d) =>
 let e : Int := (↑(List.length c) : Int)
 cond (decide (0 < e)) (
 aF (oA c) (fun b =>
 cond (b.2 == 0) (
 some (.tup [.str ([] : Bs), .bool false], [])) (
 cond (decide (255 < b.1)) (
 some (.tup [.str ([] : Bs), .bool false], [])) (
 chk (decide (List.length d + List.length ([(UInt8.ofNat (Int.toNat (IntKind.wrap .u8 b.1)))] : Bs) ≤ 9223372036854775807)) (
 let f : Bs := (d ++ ([(UInt8.ofNat (Int.toNat (IntKind.wrap .u8 b.1)))] : Bs))
 chk (decide (0 ≤ b.2) && decide (b.2 ≤ (↑(List.length c) : Int))) (
 let g : Bs := (List.drop (Int.toNat b.2) (List.take (List.length c) c))
 a (g, f))))))) (
 some (.tup [.str d, .bool true], []))
theorem af5 (N : Nat) : ∀ (a : St → Ro) (x : nc), uG N a (lC x) = qM N (fun y => a (lC y)) x := by
 intro a x
 kernel_rfl
def pb (N : Nat) (a : Bs) (b : nc → Ro) : Ro :=
 b (a, ([] : Bs))
def vW (N : Nat) (a : Bs) : Ro := pb N a (fun z => aW N (qM N) z)
def ajv (N : Nat) : List (Nat × (St → Ro)) := ba qj N vV (fin sg) ++ []
theorem aho (N : Nat) (a : Bs) : bb qj N 31 sg vV [.str a] [] = vW N a :=
 (bH (ajv N) (by kernel_rfl) rfl (fun C => pb N a (fun z => C 1000000 (lC z))) (fun C => by kernel_rfl)).trans (Eq.trans (b := pb N a (fun z => bi N (uG N) (lC z))) (by kernel_rfl) (congrArg (pb N a) (funext fun z => bj (lC) (uG N) (qM N) (af5 N) N z)))
theorem ahp (N : Nat) (a : Bs) (h : Tot (vW N a) (fun z => ∃ (b : Bs) (c : Bool) (rest : List aI), z.1.dimR = .tup [.str b, .bool c] ∧ z.2 = rest)) : ∃ r, p8 a r := by
 obtain ⟨⟨v, hp⟩, hz, b, c, rest, e1, e2⟩ := h
 simp only at e1 e2
 subst e2
 exact ⟨(b, c), aO.dimR (aiT.pure (aho N a) hz) e1⟩
end Go.Proofs.Ytdpajabhmmmjoaa
end
