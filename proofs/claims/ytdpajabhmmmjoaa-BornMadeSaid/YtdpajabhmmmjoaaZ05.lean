import Derived.KernelRfl
import Derived.Test.YtdpajabhmmmjoaaZ02
import Derived.Test.YtdpajabhmmmjoaaZ03
import Derived.Test.YtdpajabhmmmjoaaZ04
noncomputable section
namespace Go.Proofs.Ytdpajabhmmmjoaa
open Go.AM
set_option autoImplicit false
set_option linter.unusedVariables false
set_option maxRecDepth 100000
noncomputable def bz : aM := tab (P := Try.prog) [] [acM, ma, sv, pM, abS] [] [ti, abO]
def iP : IR := Cn 62 (Sq (.reg [Mv 72 2, Nk 73 72, Fo [1] [] (.ld 74 1 false false 73), Mv 75 0, Mv 76 2, Nk 77 76, Fo [1] [] (.ld 78 1 false false 77), Ll 79 78, Fo [] [0] (.call 80 60 [75, 79]), Ix 81 .str 74 80, Lq 82 81, Ca 83 86 [82], Fo [] [2] (.st none 5 6 83)] [[], [0], [0, 1], [], [], [4], [4, 5], [4, 5, 6], rg 3 7, rg 0 8, rg 0 9, rg 0 10, rg 0 11]) .ret) .skip
def ri : IR := Rs [Mv 84 2, Nk 85 84, Lo 86 85, Ll 87 86, Bc 88 .rem 87 26, Pp (.bin 89 .add (kI 97) 88), Pp (.cvi 90 .u8 89), Pp (.bsl 91 .u8 [90] true), Pp (.b2s 92 91), Pp (.bin 93 .add (kS [78]) 92), Mv 9 93] (Rs [Mv 94 2, Mv 95 2, Nk 96 95, Pp (.ld 97 1 false true 96), Mv 98 9, Pp (.bsl 99 .str [98] true), Pp (.app 100 .str (.tk 97) 99), Nk 101 94, Sk 1 101 100] (Sq (.block 1 (Rs [Mv 103 7, Bc 104 .eql 103 15, Mv 102 104] (Cn 102 (Rs [Pp (.bsl 105 .str [kS [116, 121, 112, 101], kS [110, 97, 109, 101], kS [115, 105, 122, 101]] true), Ca 106 86 [kS [102, 105, 120, 101, 100]], Mv 107 9, Ca 108 86 [107], Mv 109 0, Ca 110 60 [109, kI 4], Pp (.bld 111 [vI 0, vI 0, vS, fu .jnode true, fu .str true] [(0, 1, kI 3), (1, 1, 110)]), Pp (.bsl 112 .jnode [106, 108, 111] true), Ca 113 118 [105, 112], Sv 5 6 113] .ret) (Rs [Mv 115 7, Bc 116 .eql 115 16, Mv 114 116] (Cn 114 (Rs [Ca 117 86 [kS [88]], Ca 118 86 [kS [89]], Ca 119 86 [kS [90]], Pp (.bsl 120 .jnode [117, 118, 119] true), Mv 121 0, Ca 122 60 [121, kI 3], Pp (.bin 123 .add (kI 1) 122), Pp (.subl 124 .jnode 120 none (some 123)), Mv 10 124] (Rs [Pp (.bsl 125 .str [kS [116, 121, 112, 101], kS [110, 97, 109, 101], kS [115, 121, 109, 98, 111, 108, 115]] true), Ca 126 86 [kS [101, 110, 117, 109]], Mv 127 9, Ca 128 86 [127], Mv 129 10, Pp (.bld 130 [vI 0, vI 0, vS, fu .jnode true, fu .str true] [(0, 1, kI 5), (3, 1, 129)]), Pp (.bsl 131 .jnode [126, 128, 130] true), Ca 132 118 [125, 131], Pp (.new 11 [vI 0, vI 0, vS, nl .jnode, nl .str]), Sv 5 11 132] (Sq (Rs [Mv 133 0, Ca 134 60 [133, kI 2], Bc 135 .eql 134 0] (Cn 135 (.reg [Fa 136 4 11, Fo [3] [] (.ld 137 1 false false 136), Pp (.bsl 138 .str [kS [100, 101, 102, 97, 117, 108, 116]] true), Pp (.app 139 .str (.tk 137) 138), Fa 140 3 11, Fo [3] [] (.ld 141 1 false false 140), Ca 142 86 [kS [88]], Pp (.bsl 143 .jnode [142] true), Pp (.app 144 .jnode (.tk 141) 143), Fa 145 4 11, Fo [] [3] (.st none 1 145 (.tk 139)), Fa 146 3 11, Fo [] [3] (.st none 1 146 (.tk 144))] [[], [0], [], [0, 1, 2], [], [4], rg 0 3, [0, 1, 2, 3, 6], rg 0 7, rg 0 5, rg 0 9, rg 0 10, rg 0 11]) .skip)) (Rs [Pp (.ld 147 5 true false 11), Sv 5 6 147] .ret)))) .skip))))) (Rs [Mv 148 0, Mv 149 9, Mv 150 1, Mv 151 2, Ca 152 73 [148, 149, 150, 151], Sv 5 6 152] .ret)))
def lD : IR := .cut [0, 1, 2, 6, 7, 1000001] 3 ri
def ii : IR := Rs [Pp (.bsl 22 .str [kS [105, 110, 116], kS [108, 111, 110, 103], kS [115, 116, 114, 105, 110, 103], kS [98, 121, 116, 101, 115], kS [98, 111, 111, 108, 101, 97, 110], kS [110, 117, 108, 108], kS [102, 108, 111, 97, 116], kS [100, 111, 117, 98, 108, 101]] true), Mv 8 22] (Sq (.block 0 (Rs [Mv 24 7, Bc 25 .lss 24 8, Mv 23 25] (Cn 23 (Rs [Mv 26 8, Mv 27 7, Ix 28 .str 26 27, Lq 29 28, Ca 30 86 [29], Sv 5 6 30] .ret) (Rs [Mv 32 7, Bc 33 .lss 32 10, Mv 31 33] (Cn 31 (Rs [Pp (.bsl 34 .str [kS [116, 121, 112, 101], kS [105, 116, 101, 109, 115]] true), Ca 35 86 [kS [97, 114, 114, 97, 121]], Mv 36 0, Mv 37 1, Bc 38 .add 37 1, Mv 39 2, Ca 40 117 [36, 38, 39], Pp (.bsl 41 .jnode [35, 40] true), Ca 42 118 [34, 41], Sv 5 6 42] .ret) (Rs [Mv 44 7, Bc 45 .eql 44 10, Mv 43 45] (Cn 43 (Rs [Pp (.bsl 46 .str [kS [116, 121, 112, 101], kS [118, 97, 108, 117, 101, 115]] true), Ca 47 86 [kS [109, 97, 112]], Mv 48 0, Mv 49 1, Bc 50 .add 49 1, Mv 51 2, Ca 52 117 [48, 50, 51], Pp (.bsl 53 .jnode [47, 52] true), Ca 54 118 [46, 53], Sv 5 6 54] .ret) (Rs [Mv 56 7, Bc 57 .lss 56 14, Mv 55 57] (Cn 55 (Rs [Mv 58 0, Mv 59 1, Mv 60 2, Ca 61 146 [58, 59, 60], Sv 5 6 61] .ret) (Rs [Mv 63 7, Bc 64 .eql 63 14, Mv 65 64, Gt 65 (.mov 66 2), Gt 65 (.nck 67 66), Gt 65 (.ld 68 1 false false 67), Gt 65 (.lenl 69 68), Gt 65 (.bin 70 .gtr 69 (kI 0)), Pa 71 65 70, Mv 62 71] (.cut [0, 1, 2, 6, 7, 62, 1000000] 3 iP))))))))))) lD)
def pc : IR := Rs [Pp (.new 6 [vI 0, vI 0, vS, nl .jnode, nl .str])] (Rs [Mv 12 0, Ca 13 60 [12, kI 20], Mv 7 13] (Sq (Rs [Mv 14 1, Bc 15 .gtr 14 3, Mv 16 15, Gf 16 (.mov 17 0), Gf 16 (.call 18 59 [17]), Po 19 16 18] (Cn 19 (Rg [Mv 20 7, Bc 21 .rem 20 8, Mv 7 21]) .skip)) (.cut [0, 1, 2, 6, 7, 1000002] 3 ii)))
def ce : List RV := [.cell 6 5 true]
theorem acs : FnC Try.prog bz [59, 60, 73, 117, 146, 2000059, 2000060, 2000073, 2000117, 2000146] 2 uL Try.f117 pc ce := fnC (by kernel_rfl) Try.func117 (by kernel_rfl) (by kernel_rfl) (by decide)
abbrev ga : Type := (Int × Int × Bs × Int × Bss × Int × Int × Bs × List aA × Bss)
def fe : ga → St := fun (a, b, c, d, e, f, g, h, i, j) => { env := (.ptr 0 0 :: .int .i64 a :: .ptr 1 0 :: (U 3 (.ptr 2 0 :: .int .i64 b :: (U 145 [])))), hp := [some [.sl .u8 (.may false) c, .int .i64 d], some [.sl .str .own e], some [.int .i64 f, .int .i64 g, .str h, .sl .jnode .own i, .sl .str .own j]] }
abbrev gb : Type := (Int × Int × Bool × Bs × Int × Bss × Int × Int × Bs × List aA × Bss)
def dw : gb → St := fun (b, c, d, e, f, g, h, i, j, k, a) => { env := (.ptr 0 0 :: .int .i64 b :: .ptr 1 0 :: (U 3 (.ptr 2 0 :: .int .i64 c :: (U 54 (.bool d :: (U 90 [])))))), hp := [some [.sl .u8 (.may false) e, .int .i64 f], some [.sl .str .own g], some [.int .i64 h, .int .i64 i, .str j, .sl .jnode .own k, .sl .str .own a]] }
def nr (R : IR → (Ex → St → Ro) → St → Ro) : Ex → St → Ro := (aT 0 (bv (R lD) (fin ce)))
abbrev jD : Type := (Int × Int × Bs × Int × Bss × Int × Int × Bs × List aA × Bss)
def iQ : jD → St := fun (a, b, c, d, e, f, g, h, i, j) => { env := (.ptr 0 0 :: .int .i64 a :: .ptr 1 0 :: (U 3 (.ptr 2 0 :: .int .i64 b :: (U 145 [])))), hp := [some [.sl .u8 (.may false) c, .int .i64 d], some [.sl .str .own e], some [.int .i64 f, .int .i64 g, .str h, .sl .jnode .own i, .sl .str .own j]] }
def nt (N : Nat) : St → Ro := fun s => run bz N ri (fin ce) s
def gc (N : Nat) : jD → Ro := fun (z, x, h, i, j, _, _, _, _, _) =>
 let x7 : Int := (↑(List.length j) : Int)
 let y : Int := (IntKind.wrap .i64 (97 + (Int.tmod x7 26)))
 chk (decide (List.length ([78] : Bs) + List.length ([(UInt8.ofNat (Int.toNat (IntKind.wrap .u8 y)))] : Bs) ≤ 9223372036854775807)) (
 let v : Bs := (([78] : Bs) ++ ([(UInt8.ofNat (Int.toNat (IntKind.wrap .u8 y)))] : Bs))
 chk (decide ((List.length j + List.length ([v] : Bss)) * 16 ≤ 140737488355328)) (
 let p : Bss := (j ++ ([v] : Bss))
 cond (x == 15) (
 aF (bo ([102, 105, 120, 101, 100] : Bs)) (fun k =>
 aF (bo v) (fun l =>
 aF (bh h i 4) (fun q =>
 aF (dm true ([([116, 121, 112, 101] : Bs), ([110, 97, 109, 101] : Bs), ([115, 105, 122, 101] : Bs)] : Bss) true ([⟨k.1, k.2.1, k.2.2.1, k.2.2.2.1, k.2.2.2.2⟩, ⟨l.1, l.2.1, l.2.2.1, l.2.2.2.1, l.2.2.2.2⟩, ⟨3, q.1, ([] : Bs), ([] : List aA), ([] : Bss)⟩] : List aA)) (fun c =>
 some (.agg [.int .i64 c.1, .int .i64 c.2.1, .str c.2.2.1, .sl .jnode (.may c.2.2.2.1) c.2.2.2.2.1, .sl .str (.may c.2.2.2.2.2.1) c.2.2.2.2.2.2], [some [.sl .u8 (.may false) q.2.1, .int .i64 q.2.2], some [.sl .str .own p], some [.int .i64 c.1, .int .i64 c.2.1, .str c.2.2.1, .sl .jnode (.may c.2.2.2.1) c.2.2.2.2.1, .sl .str (.may c.2.2.2.2.2.1) c.2.2.2.2.2.2]])))))) (
 cond (x == 16) (
 aF (bo ([88] : Bs)) (fun e =>
 aF (bo ([89] : Bs)) (fun f =>
 aF (bo ([90] : Bs)) (fun g =>
 aF (bh h i 3) (fun r =>
 let s : Int := (IntKind.wrap .i64 (1 + r.1))
 chk (decide (0 ≤ s) && decide (s ≤ (↑(List.length ([⟨e.1, e.2.1, e.2.2.1, e.2.2.2.1, e.2.2.2.2⟩, ⟨f.1, f.2.1, f.2.2.1, f.2.2.2.1, f.2.2.2.2⟩, ⟨g.1, g.2.1, g.2.2.1, g.2.2.2.1, g.2.2.2.2⟩] : List aA)) : Int))) (
 let w : List aA := (List.drop 0 (List.take (Int.toNat s) ([⟨e.1, e.2.1, e.2.2.1, e.2.2.2.1, e.2.2.2.2⟩, ⟨f.1, f.2.1, f.2.2.1, f.2.2.2.1, f.2.2.2.2⟩, ⟨g.1, g.2.1, g.2.2.1, g.2.2.2.1, g.2.2.2.2⟩] : List aA)))
 aF (bo ([101, 110, 117, 109] : Bs)) (fun m =>
 aF (bo v) (fun n =>
 aF (dm true ([([116, 121, 112, 101] : Bs), ([110, 97, 109, 101] : Bs), ([115, 121, 109, 98, 111, 108, 115] : Bs)] : Bss) true ([⟨m.1, m.2.1, m.2.2.1, m.2.2.2.1, m.2.2.2.2⟩, ⟨n.1, n.2.1, n.2.2.1, n.2.2.2.1, n.2.2.2.2⟩, ⟨5, 0, ([] : Bs), w, ([] : Bss)⟩] : List aA)) (fun a =>
 aF (bh r.2.1 r.2.2 2) (fun o =>
 cond (o.1 == 0) (
 chk ((a.2.2.2.2.2.1 && decide (0 < List.length ([([100, 101, 102, 97, 117, 108, 116] : Bs)] : Bss))) && decide ((List.length a.2.2.2.2.2.2 + List.length ([([100, 101, 102, 97, 117, 108, 116] : Bs)] : Bss)) * 16 ≤ 140737488355328)) (
 let t : Bss := (a.2.2.2.2.2.2 ++ ([([100, 101, 102, 97, 117, 108, 116] : Bs)] : Bss))
 aF (bo ([88] : Bs)) (fun b =>
 chk ((a.2.2.2.1 && decide (0 < List.length ([⟨b.1, b.2.1, b.2.2.1, b.2.2.2.1, b.2.2.2.2⟩] : List aA))) && decide ((List.length a.2.2.2.2.1 + List.length ([⟨b.1, b.2.1, b.2.2.1, b.2.2.2.1, b.2.2.2.2⟩] : List aA)) * 80 ≤ 140737488355328)) (
 let u : List aA := (a.2.2.2.2.1 ++ ([⟨b.1, b.2.1, b.2.2.1, b.2.2.2.1, b.2.2.2.2⟩] : List aA))
 some (.agg [.int .i64 a.1, .int .i64 a.2.1, .str a.2.2.1, .sl .jnode (.may false) u, .sl .str (.may false) t], [some [.sl .u8 (.may false) o.2.1, .int .i64 o.2.2], some [.sl .str .own p], some [.int .i64 a.1, .int .i64 a.2.1, .str a.2.2.1, .sl .jnode (.may false) u, .sl .str (.may false) t], some [.int .i64 a.1, .int .i64 a.2.1, .str a.2.2.1, .sl .jnode .own u, .sl .str .own t]]))))) (
 some (.agg [.int .i64 a.1, .int .i64 a.2.1, .str a.2.2.1, .sl .jnode (.may a.2.2.2.1) a.2.2.2.2.1, .sl .str (.may a.2.2.2.2.2.1) a.2.2.2.2.2.2], [some [.sl .u8 (.may false) o.2.1, .int .i64 o.2.2], some [.sl .str .own p], some [.int .i64 a.1, .int .i64 a.2.1, .str a.2.2.1, .sl .jnode (.may a.2.2.2.1) a.2.2.2.2.1, .sl .str (.may a.2.2.2.2.2.1) a.2.2.2.2.2.2], some [.int .i64 a.1, .int .i64 a.2.1, .str a.2.2.1, .sl .jnode (.may a.2.2.2.1) a.2.2.2.2.1, .sl .str (.may a.2.2.2.2.2.1) a.2.2.2.2.2.2]])))))))))))) (
 aF (dH h i p v z) (fun d =>
 some (.agg [.int .i64 d.1, .int .i64 d.2.1, .str d.2.2.1, .sl .jnode (.may false) d.2.2.2.1, .sl .str (.may false) d.2.2.2.2.1], [some [.sl .u8 (.may false) d.2.2.2.2.2.1, .int .i64 d.2.2.2.2.2.2.1], some [.sl .str .own d.2.2.2.2.2.2.2], some [.int .i64 d.1, .int .i64 d.2.1, .str d.2.2.1, .sl .jnode (.may false) d.2.2.2.1, .sl .str (.may false) d.2.2.2.2.1]]))))))
theorem zK (N : Nat) : ∀ (x : jD), nt N (iQ x) = gc N x := by
 intro x
 kernel_rfl
def jE (N : Nat) : St → Ro := fun s => run bz N iP (nr (run bz N)) s
def iR (N : Nat) (l : jD → Ro) : gb → Ro := fun (m, n, k, d, e, b, f, g, h, i, j) =>
 cond k (
 let o : Int := (↑(List.length b) : Int)
 aF (bh d e o) (fun c =>
 chk (decide (0 ≤ c.1) && decide (c.1 < ↑(List.length b))) (
 let p : Bs := List.getD b (Int.toNat c.1) (aC .str)
 aF (bo p) (fun a =>
 some (.agg [.int .i64 a.1, .int .i64 a.2.1, .str a.2.2.1, .sl .jnode (.may false) a.2.2.2.1, .sl .str (.may false) a.2.2.2.2], [some [.sl .u8 (.may false) c.2.1, .int .i64 c.2.2], some [.sl .str .own b], some [.int .i64 a.1, .int .i64 a.2.1, .str a.2.2.1, .sl .jnode (.may false) a.2.2.2.1, .sl .str (.may false) a.2.2.2.2]]))))) (
 l (m, n, d, e, b, f, g, h, i, j))
def ge (N : Nat) (x : gb) : Ro := iR N (fun z => gc N z) x
def nu (N : Nat) : List (Nat × (St → Ro)) := (ba bz N iP (nr (run bz N)) ++ (ba bz N lD (fin ce) ++ []))
theorem zL (N : Nat) : ∀ (x : gb), jE N (dw x) = ge N x := by
 intro x
 have hX : ∀ C : Nat → St → Ro, bL C bz N iP (nr (bL C bz N)) (dw x) = iR N (fun z => C 1000001 (iQ z)) x := by
  intro C
  kernel_rfl
 have h : jE N (dw x) = iR N (fun z => nt N (iQ z)) x := (cN (C := eQ (nu N)) (bU (be (l := (nu N)) (by kernel_rfl))) (cT (gu (bU (du (be (l := (nu N)) (by kernel_rfl)))) rfl)) _).trans ((hX _).trans (by kernel_rfl))
 have e2 : (fun z => nt N (iQ z)) = (fun z => gc N z) := funext fun z => zK N z
 rw [h, e2]
 rfl
def nv (N : Nat) : St → Ro := fun s => run bz N ii (fin ce) s
def iS (N : Nat) (s : gb → Ro) : ga → Ro := fun (p, g, b, c, a, i, j, k, l, m) =>
 cond (decide (g < 8)) (
 chk (decide (0 ≤ g) && decide (g < ↑(List.length ([([105, 110, 116] : Bs), ([108, 111, 110, 103] : Bs), ([115, 116, 114, 105, 110, 103] : Bs), ([98, 121, 116, 101, 115] : Bs), ([98, 111, 111, 108, 101, 97, 110] : Bs), ([110, 117, 108, 108] : Bs), ([102, 108, 111, 97, 116] : Bs), ([100, 111, 117, 98, 108, 101] : Bs)] : Bss)))) (
 let t : Bs := List.getD ([([105, 110, 116] : Bs), ([108, 111, 110, 103] : Bs), ([115, 116, 114, 105, 110, 103] : Bs), ([98, 121, 116, 101, 115] : Bs), ([98, 111, 111, 108, 101, 97, 110] : Bs), ([110, 117, 108, 108] : Bs), ([102, 108, 111, 97, 116] : Bs), ([100, 111, 117, 98, 108, 101] : Bs)] : Bss) (Int.toNat g) (aC .str)
 aF (bo t) (fun h =>
 some (.agg [.int .i64 h.1, .int .i64 h.2.1, .str h.2.2.1, .sl .jnode (.may false) h.2.2.2.1, .sl .str (.may false) h.2.2.2.2], [some [.sl .u8 (.may false) b, .int .i64 c], some [.sl .str .own a], some [.int .i64 h.1, .int .i64 h.2.1, .str h.2.2.1, .sl .jnode (.may false) h.2.2.2.1, .sl .str (.may false) h.2.2.2.2]])))) (
 cond (decide (g < 10)) (
 aF (bo ([97, 114, 114, 97, 121] : Bs)) (fun q =>
 let u : Int := (IntKind.wrap .i64 (p + 1))
 aF (cd b c a u) (fun n =>
 aF (dm true ([([116, 121, 112, 101] : Bs), ([105, 116, 101, 109, 115] : Bs)] : Bss) true ([⟨q.1, q.2.1, q.2.2.1, q.2.2.2.1, q.2.2.2.2⟩, ⟨n.1, n.2.1, n.2.2.1, n.2.2.2.1, n.2.2.2.2.1⟩] : List aA)) (fun d =>
 some (.agg [.int .i64 d.1, .int .i64 d.2.1, .str d.2.2.1, .sl .jnode (.may d.2.2.2.1) d.2.2.2.2.1, .sl .str (.may d.2.2.2.2.2.1) d.2.2.2.2.2.2], [some [.sl .u8 (.may false) n.2.2.2.2.2.1, .int .i64 n.2.2.2.2.2.2.1], some [.sl .str .own n.2.2.2.2.2.2.2], some [.int .i64 d.1, .int .i64 d.2.1, .str d.2.2.1, .sl .jnode (.may d.2.2.2.1) d.2.2.2.2.1, .sl .str (.may d.2.2.2.2.2.1) d.2.2.2.2.2.2]]))))) (
 cond (g == 10) (
 aF (bo ([109, 97, 112] : Bs)) (fun r =>
 let v : Int := (IntKind.wrap .i64 (p + 1))
 aF (cd b c a v) (fun o =>
 aF (dm true ([([116, 121, 112, 101] : Bs), ([118, 97, 108, 117, 101, 115] : Bs)] : Bss) true ([⟨r.1, r.2.1, r.2.2.1, r.2.2.2.1, r.2.2.2.2⟩, ⟨o.1, o.2.1, o.2.2.1, o.2.2.2.1, o.2.2.2.2.1⟩] : List aA)) (fun e =>
 some (.agg [.int .i64 e.1, .int .i64 e.2.1, .str e.2.2.1, .sl .jnode (.may e.2.2.2.1) e.2.2.2.2.1, .sl .str (.may e.2.2.2.2.2.1) e.2.2.2.2.2.2], [some [.sl .u8 (.may false) o.2.2.2.2.2.1, .int .i64 o.2.2.2.2.2.2.1], some [.sl .str .own o.2.2.2.2.2.2.2], some [.int .i64 e.1, .int .i64 e.2.1, .str e.2.2.1, .sl .jnode (.may e.2.2.2.1) e.2.2.2.2.1, .sl .str (.may e.2.2.2.2.2.1) e.2.2.2.2.2.2]]))))) (
 cond (decide (g < 14)) (
 aF (g8 b c a p) (fun f =>
 some (.agg [.int .i64 f.1, .int .i64 f.2.1, .str f.2.2.1, .sl .jnode (.may false) f.2.2.2.1, .sl .str (.may false) f.2.2.2.2.1], [some [.sl .u8 (.may false) f.2.2.2.2.2.1, .int .i64 f.2.2.2.2.2.2.1], some [.sl .str .own f.2.2.2.2.2.2.2], some [.int .i64 f.1, .int .i64 f.2.1, .str f.2.2.1, .sl .jnode (.may false) f.2.2.2.1, .sl .str (.may false) f.2.2.2.2.1]]))) (
 cond (g == 14) (
 let w : Int := (↑(List.length a) : Int)
 s (p, g, decide (0 < w), b, c, a, i, j, k, l, m)) (
 s (p, g, false, b, c, a, i, j, k, l, m))))))
def jF (N : Nat) (x : ga) : Ro := iS N (fun z => ge N z) x
def sE (N : Nat) : List (Nat × (St → Ro)) := (ba bz N ii (fin ce) ++ [])
theorem zM (N : Nat) : ∀ (x : ga), nv N (fe x) = jF N x := by
 intro x
 have hX : ∀ C : Nat → St → Ro, bL C bz N ii (fin ce) (fe x) = iS N (fun z => C 1000000 (dw z)) x := by
  intro C
  kernel_rfl
 have h : nv N (fe x) = iS N (fun z => jE N (dw z)) x := (cN (C := eQ (sE N)) (bU (be (l := (sE N)) (by kernel_rfl))) rfl _).trans ((hX _).trans (by kernel_rfl))
 have e1 : (fun z => jE N (dw z)) = (fun z => ge N z) := funext fun z => zL N z
 rw [h, e1]
 rfl
def hJ (N : Nat) (d : Bs) (e : Int) (a : Bss) (f : Int) (g : ga → Ro) : Ro :=
 aF (bh d e 20) (fun c =>
 cond (decide (3 < f)) (
 g (f, (Int.tmod c.1 8), c.2.1, c.2.2, a, 0, 0, ([] : Bs), ([] : List aA), ([] : Bss))) (
 aF (iE c.2.1 c.2.2) (fun b =>
 cond b.1 (
 g (f, (Int.tmod c.1 8), b.2.1, b.2.2, a, 0, 0, ([] : Bs), ([] : List aA), ([] : Bss))) (
 g (f, c.1, b.2.1, b.2.2, a, 0, 0, ([] : Bs), ([] : List aA), ([] : Bss))))))
def pd (N : Nat) (a : Bs) (b : Int) (c : Bss) (d : Int) : Ro := hJ N a b c d (fun z => jF N z)
def acS (N : Nat) : List (Nat × (St → Ro)) := ba bz N pc (fin ce) ++ []
theorem aa4 (N : Nat) (a : Bs) (c : Int) (d : Bss) (e : Int) : bb bz N 153 ce pc [.ptr 0 0, .int .i64 e, .ptr 1 0] [some [.sl .u8 (.may false) a, .int .i64 c], some [.sl .str .own d]] = pd N a c d e :=
 (bH (acS N) (by kernel_rfl) rfl (fun C => hJ N a c d e (fun z => C 1000002 (fe z))) (fun C => by kernel_rfl)).trans (Eq.trans (b := hJ N a c d e (fun z => nv N (fe z))) (by kernel_rfl) (congrArg (hJ N a c d e) (funext fun z => zM N z)))
theorem aa5 (N : Nat) (a : Bs) (b : Int) (c : Bss) (g : Int) (h : Tot (pd N a b c g) (fun z => ∃ (i : Int) (j : Int) (k : Bs) (l : List aA) (m : Bss) (d : Bs) (e : Int) (f : Bss) (rest : List aI), z.1.dimR = .agg [.int .i64 i, .int .i64 j, .str k, .sl .jnode (.may false) l, .sl .str (.may false) m] ∧ z.2 = some [.sl .u8 (.may false) d, .int .i64 e] :: some [.sl .str .own f] :: rest ∧ dv a b c g (i, j, k, l, m, d, e, f))) : ∃ r, cd a b c g r := by
 obtain ⟨⟨v, hp⟩, hz, i, j, k, l, m, d, e, f, rest, e1, e2, hq⟩ := h
 simp only at e1 e2
 subst e2
 exact ⟨(i, j, k, l, m, d, e, f), aY.dimR (FnC.objs (css := [[.sl .u8 (.may false) a, .int .i64 b], [.sl .str .own c]]) (css' := [[.sl .u8 (.may false) d, .int .i64 e], [.sl .str .own f]]) acs (aa4 N a b c g) hz rfl) e1, hq⟩
noncomputable def tQ : aM := tab (P := Try.prog) [] [ma, pM] [] [ti]
def sF : IR := Rs [Pp (.new 6 [vI 0, vI 0, vS, nl .jnode, nl .str])] (Rs [Ca 9 86 [kS [110, 117, 108, 108]], Pp (.bsl 10 .jnode [9] true), Pp (.bld 11 [vI 0, vI 0, vS, nl .jnode, nl .str] [(0, 1, kI 5), (3, 1, 10)]), Pp (.new 7 [vI 0, vI 0, vS, nl .jnode, nl .str]), Sv 5 7 11] (Sq (Rs [Mv 12 0, Ca 13 60 [12, kI 2], Bc 14 .eql 13 0] (Cn 14 (.reg [Fa 15 3 7, Fo [3] [] (.ld 16 1 false false 15), Pp (.bsl 17 .str [kS [105, 110, 116], kS [115, 116, 114, 105, 110, 103]] true), Mv 18 0, Fo [] [0] (.call 19 60 [18, kI 2]), Ix 20 .str 17 19, Lq 21 20, Ca 22 86 [21], Pp (.bsl 23 .jnode [22] true), Pp (.app 24 .jnode (.tk 16) 23), Fa 25 3 7, Fo [] [3] (.st none 1 25 (.tk 24))] [[], [0], [], [], [3], [2, 3, 4], rg 2 5, rg 2 6, rg 2 7, rg 0 8, rg 0 9, rg 0 10]) .skip)) (Rs [Mv 26 0, Mv 27 1, Bc 28 .add 27 1, Mv 29 2, Ca 30 117 [26, 28, 29], Pp (.alr 8 5), Fz 8 5 30] (Sq (Rs [Fa 31 0 8, Lq 32 31, Bc 33 .eql 32 6] (Cn 33 (Rg [Fa 34 3 7, Pp (.ld 35 1 false true 34), Ld 36 5 true 8, Pp (.bsl 37 .jnode [36] true), Pp (.app 38 .jnode (.tk 35) 37), Fa 39 3 7, Sk 1 39 38]) .skip)) (Rs [Pp (.ld 40 5 true false 7), Sv 5 6 40] .ret)))))
def sG : List RV := [.cell 6 5 true]
theorem aa6 : FnC Try.prog tQ [60, 117, 2000060, 2000117] 2 tw Try.f146 sF sG := fnC (by kernel_rfl) Try.func146 (by kernel_rfl) (by kernel_rfl) (by decide)
def sH (N : Nat) (f : Bs) (g : Int) (e : Bss) (m : Int) : Ro :=
 aF (bo ([110, 117, 108, 108] : Bs)) (fun a =>
 aF (bh f g 2) (fun h =>
 cond (h.1 == 0) (
 aF (bh h.2.1 h.2.2 2) (fun i =>
 chk (decide (0 ≤ i.1) && decide (i.1 < ↑(List.length ([([105, 110, 116] : Bs), ([115, 116, 114, 105, 110, 103] : Bs)] : Bss)))) (
 let n : Bs := List.getD ([([105, 110, 116] : Bs), ([115, 116, 114, 105, 110, 103] : Bs)] : Bss) (Int.toNat i.1) (aC .str)
 aF (bo n) (fun d =>
 chk ((true && decide (0 < List.length ([⟨d.1, d.2.1, d.2.2.1, d.2.2.2.1, d.2.2.2.2⟩] : List aA))) && decide ((List.length ([⟨a.1, a.2.1, a.2.2.1, a.2.2.2.1, a.2.2.2.2⟩] : List aA) + List.length ([⟨d.1, d.2.1, d.2.2.1, d.2.2.2.1, d.2.2.2.2⟩] : List aA)) * 80 ≤ 140737488355328)) (
 let j : List aA := (([⟨a.1, a.2.1, a.2.2.1, a.2.2.2.1, a.2.2.2.2⟩] : List aA) ++ ([⟨d.1, d.2.1, d.2.2.1, d.2.2.2.1, d.2.2.2.2⟩] : List aA))
 let o : Int := (IntKind.wrap .i64 (m + 1))
 aF (cd i.2.1 i.2.2 e o) (fun c =>
 cond (c.1 == 6) (
 chk (decide ((List.length j + List.length ([⟨c.1, c.2.1, c.2.2.1, c.2.2.2.1, c.2.2.2.2.1⟩] : List aA)) * 80 ≤ 140737488355328)) (
 let k : List aA := (j ++ ([⟨c.1, c.2.1, c.2.2.1, c.2.2.2.1, c.2.2.2.2.1⟩] : List aA))
 some (.agg [.int .i64 5, .int .i64 0, .str ([] : Bs), .sl .jnode (.may false) k, .sl .str (.may false) ([] : Bss)], [some [.sl .u8 (.may false) c.2.2.2.2.2.1, .int .i64 c.2.2.2.2.2.2.1], some [.sl .str .own c.2.2.2.2.2.2.2], some [.int .i64 5, .int .i64 0, .str ([] : Bs), .sl .jnode (.may false) k, .sl .str (.may false) ([] : Bss)], some [.int .i64 5, .int .i64 0, .str ([] : Bs), .sl .jnode .own k, .sl .str .own ([] : Bss)]]))) (
 some (.agg [.int .i64 5, .int .i64 0, .str ([] : Bs), .sl .jnode (.may false) j, .sl .str (.may false) ([] : Bss)], [some [.sl .u8 (.may false) c.2.2.2.2.2.1, .int .i64 c.2.2.2.2.2.2.1], some [.sl .str .own c.2.2.2.2.2.2.2], some [.int .i64 5, .int .i64 0, .str ([] : Bs), .sl .jnode (.may false) j, .sl .str (.may false) ([] : Bss)], some [.int .i64 5, .int .i64 0, .str ([] : Bs), .sl .jnode .own j, .sl .str .own ([] : Bss)]])))))))) (
 let p : Int := (IntKind.wrap .i64 (m + 1))
 aF (cd h.2.1 h.2.2 e p) (fun b =>
 cond (b.1 == 6) (
 chk ((true && decide (0 < List.length ([⟨b.1, b.2.1, b.2.2.1, b.2.2.2.1, b.2.2.2.2.1⟩] : List aA))) && decide ((List.length ([⟨a.1, a.2.1, a.2.2.1, a.2.2.2.1, a.2.2.2.2⟩] : List aA) + List.length ([⟨b.1, b.2.1, b.2.2.1, b.2.2.2.1, b.2.2.2.2.1⟩] : List aA)) * 80 ≤ 140737488355328)) (
 let l : List aA := (([⟨a.1, a.2.1, a.2.2.1, a.2.2.2.1, a.2.2.2.2⟩] : List aA) ++ ([⟨b.1, b.2.1, b.2.2.1, b.2.2.2.1, b.2.2.2.2.1⟩] : List aA))
 some (.agg [.int .i64 5, .int .i64 0, .str ([] : Bs), .sl .jnode (.may false) l, .sl .str (.may false) ([] : Bss)], [some [.sl .u8 (.may false) b.2.2.2.2.2.1, .int .i64 b.2.2.2.2.2.2.1], some [.sl .str .own b.2.2.2.2.2.2.2], some [.int .i64 5, .int .i64 0, .str ([] : Bs), .sl .jnode (.may false) l, .sl .str (.may false) ([] : Bss)], some [.int .i64 5, .int .i64 0, .str ([] : Bs), .sl .jnode .own l, .sl .str .own ([] : Bss)]]))) (
 some (.agg [.int .i64 5, .int .i64 0, .str ([] : Bs), .sl .jnode (.may true) ([⟨a.1, a.2.1, a.2.2.1, a.2.2.2.1, a.2.2.2.2⟩] : List aA), .sl .str (.may false) ([] : Bss)], [some [.sl .u8 (.may false) b.2.2.2.2.2.1, .int .i64 b.2.2.2.2.2.2.1], some [.sl .str .own b.2.2.2.2.2.2.2], some [.int .i64 5, .int .i64 0, .str ([] : Bs), .sl .jnode (.may true) ([⟨a.1, a.2.1, a.2.2.1, a.2.2.2.1, a.2.2.2.2⟩] : List aA), .sl .str (.may false) ([] : Bss)], some [.int .i64 5, .int .i64 0, .str ([] : Bs), .sl .jnode (.may true) ([⟨a.1, a.2.1, a.2.2.1, a.2.2.2.1, a.2.2.2.2⟩] : List aA), .sl .str .own ([] : Bss)]]))))))
def nw (N : Nat) (a : Bs) (b : Int) (c : Bss) (d : Int) : Ro := sH N a b c d
theorem zN (N : Nat) (a : Bs) (b : Int) (c : Bss) (d : Int) : bb tQ N 41 sG sF [.ptr 0 0, .int .i64 d, .ptr 1 0] [some [.sl .u8 (.may false) a, .int .i64 b], some [.sl .str .own c]] = nw N a b c d := by kernel_rfl
theorem zO (N : Nat) (a : Bs) (b : Int) (c : Bss) (g : Int) (h : Tot (nw N a b c g) (fun z => ∃ (i : Int) (j : Int) (k : Bs) (l : List aA) (m : Bss) (d : Bs) (e : Int) (f : Bss) (rest : List aI), z.1.dimR = .agg [.int .i64 i, .int .i64 j, .str k, .sl .jnode (.may false) l, .sl .str (.may false) m] ∧ z.2 = some [.sl .u8 (.may false) d, .int .i64 e] :: some [.sl .str .own f] :: rest ∧ qZ a b c g (i, j, k, l, m, d, e, f))) : ∃ r, g8 a b c g r := by
 obtain ⟨⟨v, hp⟩, hz, i, j, k, l, m, d, e, f, rest, e1, e2, hq⟩ := h
 simp only at e1 e2
 subst e2
 exact ⟨(i, j, k, l, m, d, e, f), aY.dimR (FnC.objs (css := [[.sl .u8 (.may false) a, .int .i64 b], [.sl .str .own c]]) (css' := [[.sl .u8 (.may false) d, .int .i64 e], [.sl .str .own f]]) aa6 (zN N a b c g) hz rfl) e1, hq⟩
noncomputable def gf : aM := tab (P := Try.prog) [] [ma, pM, zp] [] [ti, abO]
def qk : IR := Sq (Rs [Mv 17 10, Mv 18 11, Bi 19 .lss 17 18] (Cn 19 .skip (.exit 0))) (Sq (.block 1 (Rs [Mv 22 0, Mv 23 2, Bc 24 .add 23 1, Mv 25 3, Ca 26 117 [22, 24, 25], Pp (.alr 12 5), Fz 12 5 26] (Sq (.reg [Pp (.bsl 27 .str [kS [110, 97, 109, 101], kS [116, 121, 112, 101]] true), Mv 28 10, Pp (.bin 29 .add (kI 97) 28), Pp (.cvi 30 .u8 29), Pp (.bsl 31 .u8 [30] true), Pp (.b2s 32 31), Pp (.bin 33 .add (kS [102]) 32), Ca 34 86 [33], Ld 35 5 true 12, Pp (.bsl 36 .jnode [34, 35] true), Ca 37 118 [27, 36], Pp (.new 13 [vI 0, vI 0, vS, nl .jnode, nl .str]), Fo [] [4] (.st none 5 13 37)] [[], [], [1], [1, 2], [1, 2, 3], rg 1 4, rg 1 5, rg 1 6, [], rg 1 8, rg 0 9, [], rg 0 11]) (Sq (Rs [Mv 38 0, Ca 39 60 [38, kI 3], Bc 40 .eql 39 0] (Cn 40 (.reg [Fa 41 4 13, Fo [4] [] (.ld 42 1 false false 41), Pp (.bsl 43 .str [kS [100, 101, 102, 97, 117, 108, 116]] true), Pp (.app 44 .str (.tk 42) 43), Fa 45 3 13, Fo [4] [] (.ld 46 1 false false 45), Mv 47 0, Ld 48 5 true 12, Fo [] [0] (.call 49 119 [47, 48]), Pp (.bsl 50 .jnode [49] true), Pp (.app 51 .jnode (.tk 46) 50), Fa 52 4 13, Fo [] [4] (.st none 1 52 (.tk 44)), Fa 53 3 13, Fo [] [4] (.st none 1 53 (.tk 51))] [[], [0], [], [0, 1, 2], [], [4], [], [], [0, 1, 2, 3, 6, 7], [0, 1, 2, 3, 6, 7, 8], rg 0 9, rg 0 5, rg 0 11, rg 0 12, rg 0 13]) .skip)) (Rg [Fa 54 3 9, Pp (.ld 55 1 false true 54), Pp (.ld 56 5 true false 13), Pp (.bsl 57 .jnode [56] true), Pp (.app 58 .jnode (.tk 55) 57), Fa 59 3 9, Sk 1 59 58]))))) (Rg [Mv 20 10, Bc 21 .add 20 1, Mv 10 21]))
def pG : IR := Sq (.reg [Pp (.bsl 60 .str [kS [116, 121, 112, 101], kS [110, 97, 109, 101], kS [110, 97, 109, 101, 115, 112, 97, 99, 101], kS [102, 105, 101, 108, 100, 115]] true), Ca 61 86 [kS [114, 101, 99, 111, 114, 100]], Mv 62 1, Ca 63 86 [62], Ca 64 86 [kS [115]], Fo [3] [] (.ld 65 5 true false 9), Pp (.bsl 66 .jnode [61, 63, 64, 65] true), Ca 67 118 [60, 66], Fo [] [2] (.st none 5 8 67)] [[], [], [], [1, 2], [1, 2, 3], [], rg 1 5, rg 0 6, rg 0 7]) .ret
def mp : IR := Rs [Pp (.new 8 [vI 0, vI 0, vS, nl .jnode, nl .str])] (Rs [Pp (.bld 14 [vI 0, vI 0, vS, nl .jnode, nl .str] [(0, 1, kI 5)]), Pp (.new 9 [vI 0, vI 0, vS, nl .jnode, nl .str]), Sv 5 9 14] (Sq (Rs [Mv 15 0, Ca 16 60 [15, kI 5], Mi 10 0, Mv 11 16] (.block 0 (.loop [0, 1, 2, 3, 8, 9, 10, 11, 1000000] 4 qk))) pG))
def iT : List RV := [.cell 8 5 true]
theorem zP : FnC Try.prog gf [60, 117, 119, 2000060, 2000117, 2000119] 2 sm Try.f73 mp iT := fnC (by kernel_rfl) Try.func73 (by kernel_rfl) (by kernel_rfl) (by decide)
def yC (R : IR → (Ex → St → Ro) → St → Ro) (a : St → Ro) : Ex → St → Ro := (bD a [0, 1, 2, 3, 8, 9, 10, 11, 1000000] 4 (aT 0 (bv (R pG) (fin iT))))
abbrev eE : Type := (Bs × Int × Int × Int × Bs × Int × Bss × Int × Int × Bs × List aA × Bss × Int × Int × Bs × List aA × Bss)
def dZ : eE → St := fun (h, i, j, k, l, m, n, o, p, q, a, b, c, d, e, f, g) => { env := (.ptr 0 0 :: .str h :: .int .i64 i :: .ptr 1 0 :: (U 4 (.ptr 2 0 :: .ptr 3 0 :: .int .i64 j :: .int .i64 k :: (U 56 [])))), hp := [some [.sl .u8 (.may false) l, .int .i64 m], some [.sl .str .own n], some [.int .i64 o, .int .i64 p, .str q, .sl .jnode .own a, .sl .str .own b], some [.int .i64 c, .int .i64 d, .str e, .sl .jnode .own f, .sl .str .own g]] }
def lE (N : Nat) : (St → Ro) → St → Ro := fun a s => run gf N qk (yC (run gf N) a) s
def ij (N : Nat) (e : eE → Ro) : eE → Ro := fun (z, v2, k, t, l, m, n, o, p, q, r, s, f, g, h, c, i) =>
 cond (decide (k < t)) (
 let x1 : Int := (IntKind.wrap .i64 (v2 + 1))
 aF (cd l m n x1) (fun j =>
 let x2 : Int := (IntKind.wrap .i64 (97 + k))
 chk (decide (List.length ([102] : Bs) + List.length ([(UInt8.ofNat (Int.toNat (IntKind.wrap .u8 x2)))] : Bs) ≤ 9223372036854775807)) (
 let x3 : Bs := (([102] : Bs) ++ ([(UInt8.ofNat (Int.toNat (IntKind.wrap .u8 x2)))] : Bs))
 aF (bo x3) (fun u =>
 aF (dm true ([([110, 97, 109, 101] : Bs), ([116, 121, 112, 101] : Bs)] : Bss) true ([⟨u.1, u.2.1, u.2.2.1, u.2.2.2.1, u.2.2.2.2⟩, ⟨j.1, j.2.1, j.2.2.1, j.2.2.2.1, j.2.2.2.2.1⟩] : List aA)) (fun b =>
 aF (bh j.2.2.2.2.2.1 j.2.2.2.2.2.2.1 3) (fun v =>
 cond (v.1 == 0) (
 chk ((b.2.2.2.2.2.1 && decide (0 < List.length ([([100, 101, 102, 97, 117, 108, 116] : Bs)] : Bss))) && decide ((List.length b.2.2.2.2.2.2 + List.length ([([100, 101, 102, 97, 117, 108, 116] : Bs)] : Bss)) * 16 ≤ 140737488355328)) (
 let x4 : Bss := (b.2.2.2.2.2.2 ++ ([([100, 101, 102, 97, 117, 108, 116] : Bs)] : Bss))
 aF (eV v.2.1 v.2.2 j.1 j.2.1 j.2.2.1 j.2.2.2.1 j.2.2.2.2.1) (fun d =>
 chk ((b.2.2.2.1 && decide (0 < List.length ([⟨d.1, d.2.1, d.2.2.1, d.2.2.2.1, d.2.2.2.2.1⟩] : List aA))) && decide ((List.length b.2.2.2.2.1 + List.length ([⟨d.1, d.2.1, d.2.2.1, d.2.2.2.1, d.2.2.2.2.1⟩] : List aA)) * 80 ≤ 140737488355328)) (
 let x5 : List aA := (b.2.2.2.2.1 ++ ([⟨d.1, d.2.1, d.2.2.1, d.2.2.2.1, d.2.2.2.2.1⟩] : List aA))
 chk (decide ((List.length c + List.length ([⟨b.1, b.2.1, b.2.2.1, x5, x4⟩] : List aA)) * 80 ≤ 140737488355328)) (
 let x6 : List aA := (c ++ ([⟨b.1, b.2.1, b.2.2.1, x5, x4⟩] : List aA))
 let x7 : Int := (IntKind.wrap .i64 (k + 1))
 e (z, v2, x7, t, d.2.2.2.2.2.1, d.2.2.2.2.2.2, j.2.2.2.2.2.2.2, o, p, q, r, s, f, g, h, x6, i)))))) (
 chk (decide ((List.length c + List.length ([⟨b.1, b.2.1, b.2.2.1, b.2.2.2.2.1, b.2.2.2.2.2.2⟩] : List aA)) * 80 ≤ 140737488355328)) (
 let x8 : List aA := (c ++ ([⟨b.1, b.2.1, b.2.2.1, b.2.2.2.2.1, b.2.2.2.2.2.2⟩] : List aA))
 let x9 : Int := (IntKind.wrap .i64 (k + 1))
 e (z, v2, x9, t, v.2.1, v.2.2, j.2.2.2.2.2.2.2, o, p, q, r, s, f, g, h, x8, i))))))))) (
 aF (bo ([114, 101, 99, 111, 114, 100] : Bs)) (fun w =>
 aF (bo z) (fun x =>
 aF (bo ([115] : Bs)) (fun y =>
 aF (dm true ([([116, 121, 112, 101] : Bs), ([110, 97, 109, 101] : Bs), ([110, 97, 109, 101, 115, 112, 97, 99, 101] : Bs), ([102, 105, 101, 108, 100, 115] : Bs)] : Bss) true ([⟨w.1, w.2.1, w.2.2.1, w.2.2.2.1, w.2.2.2.2⟩, ⟨x.1, x.2.1, x.2.2.1, x.2.2.2.1, x.2.2.2.2⟩, ⟨y.1, y.2.1, y.2.2.1, y.2.2.2.1, y.2.2.2.2⟩, ⟨f, g, h, c, i⟩] : List aA)) (fun a =>
 some (.agg [.int .i64 a.1, .int .i64 a.2.1, .str a.2.2.1, .sl .jnode (.may a.2.2.2.1) a.2.2.2.2.1, .sl .str (.may a.2.2.2.2.2.1) a.2.2.2.2.2.2], [some [.sl .u8 (.may false) l, .int .i64 m], some [.sl .str .own n], some [.int .i64 a.1, .int .i64 a.2.1, .str a.2.2.1, .sl .jnode (.may a.2.2.2.1) a.2.2.2.2.1, .sl .str (.may a.2.2.2.2.2.1) a.2.2.2.2.2.2], some [.int .i64 f, .int .i64 g, .str h, .sl .jnode .own c, .sl .str .own i]]))))))
theorem xt (N : Nat) : ∀ (a : St → Ro) (x : eE), lE N a (dZ x) = ij N (fun y => a (dZ y)) x := by
 intro a x
 kernel_rfl
def ff (N : Nat) (a : Bs) (b : Int) (c : Bss) (e : Bs) (f : Int) (g : eE → Ro) : Ro :=
 aF (bh a b 5) (fun d =>
 g (e, f, 0, d.1, d.2.1, d.2.2, c, 0, 0, ([] : Bs), ([] : List aA), ([] : Bss), 5, 0, ([] : Bs), ([] : List aA), ([] : Bss)))
def mq (N : Nat) (a : Bs) (b : Int) (c : Bss) (d : Bs) (e : Int) : Ro := ff N a b c d e (fun z => aW N (ij N) z)
def aa7 (N : Nat) : List (Nat × (St → Ro)) := ba gf N mp (fin iT) ++ []
theorem yD (N : Nat) (a : Bs) (c : Int) (d : Bss) (e : Bs) (f : Int) : bb gf N 68 iT mp [.ptr 0 0, .str e, .int .i64 f, .ptr 1 0] [some [.sl .u8 (.may false) a, .int .i64 c], some [.sl .str .own d]] = mq N a c d e f :=
 (bH (aa7 N) (by kernel_rfl) rfl (fun C => ff N a c d e f (fun z => C 1000000 (dZ z))) (fun C => by kernel_rfl)).trans (Eq.trans (b := ff N a c d e f (fun z => bi N (lE N) (dZ z))) (by kernel_rfl) (congrArg (ff N a c d e f) (funext fun z => bj (dZ) (lE N) (ij N) (xt N) N z)))
theorem yE (N : Nat) (a : Bs) (b : Int) (c : Bss) (g : Bs) (i : Int) (h : Tot (mq N a b c g i) (fun z => ∃ (j : Int) (k : Int) (l : Bs) (m : List aA) (n : Bss) (d : Bs) (e : Int) (f : Bss) (rest : List aI), z.1.dimR = .agg [.int .i64 j, .int .i64 k, .str l, .sl .jnode (.may false) m, .sl .str (.may false) n] ∧ z.2 = some [.sl .u8 (.may false) d, .int .i64 e] :: some [.sl .str .own f] :: rest ∧ pY a b c g i (j, k, l, m, n, d, e, f))) : ∃ r, dH a b c g i r := by
 obtain ⟨⟨v, hp⟩, hz, j, k, l, m, n, d, e, f, rest, e1, e2, hq⟩ := h
 simp only at e1 e2
 subst e2
 exact ⟨(j, k, l, m, n, d, e, f), aY.dimR (FnC.objs (css := [[.sl .u8 (.may false) a, .int .i64 b], [.sl .str .own c]]) (css' := [[.sl .u8 (.may false) d, .int .i64 e], [.sl .str .own f]]) zP (yD N a b c g i) hz rfl) e1, hq⟩
noncomputable def bx : aM := tab (P := Try.prog) [] [ma] [] [ti, ake]
def fg : IR := Cn 12 (Rs [Mv 17 0, Ca 18 60 [17, kI 200], Bc 19 .sub 18 50, Pp (.bld 20 [vI 0, vI 0, vS, nl .jnode, nl .str] [(0, 1, kI 3), (1, 1, 19)]), Sv 5 4 20] .ret) (Sq (Rs [Pp (.bin 22 .eql 11 (kS [115, 116, 114, 105, 110, 103])), Mv 21 22] (Cn 21 .skip (Rg [Pp (.bin 23 .eql 11 (kS [98, 121, 116, 101, 115])), Mv 21 23]))) (Cn 21 (Rs [Pp (.bsl 24 .str [kS [], kS [100], kS [195, 164]] true), Mv 25 0, Ca 26 60 [25, kI 3], Ix 27 .str 24 26, Lq 28 27, Ca 29 86 [28], Sv 5 4 29] .ret) (Rs [Pp (.bin 31 .eql 11 (kS [98, 111, 111, 108, 101, 97, 110])), Mv 30 31] (Cn 30 (Rs [Mv 32 0, Ca 33 60 [32, kI 2], Pp (.bld 34 [vI 0, vI 0, vS, nl .jnode, nl .str] [(0, 1, kI 2), (1, 1, 33)]), Sv 5 4 34] .ret) (Rs [Pp (.bin 36 .eql 11 (kS [110, 117, 108, 108])), Mv 35 36] (Cn 35 (Rs [Pp (.bld 37 [vI 0, vI 0, vS, nl .jnode, nl .str] [(0, 1, kI 1)]), Sv 5 4 37] .ret) .skip))))))
def jw : IR := Sq (Rs [Fa 38 0 3, Lq 39 38, Bc 40 .eql 39 5] (Cn 40 (Rs [Pp (.bld 41 [vI 0, vI 0, vS, nl .jnode, nl .str] [(0, 1, kI 1)]), Sv 5 4 41] .ret) .skip)) (Rs [Ld 43 5 true 3, Ca 44 87 [43, kS [116, 121, 112, 101]], Mv 42 44, Ex_ 45 0 42, Ex_ 46 1 42, Pp (.alr 5 5), Fz 5 5 45, Mv 6 46] (Sq (Rs [Fa 47 2 5, Lq 48 47] (.block 1 (Rs [Pp (.bin 50 .eql 48 (kS [97, 114, 114, 97, 121])), Mv 49 50] (Cn 49 (Rs [Pp (.bld 51 [vI 0, vI 0, vS, nl .jnode, nl .str] [(0, 1, kI 5)]), Sv 5 4 51] .ret) (Rs [Pp (.bin 53 .eql 48 (kS [101, 110, 117, 109])), Mv 52 53] (Cn 52 (Rs [Ca 54 86 [kS [88]], Sv 5 4 54] .ret) .skip)))))) (Rs [Pp (.bld 55 [vI 0, vI 0, vS, nl .jnode, nl .str] [(0, 1, kI 6)]), Sv 5 4 55] .ret)))
def jx : IR := .cut [3, 4, 1000001] 2 jw
def lF : IR := Rs [Bx 3 1, Pp (.new 4 [vI 0, vI 0, vS, nl .jnode, nl .str])] (Sq (Rs [Fa 7 0 3, Lq 8 7, Bc 9 .eql 8 4] (Cn 9 (Rs [Fa 10 2 3, Lq 11 10] (.block 0 (Sq (Rs [Pp (.bin 13 .eql 11 (kS [105, 110, 116])), Mv 12 13] (Cn 12 .skip (Rs [Pp (.bin 14 .eql 11 (kS [108, 111, 110, 103])), Mv 12 14] (Cn 12 .skip (Rs [Pp (.bin 15 .eql 11 (kS [102, 108, 111, 97, 116])), Mv 12 15] (Cn 12 .skip (Rg [Pp (.bin 16 .eql 11 (kS [100, 111, 117, 98, 108, 101])), Mv 12 16]))))))) (.cut [0, 3, 4, 11, 12, 1000000] 2 fg)))) .skip)) jx)
def cw : List RV := [.cell 4 5 true]
theorem yF : FnC Try.prog bx [60, 2000060] 1 rD Try.f119 lF cw := fnC (by kernel_rfl) Try.func119 (by kernel_rfl) (by kernel_rfl) (by decide)
abbrev d6 : Type := (Int × Int × Bs × List aA × Bss × Bs × Bool × Bs × Int × Int × Int × Bs × List aA × Bss)
def dB : d6 → St := fun (e, f, g, h, i, j, k, l, m, n, a, b, c, d) => { env := (.ptr 0 0 :: .undef :: .undef :: .ea [.int .i64 e, .int .i64 f, .str g, .sl .jnode (.may false) h, .sl .str (.may false) i] :: .ptr 1 0 :: (U 6 (.str j :: .bool k :: (U 43 [])))), hp := [some [.sl .u8 (.may false) l, .int .i64 m], some [.int .i64 n, .int .i64 a, .str b, .sl .jnode .own c, .sl .str .own d]] }
def kw (R : IR → (Ex → St → Ro) → St → Ro) : Ex → St → Ro := (aT 0 (bv (R jx) (fin cw)))
abbrev gH : Type := (Int × Int × Bs × List aA × Bss × Bs × Int × Int × Int × Bs × List aA × Bss)
def fP : gH → St := fun (c, d, e, f, g, h, i, j, k, l, a, b) => { env := (U 3 (.ea [.int .i64 c, .int .i64 d, .str e, .sl .jnode (.may false) f, .sl .str (.may false) g] :: .ptr 1 0 :: (U 51 []))), hp := [some [.sl .u8 (.may false) h, .int .i64 i], some [.int .i64 j, .int .i64 k, .str l, .sl .jnode .own a, .sl .str .own b]] }
def kz (N : Nat) : St → Ro := fun s => run bx N jw (fin cw) s
def d7 (N : Nat) : gH → Ro := fun (d, e, f, g, h, a, b, _, _, _, _, _) =>
 cond (d == 5) (
 some (.agg [.int .i64 1, .int .i64 0, .str ([] : Bs), .sl .jnode (.may false) ([] : List aA), .sl .str (.may false) ([] : Bss)], [some [.sl .u8 (.may false) a, .int .i64 b], some [.int .i64 1, .int .i64 0, .str ([] : Bs), .sl .jnode .own ([] : List aA), .sl .str .own ([] : Bss)]])) (
 aF (pn d e f g h ([116, 121, 112, 101] : Bs)) (fun j =>
 let k : Bool := decide (j.2.2.1 = ([97, 114, 114, 97, 121] : Bs))
 cond k (
 some (.agg [.int .i64 5, .int .i64 0, .str ([] : Bs), .sl .jnode (.may false) ([] : List aA), .sl .str (.may false) ([] : Bss)], [some [.sl .u8 (.may false) a, .int .i64 b], some [.int .i64 5, .int .i64 0, .str ([] : Bs), .sl .jnode .own ([] : List aA), .sl .str .own ([] : Bss)]])) (
 let i : Bool := decide (j.2.2.1 = ([101, 110, 117, 109] : Bs))
 cond i (
 aF (bo ([88] : Bs)) (fun c =>
 some (.agg [.int .i64 c.1, .int .i64 c.2.1, .str c.2.2.1, .sl .jnode (.may false) c.2.2.2.1, .sl .str (.may false) c.2.2.2.2], [some [.sl .u8 (.may false) a, .int .i64 b], some [.int .i64 c.1, .int .i64 c.2.1, .str c.2.2.1, .sl .jnode (.may false) c.2.2.2.1, .sl .str (.may false) c.2.2.2.2]]))) (
 some (.agg [.int .i64 6, .int .i64 0, .str ([] : Bs), .sl .jnode (.may false) ([] : List aA), .sl .str (.may false) ([] : Bss)], [some [.sl .u8 (.may false) a, .int .i64 b], some [.int .i64 6, .int .i64 0, .str ([] : Bs), .sl .jnode .own ([] : List aA), .sl .str .own ([] : Bss)]])))))
theorem wq (N : Nat) : ∀ (x : gH), kz N (fP x) = d7 N x := by
 intro x
 kernel_rfl
def kA (N : Nat) : St → Ro := fun s => run bx N fg (kw (run bx N)) s
def fQ (N : Nat) (v : gH → Ro) : d6 → Ro := fun (f, g, h, i, j, e, s, a, b, k, l, m, n, o) =>
 cond s (
 aF (bh a b 200) (fun t =>
 let u : Int := (IntKind.wrap .i64 (t.1 - 50))
 some (.agg [.int .i64 3, .int .i64 u, .str ([] : Bs), .sl .jnode (.may false) ([] : List aA), .sl .str (.may false) ([] : Bss)], [some [.sl .u8 (.may false) t.2.1, .int .i64 t.2.2], some [.int .i64 3, .int .i64 u, .str ([] : Bs), .sl .jnode .own ([] : List aA), .sl .str .own ([] : Bss)]]))) (
 let w : Bool := decide (e = ([115, 116, 114, 105, 110, 103] : Bs))
 cond w (
 aF (bh a b 3) (fun p =>
 chk (decide (0 ≤ p.1) && decide (p.1 < ↑(List.length ([([] : Bs), ([100] : Bs), ([195, 164] : Bs)] : Bss)))) (
 let x : Bs := List.getD ([([] : Bs), ([100] : Bs), ([195, 164] : Bs)] : Bss) (Int.toNat p.1) (aC .str)
 aF (bo x) (fun c =>
 some (.agg [.int .i64 c.1, .int .i64 c.2.1, .str c.2.2.1, .sl .jnode (.may false) c.2.2.2.1, .sl .str (.may false) c.2.2.2.2], [some [.sl .u8 (.may false) p.2.1, .int .i64 p.2.2], some [.int .i64 c.1, .int .i64 c.2.1, .str c.2.2.1, .sl .jnode (.may false) c.2.2.2.1, .sl .str (.may false) c.2.2.2.2]]))))) (
 let y : Bool := decide (e = ([98, 121, 116, 101, 115] : Bs))
 cond y (
 aF (bh a b 3) (fun q =>
 chk (decide (0 ≤ q.1) && decide (q.1 < ↑(List.length ([([] : Bs), ([100] : Bs), ([195, 164] : Bs)] : Bss)))) (
 let z : Bs := List.getD ([([] : Bs), ([100] : Bs), ([195, 164] : Bs)] : Bss) (Int.toNat q.1) (aC .str)
 aF (bo z) (fun d =>
 some (.agg [.int .i64 d.1, .int .i64 d.2.1, .str d.2.2.1, .sl .jnode (.may false) d.2.2.2.1, .sl .str (.may false) d.2.2.2.2], [some [.sl .u8 (.may false) q.2.1, .int .i64 q.2.2], some [.int .i64 d.1, .int .i64 d.2.1, .str d.2.2.1, .sl .jnode (.may false) d.2.2.2.1, .sl .str (.may false) d.2.2.2.2]]))))) (
 let x7 : Bool := decide (e = ([98, 111, 111, 108, 101, 97, 110] : Bs))
 cond x7 (
 aF (bh a b 2) (fun r =>
 some (.agg [.int .i64 2, .int .i64 r.1, .str ([] : Bs), .sl .jnode (.may false) ([] : List aA), .sl .str (.may false) ([] : Bss)], [some [.sl .u8 (.may false) r.2.1, .int .i64 r.2.2], some [.int .i64 2, .int .i64 r.1, .str ([] : Bs), .sl .jnode .own ([] : List aA), .sl .str .own ([] : Bss)]]))) (
 let x8 : Bool := decide (e = ([110, 117, 108, 108] : Bs))
 cond x8 (
 some (.agg [.int .i64 1, .int .i64 0, .str ([] : Bs), .sl .jnode (.may false) ([] : List aA), .sl .str (.may false) ([] : Bss)], [some [.sl .u8 (.may false) a, .int .i64 b], some [.int .i64 1, .int .i64 0, .str ([] : Bs), .sl .jnode .own ([] : List aA), .sl .str .own ([] : Bss)]])) (
 v (f, g, h, i, j, a, b, k, l, m, n, o))))))
def gI (N : Nat) (x : d6) : Ro := fQ N (fun z => d7 N z) x
def kC (N : Nat) : List (Nat × (St → Ro)) := (ba bx N fg (kw (run bx N)) ++ (ba bx N jx (fin cw) ++ []))
theorem ws (N : Nat) : ∀ (x : d6), kA N (dB x) = gI N x := by
 intro x
 have hX : ∀ C : Nat → St → Ro, bL C bx N fg (kw (bL C bx N)) (dB x) = fQ N (fun z => C 1000001 (fP z)) x := by
  intro C
  kernel_rfl
 have h : kA N (dB x) = fQ N (fun z => kz N (fP z)) x := (cN (C := eQ (kC N)) (bU (be (l := (kC N)) (by kernel_rfl))) (cT (gu (bU (du (be (l := (kC N)) (by kernel_rfl)))) rfl)) _).trans ((hX _).trans (by kernel_rfl))
 have e1 : (fun z => kz N (fP z)) = (fun z => d7 N z) := funext fun z => wq N z
 rw [h, e1]
 rfl
abbrev gJ : Type := (Int × Int × Bs × List aA × Bss × Bs × Int × Int × Int × Bs × List aA × Bss)
def jI : gJ → St := fun (c, d, e, f, g, h, i, j, k, l, a, b) => { env := (U 3 (.ea [.int .i64 c, .int .i64 d, .str e, .sl .jnode (.may false) f, .sl .str (.may false) g] :: .ptr 1 0 :: (U 51 []))), hp := [some [.sl .u8 (.may false) h, .int .i64 i], some [.int .i64 j, .int .i64 k, .str l, .sl .jnode .own a, .sl .str .own b]] }
def ql (N : Nat) : St → Ro := fun s => run bx N jw (fin cw) s
def gK (N : Nat) : gJ → Ro := fun (d, e, f, g, h, b, c, _, _, _, _, _) =>
 cond (d == 5) (
 some (.agg [.int .i64 1, .int .i64 0, .str ([] : Bs), .sl .jnode (.may false) ([] : List aA), .sl .str (.may false) ([] : Bss)], [some [.sl .u8 (.may false) b, .int .i64 c], some [.int .i64 1, .int .i64 0, .str ([] : Bs), .sl .jnode .own ([] : List aA), .sl .str .own ([] : Bss)]])) (
 aF (pn d e f g h ([116, 121, 112, 101] : Bs)) (fun k =>
 let i : Bool := decide (k.2.2.1 = ([97, 114, 114, 97, 121] : Bs))
 cond i (
 some (.agg [.int .i64 5, .int .i64 0, .str ([] : Bs), .sl .jnode (.may false) ([] : List aA), .sl .str (.may false) ([] : Bss)], [some [.sl .u8 (.may false) b, .int .i64 c], some [.int .i64 5, .int .i64 0, .str ([] : Bs), .sl .jnode .own ([] : List aA), .sl .str .own ([] : Bss)]])) (
 let j : Bool := decide (k.2.2.1 = ([101, 110, 117, 109] : Bs))
 cond j (
 aF (bo ([88] : Bs)) (fun a =>
 some (.agg [.int .i64 a.1, .int .i64 a.2.1, .str a.2.2.1, .sl .jnode (.may false) a.2.2.2.1, .sl .str (.may false) a.2.2.2.2], [some [.sl .u8 (.may false) b, .int .i64 c], some [.int .i64 a.1, .int .i64 a.2.1, .str a.2.2.1, .sl .jnode (.may false) a.2.2.2.1, .sl .str (.may false) a.2.2.2.2]]))) (
 some (.agg [.int .i64 6, .int .i64 0, .str ([] : Bs), .sl .jnode (.may false) ([] : List aA), .sl .str (.may false) ([] : Bss)], [some [.sl .u8 (.may false) b, .int .i64 c], some [.int .i64 6, .int .i64 0, .str ([] : Bs), .sl .jnode .own ([] : List aA), .sl .str .own ([] : Bss)]])))))
theorem wt (N : Nat) : ∀ (x : gJ), ql N (jI x) = gK N x := by
 intro x
 kernel_rfl
def eF (N : Nat) (c : Bs) (d b e : Int) (a : Bs) (f : List aA) (g : Bss) (h : d6 → Ro) (l : gJ → Ro) : Ro :=
 cond (b == 4) (
 let m : Bool := decide (a = ([105, 110, 116] : Bs))
 cond m (
 h (b, e, a, f, g, a, true, c, d, 0, 0, ([] : Bs), ([] : List aA), ([] : Bss))) (
 let i : Bool := decide (a = ([108, 111, 110, 103] : Bs))
 cond i (
 h (b, e, a, f, g, a, true, c, d, 0, 0, ([] : Bs), ([] : List aA), ([] : Bss))) (
 let j : Bool := decide (a = ([102, 108, 111, 97, 116] : Bs))
 cond j (
 h (b, e, a, f, g, a, true, c, d, 0, 0, ([] : Bs), ([] : List aA), ([] : Bss))) (
 let k : Bool := decide (a = ([100, 111, 117, 98, 108, 101] : Bs))
 h (b, e, a, f, g, a, k, c, d, 0, 0, ([] : Bs), ([] : List aA), ([] : Bss)))))) (
 l (b, e, a, f, g, c, d, 0, 0, ([] : Bs), ([] : List aA), ([] : Bss)))
def lG (N : Nat) (a : Bs) (b c d : Int) (e : Bs) (f : List aA) (g : Bss) : Ro := eF N a b c d e f g (fun z => gI N z) (fun z => gK N z)
def zQ (N : Nat) : List (Nat × (St → Ro)) := ba bx N lF (fin cw) ++ []
theorem xu (N : Nat) (a : Bs) (c d e : Int) (f : Bs) (g : List aA) (h : Bss) : bb bx N 56 cw lF [.ptr 0 0, .agg [.int .i64 d, .int .i64 e, .str f, .sl .jnode (.may false) g, .sl .str (.may false) h]] [some [.sl .u8 (.may false) a, .int .i64 c]] = lG N a c d e f g h :=
 (bH (zQ N) (by kernel_rfl) rfl (fun C => eF N a c d e f g h (fun z => C 1000000 (dB z)) (fun z => C 1000001 (jI z))) (fun C => by kernel_rfl)).trans (Eq.trans (b := eF N a c d e f g h (fun z => kA N (dB z)) (fun z => ql N (jI z))) (by kernel_rfl) (congr (congrArg (eF N a c d e f g h) (funext fun z => ws N z)) (funext fun z => wt N z)))
theorem xv (N : Nat) (a : Bs) (b c d : Int) (e : Bs) (f : List aA) (g : Bss) (h : Tot (lG N a b c d e f g) (fun z => ∃ (k : Int) (l : Int) (m : Bs) (n : List aA) (o : Bss) (i : Bs) (j : Int) (rest : List aI), z.1.dimR = .agg [.int .i64 k, .int .i64 l, .str m, .sl .jnode (.may false) n, .sl .str (.may false) o] ∧ z.2 = some [.sl .u8 (.may false) i, .int .i64 j] :: rest ∧ dx a b c d e f g (k, l, m, n, o, i, j))) : ∃ r, eV a b c d e f g r := by
 obtain ⟨⟨v, hp⟩, hz, k, l, m, n, o, i, j, rest, e1, e2, hq⟩ := h
 simp only at e1 e2
 subst e2
 exact ⟨(k, l, m, n, o, i, j), aY.dimR (FnC.objs (css := [[.sl .u8 (.may false) a, .int .i64 b]]) (css' := [[.sl .u8 (.may false) i, .int .i64 j]]) yF (xu N a b c d e f g) hz rfl) e1, hq⟩
noncomputable def uV : aM := tab (P := Try.prog) [] [aaO] [] [ahU, agw]
def tR : IR := Rs [Pp (.new 2 [nl .atype]), Mb 3 false] (Rs [Mv 10 0, Ca 11 40 [10], Ca 12 39 [11], Mv 9 12, Ex_ 13 0 9, Ex_ 14 1 9, Pp (.alr 4 1), Fz 4 1 13, Mv 5 14] (Sq (Rs [Mv 15 5, Bc 16 .neq 15 0] (Cn 16 (Rs [Ld 17 1 true 4, Sv 1 2 17, Mb 3 false] .ret) .skip)) (Rs [Ld 19 1 true 4, Ca 20 41 [19], Mv 18 20, Ex_ 21 0 18, Ex_ 22 1 18, Ex_ 23 2 18, Mv 6 21, Mv 7 22, Mv 8 23] (Rs [Ld 24 1 true 4, Mv 25 6, Bc 26 .eql 25 0, Sv 1 2 24, Mv 3 26] .ret))))
def tS : List RV := [.cell 2 1 true, .t 3]
theorem acu : FnC Try.prog uV [40, 2000040] 1 uJ Try.f15 tR tS := fnC (by kernel_rfl) Try.func15 (by kernel_rfl) (by kernel_rfl) (by decide)
def tT (N : Nat) (c : Bs) (d : Int) : Ro :=
 aF (f5 c d) (fun a =>
 aF (oq a.1 a.2.1 a.2.2.1 a.2.2.2.1 a.2.2.2.2.1) (fun b =>
 cond (!(b.2 == 0)) (
 some (.tup [.agg [.sl .atype (.may false) b.1], .bool false], [some [.sl .u8 (.may false) a.2.2.2.2.2.1, .int .i64 a.2.2.2.2.2.2], some [.sl .atype (.may false) b.1]])) (
 aF (mG b.1) (fun e =>
 some (.tup [.agg [.sl .atype (.may false) b.1], .bool (e.1 == 0)], [some [.sl .u8 (.may false) a.2.2.2.2.2.1, .int .i64 a.2.2.2.2.2.2], some [.sl .atype (.may false) b.1]])))))
def pe (N : Nat) (a : Bs) (b : Int) : Ro := tT N a b
theorem aa8 (N : Nat) (a : Bs) (b : Int) : bb uV N 27 tS tR [.ptr 0 0] [some [.sl .u8 (.may false) a, .int .i64 b]] = pe N a b := by kernel_rfl
theorem aa9 (N : Nat) (a : Bs) (b : Int) (h : Tot (pe N a b) (fun z => ∃ (e : List ak) (f : Bool) (c : Bs) (d : Int) (rest : List aI), z.1.dimR = .tup [.agg [.sl .atype (.may false) e], .bool f] ∧ z.2 = some [.sl .u8 (.may false) c, .int .i64 d] :: rest ∧ rB a b (e, f, c, d))) : ∃ r, iD a b r := by
 obtain ⟨⟨v, hp⟩, hz, e, f, c, d, rest, e1, e2, hq⟩ := h
 simp only at e1 e2
 subst e2
 exact ⟨(e, f, c, d), aY.dimR (FnC.objs (css := [[.sl .u8 (.may false) a, .int .i64 b]]) (css' := [[.sl .u8 (.may false) c, .int .i64 d]]) acu (aa8 N a b) hz rfl) e1, hq⟩
end Go.Proofs.Ytdpajabhmmmjoaa
end
noncomputable section
namespace Go.Proofs.Ytdpajabhmmmjoaa
open Go.AM
set_option autoImplicit false
set_option linter.unusedVariables false
set_option maxRecDepth 100000
noncomputable def lH : aM := tab (P := Try.prog) [] [] [] []
def uW : IR := Sq (Rs [Mv 7 3, Bc 8 .geq 7 0] (Cn 8 .skip (.exit 0))) (Sq (.block 1 (Rs [Mv 11 0, Mv 12 3, Pp (.idx 13 11 12), Pp (.bin 14 .eql 13 (.c (.int .u8 46)))] (Cn 14 (Rs [Mv 15 0, Mv 16 3, Pp (.subs 17 15 none (some 16)), Mv 2 17] .ret) .skip))) (Rg [Mv 9 3, Bc 10 .sub 9 1, Mv 3 10]))
def uX : IR := Rs [Ms 2 []] .ret
def sh : IR := Rs [Ms 2 []] (Sq (Rs [Mv 4 0, Pp (.lens 5 4), Bc 6 .sub 5 1, Mv 3 6] (.block 0 (.loop [0, 3, 1000000] 0 uW))) uX)
def n7 : List RV := [.t 2]
theorem ae0 : FnC Try.prog lH [] 0 xS Try.f142 sh n7 := fnC (by kernel_rfl) Try.func142 (by kernel_rfl) (by kernel_rfl) (by decide)
def adS (R : IR → (Ex → St → Ro) → St → Ro) (a : St → Ro) : Ex → St → Ro := (bD a [0, 3, 1000000] 0 (aT 0 (bv (R uX) (fin n7))))
abbrev jy : Type := (Bs × Int)
def iH : jy → St := fun (a, b) => { env := (.str a :: .undef :: .undef :: .int .i64 b :: (U 14 [])), hp := [] }
def qU (N : Nat) : (St → Ro) → St → Ro := fun a s => run lH N uW (adS (run lH N) a) s
def mr (N : Nat) (a : jy → Ro) : jy → Ro := fun (c, b) =>
 cond (decide (0 ≤ b)) (
 chk (decide (0 ≤ b) && decide (b < ↑(List.length c))) (
 let d : Int := (↑(UInt8.toNat (List.getD c (Int.toNat b) 0)) : Int)
 cond (d == 46) (
 chk (decide (0 ≤ b) && decide (b ≤ (↑(List.length c) : Int))) (
 let e : Bs := (List.drop 0 (List.take (Int.toNat b) c))
 some (.str e, []))) (
 let f : Int := (IntKind.wrap .i64 (b - 1))
 a (c, f)))) (
 some (.str ([] : Bs), []))
theorem acT (N : Nat) : ∀ (a : St → Ro) (x : jy), qU N a (iH x) = mr N (fun y => a (iH y)) x := by
 intro a x
 kernel_rfl
def ke (N : Nat) (a : Bs) (b : jy → Ro) : Ro :=
 let c : Int := (↑(List.length a) : Int)
 let d : Int := (IntKind.wrap .i64 (c - 1))
 b (a, d)
def si (N : Nat) (a : Bs) : Ro := ke N a (fun z => aW N (mr N) z)
def af6 (N : Nat) : List (Nat × (St → Ro)) := ba lH N sh (fin n7) ++ []
theorem adT (N : Nat) (a : Bs) : bb lH N 18 n7 sh [.str a] [] = si N a :=
 (bH (af6 N) (by kernel_rfl) rfl (fun C => ke N a (fun z => C 1000000 (iH z))) (fun C => by kernel_rfl)).trans (Eq.trans (b := ke N a (fun z => bi N (qU N) (iH z))) (by kernel_rfl) (congrArg (ke N a) (funext fun z => bj (iH) (qU N) (mr N) (acT N) N z)))
theorem adU (N : Nat) (a : Bs) (h : Tot (si N a) (fun z => ∃ (b : Bs) (rest : List aI), z.1.dimR = .str b ∧ z.2 = rest ∧ iC a (b))) : ∃ r, kR a r := by
 obtain ⟨⟨v, hp⟩, hz, b, rest, e1, e2, hq⟩ := h
 simp only at e1 e2
 subst e2
 exact ⟨(b), aO.dimR (ae0.pure (adT N a) hz) e1, hq⟩
noncomputable def adk : aM := tab (P := Try.prog) [] [] [] [ah2]
def acv : IR := Rs [Bx 2 0, Ms 4 []] (Sq (Rs [Mv 5 1, Bc 6 .lss 5 0, Mv 7 6, Gf 7 (.mov 8 1), Gf 7 (.fad 9 0 2), Gf 7 (.lde 10 1 false 9), Gf 7 (.lenl 11 10), Gf 7 (.bin 12 .geq 8 11), Po 13 7 12] (Cn 13 (Rs [Ms 4 []] .ret) .skip)) (Sq (Rs [Fa 14 0 2, Lq 15 14, Mv 16 1, Ix 17 .atype 15 16, Fa 18 1 17, Lo 19 18, Pp (.bin 20 .neq 19 (kS []))] (Cn 20 (Rs [Fa 21 0 2, Lq 22 21, Mv 23 1, Ix 24 .atype 22 23, Fa 25 1 24, Lo 26 25, Mv 4 26] .ret) .skip)) (Rs [Fa 27 0 2, Lq 28 27, Mv 29 1, Ix 30 .atype 28 29, Fa 31 0 30, Lo 32 31, Ca 33 158 [32], Mv 4 33] .ret)))
def acw : List RV := [.t 4]
theorem aiU : FnC Try.prog adk [] 0 ac5 Try.f139 acv acw := fnC (by kernel_rfl) Try.func139 (by kernel_rfl) (by kernel_rfl) (by decide)
def acx (N : Nat) (a : List ak) (b : Int) : Ro :=
 cond (decide (b < 0)) (
 some (.str ([] : Bs), [])) (
 let f : Int := (↑(List.length a) : Int)
 cond (decide (f ≤ b)) (
 some (.str ([] : Bs), [])) (
 chk (decide (0 ≤ b) && decide (b < ↑(List.length a))) (
 let g : Bs := (List.getD a (Int.toNat b) (aC .atype)).name
 let c : Bool := (!decide (g = ([] : Bs)))
 cond c (
 chk (decide (0 ≤ b) && decide (b < ↑(List.length a))) (
 let d : Bs := (List.getD a (Int.toNat b) (aC .atype)).name
 some (.str d, []))) (
 chk (decide (0 ≤ b) && decide (b < ↑(List.length a))) (
 let e : Int := (List.getD a (Int.toNat b) (aC .atype)).kind
 aF (ov e) (fun (h : Bs) =>
 some (.str h, [])))))))
def vX (N : Nat) (a : List ak) (b : Int) : Ro := acx N a b
theorem ahq (N : Nat) (a : List ak) (b : Int) : bb adk N 34 acw acv [.agg [.sl .atype (.may false) a], .int .i64 b] [] = vX N a b := by kernel_rfl
theorem ahr (N : Nat) (a : List ak) (b : Int) (h : Tot (vX N a b) (fun z => ∃ (c : Bs) (rest : List aI), z.1.dimR = .str c ∧ z.2 = rest)) : ∃ r, ng a b r := by
 obtain ⟨⟨v, hp⟩, hz, c, rest, e1, e2⟩ := h
 simp only at e1 e2
 subst e2
 exact ⟨(c), aO.dimR (aiU.pure (ahq N a b) hz) e1⟩
noncomputable def gg : aM := tab (P := Try.prog) [] [bW] [] [ajh, ah4]
def qm : IR := Sq (Rs [Mv 12 8, Mv 13 1, Pp (.lens 14 13), Bi 15 .lss 12 14] (Cn 15 .skip (.exit 0))) (Sq (.block 1 (Rs [Mv 18 1, Mv 19 8, Pp (.idx 20 18 19), Pp (.bin 21 .eql 20 (.c (.int .u8 46)))] (Cn 21 (Rg [Mv 22 1, Mv 7 22]) .skip))) (Rg [Mv 16 8, Bc 17 .add 16 1, Mv 8 17]))
def qn : IR := Sq (Rs [Mv 23 1, Pp (.bin 24 .eql 23 (kS [])), Mv 25 24, Gf 25 (.mov 26 7), Gf 25 (.call 27 160 [26]), Gf 25 (.un 28 .not 27), Po 29 25 28] (Cn 29 (Rg [Mv 30 0, Ca 31 110 [30, kI 6]]) .skip)) (Rs [Mv 32 7, Mv 6 32] .ret)
def ms : IR := Rs [Ms 6 []] (Rs [Mv 9 2, Mv 10 1, Ca 11 159 [9, 10], Mv 7 11] (Sq (Rs [Mi 8 0] (.block 0 (.loop [0, 1, 7, 8, 1000000] 1 qm))) qn))
def iU : List RV := [.t 6]
theorem zR : FnC Try.prog gg [110, 2000110] 1 su Try.f141 ms iU := fnC (by kernel_rfl) Try.func141 (by kernel_rfl) (by kernel_rfl) (by decide)
def yG (R : IR → (Ex → St → Ro) → St → Ro) (a : St → Ro) : Ex → St → Ro := (bD a [0, 1, 7, 8, 1000000] 1 (aT 0 (bv (R qn) (fin iU))))
abbrev eG : Type := (Bs × Bs × Int × List ak × Int)
def d8 : eG → St := fun (a, b, c, d, e) => { env := (.ptr 0 0 :: .str a :: (U 5 (.str b :: .int .i64 c :: (U 24 [])))), hp := [some [.ul .atype d, .int .i64 e]] }
def lI (N : Nat) : (St → Ro) → St → Ro := fun a s => run gg N qm (yG (run gg N) a) s
def ik (N : Nat) (c : eG → Ro) : eG → Ro := fun (d, f, e, a, b) =>
 let i : Int := (↑(List.length d) : Int)
 cond (decide (e < i)) (
 chk (decide (0 ≤ e) && decide (e < ↑(List.length d))) (
 let j : Int := (↑(UInt8.toNat (List.getD d (Int.toNat e) 0)) : Int)
 cond (j == 46) (
 let k : Int := (IntKind.wrap .i64 (e + 1))
 c (d, d, k, a, b)) (
 let l : Int := (IntKind.wrap .i64 (e + 1))
 c (d, f, l, a, b)))) (
 let m : Bool := decide (d = ([] : Bs))
 cond m (
 aF (aH a b 6) (fun g =>
 some (.str f, [some [.ul .atype g.2.1, .int .i64 g.2.2]]))) (
 aF (oz f) (fun (n : Bool) =>
 cond (!n) (
 aF (aH a b 6) (fun h =>
 some (.str f, [some [.ul .atype h.2.1, .int .i64 h.2.2]]))) (
 some (.str f, [some [.ul .atype a, .int .i64 b]])))))
theorem xw (N : Nat) : ∀ (a : St → Ro) (x : eG), lI N a (d8 x) = ik N (fun y => a (d8 y)) x := by
 intro a x
 kernel_rfl
def fh (N : Nat) (a : List ak) (b : Int) (c d : Bs) (e : eG → Ro) : Ro :=
 aF (p9 d c) (fun (f : Bs) =>
 e (c, f, 0, a, b))
def mt (N : Nat) (a : List ak) (b : Int) (c d : Bs) : Ro := fh N a b c d (fun z => aW N (ik N) z)
def aba (N : Nat) : List (Nat × (St → Ro)) := ba gg N ms (fin iU) ++ []
theorem yH (N : Nat) (a : List ak) (c : Int) (d e : Bs) : bb gg N 33 iU ms [.ptr 0 0, .str d, .str e] [some [.ul .atype a, .int .i64 c]] = mt N a c d e :=
 (bH (aba N) (by kernel_rfl) rfl (fun C => fh N a c d e (fun z => C 1000000 (d8 z))) (fun C => by kernel_rfl)).trans (Eq.trans (b := fh N a c d e (fun z => bi N (lI N) (d8 z))) (by kernel_rfl) (congrArg (fh N a c d e) (funext fun z => bj (d8) (lI N) (ik N) (xw N) N z)))
theorem yI (N : Nat) (a : List ak) (b : Int) (e f : Bs) (h : Tot (mt N a b e f) (fun z => ∃ (g : Bs) (c : List ak) (d : Int) (rest : List aI), z.1.dimR = .str g ∧ z.2 = some [.ul .atype c, .int .i64 d] :: rest ∧ p6 a b e f (g, c, d))) : ∃ r, dI a b e f r := by
 obtain ⟨⟨v, hp⟩, hz, g, c, d, rest, e1, e2, hq⟩ := h
 simp only at e1 e2
 subst e2
 exact ⟨(g, c, d), aY.dimR (FnC.objs (css := [[.ul .atype a, .int .i64 b]]) (css' := [[.ul .atype c, .int .i64 d]]) zR (yH N a b e f) hz rfl) e1, hq⟩
noncomputable def tU : aM := tab (P := Try.prog) [] [bW] [] [mb]
def sI : IR := Rs [Bx 5 1, Ms 8 []] (Rs [Ld 12 5 true 5, Mv 13 2, Ca 14 113 [12, 13], Mv 11 14, Ex_ 15 0 11, Ex_ 16 1 11, Pp (.alr 9 5), Fz 9 5 15, Mv 10 16] (Sq (Rs [Mv 17 10, Un 18 17, Mv 19 18, Gt 19 (.mov 20 3), Gt 19 (.un 21 .not 20), Pa 22 19 21] (Cn 22 (Rs [Ms 8 []] .ret) .skip)) (Sq (Rs [Mv 23 10, Un 24 23, Mv 25 24, Gf 25 (.fad 26 0 9), Gf 25 (.lde 27 1 false 26), Gf 25 (.bin 28 .neq 27 (kI 4)), Po 29 25 28] (Cn 29 (Rs [Mv 30 0, Ca 31 110 [30, kI 2]] (Rs [Ms 8 []] .ret)) .skip)) (Rs [Fa 32 2 9, Lq 33 32, Mv 8 33] .ret))))
def sJ : List RV := [.t 8]
theorem abb : FnC Try.prog tU [110, 2000110] 1 tC Try.f140 sI sJ := fnC (by kernel_rfl) Try.func140 (by kernel_rfl) (by kernel_rfl) (by decide)
def sK (N : Nat) (a : List ak) (b d e : Int) (f : Bs) (g : List aA) (h : Bss) (m : Bs) (n : Bool) : Ro :=
 aF (b7 d e f g h m) (fun c =>
 cond (!c.2.2.2.2.2) (
 cond (!n) (
 some (.str ([] : Bs), [some [.ul .atype a, .int .i64 b]])) (
 cond (!c.2.2.2.2.2) (
 aF (aH a b 2) (fun i =>
 some (.str ([] : Bs), [some [.ul .atype i.2.1, .int .i64 i.2.2]]))) (
 cond (!(c.1 == 4)) (
 aF (aH a b 2) (fun j =>
 some (.str ([] : Bs), [some [.ul .atype j.2.1, .int .i64 j.2.2]]))) (
 some (.str c.2.2.1, [some [.ul .atype a, .int .i64 b]]))))) (
 cond (!c.2.2.2.2.2) (
 aF (aH a b 2) (fun k =>
 some (.str ([] : Bs), [some [.ul .atype k.2.1, .int .i64 k.2.2]]))) (
 cond (!(c.1 == 4)) (
 aF (aH a b 2) (fun l =>
 some (.str ([] : Bs), [some [.ul .atype l.2.1, .int .i64 l.2.2]]))) (
 some (.str c.2.2.1, [some [.ul .atype a, .int .i64 b]])))))
def ny (N : Nat) (a : List ak) (b c d : Int) (e : Bs) (f : List aA) (g : Bss) (h : Bs) (i : Bool) : Ro := sK N a b c d e f g h i
theorem zS (N : Nat) (a : List ak) (b c d : Int) (e : Bs) (f : List aA) (g : Bss) (h : Bs) (i : Bool) : bb tU N 34 sJ sI [.ptr 0 0, .agg [.int .i64 c, .int .i64 d, .str e, .sl .jnode (.may false) f, .sl .str (.may false) g], .str h, .bool i] [some [.ul .atype a, .int .i64 b]] = ny N a b c d e f g h i := by kernel_rfl
theorem zT (N : Nat) (a : List ak) (b c d : Int) (e : Bs) (f : List aA) (g : Bss) (k : Bs) (l : Bool) (h : Tot (ny N a b c d e f g k l) (fun z => ∃ (m : Bs) (i : List ak) (j : Int) (rest : List aI), z.1.dimR = .str m ∧ z.2 = some [.ul .atype i, .int .i64 j] :: rest ∧ q9 a b c d e f g k l (m, i, j))) : ∃ r, cD a b c d e f g k l r := by
 obtain ⟨⟨v, hp⟩, hz, m, i, j, rest, e1, e2, hq⟩ := h
 simp only at e1 e2
 subst e2
 exact ⟨(m, i, j), aY.dimR (FnC.objs (css := [[.ul .atype a, .int .i64 b]]) (css' := [[.ul .atype i, .int .i64 j]]) abb (zS N a b c d e f g k l) hz rfl) e1, hq⟩
noncomputable def gi : aM := tab (P := Try.prog) [] [bW] [] [mb]
def qo : IR := Sq (Rs [Mv 25 11, Fa 26 3 8, Lq 27 26, Ll 28 27, Bi 29 .lss 25 28, Mv 30 29, Gt 30 (.mov 31 0), Gt 30 (.nck 32 31), Gt 30 (.fad 33 1 32), Gt 30 (.ld 34 1 false false 33), Gt 30 (.bin 35 .eql 34 (kI 0)), Pa 36 30 35] (Cn 36 .skip (.exit 0))) (Sq (.block 1 (Sq (Rs [Fa 39 3 8, Lq 40 39, Mv 41 11, Ix 42 .jnode 40 41, Fa 43 0 42, Lo 44 43, Bc 45 .neq 44 4] (Cn 45 (Rg [Mv 46 0, Ca 47 110 [46, kI 2]]) .skip)) (Rg [Pp (.mov 48 (.tk 10)), Fa 49 3 8, Lq 50 49, Mv 51 11, Ix 52 .jnode 50 51, Fa 53 2 52, Lo 54 53, Pp (.bsl 55 .str [54] true), Pp (.app 56 .str (.tk 48) 55), Pp (.mov 10 (.tk 56))]))) (Rg [Mv 37 11, Bc 38 .add 37 1, Mv 11 38]))
def pH : IR := Rs [Mv 57 10, Mv 6 57, Mb 7 true] .ret
def mu : IR := Rs [Bx 4 1, Pp (.mov 6 (.c (nl .str))), Mb 7 false] (Rs [Ld 13 5 true 4, Mv 14 2, Ca 15 113 [13, 14], Mv 12 15, Ex_ 16 0 12, Ex_ 17 1 12, Pp (.alr 8 5), Fz 8 5 16, Mv 9 17] (Sq (Rs [Mv 18 9, Un 19 18] (Cn 19 (Rs [Pp (.mov 6 (.c (nl .str))), Mb 7 false] .ret) .skip)) (Sq (Rs [Fa 20 0 8, Lq 21 20, Bc 22 .neq 21 5] (Cn 22 (Rg [Mv 23 0, Ca 24 110 [23, kI 2]]) .skip)) (Rs [Pp (.mov 10 (.c (nl .str)))] (Sq (Rs [Mi 11 0] (.block 0 (.loop [0, 8, 10, 11, 1000000] 1 qo))) pH)))))
def iV : List RV := [.t 6, .t 7]
theorem zU : FnC Try.prog gi [110, 2000110] 1 sq Try.f143 mu iV := fnC (by kernel_rfl) Try.func143 (by kernel_rfl) (by kernel_rfl) (by decide)
def yJ (R : IR → (Ex → St → Ro) → St → Ro) (a : St → Ro) : Ex → St → Ro := (bD a [0, 8, 10, 11, 1000000] 1 (aT 0 (bv (R pH) (fin iV))))
abbrev eH : Type := (Int × Int × Bs × List aA × Bss × Bss × Int × List ak × Int)
def d9 : eH → St := fun (a, b, c, d, e, f, g, h, i) => { env := (.ptr 0 0 :: (U 7 (.ea [.int .i64 a, .int .i64 b, .str c, .sl .jnode (.may false) d, .sl .str (.may false) e] :: .undef :: .sl .str .own f :: .int .i64 g :: (U 46 [])))), hp := [some [.ul .atype h, .int .i64 i]] }
def lJ (N : Nat) : (St → Ro) → St → Ro := fun a s => run gi N qo (yJ (run gi N) a) s
def eI (N : Nat) (d : eH → Ro) : eH → Ro := fun (g, h, i, a, j, f, b, e, c) =>
 let r : Int := (↑(List.length a) : Int)
 cond (decide (b < r)) (
 cond (c == 0) (
 chk (decide (0 ≤ b) && decide (b < ↑(List.length a))) (
 let t : Int := (List.getD a (Int.toNat b) (aC .jnode)).kind
 cond (!(t == 4)) (
 aF (aH e c 2) (fun p =>
 chk (decide (0 ≤ b) && decide (b < ↑(List.length a))) (
 let q : Bs := (List.getD a (Int.toNat b) (aC .jnode)).s
 chk (decide ((List.length f + List.length ([q] : Bss)) * 16 ≤ 140737488355328)) (
 let l : Bss := (f ++ ([q] : Bss))
 let m : Int := (IntKind.wrap .i64 (b + 1))
 d (g, h, i, a, j, l, m, p.2.1, p.2.2))))) (
 chk (decide (0 ≤ b) && decide (b < ↑(List.length a))) (
 let k : Bs := (List.getD a (Int.toNat b) (aC .jnode)).s
 chk (decide ((List.length f + List.length ([k] : Bss)) * 16 ≤ 140737488355328)) (
 let n : Bss := (f ++ ([k] : Bss))
 let o : Int := (IntKind.wrap .i64 (b + 1))
 d (g, h, i, a, j, n, o, e, c)))))) (
 some (.tup [.sl .str (.may false) f, .bool true], [some [.ul .atype e, .int .i64 c]]))) (
 some (.tup [.sl .str (.may false) f, .bool true], [some [.ul .atype e, .int .i64 c]]))
theorem xx (N : Nat) : ∀ (a : St → Ro) (x : eH), lJ N a (d9 x) = eI N (fun y => a (d9 y)) x := by
 intro a x
 kernel_rfl
def fj (N : Nat) (b : List ak) (c d e : Int) (f : Bs) (g : List aA) (h : Bss) (k : Bs) (i : eH → Ro) : Ro :=
 aF (b7 d e f g h k) (fun a =>
 cond (!a.2.2.2.2.2) (
 some (.tup [.sl .str (.may false) ([] : Bss), .bool false], [some [.ul .atype b, .int .i64 c]])) (
 cond (!(a.1 == 5)) (
 aF (aH b c 2) (fun j =>
 i (a.1, a.2.1, a.2.2.1, a.2.2.2.1, a.2.2.2.2.1, ([] : Bss), 0, j.2.1, j.2.2))) (
 i (a.1, a.2.1, a.2.2.1, a.2.2.2.1, a.2.2.2.2.1, ([] : Bss), 0, b, c))))
def mv (N : Nat) (a : List ak) (b c d : Int) (e : Bs) (f : List aA) (g : Bss) (h : Bs) : Ro := fj N a b c d e f g h (fun z => aW N (eI N) z)
def abc (N : Nat) : List (Nat × (St → Ro)) := ba gi N mu (fin iV) ++ []
theorem yK (N : Nat) (a : List ak) (c d e : Int) (f : Bs) (g : List aA) (h : Bss) (i : Bs) : bb gi N 58 iV mu [.ptr 0 0, .agg [.int .i64 d, .int .i64 e, .str f, .sl .jnode (.may false) g, .sl .str (.may false) h], .str i] [some [.ul .atype a, .int .i64 c]] = mv N a c d e f g h i :=
 (bH (abc N) (by kernel_rfl) rfl (fun C => fj N a c d e f g h i (fun z => C 1000000 (d9 z))) (fun C => by kernel_rfl)).trans (Eq.trans (b := fj N a c d e f g h i (fun z => bi N (lJ N) (d9 z))) (by kernel_rfl) (congrArg (fj N a c d e f g h i) (funext fun z => bj (d9) (lJ N) (eI N) (xx N) N z)))
theorem yL (N : Nat) (a : List ak) (b c d : Int) (e : Bs) (f : List aA) (g : Bss) (k : Bs) (h : Tot (mv N a b c d e f g k) (fun z => ∃ (l : Bss) (m : Bool) (i : List ak) (j : Int) (rest : List aI), z.1.dimR = .tup [.sl .str (.may false) l, .bool m] ∧ z.2 = some [.ul .atype i, .int .i64 j] :: rest ∧ kh a b c d e f g k (l, m, i, j))) : ∃ r, b8 a b c d e f g k r := by
 obtain ⟨⟨v, hp⟩, hz, l, m, i, j, rest, e1, e2, hq⟩ := h
 simp only at e1 e2
 subst e2
 exact ⟨(l, m, i, j), aY.dimR (FnC.objs (css := [[.ul .atype a, .int .i64 b]]) (css' := [[.ul .atype i, .int .i64 j]]) zU (yK N a b c d e f g k) hz rfl) e1, hq⟩
noncomputable def bl : aM := tab (P := Try.prog) [] [bW, ou, ni] [] [mb, xc]
def pf : IR := Sq (Rs [Mv 56 9, Mv 57 8, Bi 58 .lss 56 57] (Cn 58 .skip (.exit 2))) (Sq (.block 3 (Sq (.reg [Mv 61 6, Mv 62 9, Ix 63 .str 61 62, Lq 64 63, Mv 65 6, Mv 66 8, Ix 67 .str 65 66, Lq 68 67, Bi 69 .eql 64 68] [[], [], [0, 1], [0, 1, 2], [], [], [4, 5], [4, 5, 6], rg 0 7]) (Cn 69 (Rg [Mv 70 0, Ca 71 110 [70, kI 5]]) .skip))) (Rg [Mv 59 9, Bc 60 .add 59 1, Mv 9 60]))
def n8 : IR := Rg [Mv 46 8, Bc 47 .add 46 1, Mv 8 47]
def eR : IR := Sq (Rs [Mv 35 8, Mv 36 6, Ll 37 36, Bi 38 .lss 35 37, Mv 39 38, Gt 39 (.mov 40 0), Gt 39 (.nck 41 40), Gt 39 (.fad 42 1 41), Gt 39 (.ld 43 1 false false 42), Gt 39 (.bin 44 .eql 43 (kI 0)), Pa 45 39 44] (Cn 45 .skip (.exit 0))) (Sq (.block 1 (Sq (Rs [Mv 48 6, Mv 49 8, Ix 50 .str 48 49, Lq 51 50, Ca 52 161 [51], Un 53 52] (Cn 53 (Rg [Mv 54 0, Ca 55 110 [54, kI 6]]) .skip)) (Rs [Mi 9 0] (.block 2 (.loop [0, 2, 4, 6, 8, 9, 1000000] 1 pf))))) n8)
def n9 : IR := Sq (Rs [Mv 80 14, Mv 81 6, Ll 82 81, Bi 83 .lss 80 82] (Cn 83 .skip (.exit 4))) (Sq (.block 5 (Rg [Mv 86 13, Mv 87 86, Gf 87 (.mov 88 6), Gf 87 (.mov 89 14), Gf 87 (.ixa 90 .str 88 89), Gf 87 (.lde 91 1 false 90), Gf 87 (.mov 92 12), Gf 87 (.bin 93 .eql 91 92), Po 94 87 93, Mv 13 94])) (Rg [Mv 84 14, Bc 85 .add 84 1, Mv 14 85]))
def oa : IR := Sq (Rs [Mv 95 11, Mv 96 95, Gt 96 (.mov 97 13), Gt 96 (.un 98 .not 97), Pa 99 96 98] (Cn 99 (Rg [Mv 100 0, Ca 101 110 [100, kI 6]]) .skip)) (Rs [Mv 102 0, Nk 103 102, Fa 104 1 103, Lo 105 104, Bc 106 .eql 105 0] (Cn 106 (.gh (.opn (.cell 0 0)) (.ghp (.cls (.cell 0 0)) (.reg [Mv 107 0, Nk 108 107, Fa 109 0 108, Fa 110 0 109, Fo [0] [] (.ld 111 1 false false 110), Mv 112 2, Mv 113 0, Nk 114 113, Fa 115 0 114, Fa 116 0 115, Fo [0] [] (.ld 117 1 false false 116), Mv 118 2, Mv 119 0, Nk 120 119, Fa 121 0 120, Fa 122 0 121, Fo [0] [] (.ld 123 1 false false 122), Mv 124 2, Mv 125 6, Mv 126 11, Mv 127 12, Pp (.ixw 128 .atype 111 112), Pp (.fdw 129 4 128), Fo [] [1] (.stw none 1 129 125), Pp (.ixw 130 .atype 117 118), Pp (.fdw 131 5 130), Fo [] [1] (.stw none 1 131 126), Pp (.ixw 132 .atype 123 124), Pp (.fdw 133 6 132), Fo [] [1] (.stw none 1 133 127)] [[], [0], [0, 1], [0, 1, 2], rg 0 3, [], [], [6], [6, 7], [6, 7, 8], rg 6 9, [], [], [12], [12, 13], [12, 13, 14], rg 12 15, [], [], [], [], rg 0 10 ++ rg 12 16 ++ [18], rg 0 10 ++ rg 12 16 ++ [18] ++ [21], rg 0 10 ++ rg 12 16 ++ [18] ++ [21, 22], rg 0 16 ++ [18, 19] ++ [21, 22, 23], rg 0 16 ++ [18, 19] ++ rg 21 24, rg 0 16 ++ [18, 19] ++ rg 21 25, rg 0 26, rg 0 27, rg 0 28]))) .skip))
def iW : IR := Rs [Ld 73 5 true 4, Ca 74 113 [73, kS [100, 101, 102, 97, 117, 108, 116]], Mv 72 74, Ex_ 75 0 72, Ex_ 76 1 72, Pp (.alr 10 5), Fz 10 5 75, Mv 11 76] (Rs [Mv 77 0, Ld 78 5 true 4, Ca 79 140 [77, 78, kS [100, 101, 102, 97, 117, 108, 116], kB false], Mv 12 79] (Rs [Mb 13 false] (Sq (Rs [Mi 14 0] (.block 4 (.loop [0, 2, 6, 11, 12, 13, 14, 1000002] 1 n9))) oa)))
def kD : IR := Rs [Bx 4 1] (Rs [Mv 16 0, Ld 17 5 true 4, Ca 18 143 [16, 17, kS [115, 121, 109, 98, 111, 108, 115]], Mv 15 18, Ex_ 19 0 15, Ex_ 20 1 15, Mv 6 19, Mv 7 20] (Sq (Rs [Mv 21 7, Un 22 21] (Cn 22 (Rg [Mv 23 0, Ca 24 110 [23, kI 2]]) .skip)) (Sq (Rs [Mv 25 6, Ll 26 25, Bc 27 .eql 26 0] (Cn 27 (Rg [Mv 28 0, Ca 29 110 [28, kI 6]]) .skip)) (Sq (Rs [Mv 30 6, Ll 31 30, Bc 32 .gtr 31 30] (Cn 32 (Rg [Mv 33 0, Ca 34 110 [33, kI 3]]) .skip)) (Sq (Rs [Mi 8 0] (.block 0 (.loop [0, 2, 4, 6, 8, 1000001] 1 eR))) iW)))))
def cW : List RV := []
theorem xy : FnC Try.prog bl [110, 140, 143, 2000110, 2000140, 2000143] 1 ra Try.f145 kD cW := fnC (by kernel_rfl) Try.func145 (by kernel_rfl) (by kernel_rfl) (by decide)
def fR (R : IR → (Ex → St → Ro) → St → Ro) (a : St → Ro) : Ex → St → Ro := (bD a [0, 2, 4, 6, 8, 1000001] 1 (aT 0 (bv (R iW) (fin cW))))
abbrev bT : Type := (Int × Int × Int × Bs × List aA × Bss × Bss × Int × List ak × Int)
def bm : bT → St := fun (a, b, c, d, e, f, g, h, i, j) => { env := (.ptr 0 0 :: .undef :: .int .i64 a :: .undef :: .ea [.int .i64 b, .int .i64 c, .str d, .sl .jnode (.may false) e, .sl .str (.may false) f] :: .undef :: .sl .str (.may false) g :: .undef :: .int .i64 h :: (U 125 [])), hp := [some [.ul .atype i, .int .i64 j]] }
def wu (R : IR → (Ex → St → Ro) → St → Ro) (a b : St → Ro) : Ex → St → Ro := (bD b [0, 2, 4, 6, 8, 9, 1000000] 1 (aT 2 (aT 1 (bv (R n8) (fR R a)))))
abbrev dC : Type := (Int × Int × Int × Bs × List aA × Bss × Bss × Int × Int × List ak × Int)
def cz : dC → St := fun (b, c, d, e, f, g, h, i, j, k, a) => { env := (.ptr 0 0 :: .undef :: .int .i64 b :: .undef :: .ea [.int .i64 c, .int .i64 d, .str e, .sl .jnode (.may false) f, .sl .str (.may false) g] :: .undef :: .sl .str (.may false) h :: .undef :: .int .i64 i :: .int .i64 j :: (U 124 [])), hp := [some [.ul .atype k, .int .i64 a]] }
def fS (N : Nat) (a : St → Ro) : (St → Ro) → St → Ro := fun b s => run bl N pf (wu (run bl N) a b) s
def cI (N : Nat) (i : bT → Ro) (a : dC → Ro) : dC → Ro := fun (m, b, c, d, e, f, j, k, l, g, h) =>
 cond (decide (l < k)) (
 chk (decide (0 ≤ l) && decide (l < ↑(List.length j))) (
 let o : Bs := List.getD j (Int.toNat l) (aC .str)
 chk (decide (0 ≤ k) && decide (k < ↑(List.length j))) (
 let p : Bs := List.getD j (Int.toNat k) (aC .str)
 cond (decide (o = p)) (
 aF (aH g h 5) (fun n =>
 let q : Int := (IntKind.wrap .i64 (l + 1))
 a (m, b, c, d, e, f, j, k, q, n.2.1, n.2.2))) (
 let r : Int := (IntKind.wrap .i64 (l + 1))
 a (m, b, c, d, e, f, j, k, r, g, h))))) (
 let s : Int := (IntKind.wrap .i64 (k + 1))
 i (m, b, c, d, e, f, j, s, g, h))
theorem vY (N : Nat) (b : St → Ro) : ∀ (a : St → Ro) (x : dC), fS N b a (cz x) = cI N (fun y => b (bm y)) (fun y => a (cz y)) x := by
 intro a x
 kernel_rfl
def wv (R : IR → (Ex → St → Ro) → St → Ro) (a : St → Ro) : Ex → St → Ro := (bD a [0, 2, 6, 11, 12, 13, 14, 1000002] 1 (aT 4 (bv (R oa) (fin cW))))
abbrev dD : Type := (Int × Bss × Bool × Bs × Bool × Int × List ak × Int)
def cA : dD → St := fun (a, b, c, d, e, f, g, h) => { env := (.ptr 0 0 :: .undef :: .int .i64 a :: (U 3 (.sl .str (.may false) b :: (U 4 (.bool c :: .str d :: .bool e :: .int .i64 f :: (U 119 [])))))), hp := [some [.ul .atype g, .int .i64 h]] }
def fT (N : Nat) : (St → Ro) → St → Ro := fun a s => run bl N n9 (wv (run bl N) a) s
def cJ (N : Nat) (f : dD → Ro) : dD → Ro := fun (c, j, g, h, q, i, b, d) =>
 let u : Int := (↑(List.length j) : Int)
 cond (decide (i < u)) (
 cond q (
 let v : Int := (IntKind.wrap .i64 (i + 1))
 f (c, j, g, h, true, v, b, d)) (
 chk (decide (0 ≤ i) && decide (i < ↑(List.length j))) (
 let w : Bs := List.getD j (Int.toNat i) (aC .str)
 let x : Int := (IntKind.wrap .i64 (i + 1))
 f (c, j, g, h, decide (w = h), x, b, d)))) (
 cond g (
 cond (!q) (
 aF (aH b d 6) (fun e =>
 cond (e.2.2 == 0) (
 chk (decide (0 < List.length e.2.1)) (
 chk (decide (0 ≤ c) && decide (c < ↑(List.length e.2.1))) (
 chk (decide ((Int.toNat c) < List.length e.2.1)) (
 let k : List ak := (List.set e.2.1 (Int.toNat c) (let a := List.getD e.2.1 (Int.toNat c) (aC .atype); ⟨a.kind, a.name, a.aliases, a.items, j, a.hasdef, a.df, a.size, a.fields, a.branches⟩))
 chk (decide (0 ≤ c) && decide (c < ↑(List.length e.2.1))) (
 chk (decide ((Int.toNat c) < List.length k)) (
 let l : List ak := (List.set k (Int.toNat c) (let a := List.getD k (Int.toNat c) (aC .atype); ⟨a.kind, a.name, a.aliases, a.items, a.syms, g, a.df, a.size, a.fields, a.branches⟩))
 chk (decide (0 ≤ c) && decide (c < ↑(List.length e.2.1))) (
 chk (decide ((Int.toNat c) < List.length l)) (
 let r : List ak := (List.set l (Int.toNat c) (let a := List.getD l (Int.toNat c) (aC .atype); ⟨a.kind, a.name, a.aliases, a.items, a.syms, a.hasdef, h, a.size, a.fields, a.branches⟩))
 chk (Nat.beq (List.length e.2.1) (List.length r)) (
 some (.tup [], [some [.ul .atype r, .int .i64 e.2.2], none, none])))))))))) (
 some (.tup [], [some [.ul .atype e.2.1, .int .i64 e.2.2]])))) (
 cond (d == 0) (
 chk (decide (0 < List.length b)) (
 chk (decide (0 ≤ c) && decide (c < ↑(List.length b))) (
 chk (decide ((Int.toNat c) < List.length b)) (
 let m : List ak := (List.set b (Int.toNat c) (let a := List.getD b (Int.toNat c) (aC .atype); ⟨a.kind, a.name, a.aliases, a.items, j, a.hasdef, a.df, a.size, a.fields, a.branches⟩))
 chk (decide (0 ≤ c) && decide (c < ↑(List.length b))) (
 chk (decide ((Int.toNat c) < List.length m)) (
 let n : List ak := (List.set m (Int.toNat c) (let a := List.getD m (Int.toNat c) (aC .atype); ⟨a.kind, a.name, a.aliases, a.items, a.syms, g, a.df, a.size, a.fields, a.branches⟩))
 chk (decide (0 ≤ c) && decide (c < ↑(List.length b))) (
 chk (decide ((Int.toNat c) < List.length n)) (
 let s : List ak := (List.set n (Int.toNat c) (let a := List.getD n (Int.toNat c) (aC .atype); ⟨a.kind, a.name, a.aliases, a.items, a.syms, a.hasdef, h, a.size, a.fields, a.branches⟩))
 chk (Nat.beq (List.length b) (List.length s)) (
 some (.tup [], [some [.ul .atype s, .int .i64 d], none, none])))))))))) (
 some (.tup [], [some [.ul .atype b, .int .i64 d]])))) (
 cond (d == 0) (
 chk (decide (0 < List.length b)) (
 chk (decide (0 ≤ c) && decide (c < ↑(List.length b))) (
 chk (decide ((Int.toNat c) < List.length b)) (
 let o : List ak := (List.set b (Int.toNat c) (let a := List.getD b (Int.toNat c) (aC .atype); ⟨a.kind, a.name, a.aliases, a.items, j, a.hasdef, a.df, a.size, a.fields, a.branches⟩))
 chk (decide (0 ≤ c) && decide (c < ↑(List.length b))) (
 chk (decide ((Int.toNat c) < List.length o)) (
 let p : List ak := (List.set o (Int.toNat c) (let a := List.getD o (Int.toNat c) (aC .atype); ⟨a.kind, a.name, a.aliases, a.items, a.syms, g, a.df, a.size, a.fields, a.branches⟩))
 chk (decide (0 ≤ c) && decide (c < ↑(List.length b))) (
 chk (decide ((Int.toNat c) < List.length p)) (
 let t : List ak := (List.set p (Int.toNat c) (let a := List.getD p (Int.toNat c) (aC .atype); ⟨a.kind, a.name, a.aliases, a.items, a.syms, a.hasdef, h, a.size, a.fields, a.branches⟩))
 chk (Nat.beq (List.length b) (List.length t)) (
 some (.tup [], [some [.ul .atype t, .int .i64 d], none, none])))))))))) (
 some (.tup [], [some [.ul .atype b, .int .i64 d]]))))
theorem vZ (N : Nat) : ∀ (a : St → Ro) (x : dD), fT N a (cA x) = cJ N (fun y => a (cA y)) x := by
 intro a x
 kernel_rfl
def fU (N : Nat) : (St → Ro) → St → Ro := fun a s => run bl N eR (fR (run bl N) a) s
def fk (N : Nat) (k : bT → Ro) (o : dC → Ro) (p : dD → Ro) : bT → Ro := fun (l, a, b, c, d, e, h, j, g, f) =>
 let r : Int := (↑(List.length h) : Int)
 cond (decide (j < r)) (
 cond (f == 0) (
 chk (decide (0 ≤ j) && decide (j < ↑(List.length h))) (
 let s : Bs := List.getD h (Int.toNat j) (aC .str)
 aF (gv s) (fun (t : Bool) =>
 cond (!t) (
 aF (aH g f 6) (fun q =>
 o (l, a, b, c, d, e, h, j, 0, q.2.1, q.2.2))) (
 o (l, a, b, c, d, e, h, j, 0, g, f))))) (
 aF (b7 a b c d e ([100, 101, 102, 97, 117, 108, 116] : Bs)) (fun u =>
 aF (cD g f a b c d e ([100, 101, 102, 97, 117, 108, 116] : Bs) false) (fun m =>
 p (l, h, u.2.2.2.2.2, m.1, false, 0, m.2.1, m.2.2))))) (
 aF (b7 a b c d e ([100, 101, 102, 97, 117, 108, 116] : Bs)) (fun n =>
 aF (cD g f a b c d e ([100, 101, 102, 97, 117, 108, 116] : Bs) false) (fun i =>
 p (l, h, n.2.2.2.2.2, i.1, false, 0, i.2.1, i.2.2))))
def dE (N : Nat) (a : bT → Ro) (x : bT) : Ro := fk N a (fun z => aW N (cI N a) z) (fun z => aW N (cJ N) z) x
def jJ (N : Nat) (a : St → Ro) : List (Nat × (St → Ro)) := (ba bl N eR (fR (run bl N) a) ++ (ba bl N iW (fin cW) ++ []))
theorem wa (N : Nat) : ∀ (a : St → Ro) (x : bT), fU N a (bm x) = dE N (fun y => a (bm y)) x := by
 intro a x
 have hX : ∀ C : Nat → St → Ro, bL C bl N eR (fR (bL C bl N) a) (bm x) = fk N (fun y => a (bm y)) (fun z => C 1000000 (cz z)) (fun z => C 1000002 (cA z)) x := by
  intro C
  kernel_rfl
 have h : fU N a (bm x) = fk N (fun y => a (bm y)) (fun z => bi N (fS N a) (cz z)) (fun z => bi N (fT N) (cA z)) x := (cN (C := eQ (jJ N a)) (bU (be (l := (jJ N a)) (by kernel_rfl))) (pW (cT (gu (bU (du (be (l := (jJ N a)) (by kernel_rfl)))) rfl))) _).trans ((hX _).trans (by kernel_rfl))
 have e1 : (fun z => bi N (fS N a) (cz z)) = (fun z => aW N (cI N (fun y => a (bm y))) z) := funext fun z => bj (cz) (fS N a) (cI N (fun y => a (bm y))) (vY N a) N z
 have e2 : (fun z => bi N (fT N) (cA z)) = (fun z => aW N (cJ N) z) := funext fun z => bj (cA) (fT N) (cJ N) (vZ N) N z
 rw [h, e1, e2]
 rfl
def eb (N : Nat) (k : List ak) (l a b : Int) (c : Bs) (d : List aA) (e : Bss) (h : Int) (i : bT → Ro) : Ro :=
 aF (b8 k l a b c d e ([115, 121, 109, 98, 111, 108, 115] : Bs)) (fun f =>
 cond (!f.2.1) (
 aF (aH f.2.2.1 f.2.2.2 2) (fun j =>
 let v : Int := (↑(List.length f.1) : Int)
 cond (v == 0) (
 aF (aH j.2.1 j.2.2 6) (fun p =>
 let w : Int := (↑(List.length f.1) : Int)
 cond (decide (30 < w)) (
 aF (aH p.2.1 p.2.2 3) (fun u =>
 i (h, a, b, c, d, e, f.1, 0, u.2.1, u.2.2))) (
 i (h, a, b, c, d, e, f.1, 0, p.2.1, p.2.2)))) (
 let q : Int := (↑(List.length f.1) : Int)
 cond (decide (30 < q)) (
 aF (aH j.2.1 j.2.2 3) (fun m =>
 i (h, a, b, c, d, e, f.1, 0, m.2.1, m.2.2))) (
 i (h, a, b, c, d, e, f.1, 0, j.2.1, j.2.2))))) (
 let r : Int := (↑(List.length f.1) : Int)
 cond (r == 0) (
 aF (aH f.2.2.1 f.2.2.2 6) (fun g =>
 let s : Int := (↑(List.length f.1) : Int)
 cond (decide (30 < s)) (
 aF (aH g.2.1 g.2.2 3) (fun n =>
 i (h, a, b, c, d, e, f.1, 0, n.2.1, n.2.2))) (
 i (h, a, b, c, d, e, f.1, 0, g.2.1, g.2.2)))) (
 let t : Int := (↑(List.length f.1) : Int)
 cond (decide (30 < t)) (
 aF (aH f.2.2.1 f.2.2.2 3) (fun o =>
 i (h, a, b, c, d, e, f.1, 0, o.2.1, o.2.2))) (
 i (h, a, b, c, d, e, f.1, 0, f.2.2.1, f.2.2.2)))))
def kE (N : Nat) (a : List ak) (b c d : Int) (e : Bs) (f : List aA) (g : Bss) (h : Int) : Ro := eb N a b c d e f g h (fun z => aW N (dE N) z)
def yM (N : Nat) : List (Nat × (St → Ro)) := ba bl N kD (fin cW) ++ []
theorem ww (N : Nat) (a : List ak) (c d e : Int) (f : Bs) (g : List aA) (h : Bss) (i : Int) : bb bl N 134 cW kD [.ptr 0 0, .agg [.int .i64 d, .int .i64 e, .str f, .sl .jnode (.may false) g, .sl .str (.may false) h], .int .i64 i] [some [.ul .atype a, .int .i64 c]] = kE N a c d e f g h i :=
 (bH (yM N) (by kernel_rfl) rfl (fun C => eb N a c d e f g h i (fun z => C 1000001 (bm z))) (fun C => by kernel_rfl)).trans (Eq.trans (b := eb N a c d e f g h i (fun z => bi N (fU N) (bm z))) (by kernel_rfl) (congrArg (eb N a c d e f g h i) (funext fun z => bj (bm) (fU N) (dE N) (wa N) N z)))
theorem wz (N : Nat) (a : List ak) (b c d : Int) (e : Bs) (f : List aA) (g : Bss) (k : Int) (h : Tot (kE N a b c d e f g k) (fun z => ∃ (i : List ak) (j : Int) (rest : List aI), z.1.dimR = .tup [] ∧ z.2 = some [.ul .atype i, .int .i64 j] :: rest ∧ ct a b c d e f g k (i, j))) : ∃ r, eu a b c d e f g k r := by
 obtain ⟨⟨v, hp⟩, hz, i, j, rest, e1, e2, hq⟩ := h
 simp only at e1 e2
 subst e2
 exact ⟨(i, j), aY.dimR (FnC.objs (css := [[.ul .atype a, .int .i64 b]]) (css' := [[.ul .atype i, .int .i64 j]]) xy (ww N a b c d e f g k) hz rfl) e1, hq⟩
noncomputable def hM : aM := tab (P := Try.prog) [] [bW, kJ, tD] [] [abN]
def rj : IR := Sq (Rs [Mv 26 9, Mv 27 1, Pp (.lens 28 27), Bi 29 .lss 26 28] (Cn 29 .skip (.exit 0))) (Sq (.block 1 (Rg [Mv 32 8, Mv 33 32, Gf 33 (.mov 34 1), Gf 33 (.mov 35 9), Gf 33 (.idx 36 34 35), Gf 33 (.bin 37 .eql 36 (.c (.int .u8 46))), Po 38 33 37, Mv 8 38])) (Rg [Mv 30 9, Bc 31 .add 30 1, Mv 9 31]))
def qp : IR := Sq (Rs [Mv 39 8, Un 40 39, Mv 41 40, Gt 41 (.mov 42 2), Gt 41 (.bin 43 .neq 42 (kS [])), Pa 44 41 43] (Cn 44 (Rs [Mv 46 0, Mv 47 2, Pp (.bin 48 .add 47 (kS [46])), Mv 49 1, Bi 50 .add 48 49, Ca 51 138 [46, 50], Mv 45 51, Ex_ 52 0 45, Ex_ 53 1 45, Mv 10 52, Mv 11 53] (Rs [Mv 54 11] (Cn 54 (Rs [Mv 55 10, Mv 6 55] .ret) .skip))) .skip)) (Rs [Mv 57 0, Mv 58 1, Ca 59 138 [57, 58], Mv 56 59, Ex_ 60 0 56, Ex_ 61 1 56, Mv 12 60, Mv 13 61] (Sq (Rs [Mv 62 13, Un 63 62] (Cn 63 (Rs [Mv 64 0, Ca 65 110 [64, kI 4], Mv 6 65] .ret) .skip)) (Rs [Mv 66 12, Mv 6 66] .ret)))
def nA : IR := Rs [Mi 6 0] (Rs [Mv 14 1, Ca 15 115 [14], Mv 7 15] (Sq (Rs [Mv 16 7, Bc 17 .geq 16 1, Mv 18 17, Gt 18 (.mov 19 7), Gt 18 (.bin 20 .leq 19 (kI 8)), Pa 21 18 20] (Cn 21 (Rs [Mv 22 0, Mv 23 7, Pp (.bld 24 [vI 0, vS, fu .str true, vI 0, fu .str true, .bool false, vS, vI 0, fu .afield true, fu (.num .i64) true] [(0, 1, 23)]), Ca 25 116 [22, 24], Mv 6 25] .ret) .skip)) (Rs [Mb 8 false] (Sq (Rs [Mi 9 0] (.block 0 (.loop [0, 1, 2, 8, 9, 1000000] 1 rj))) qp))))
def jG : List RV := [.t 6]
theorem abd : FnC Try.prog hM [110, 116, 138, 2000110, 2000116, 2000138] 1 tA Try.f111 nA jG := fnC (by kernel_rfl) Try.func111 (by kernel_rfl) (by kernel_rfl) (by decide)
def zV (R : IR → (Ex → St → Ro) → St → Ro) (a : St → Ro) : Ex → St → Ro := (bD a [0, 1, 2, 8, 9, 1000000] 1 (aT 0 (bv (R qp) (fin jG))))
abbrev fl : Type := (Bs × Bs × Bool × Int × List ak × Int)
def eJ : fl → St := fun (a, b, c, d, e, f) => { env := (.ptr 0 0 :: .str a :: .str b :: (U 5 (.bool c :: .int .i64 d :: (U 57 [])))), hp := [some [.ul .atype e, .int .i64 f]] }
def mw (N : Nat) : (St → Ro) → St → Ro := fun a s => run hM N rj (zV (run hM N) a) s
def fm (N : Nat) (c : fl → Ro) : fl → Ro := fun (d, j, n, e, a, b) =>
 let p : Int := (↑(List.length d) : Int)
 cond (decide (e < p)) (
 cond n (
 let q : Int := (IntKind.wrap .i64 (e + 1))
 c (d, j, true, q, a, b)) (
 chk (decide (0 ≤ e) && decide (e < ↑(List.length d))) (
 let r : Int := (↑(UInt8.toNat (List.getD d (Int.toNat e) 0)) : Int)
 let s : Int := (IntKind.wrap .i64 (e + 1))
 c (d, j, (r == 46), s, a, b)))) (
 cond (!n) (
 let t : Bool := (!decide (j = ([] : Bs)))
 cond t (
 chk (decide (List.length j + List.length ([46] : Bs) ≤ 9223372036854775807)) (
 let o : Bs := (j ++ ([46] : Bs))
 chk (decide (List.length o + List.length d ≤ 9223372036854775807)) (
 aF (bX a b (o ++ d)) (fun f =>
 cond f.2.1 (
 some (.int .i64 f.1, [some [.ul .atype f.2.2.1, .int .i64 f.2.2.2]])) (
 aF (bX f.2.2.1 f.2.2.2 d) (fun g =>
 cond (!g.2.1) (
 aF (aH g.2.2.1 g.2.2.2 4) (fun k =>
 some (.int .i64 k.1, [some [.ul .atype k.2.1, .int .i64 k.2.2]]))) (
 some (.int .i64 g.1, [some [.ul .atype g.2.2.1, .int .i64 g.2.2.2]])))))))) (
 aF (bX a b d) (fun h =>
 cond (!h.2.1) (
 aF (aH h.2.2.1 h.2.2.2 4) (fun l =>
 some (.int .i64 l.1, [some [.ul .atype l.2.1, .int .i64 l.2.2]]))) (
 some (.int .i64 h.1, [some [.ul .atype h.2.2.1, .int .i64 h.2.2.2]]))))) (
 aF (bX a b d) (fun i =>
 cond (!i.2.1) (
 aF (aH i.2.2.1 i.2.2.2 4) (fun m =>
 some (.int .i64 m.1, [some [.ul .atype m.2.1, .int .i64 m.2.2]]))) (
 some (.int .i64 i.1, [some [.ul .atype i.2.2.1, .int .i64 i.2.2.2]])))))
theorem yN (N : Nat) : ∀ (a : St → Ro) (x : fl), mw N a (eJ x) = fm N (fun y => a (eJ y)) x := by
 intro a x
 kernel_rfl
def gj (N : Nat) (a : List ak) (b : Int) (c f : Bs) (g : fl → Ro) : Ro :=
 aF (jm c) (fun (d : Int) =>
 cond (decide (1 ≤ d)) (
 cond (decide (d ≤ 8)) (
 aF (cZ a b d ([] : Bs) ([] : Bss) 0 ([] : Bss) false ([] : Bs) 0 ([] : List aQ) ([] : List Int)) (fun e =>
 some (.int .i64 e.1, [some [.ul .atype e.2.1, .int .i64 e.2.2]]))) (
 g (c, f, false, 0, a, b))) (
 g (c, f, false, 0, a, b)))
def nB (N : Nat) (a : List ak) (b : Int) (c d : Bs) : Ro := gj N a b c d (fun z => aW N (fm N) z)
def acy (N : Nat) : List (Nat × (St → Ro)) := ba hM N nA (fin jG) ++ []
theorem zW (N : Nat) (a : List ak) (c : Int) (d e : Bs) : bb hM N 67 jG nA [.ptr 0 0, .str d, .str e] [some [.ul .atype a, .int .i64 c]] = nB N a c d e :=
 (bH (acy N) (by kernel_rfl) rfl (fun C => gj N a c d e (fun z => C 1000000 (eJ z))) (fun C => by kernel_rfl)).trans (Eq.trans (b := gj N a c d e (fun z => bi N (mw N) (eJ z))) (by kernel_rfl) (congrArg (gj N a c d e) (funext fun z => bj (eJ) (mw N) (fm N) (yN N) N z)))
theorem zX (N : Nat) (a : List ak) (b : Int) (e f : Bs) (h : Tot (nB N a b e f) (fun z => ∃ (g : Int) (c : List ak) (d : Int) (rest : List aI), z.1.dimR = .int .i64 g ∧ z.2 = some [.ul .atype c, .int .i64 d] :: rest ∧ kP a b e f (g, c, d))) : ∃ r, eq a b e f r := by
 obtain ⟨⟨v, hp⟩, hz, g, c, d, rest, e1, e2, hq⟩ := h
 simp only at e1 e2
 subst e2
 exact ⟨(g, c, d), aY.dimR (FnC.objs (css := [[.ul .atype a, .int .i64 b]]) (css' := [[.ul .atype c, .int .i64 d]]) abd (zW N a b e f) hz rfl) e1, hq⟩
noncomputable def bC : aM := tab (P := Try.prog) [] [jR, bW, kJ] [139] [ajc]
def pI : IR := Sq (Rs [Mv 70 13, Mv 71 10, Ll 72 71, Bi 73 .lss 70 72] (Cn 73 .skip (.exit 2))) (Sq (.block 3 (Sq (.gh (.opn (.cell 0 0)) (.ghp (.cls (.cell 0 0)) (.reg [Mv 76 0, Nk 77 76, Fa 78 0 77, Fo [0] [] (.ld 79 1 true false 78), Mv 80 10, Mv 81 13, Ix 82 (.num .i64) 80 81, Lq 83 82, Fo [1] [] (.call 84 139 [79, 83]), Mv 85 0, Nk 86 85, Fa 87 0 86, Fo [0] [] (.ld 88 1 true false 87), Mv 89 12, Fo [1] [] (.call 90 139 [88, 89]), Bi 91 .eql 84 90] [[], [0], [0, 1], [0, 1, 2], [], [], [4, 5], [4, 5, 6], rg 0 7, [], [9], [9, 10], [9, 10, 11], [], rg 0 13, rg 0 14]))) (Cn 91 (Rs [Mv 92 0, Ca 93 110 [92, kI 6], Mv 8 93] .ret) .skip))) (Rg [Mv 74 13, Bc 75 .add 74 1, Mv 13 75]))
def pJ : IR := Rg [Pp (.mov 94 (.tk 10)), Mv 95 12, Pp (.bsl 96 (.num .i64) [95] true), Pp (.app 97 (.num .i64) (.tk 94) 96), Pp (.mov 10 (.tk 97))]
def pK : IR := Rg [Mv 41 11, Bc 42 .add 41 1, Mv 11 42]
def fV : IR := Sq (Rs [Mv 29 11, Fa 30 3 5, Lq 31 30, Ll 32 31, Bi 33 .lss 29 32, Mv 34 33, Gt 34 (.mov 35 0), Gt 34 (.nck 36 35), Gt 34 (.fad 37 1 36), Gt 34 (.ld 38 1 false false 37), Gt 34 (.bin 39 .eql 38 (kI 0)), Pa 40 34 39] (Cn 40 .skip (.exit 0))) (Sq (.block 1 (Rs [Mv 43 0, Fa 44 3 5, Lq 45 44, Mv 46 11, Ix 47 .jnode 45 46, Ld 48 5 true 47, Mv 49 2, Mv 50 3, Bc 51 .add 50 1, Ca 52 72 [43, 48, 49, 51], Mv 12 52] (Sq (Rs [Mv 53 0, Nk 54 53, Fa 55 1 54, Lo 56 55, Bc 57 .neq 56 0] (Cn 57 (Rs [Mi 8 0] .ret) .skip)) (Sq (Sq (.gh (.opn (.cell 0 0)) (.ghp (.cls (.cell 0 0)) (Rg [Mv 58 0, Nk 59 58, Fa 60 0 59, Fa 61 0 60, Lo 62 61, Mv 63 12, Pp (.ixw 64 .atype 62 63), Pp (.fdw 65 0 64), Pp (.ldw 66 1 false 65), Bc 67 .eql 66 14]))) (Cn 67 (Rs [Mv 68 0, Ca 69 110 [68, kI 6], Mv 8 69] .ret) .skip)) (Sq (Rs [Mi 13 0] (.block 2 (.loop [0, 2, 3, 5, 9, 10, 11, 12, 13, 1000000] 1 pI))) pJ))))) pK)
def jK : IR := Sq (Rs [Mv 98 0, Nk 99 98, Fa 100 1 99, Lo 101 100, Bc 102 .eql 101 0] (Cn 102 (.gh (.opn (.cell 0 0)) (.ghp (.cls (.cell 0 0)) (Rg [Mv 103 0, Nk 104 103, Fa 105 0 104, Fa 106 0 105, Lo 107 106, Mv 108 9, Mv 109 10, Pp (.ixw 110 .atype 107 108), Pp (.fdw 111 9 110), Pp (.stw none 1 111 109)]))) .skip)) (Rs [Mv 112 9, Mv 8 112] .ret)
def my : IR := Rs [Bx 5 1, Mi 8 0] (Rs [Mv 14 0, Pp (.bld 15 [vI 0, vS, fu .str true, vI 0, fu .str true, .bool false, vS, vI 0, fu .afield true, fu (.num .i64) true] [(0, 1, kI 14)]), Ca 16 116 [14, 15], Mv 9 16] (Sq (Rs [Fa 17 3 5, Lq 18 17, Ll 19 18, Bc 20 .eql 19 0] (Cn 20 (Rs [Mv 21 0, Ca 22 110 [21, kI 6], Mv 8 22] .ret) .skip)) (Sq (Rs [Fa 23 3 5, Lq 24 23, Ll 25 24, Bc 26 .gtr 25 30] (Cn 26 (Rs [Mv 27 0, Ca 28 110 [27, kI 3], Mv 8 28] .ret) .skip)) (Rs [Pp (.mov 10 (.c (nl (.num .i64))))] (Sq (Rs [Mi 11 0] (.block 0 (.loop [0, 2, 3, 5, 9, 10, 11, 1000001] 1 fV))) jK)))))
def fo : List RV := [.t 8]
theorem zY : FnC Try.prog bC [72, 110, 116, 139, 2000072, 2000110, 2000116, 2000139] 1 ss Try.f112 my fo := fnC (by kernel_rfl) Try.func112 (by kernel_rfl) (by kernel_rfl) (by decide)
def il (R : IR → (Ex → St → Ro) → St → Ro) (a : St → Ro) : Ex → St → Ro := (bD a [0, 2, 3, 5, 9, 10, 11, 1000001] 1 (aT 0 (bv (R jK) (fin fo))))
abbrev ca : Type := (Bs × Int × Int × Int × Bs × List aA × Bss × Int × List Int × Int × List ak × Int)
def bq : ca → St := fun (c, d, e, f, g, h, i, j, k, l, a, b) => { env := (.ptr 0 0 :: .undef :: .str c :: .int .i64 d :: .undef :: .ea [.int .i64 e, .int .i64 f, .str g, .sl .jnode (.may false) h, .sl .str (.may false) i] :: (U 3 (.int .i64 j :: .sl (.num .i64) .own k :: .int .i64 l :: (U 101 [])))), hp := [some [.ul .atype a, .int .i64 b]] }
def yO (R : IR → (Ex → St → Ro) → St → Ro) (a b : St → Ro) : Ex → St → Ro := (bD b [0, 2, 3, 5, 9, 10, 11, 12, 13, 1000000] 1 (aT 2 (bv (R pJ) (aT 1 (bv (R pK) (il R a))))))
abbrev eK : Type := (Bs × Int × Int × Int × Bs × List aA × Bss × Int × List Int × Int × Int × Int × List ak × Int)
def cX : eK → St := fun (e, f, g, h, i, j, k, l, m, n, a, b, c, d) => { env := (.ptr 0 0 :: .undef :: .str e :: .int .i64 f :: .undef :: .ea [.int .i64 g, .int .i64 h, .str i, .sl .jnode (.may false) j, .sl .str (.may false) k] :: (U 3 (.int .i64 l :: .sl (.num .i64) .own m :: .int .i64 n :: .int .i64 a :: .int .i64 b :: (U 99 [])))), hp := [some [.ul .atype c, .int .i64 d]] }
def im (N : Nat) (a : St → Ro) : (St → Ro) → St → Ro := fun b s => run bC N pI (yO (run bC N) a b) s
def eL (N : Nat) (e : ca → Ro) (f : eK → Ro) : eK → Ro := fun (t, u, h, i, j, k, l, v, b, m, g, c, a, d) =>
 let n : Int := (↑(List.length b) : Int)
 cond (decide (c < n)) (
 chk (decide (0 < List.length a)) (
 chk (decide (0 ≤ c) && decide (c < ↑(List.length b))) (
 let o : Int := List.getD b (Int.toNat c) (aC (.num .i64))
 zk (ng a o) (Nat.beq (List.length a) (List.length a) && true) (fun (w : Bs) =>
 zk (ng a g) (Nat.beq (List.length a) (List.length a) && true) (fun (x : Bs) =>
 chk (Nat.beq (List.length a) (List.length a)) (
 cond (decide (w = x)) (
 aF (aH a d 6) (fun p =>
 some (.int .i64 p.1, [some [.ul .atype p.2.1, .int .i64 p.2.2], none, none]))) (
 let q : Int := (IntKind.wrap .i64 (c + 1))
 f (t, u, h, i, j, k, l, v, b, m, g, q, a, d)))))))) (
 chk (decide ((List.length b + List.length ([g] : List Int)) * 8 ≤ 140737488355328)) (
 let r : List Int := (b ++ ([g] : List Int))
 let s : Int := (IntKind.wrap .i64 (m + 1))
 e (t, u, h, i, j, k, l, v, r, s, a, d)))
theorem xz (N : Nat) (b : St → Ro) : ∀ (a : St → Ro) (x : eK), im N b a (cX x) = eL N (fun y => b (bq y)) (fun y => a (cX y)) x := by
 intro a x
 kernel_rfl
def io (N : Nat) : (St → Ro) → St → Ro := fun a s => run bC N fV (il (run bC N) a) s
def gL (N : Nat) (q : ca → Ro) (w : eK → Ro) : ca → Ro := fun (u, v, i, j, k, b, m, g, h, d, a, c) =>
 let x : Int := (↑(List.length b) : Int)
 cond (decide (d < x)) (
 cond (c == 0) (
 chk (decide (0 ≤ d) && decide (d < ↑(List.length b))) (
 let y : Int := (List.getD b (Int.toNat d) (aC .jnode)).kind
 let z : Int := (List.getD b (Int.toNat d) (aC .jnode)).n
 let x6 : Bs := (List.getD b (Int.toNat d) (aC .jnode)).s
 let x7 : List aA := (List.getD b (Int.toNat d) (aC .jnode)).l
 let x8 : Bss := (List.getD b (Int.toNat d) (aC .jnode)).names
 let x9 : Int := (IntKind.wrap .i64 (v + 1))
 aF (bM a c y z x6 x7 x8 u x9) (fun f =>
 cond (!(f.2.2 == 0)) (
 some (.int .i64 0, [some [.ul .atype f.2.1, .int .i64 f.2.2]])) (
 chk (decide (0 < List.length f.2.1)) (
 chk (decide (0 ≤ f.1) && decide (f.1 < ↑(List.length f.2.1))) (
 chk (decide ((Int.toNat f.1) < List.length f.2.1)) (
 let r : Int := (List.getD f.2.1 (Int.toNat f.1) (aC .atype)).kind
 chk (Nat.beq (List.length f.2.1) (List.length f.2.1)) (
 cond (r == 14) (
 aF (aH f.2.1 f.2.2 6) (fun t =>
 some (.int .i64 t.1, [some [.ul .atype t.2.1, .int .i64 t.2.2], none, none]))) (
 w (u, v, i, j, k, b, m, g, h, d, f.1, 0, f.2.1, f.2.2)))))))))) (
 cond (c == 0) (
 chk (decide (0 < List.length a)) (
 chk (decide (0 ≤ g) && decide (g < ↑(List.length a))) (
 chk (decide ((Int.toNat g) < List.length a)) (
 let o : List ak := (List.set a (Int.toNat g) (let e := List.getD a (Int.toNat g) (aC .atype); ⟨e.kind, e.name, e.aliases, e.items, e.syms, e.hasdef, e.df, e.size, e.fields, h⟩))
 chk (Nat.beq (List.length a) (List.length o)) (
 some (.int .i64 g, [some [.ul .atype o, .int .i64 c], none, none])))))) (
 some (.int .i64 g, [some [.ul .atype a, .int .i64 c]])))) (
 cond (c == 0) (
 chk (decide (0 < List.length a)) (
 chk (decide (0 ≤ g) && decide (g < ↑(List.length a))) (
 chk (decide ((Int.toNat g) < List.length a)) (
 let p : List ak := (List.set a (Int.toNat g) (let e := List.getD a (Int.toNat g) (aC .atype); ⟨e.kind, e.name, e.aliases, e.items, e.syms, e.hasdef, e.df, e.size, e.fields, h⟩))
 chk (Nat.beq (List.length a) (List.length p)) (
 some (.int .i64 g, [some [.ul .atype p, .int .i64 c], none, none])))))) (
 some (.int .i64 g, [some [.ul .atype a, .int .i64 c]])))
def ip (N : Nat) (a : ca → Ro) (x : ca) : Ro := gL N a (fun z => aW N (eL N a) z) x
def lK (N : Nat) (a : St → Ro) : List (Nat × (St → Ro)) := (ba bC N fV (il (run bC N) a) ++ (ba bC N jK (fin fo) ++ []))
theorem xA (N : Nat) : ∀ (a : St → Ro) (x : ca), io N a (bq x) = ip N (fun y => a (bq y)) x := by
 intro a x
 have hX : ∀ C : Nat → St → Ro, bL C bC N fV (il (bL C bC N) a) (bq x) = gL N (fun y => a (bq y)) (fun z => C 1000000 (cX z)) x := by
  intro C
  kernel_rfl
 have h : io N a (bq x) = gL N (fun y => a (bq y)) (fun z => bi N (im N a) (cX z)) x := (cN (C := eQ (lK N a)) (bU (be (l := (lK N a)) (by kernel_rfl))) (pW (cT (gu (bU (du (be (l := (lK N a)) (by kernel_rfl)))) rfl))) _).trans ((hX _).trans (by kernel_rfl))
 have e1 : (fun z => bi N (im N a) (cX z)) = (fun z => aW N (eL N (fun y => a (bq y))) z) := funext fun z => bj (cX) (im N a) (eL N (fun y => a (bq y))) (xz N a) N z
 rw [h, e1]
 rfl
def fp (N : Nat) (c : List ak) (d e f : Int) (g : Bs) (a : List aA) (h : Bss) (k : Bs) (l : Int) (m : ca → Ro) : Ro :=
 aF (cZ c d 14 ([] : Bs) ([] : Bss) 0 ([] : Bss) false ([] : Bs) 0 ([] : List aQ) ([] : List Int)) (fun b =>
 let n : Int := (↑(List.length a) : Int)
 cond (n == 0) (
 aF (aH b.2.1 b.2.2 6) (fun i =>
 some (.int .i64 i.1, [some [.ul .atype i.2.1, .int .i64 i.2.2]]))) (
 let o : Int := (↑(List.length a) : Int)
 cond (decide (30 < o)) (
 aF (aH b.2.1 b.2.2 3) (fun j =>
 some (.int .i64 j.1, [some [.ul .atype j.2.1, .int .i64 j.2.2]]))) (
 m (k, l, e, f, g, a, h, b.1, ([] : List Int), 0, b.2.1, b.2.2))))
def mz (N : Nat) (a : List ak) (b c d : Int) (e : Bs) (f : List aA) (g : Bss) (h : Bs) (i : Int) : Ro := fp N a b c d e f g h i (fun z => aW N (ip N) z)
def abe (N : Nat) : List (Nat × (St → Ro)) := ba bC N my (fin fo) ++ []
theorem yP (N : Nat) (a : List ak) (c d e : Int) (f : Bs) (g : List aA) (h : Bss) (i : Bs) (j : Int) : bb bC N 113 fo my [.ptr 0 0, .agg [.int .i64 d, .int .i64 e, .str f, .sl .jnode (.may false) g, .sl .str (.may false) h], .str i, .int .i64 j] [some [.ul .atype a, .int .i64 c]] = mz N a c d e f g h i j :=
 (bH (abe N) (by kernel_rfl) rfl (fun C => fp N a c d e f g h i j (fun z => C 1000001 (bq z))) (fun C => by kernel_rfl)).trans (Eq.trans (b := fp N a c d e f g h i j (fun z => bi N (io N) (bq z))) (by kernel_rfl) (congrArg (fp N a c d e f g h i j) (funext fun z => bj (bq) (io N) (ip N) (xA N) N z)))
theorem yQ (N : Nat) (a : List ak) (b c d : Int) (e : Bs) (f : List aA) (g : Bss) (k : Bs) (l : Int) (h : Tot (mz N a b c d e f g k l) (fun z => ∃ (m : Int) (i : List ak) (j : Int) (rest : List aI), z.1.dimR = .int .i64 m ∧ z.2 = some [.ul .atype i, .int .i64 j] :: rest ∧ p5 a b c d e f g k l (m, i, j))) : ∃ r, f6 a b c d e f g k l r := by
 obtain ⟨⟨v, hp⟩, hz, m, i, j, rest, e1, e2, hq⟩ := h
 simp only at e1 e2
 subst e2
 exact ⟨(m, i, j), aY.dimR (FnC.objs (css := [[.ul .atype a, .int .i64 b]]) (css' := [[.ul .atype i, .int .i64 j]]) zY (yP N a b c d e f g k l) hz rfl) e1, hq⟩
noncomputable def aR : aM := tab (P := Try.prog) [] [jR, bW, ou, ni] [] [mb, xc]
def fq : IR := Sq (Rs [Mv 81 16, Mv 82 12, Ll 83 82, Bi 84 .lss 81 83] (Cn 84 .skip (.exit 2))) (Sq (.block 3 (Sq (.reg [Mv 87 12, Mv 88 16, Ix 89 .afield 87 88, Fa 90 0 89, Fo [] [] (.ld 91 1 false false 90), Fa 92 0 15, Fo [1] [] (.ld 93 1 false false 92), Bi 94 .eql 91 93] [[], [], [0, 1], [0, 1, 2], rg 0 3, [], [5], rg 0 6]) (Cn 94 (Rg [Mv 95 0, Ca 96 110 [95, kI 5]]) .skip))) (Rg [Mv 85 16, Bc 86 .add 85 1, Mv 16 86]))
def pg : IR := Sq (Rs [Mv 127 19, Fa 128 1 15, Lo 129 128, Ll 130 129, Bi 131 .lss 127 130, Mv 132 131, Gt 132 (.mov 133 0), Gt 132 (.nck 134 133), Gt 132 (.fad 135 1 134), Gt 132 (.ld 136 1 false false 135), Gt 132 (.bin 137 .eql 136 (kI 0)), Pa 138 132 137] (Cn 138 .skip (.exit 4))) (Sq (.block 5 (Rs [Fa 141 1 15, Lo 142 141, Mv 143 19, Ix 144 .str 142 143, Lq 145 144, Ca 146 161 [145], Un 147 146] (Cn 147 (Rg [Mv 148 0, Ca 149 110 [148, kI 6]]) .skip))) (Rg [Mv 139 19, Bc 140 .add 139 1, Mv 19 140]))
def ph : IR := Rg [Pp (.mov 150 (.tk 12)), Pp (.ld 151 9 true false 15), Pp (.bsl 152 .afield [151] true), Pp (.app 153 .afield (.tk 150) 152), Pp (.mov 12 (.tk 153))]
def jz : IR := Rs [Ld 98 5 true 14, Ca 99 113 [98, kS [116, 121, 112, 101]], Mv 97 99, Ex_ 100 0 97, Ex_ 101 1 97, Pp (.alr 17 5), Fz 17 5 100, Mv 18 101] (Sq (Rs [Mv 102 18, Un 103 102] (Cn 103 (Rg [Mv 104 0, Ca 105 110 [104, kI 2]]) .skip)) (Rs [Mv 106 0, Ld 107 5 true 17, Mv 108 3, Mv 109 4, Bc 110 .add 109 1, Ca 111 72 [106, 107, 108, 110], Fa 112 2 15, Sv 1 112 111] (Rs [Ld 114 5 true 14, Ca 115 113 [114, kS [100, 101, 102, 97, 117, 108, 116]], Mv 113 115, Ex_ 116 0 113, Ex_ 117 1 113, Fa 118 4 15, Sv 5 118 116, Fa 119 3 15, Sv 1 119 117] (Rs [Mv 121 0, Ld 122 5 true 14, Ca 123 143 [121, 122, kS [97, 108, 105, 97, 115, 101, 115]], Mv 120 123, Ex_ 124 0 120, Ex_ 125 1 120, Fa 126 1 15, Sk 1 126 124] (Sq (Rs [Mi 19 0] (.block 4 (.loop [0, 2, 3, 4, 10, 12, 13, 15, 19, 1000001] 2 pg))) ph)))))
def dq : IR := Rg [Mv 52 13, Bc 53 .add 52 1, Mv 13 53]
def ft : IR := Sq (Rs [Mv 40 13, Fa 41 3 10, Lq 42 41, Ll 43 42, Bi 44 .lss 40 43, Mv 45 44, Gt 45 (.mov 46 0), Gt 45 (.nck 47 46), Gt 45 (.fad 48 1 47), Gt 45 (.ld 49 1 false false 48), Gt 45 (.bin 50 .eql 49 (kI 0)), Pa 51 45 50] (Cn 51 .skip (.exit 0))) (Sq (.block 1 (Rs [Fa 54 3 10, Lq 55 54, Mv 56 13, Ix 57 .jnode 55 56, Ld 58 5 true 57, Pp (.alr 14 5), Fz 14 5 58] (Sq (Rs [Fa 59 0 14, Lq 60 59, Bc 61 .neq 60 6] (Cn 61 (Rs [Mv 62 0, Ca 63 110 [62, kI 2]] .ret) .skip)) (Rs [Mv 64 0, Ld 65 5 true 14, Ca 66 140 [64, 65, kS [110, 97, 109, 101], kB true], Pp (.bld 67 [vS, nl .str, vI 0, .bool false, vI 0, vI 0, vS, nl .jnode, nl .str] [(0, 1, 66)]), Pp (.new 15 [vS, nl .str, vI 0, .bool false, vI 0, vI 0, vS, nl .jnode, nl .str]), Sv 9 15 67] (Sq (Rs [Mv 68 0, Nk 69 68, Fa 70 1 69, Lo 71 70, Bc 72 .eql 71 0, Mv 73 72, Gt 73 (.fad 74 0 15), Gt 73 (.ld 75 1 false false 74), Gt 73 (.call 76 161 [75]), Gt 73 (.un 77 .not 76), Pa 78 73 77] (Cn 78 (Rg [Mv 79 0, Ca 80 110 [79, kI 6]]) .skip)) (Sq (Rs [Mi 16 0] (.block 2 (.loop [0, 2, 3, 4, 10, 12, 13, 14, 15, 16, 1000000] 2 fq))) jz)))))) dq)
def fv : IR := Rs [Mv 154 0, Nk 155 154, Fa 156 1 155, Lo 157 156, Bc 158 .eql 157 0] (Cn 158 (.gh (.opn (.cell 0 0)) (.ghp (.cls (.cell 0 0)) (Rg [Mv 159 0, Nk 160 159, Fa 161 0 160, Fa 162 0 161, Lo 163 162, Mv 164 2, Mv 165 12, Pp (.ixw 166 .atype 163 164), Pp (.fdw 167 8 166), Pp (.stw none 1 167 165)]))) .skip)
def lL : IR := Rs [Bx 6 1] (Rs [Ld 21 5 true 6, Ca 22 113 [21, kS [102, 105, 101, 108, 100, 115]], Mv 20 22, Ex_ 23 0 20, Ex_ 24 1 20, Pp (.alr 10 5), Fz 10 5 23, Mv 11 24] (Sq (Rs [Mv 25 11, Un 26 25, Mv 27 26, Gf 27 (.fad 28 0 10), Gf 27 (.lde 29 1 false 28), Gf 27 (.bin 30 .neq 29 (kI 5)), Po 31 27 30] (Cn 31 (Rs [Mv 32 0, Ca 33 110 [32, kI 2]] .ret) .skip)) (Sq (Rs [Fa 34 3 10, Lq 35 34, Ll 36 35, Bc 37 .gtr 36 30] (Cn 37 (Rs [Mv 38 0, Ca 39 110 [38, kI 3]] .ret) .skip)) (Rs [Pp (.mov 12 (.c (nl .afield)))] (Sq (Rs [Mi 13 0] (.block 0 (.loop [0, 2, 3, 4, 10, 12, 13, 1000002] 1 ft))) fv)))))
def de : List RV := []
theorem yR : FnC Try.prog aR [72, 110, 140, 143, 2000072, 2000110, 2000140, 2000143] 1 rE Try.f144 lL de := fnC (by kernel_rfl) Try.func144 (by kernel_rfl) (by kernel_rfl) (by decide)
def cj (R : IR → (Ex → St → Ro) → St → Ro) (a : St → Ro) : Ex → St → Ro := (bD a [0, 2, 3, 4, 10, 12, 13, 1000002] 1 (aT 0 (bv (R fv) (fin de))))
abbrev bE : Type := (Int × Bs × Int × Int × Int × Bs × List aA × Bss × List aQ × Int × List ak × Int)
def aU : bE → St := fun (c, d, e, f, g, h, i, j, k, l, a, b) => { env := (.ptr 0 0 :: .undef :: .int .i64 c :: .str d :: .int .i64 e :: (U 5 (.ea [.int .i64 f, .int .i64 g, .str h, .sl .jnode (.may false) i, .sl .str (.may false) j] :: .undef :: .sl .afield .own k :: .int .i64 l :: (U 154 [])))), hp := [some [.ul .atype a, .int .i64 b]] }
def kF (R : IR → (Ex → St → Ro) → St → Ro) (a b : St → Ro) : Ex → St → Ro := (bD b [0, 2, 3, 4, 10, 12, 13, 14, 15, 16, 1000000] 2 (aT 2 (bv (R jz) (aT 1 (bv (R dq) (cj R a))))))
abbrev ck : Type := (Int × Bs × Int × Int × Int × Bs × List aA × Bss × List aQ × Int × Int × Int × Bs × List aA × Bss × Int × List ak × Int × Bs × Bss × Int × Bool × Int × Int × Bs × List aA × Bss)
def bA : ck → St := fun (r, s, t, u, v, w, x, y, z, x9, a, b, c, d, e, f, g, h, i, j, k, l, m, n, o, p, q) => { env := (.ptr 0 0 :: .undef :: .int .i64 r :: .str s :: .int .i64 t :: (U 5 (.ea [.int .i64 u, .int .i64 v, .str w, .sl .jnode (.may false) x, .sl .str (.may false) y] :: .undef :: .sl .afield .own z :: .int .i64 x9 :: .ea [.int .i64 a, .int .i64 b, .str c, .sl .jnode (.may false) d, .sl .str (.may false) e] :: .ptr 1 0 :: .int .i64 f :: (U 151 [])))), hp := [some [.ul .atype g, .int .i64 h], some [.str i, .sl .str .own j, .int .i64 k, .bool l, .int .i64 m, .int .i64 n, .str o, .sl .jnode .own p, .sl .str .own q]] }
def xB (R : IR → (Ex → St → Ro) → St → Ro) (a b : St → Ro) : Ex → St → Ro := (bD b [0, 2, 3, 4, 10, 12, 13, 15, 19, 1000001] 2 (aT 4 (bv (R ph) (aT 1 (bv (R dq) (cj R a))))))
abbrev ee : Type := (Int × Bs × Int × Int × Int × Bs × List aA × Bss × List aQ × Int × Int × List ak × Int × Bs × Bss × Int × Bool × Int × Int × Bs × List aA × Bss)
def cK : ee → St := fun (m, n, o, p, q, r, s, t, u, v, a, b, c, d, e, f, g, h, i, j, k, l) => { env := (.ptr 0 0 :: .undef :: .int .i64 m :: .str n :: .int .i64 o :: (U 5 (.ea [.int .i64 p, .int .i64 q, .str r, .sl .jnode (.may false) s, .sl .str (.may false) t] :: .undef :: .sl .afield .own u :: .int .i64 v :: .undef :: .ptr 1 0 :: (U 3 (.int .i64 a :: (U 148 [])))))), hp := [some [.ul .atype b, .int .i64 c], some [.str d, .sl .str (.may false) e, .int .i64 f, .bool g, .int .i64 h, .int .i64 i, .str j, .sl .jnode (.may false) k, .sl .str (.may false) l]] }
def gM (N : Nat) (a : St → Ro) : (St → Ro) → St → Ro := fun b s => run aR N pg (xB (run aR N) a b) s
def cl (N : Nat) (p : bE → Ro) (q : ee → Ro) : ee → Ro := fun (w, x, y, j, k, l, m, n, s, u, t, r, o, b, a, c, d, e, f, g, h, i) =>
 let z : Int := (↑(List.length a) : Int)
 cond (decide (t < z)) (
 cond (o == 0) (
 chk (decide (0 ≤ t) && decide (t < ↑(List.length a))) (
 let aa : Bs := List.getD a (Int.toNat t) (aC .str)
 aF (gv aa) (fun (ab : Bool) =>
 cond (!ab) (
 aF (aH r o 6) (fun v =>
 let ac : Int := (IntKind.wrap .i64 (t + 1))
 q (w, x, y, j, k, l, m, n, s, u, ac, v.2.1, v.2.2, b, a, c, d, e, f, g, h, i))) (
 let ad : Int := (IntKind.wrap .i64 (t + 1))
 q (w, x, y, j, k, l, m, n, s, u, ad, r, o, b, a, c, d, e, f, g, h, i))))) (
 chk (decide ((List.length s + List.length ([⟨b, a, c, d, ⟨e, f, g, h, i⟩⟩] : List aQ)) * 136 ≤ 140737488355328)) (
 let ae : List aQ := (s ++ ([⟨b, a, c, d, ⟨e, f, g, h, i⟩⟩] : List aQ))
 let af : Int := (IntKind.wrap .i64 (u + 1))
 p (w, x, y, j, k, l, m, n, ae, af, r, o)))) (
 chk (decide ((List.length s + List.length ([⟨b, a, c, d, ⟨e, f, g, h, i⟩⟩] : List aQ)) * 136 ≤ 140737488355328)) (
 let ag : List aQ := (s ++ ([⟨b, a, c, d, ⟨e, f, g, h, i⟩⟩] : List aQ))
 let ah : Int := (IntKind.wrap .i64 (u + 1))
 p (w, x, y, j, k, l, m, n, ag, ah, r, o)))
theorem wA (N : Nat) (b : St → Ro) : ∀ (a : St → Ro) (x : ee), gM N b a (cK x) = cl N (fun y => b (aU y)) (fun y => a (cK y)) x := by
 intro a x
 kernel_rfl
def ef (N : Nat) (a : St → Ro) : (St → Ro) → St → Ro := fun b s => run aR N fq (kF (run aR N) a b) s
def fW (N : Nat) (aj : bE → Ro) (n : ck → Ro) (q2 : ee → Ro) : ck → Ro := fun (v2, v3, v4, g, h, i, j, k, m, t, a, b, c, d, e, q, o, p, l, u, v, w, x, y, z, aa, ab) =>
 let x8 : Int := (↑(List.length m) : Int)
 cond (decide (q < x8)) (
 chk (decide (0 ≤ q) && decide (q < ↑(List.length m))) (
 let x9 : Bs := (List.getD m (Int.toNat q) (aC .afield)).name
 cond (decide (x9 = l)) (
 aF (aH o p 5) (fun r9 =>
 let al : Int := (IntKind.wrap .i64 (q + 1))
 n (v2, v3, v4, g, h, i, j, k, m, t, a, b, c, d, e, al, r9.2.1, r9.2.2, l, u, v, w, x, y, z, aa, ab))) (
 let am : Int := (IntKind.wrap .i64 (q + 1))
 n (v2, v3, v4, g, h, i, j, k, m, t, a, b, c, d, e, am, o, p, l, u, v, w, x, y, z, aa, ab)))) (
 aF (b7 a b c d e ([116, 121, 112, 101] : Bs)) (fun f =>
 cond (!f.2.2.2.2.2) (
 aF (aH o p 2) (fun ai =>
 let an : Int := (IntKind.wrap .i64 (v4 + 1))
 aF (bM ai.2.1 ai.2.2 f.1 f.2.1 f.2.2.1 f.2.2.2.1 f.2.2.2.2.1 v3 an) (fun ac =>
 aF (b7 a b c d e ([100, 101, 102, 97, 117, 108, 116] : Bs)) (fun r =>
 aF (b8 ac.2.1 ac.2.2 a b c d e ([97, 108, 105, 97, 115, 101, 115] : Bs)) (fun ad =>
 q2 (v2, v3, v4, g, h, i, j, k, m, t, 0, ad.2.2.1, ad.2.2.2, l, ad.1, ac.1, r.2.2.2.2.2, r.1, r.2.1, r.2.2.1, r.2.2.2.1, r.2.2.2.2.1)))))) (
 let ao : Int := (IntKind.wrap .i64 (v4 + 1))
 aF (bM o p f.1 f.2.1 f.2.2.1 f.2.2.2.1 f.2.2.2.2.1 v3 ao) (fun ae =>
 aF (b7 a b c d e ([100, 101, 102, 97, 117, 108, 116] : Bs)) (fun s =>
 aF (b8 ae.2.1 ae.2.2 a b c d e ([97, 108, 105, 97, 115, 101, 115] : Bs)) (fun af =>
 q2 (v2, v3, v4, g, h, i, j, k, m, t, 0, af.2.2.1, af.2.2.2, l, af.1, ae.1, s.2.2.2.2.2, s.1, s.2.1, s.2.2.1, s.2.2.2.1, s.2.2.2.2.1)))))))
def cY (N : Nat) (a : bE → Ro) (b : ck → Ro) (x : ck) : Ro := fW N a b (fun z => aW N (cl N a) z) x
def eh (N : Nat) (a b : St → Ro) : List (Nat × (St → Ro)) := (ba aR N fq (kF (run aR N) a b) ++ (ba aR N jz (aT 1 (bv (run aR N dq) (cj (run aR N) a))) ++ (ba aR N dq (cj (run aR N) a) ++ (ba aR N fv (fin de) ++ []))))
theorem wB (N : Nat) (a : St → Ro) : ∀ (b : St → Ro) (x : ck), ef N a b (bA x) = cY N (fun y => a (aU y)) (fun y => b (bA y)) x := by
 intro b x
 have hX : ∀ C : Nat → St → Ro, bL C aR N fq (kF (bL C aR N) a b) (bA x) = fW N (fun y => a (aU y)) (fun y => b (bA y)) (fun z => C 1000001 (cK z)) x := by
  intro C
  kernel_rfl
 have h : ef N a b (bA x) = fW N (fun y => a (aU y)) (fun y => b (bA y)) (fun z => bi N (gM N a) (cK z)) x := (cN (C := eQ (eh N a b)) (bU (be (l := (eh N a b)) (by kernel_rfl))) (pW (cT (gu (bU (du (be (l := (eh N a b)) (by kernel_rfl)))) (cT (gu (bU (du (du (be (l := (eh N a b)) (by kernel_rfl))))) (pW (cT (gu (bU (du (du (du (be (l := (eh N a b)) (by kernel_rfl)))))) rfl)))))))) _).trans ((hX _).trans (by kernel_rfl))
 have e2 : (fun z => bi N (gM N a) (cK z)) = (fun z => aW N (cl N (fun y => a (aU y))) z) := funext fun z => bj (cK) (gM N a) (cl N (fun y => a (aU y))) (wA N a) N z
 rw [h, e2]
 rfl
def gP (N : Nat) : (St → Ro) → St → Ro := fun a s => run aR N ft (cj (run aR N) a) s
def fX (N : Nat) (r : bE → Ro) (x : ck → Ro) : bE → Ro := fun (j, y, z, f, g, h, b, i, k, d, a, c) =>
 let x2 : Int := (↑(List.length b) : Int)
 cond (decide (d < x2)) (
 cond (c == 0) (
 chk (decide (0 ≤ d) && decide (d < ↑(List.length b))) (
 let o : Int := (List.getD b (Int.toNat d) (aC .jnode)).kind
 let t : Int := (List.getD b (Int.toNat d) (aC .jnode)).n
 let u : Bs := (List.getD b (Int.toNat d) (aC .jnode)).s
 let v : List aA := (List.getD b (Int.toNat d) (aC .jnode)).l
 let w : Bss := (List.getD b (Int.toNat d) (aC .jnode)).names
 cond (!(o == 6)) (
 aF (aH a c 2) (fun r5 =>
 some (.tup [], [some [.ul .atype r5.2.1, .int .i64 r5.2.2]]))) (
 aF (cD a c o t u v w ([110, 97, 109, 101] : Bs) true) (fun m =>
 cond (m.2.2 == 0) (
 aF (gv m.1) (fun (r7 : Bool) =>
 cond (!r7) (
 aF (aH m.2.1 m.2.2 6) (fun r8 =>
 x (j, y, z, f, g, h, b, i, k, d, o, t, u, v, w, 0, r8.2.1, r8.2.2, m.1, ([] : Bss), 0, false, 0, 0, ([] : Bs), ([] : List aA), ([] : Bss)))) (
 x (j, y, z, f, g, h, b, i, k, d, o, t, u, v, w, 0, m.2.1, m.2.2, m.1, ([] : Bss), 0, false, 0, 0, ([] : Bs), ([] : List aA), ([] : Bss))))) (
 x (j, y, z, f, g, h, b, i, k, d, o, t, u, v, w, 0, m.2.1, m.2.2, m.1, ([] : Bss), 0, false, 0, 0, ([] : Bs), ([] : List aA), ([] : Bss))))))) (
 cond (c == 0) (
 chk (decide (0 < List.length a)) (
 chk (decide (0 ≤ j) && decide (j < ↑(List.length a))) (
 chk (decide ((Int.toNat j) < List.length a)) (
 let p : List ak := (List.set a (Int.toNat j) (let e := List.getD a (Int.toNat j) (aC .atype); ⟨e.kind, e.name, e.aliases, e.items, e.syms, e.hasdef, e.df, e.size, k, e.branches⟩))
 chk (Nat.beq (List.length a) (List.length p)) (
 some (.tup [], [some [.ul .atype p, .int .i64 c], none, none])))))) (
 some (.tup [], [some [.ul .atype a, .int .i64 c]])))) (
 cond (c == 0) (
 chk (decide (0 < List.length a)) (
 chk (decide (0 ≤ j) && decide (j < ↑(List.length a))) (
 chk (decide ((Int.toNat j) < List.length a)) (
 let q : List ak := (List.set a (Int.toNat j) (let e := List.getD a (Int.toNat j) (aC .atype); ⟨e.kind, e.name, e.aliases, e.items, e.syms, e.hasdef, e.df, e.size, k, e.branches⟩))
 chk (Nat.beq (List.length a) (List.length q)) (
 some (.tup [], [some [.ul .atype q, .int .i64 c], none, none])))))) (
 some (.tup [], [some [.ul .atype a, .int .i64 c]])))
def gQ (N : Nat) (a : bE → Ro) (x : bE) : Ro := fX N a (fun z => aW N (cY N a) z) x
def kG (N : Nat) (a : St → Ro) : List (Nat × (St → Ro)) := (ba aR N ft (cj (run aR N) a) ++ (ba aR N fv (fin de) ++ []))
theorem wC (N : Nat) : ∀ (a : St → Ro) (x : bE), gP N a (aU x) = gQ N (fun y => a (aU y)) x := by
 intro a x
 have hX : ∀ C : Nat → St → Ro, bL C aR N ft (cj (bL C aR N) a) (aU x) = fX N (fun y => a (aU y)) (fun z => C 1000000 (bA z)) x := by
  intro C
  kernel_rfl
 have h : gP N a (aU x) = fX N (fun y => a (aU y)) (fun z => bi N (ef N a) (bA z)) x := (cN (C := eQ (kG N a)) (bU (be (l := (kG N a)) (by kernel_rfl))) (pW (cT (gu (bU (du (be (l := (kG N a)) (by kernel_rfl)))) rfl))) _).trans ((hX _).trans (by kernel_rfl))
 have e1 : (fun z => bi N (ef N a) (bA z)) = (fun z => aW N (cY N (fun y => a (aU y))) z) := funext fun z => bj (bA) (ef N a) (cY N (fun y => a (aU y))) (wB N a) N z
 rw [h, e1]
 rfl
def eM (N : Nat) (a : List ak) (b d e : Int) (f : Bs) (g : List aA) (h : Bss) (l : Int) (m : Bs) (n : Int) (o : bE → Ro) : Ro :=
 aF (b7 d e f g h ([102, 105, 101, 108, 100, 115] : Bs)) (fun c =>
 cond (!c.2.2.2.2.2) (
 aF (aH a b 2) (fun i =>
 some (.tup [], [some [.ul .atype i.2.1, .int .i64 i.2.2]]))) (
 cond (!(c.1 == 5)) (
 aF (aH a b 2) (fun j =>
 some (.tup [], [some [.ul .atype j.2.1, .int .i64 j.2.2]]))) (
 let p : Int := (↑(List.length c.2.2.2.1) : Int)
 cond (decide (30 < p)) (
 aF (aH a b 3) (fun k =>
 some (.tup [], [some [.ul .atype k.2.1, .int .i64 k.2.2]]))) (
 o (l, m, n, c.1, c.2.1, c.2.2.1, c.2.2.2.1, c.2.2.2.2.1, ([] : List aQ), 0, a, b)))))
def lM (N : Nat) (a : List ak) (b c d : Int) (e : Bs) (f : List aA) (g : Bss) (h : Int) (i : Bs) (j : Int) : Ro := eM N a b c d e f g h i j (fun z => aW N (gQ N) z)
def zZ (N : Nat) : List (Nat × (St → Ro)) := ba aR N lL (fin de) ++ []
theorem xC (N : Nat) (a : List ak) (c d e : Int) (f : Bs) (g : List aA) (h : Bss) (i : Int) (j : Bs) (k : Int) : bb aR N 168 de lL [.ptr 0 0, .agg [.int .i64 d, .int .i64 e, .str f, .sl .jnode (.may false) g, .sl .str (.may false) h], .int .i64 i, .str j, .int .i64 k] [some [.ul .atype a, .int .i64 c]] = lM N a c d e f g h i j k :=
 (bH (zZ N) (by kernel_rfl) rfl (fun C => eM N a c d e f g h i j k (fun z => C 1000002 (aU z))) (fun C => by kernel_rfl)).trans (Eq.trans (b := eM N a c d e f g h i j k (fun z => bi N (gP N) (aU z))) (by kernel_rfl) (congrArg (eM N a c d e f g h i j k) (funext fun z => bj (aU) (gP N) (gQ N) (wC N) N z)))
theorem xD (N : Nat) (a : List ak) (b c d : Int) (e : Bs) (f : List aA) (g : Bss) (k : Int) (l : Bs) (m : Int) (h : Tot (lM N a b c d e f g k l m) (fun z => ∃ (i : List ak) (j : Int) (rest : List aI), z.1.dimR = .tup [] ∧ z.2 = some [.ul .atype i, .int .i64 j] :: rest ∧ cE a b c d e f g k l m (i, j))) : ∃ r, eW a b c d e f g k l m r := by
 obtain ⟨⟨v, hp⟩, hz, i, j, rest, e1, e2, hq⟩ := h
 simp only at e1 e2
 subst e2
 exact ⟨(i, j), aY.dimR (FnC.objs (css := [[.ul .atype a, .int .i64 b]]) (css' := [[.ul .atype i, .int .i64 j]]) yR (xC N a b c d e f g k l m) hz rfl) e1, hq⟩
noncomputable def br : aM := tab (P := Try.prog) [] [bW, kJ, tD, ou, aaV, ni, zt, xU] [] [mb, afd]
def gR : IR := Sq (Rs [Mv 59 17, Mv 60 15, Ll 61 60, Bi 62 .lss 59 61, Mv 63 62, Gt 63 (.mov 64 0), Gt 63 (.nck 65 64), Gt 63 (.fad 66 1 65), Gt 63 (.ld 67 1 false false 66), Gt 63 (.bin 68 .eql 67 (kI 0)), Pa 69 63 68] (Cn 69 .skip (.exit 0))) (Sq (.block 1 (.reg [Fa 72 2 14, Fo [] [1] (.ld 73 1 false true 72), Mv 74 0, Mv 75 15, Mv 76 17, Ix 77 .str 75 76, Lq 78 77, Mv 79 3, Fo [] [0] (.call 80 141 [74, 78, 79]), Pp (.bsl 81 .str [80] true), Pp (.app 82 .str (.tk 73) 81), Fa 83 2 14, Fo [] [1] (.st none 1 83 (.tk 82))] [[], [0], [], [], [], [3, 4], [3, 4, 5], [], rg 2 7, rg 2 8, rg 0 9, rg 0 10, rg 0 11])) (Rg [Mv 70 17, Bc 71 .add 70 1, Mv 17 71]))
def pL : IR := Sq (Rs [Mv 101 0, Nk 102 101, Fa 103 1 102, Lo 104 103, Bc 105 .neq 104 0] (Cn 105 (Rs [Mi 10 0] .ret) .skip)) (Rs [Mv 106 0, Pp (.ld 107 10 true false 14), Ca 108 116 [106, 107], Mv 20 108] (Sq (Rs [Mv 109 2] (.block 2 (Rs [Bc 150 .eql 109 9, Mv 149 150] (Cn 149 (Rg [Mv 151 0, Ld 152 5 true 6, Mv 153 20, Mv 154 3, Mv 155 4, Ca 156 144 [151, 152, 153, 154, 155]]) (Rs [Bc 158 .eql 109 10, Mv 157 158] (Cn 157 (Rg [Mv 159 0, Ld 160 5 true 6, Mv 161 20, Ca 162 145 [159, 160, 161]]) (Rs [Ld 111 5 true 6, Ca 112 113 [111, kS [115, 105, 122, 101]], Mv 110 112, Ex_ 113 0 110, Ex_ 114 1 110, Pp (.alr 21 5), Fz 21 5 113, Mv 22 114] (Sq (Rs [Mv 115 22, Un 116 115, Mv 117 116, Gf 117 (.fad 118 0 21), Gf 117 (.lde 119 1 false 118), Gf 117 (.bin 120 .neq 119 (kI 3)), Po 121 117 120] (Cn 121 (Rs [Mv 122 0, Ca 123 110 [122, kI 2], Mv 10 123] .ret) .skip)) (Sq (Rs [Fa 124 1 21, Lq 125 124, Bc 126 .lss 125 0, Mv 127 126, Gf 127 (.fad 128 1 21), Gf 127 (.lde 129 1 false 128), Gf 127 (.bin 130 .gtr 129 (kI 5000)), Po 131 127 130] (Cn 131 (Rs [Mv 132 0, Ca 133 110 [132, kI 6], Mv 10 133] .ret) .skip)) (Rs [Mv 134 0, Nk 135 134, Fa 136 1 135, Lo 137 136, Bc 138 .eql 137 0] (Cn 138 (.gh (.opn (.cell 0 0)) (.ghp (.cls (.cell 0 0)) (.reg [Mv 139 0, Nk 140 139, Fa 141 0 140, Fa 142 0 141, Fo [0] [] (.ld 143 1 false false 142), Mv 144 20, Fa 145 1 21, Lq 146 145, Pp (.ixw 147 .atype 143 144), Pp (.fdw 148 7 147), Fo [] [2] (.stw none 1 148 146)] [[], [0], [0, 1], [0, 1, 2], rg 0 3, [], [], [6], rg 0 7, rg 0 8, rg 0 9]))) .skip))))))))))) (Rs [Mv 163 20, Mv 10 163] .ret)))
def jL : IR := Rs [Mv 85 0, Fa 86 1 14, Lo 87 86, Ca 88 138 [85, 87], Mv 84 88, Ex_ 89 0 84, Ex_ 90 1 84, Mv 18 89, Mv 19 90] (Sq (Rs [Mv 91 0, Nk 92 91, Fa 93 1 92, Lo 94 93, Bc 95 .eql 94 0, Mv 96 95, Gt 96 (.mov 97 19), Pa 98 96 97] (Cn 98 (Rg [Mv 99 0, Ca 100 110 [99, kI 5]]) .skip)) (.cut [0, 2, 3, 4, 6, 14, 1000001] 2 pL))
def fY : IR := Sq (Rs [Mv 39 0, Nk 40 39, Fa 41 1 40, Lo 42 41, Bc 43 .neq 42 0] (Cn 43 (Rs [Mi 10 0] .ret) .skip)) (Rs [Mv 44 2, Mv 45 0, Mv 46 11, Mv 47 3, Ca 48 141 [45, 46, 47], Pp (.bld 49 [vI 0, vS, nl .str, vI 0, nl .str, .bool false, vS, vI 0, nl .afield, nl (.num .i64)] [(0, 1, 44), (1, 1, 48)]), Pp (.new 14 [vI 0, vS, nl .str, vI 0, nl .str, .bool false, vS, vI 0, nl .afield, nl (.num .i64)]), Sv 10 14 49] (Rs [Fa 50 1 14, Lo 51 50, Ca 52 142 [51], Mv 3 52] (Rs [Mv 54 0, Ld 55 5 true 6, Ca 56 143 [54, 55, kS [97, 108, 105, 97, 115, 101, 115]], Mv 53 56, Ex_ 57 0 53, Ex_ 58 1 53, Mv 15 57, Mv 16 58] (Sq (Rs [Mi 17 0] (.block 0 (.loop [0, 2, 3, 4, 6, 14, 15, 17, 1000000] 2 gR))) jL))))
def mA : IR := Rs [Bx 6 1, Mi 10 0] (Rs [Mv 23 0, Ld 24 5 true 6, Ca 25 140 [23, 24, kS [110, 97, 109, 101], kB true], Mv 11 25] (Rs [Ld 27 5 true 6, Ca 28 113 [27, kS [110, 97, 109, 101, 115, 112, 97, 99, 101]], Mv 26 28, Ex_ 29 0 26, Ex_ 30 1 26, Pp (.alr 12 5), Fz 12 5 29, Mv 13 30] (Sq (Rs [Mv 31 13] (Cn 31 (Sq (Rs [Fa 32 0 12, Lq 33 32, Bc 34 .neq 33 4] (Cn 34 (Rg [Mv 35 0, Ca 36 110 [35, kI 2]]) .skip)) (Rg [Fa 37 2 12, Lq 38 37, Mv 3 38])) .skip)) (.cut [0, 2, 3, 4, 6, 11, 1000002] 1 fY))))
def bV : List RV := [.t 10]
theorem z1 : FnC Try.prog br [110, 116, 138, 140, 141, 143, 144, 145, 2000110, 2000116, 2000138, 2000140, 2000141, 2000143, 2000144, 2000145] 1 sn Try.f114 mA bV := fnC (by kernel_rfl) Try.func114 (by kernel_rfl) (by kernel_rfl) (by decide)
abbrev eN : Type := (Int × Bs × Int × Int × Int × Bs × List aA × Bss × Bs × List ak × Int)
def el : eN → St := fun (b, c, d, e, f, g, h, i, j, k, a) => { env := (.ptr 0 0 :: .undef :: .int .i64 b :: .str c :: .int .i64 d :: .undef :: .ea [.int .i64 e, .int .i64 f, .str g, .sl .jnode (.may false) h, .sl .str (.may false) i] :: (U 4 (.str j :: (U 152 [])))), hp := [some [.ul .atype k, .int .i64 a]] }
def lN (R : IR → (Ex → St → Ro) → St → Ro) (a : St → Ro) : Ex → St → Ro := (bD a [0, 2, 3, 4, 6, 14, 15, 17, 1000000] 2 (aT 0 (bv (R jL) (fin bV))))
abbrev cB : Type := (Int × Bs × Int × Int × Int × Bs × List aA × Bss × Bss × Int × List ak × Int × Int × Bs × Bss × Int × Bss × Bool × Bs × Int × List aQ × List Int)
def bF : cB → St := fun (m, n, o, p, q, r, s, t, u, v, a, b, c, d, e, f, g, h, i, j, k, l) => { env := (.ptr 0 0 :: .undef :: .int .i64 m :: .str n :: .int .i64 o :: .undef :: .ea [.int .i64 p, .int .i64 q, .str r, .sl .jnode (.may false) s, .sl .str (.may false) t] :: (U 7 (.ptr 1 0 :: .sl .str (.may false) u :: .undef :: .int .i64 v :: (U 146 [])))), hp := [some [.ul .atype a, .int .i64 b], some [.int .i64 c, .str d, .sl .str .own e, .int .i64 f, .sl .str .own g, .bool h, .str i, .int .i64 j, .sl .afield .own k, .sl (.num .i64) .own l]] }
abbrev iq : Type := (Int × Bs × Int × Int × Int × Bs × List aA × Bss × List ak × Int × Int × Bs × Bss × Int × Bss × Bool × Bs × Int × List aQ × List Int)
def gS : iq → St := fun (k, l, m, n, o, p, q, r, s, t, a, b, c, d, e, f, g, h, i, j) => { env := (.ptr 0 0 :: .undef :: .int .i64 k :: .str l :: .int .i64 m :: .undef :: .ea [.int .i64 n, .int .i64 o, .str p, .sl .jnode (.may false) q, .sl .str (.may false) r] :: (U 7 (.ptr 1 0 :: (U 149 [])))), hp := [some [.ul .atype s, .int .i64 t], some [.int .i64 a, .str b, .sl .str .own c, .int .i64 d, .sl .str .own e, .bool f, .str g, .int .i64 h, .sl .afield .own i, .sl (.num .i64) .own j]] }
def lO (N : Nat) : St → Ro := fun s => run br N pL (fin bV) s
def dg (N : Nat) : iq → Ro := fun (v2, v3, v4, l, m, n, o, p, t, q, b, c, d, e, f, g, h, i, j, k) =>
 cond (!(q == 0)) (
 some (.int .i64 0, [some [.ul .atype t, .int .i64 q], some [.int .i64 b, .str c, .sl .str .own d, .int .i64 e, .sl .str .own f, .bool g, .str h, .int .i64 i, .sl .afield .own j, .sl (.num .i64) .own k]])) (
 aF (cZ t q b c d e f g h i j k) (fun a =>
 cond (v2 == 9) (
 aF (eW a.2.1 a.2.2 l m n o p a.1 v3 v4) (fun y =>
 some (.int .i64 a.1, [some [.ul .atype y.1, .int .i64 y.2], some [.int .i64 b, .str c, .sl .str .own d, .int .i64 e, .sl .str .own f, .bool g, .str h, .int .i64 i, .sl .afield .own j, .sl (.num .i64) .own k]]))) (
 cond (v2 == 10) (
 aF (eu a.2.1 a.2.2 l m n o p a.1) (fun z =>
 some (.int .i64 a.1, [some [.ul .atype z.1, .int .i64 z.2], some [.int .i64 b, .str c, .sl .str .own d, .int .i64 e, .sl .str .own f, .bool g, .str h, .int .i64 i, .sl .afield .own j, .sl (.num .i64) .own k]]))) (
 aF (b7 l m n o p ([115, 105, 122, 101] : Bs)) (fun r =>
 cond (!r.2.2.2.2.2) (
 aF (aH a.2.1 a.2.2 2) (fun u =>
 some (.int .i64 u.1, [some [.ul .atype u.2.1, .int .i64 u.2.2], some [.int .i64 b, .str c, .sl .str .own d, .int .i64 e, .sl .str .own f, .bool g, .str h, .int .i64 i, .sl .afield .own j, .sl (.num .i64) .own k]]))) (
 cond (!(r.1 == 3)) (
 aF (aH a.2.1 a.2.2 2) (fun v =>
 some (.int .i64 v.1, [some [.ul .atype v.2.1, .int .i64 v.2.2], some [.int .i64 b, .str c, .sl .str .own d, .int .i64 e, .sl .str .own f, .bool g, .str h, .int .i64 i, .sl .afield .own j, .sl (.num .i64) .own k]]))) (
 cond (decide (r.2.1 < 0)) (
 aF (aH a.2.1 a.2.2 6) (fun w =>
 some (.int .i64 w.1, [some [.ul .atype w.2.1, .int .i64 w.2.2], some [.int .i64 b, .str c, .sl .str .own d, .int .i64 e, .sl .str .own f, .bool g, .str h, .int .i64 i, .sl .afield .own j, .sl (.num .i64) .own k]]))) (
 cond (decide (5000 < r.2.1)) (
 aF (aH a.2.1 a.2.2 6) (fun x =>
 some (.int .i64 x.1, [some [.ul .atype x.2.1, .int .i64 x.2.2], some [.int .i64 b, .str c, .sl .str .own d, .int .i64 e, .sl .str .own f, .bool g, .str h, .int .i64 i, .sl .afield .own j, .sl (.num .i64) .own k]]))) (
 cond (a.2.2 == 0) (
 chk (decide (0 < List.length a.2.1)) (
 chk (decide (0 ≤ a.1) && decide (a.1 < ↑(List.length a.2.1))) (
 chk (decide ((Int.toNat a.1) < List.length a.2.1)) (
 let x5 : List ak := (List.set a.2.1 (Int.toNat a.1) (let s := List.getD a.2.1 (Int.toNat a.1) (aC .atype); ⟨s.kind, s.name, s.aliases, s.items, s.syms, s.hasdef, s.df, r.2.1, s.fields, s.branches⟩))
 chk (Nat.beq (List.length a.2.1) (List.length x5)) (
 some (.int .i64 a.1, [some [.ul .atype x5, .int .i64 a.2.2], some [.int .i64 b, .str c, .sl .str .own d, .int .i64 e, .sl .str .own f, .bool g, .str h, .int .i64 i, .sl .afield .own j, .sl (.num .i64) .own k], none, none])))))) (
 some (.int .i64 a.1, [some [.ul .atype a.2.1, .int .i64 a.2.2], some [.int .i64 b, .str c, .sl .str .own d, .int .i64 e, .sl .str .own f, .bool g, .str h, .int .i64 i, .sl .afield .own j, .sl (.num .i64) .own k]])))))))))))
theorem xE (N : Nat) : ∀ (x : iq), lO N (gS x) = dg N x := by
 intro x
 kernel_rfl
def eO (N : Nat) : (St → Ro) → St → Ro := fun a s => run br N gR (lN (run br N) a) s
def gT (N : Nat) (t : cB → Ro) (z : iq → Ro) : cB → Ro := fun (x, v, y, c, d, e, f, g, u, r, s, q, h, a, b, i, j, k, l, m, n, o) =>
 let x1 : Int := (↑(List.length u) : Int)
 cond (decide (r < x1)) (
 cond (q == 0) (
 chk (decide (0 ≤ r) && decide (r < ↑(List.length u))) (
 let x2 : Bs := List.getD u (Int.toNat r) (aC .str)
 aF (dI s q x2 v) (fun r7 =>
 chk (decide ((List.length b + List.length ([r7.1] : Bss)) * 16 ≤ 140737488355328)) (
 let x3 : Bss := (b ++ ([r7.1] : Bss))
 let x4 : Int := (IntKind.wrap .i64 (r + 1))
 t (x, v, y, c, d, e, f, g, u, x4, r7.2.1, r7.2.2, h, a, x3, i, j, k, l, m, n, o))))) (
 aF (bX s q a) (fun w =>
 cond (w.2.2.2 == 0) (
 cond w.2.1 (
 aF (aH w.2.2.1 w.2.2.2 5) (fun r9 =>
 z (x, v, y, c, d, e, f, g, r9.2.1, r9.2.2, h, a, b, i, j, k, l, m, n, o))) (
 z (x, v, y, c, d, e, f, g, w.2.2.1, w.2.2.2, h, a, b, i, j, k, l, m, n, o))) (
 z (x, v, y, c, d, e, f, g, w.2.2.1, w.2.2.2, h, a, b, i, j, k, l, m, n, o))))) (
 aF (bX s q a) (fun p =>
 cond (p.2.2.2 == 0) (
 cond p.2.1 (
 aF (aH p.2.2.1 p.2.2.2 5) (fun aa =>
 z (x, v, y, c, d, e, f, g, aa.2.1, aa.2.2, h, a, b, i, j, k, l, m, n, o))) (
 z (x, v, y, c, d, e, f, g, p.2.2.1, p.2.2.2, h, a, b, i, j, k, l, m, n, o))) (
 z (x, v, y, c, d, e, f, g, p.2.2.1, p.2.2.2, h, a, b, i, j, k, l, m, n, o))))
def dh (N : Nat) (a : cB → Ro) (x : cB) : Ro := gT N a (fun z => dg N z) x
def lP (N : Nat) (a : St → Ro) : List (Nat × (St → Ro)) := (ba br N gR (lN (run br N) a) ++ (ba br N jL (fin bV) ++ []))
theorem xF (N : Nat) : ∀ (a : St → Ro) (x : cB), eO N a (bF x) = dh N (fun y => a (bF y)) x := by
 intro a x
 have hX : ∀ C : Nat → St → Ro, bL C br N gR (lN (bL C br N) a) (bF x) = gT N (fun y => a (bF y)) (fun z => C 1000001 (gS z)) x := by
  intro C
  kernel_rfl
 have h : eO N a (bF x) = gT N (fun y => a (bF y)) (fun z => lO N (gS z)) x := (cN (C := eQ (lP N a)) (bU (be (l := (lP N a)) (by kernel_rfl))) (pW (cT (gu (bU (du (be (l := (lP N a)) (by kernel_rfl)))) rfl))) _).trans ((hX _).trans (by kernel_rfl))
 have e2 : (fun z => lO N (gS z)) = (fun z => dg N z) := funext fun z => xE N z
 rw [h, e2]
 rfl
def lQ (N : Nat) : St → Ro := fun s => run br N fY (fin bV) s
def gU (N : Nat) (l : cB → Ro) : eN → Ro := fun (k, m, n, b, c, d, e, f, i, g, a) =>
 cond (!(a == 0)) (
 some (.int .i64 0, [some [.ul .atype g, .int .i64 a]])) (
 aF (dI g a i m) (fun h =>
 aF (kR h.1) (fun (o : Bs) =>
 aF (b8 h.2.1 h.2.2 b c d e f ([97, 108, 105, 97, 115, 101, 115] : Bs)) (fun j =>
 l (k, o, n, b, c, d, e, f, j.1, 0, j.2.2.1, j.2.2.2, k, h.1, ([] : Bss), 0, ([] : Bss), false, ([] : Bs), 0, ([] : List aQ), ([] : List Int))))))
def iu (N : Nat) (x : eN) : Ro := gU N (fun z => aW N (dh N) z) x
def rl (N : Nat) : List (Nat × (St → Ro)) := (ba br N fY (fin bV) ++ [])
theorem xG (N : Nat) : ∀ (x : eN), lQ N (el x) = iu N x := by
 intro x
 have hX : ∀ C : Nat → St → Ro, bL C br N fY (fin bV) (el x) = gU N (fun z => C 1000000 (bF z)) x := by
  intro C
  kernel_rfl
 have h : lQ N (el x) = gU N (fun z => bi N (eO N) (bF z)) x := (cN (C := eQ (rl N)) (bU (be (l := (rl N)) (by kernel_rfl))) rfl _).trans ((hX _).trans (by kernel_rfl))
 have e1 : (fun z => bi N (eO N) (bF z)) = (fun z => aW N (dh N) z) := funext fun z => bj (bF) (eO N) (dh N) (xF N) N z
 rw [h, e1]
 rfl
def fw (N : Nat) (g : List ak) (h a b : Int) (c : Bs) (d : List aA) (e : Bss) (j : Int) (n : Bs) (k : Int) (l : eN → Ro) : Ro :=
 aF (cD g h a b c d e ([110, 97, 109, 101] : Bs) true) (fun f =>
 aF (b7 a b c d e ([110, 97, 109, 101, 115, 112, 97, 99, 101] : Bs)) (fun i =>
 cond i.2.2.2.2.2 (
 cond (!(i.1 == 4)) (
 aF (aH f.2.1 f.2.2 2) (fun m =>
 l (j, i.2.2.1, k, a, b, c, d, e, f.1, m.2.1, m.2.2))) (
 l (j, i.2.2.1, k, a, b, c, d, e, f.1, f.2.1, f.2.2))) (
 l (j, n, k, a, b, c, d, e, f.1, f.2.1, f.2.2))))
def mB (N : Nat) (a : List ak) (b c d : Int) (e : Bs) (f : List aA) (g : Bss) (h : Int) (i : Bs) (j : Int) : Ro := fw N a b c d e f g h i j (fun z => iu N z)
def abf (N : Nat) : List (Nat × (St → Ro)) := ba br N mA (fin bV) ++ []
theorem yS (N : Nat) (a : List ak) (c d e : Int) (f : Bs) (g : List aA) (h : Bss) (i : Int) (j : Bs) (k : Int) : bb br N 164 bV mA [.ptr 0 0, .agg [.int .i64 d, .int .i64 e, .str f, .sl .jnode (.may false) g, .sl .str (.may false) h], .int .i64 i, .str j, .int .i64 k] [some [.ul .atype a, .int .i64 c]] = mB N a c d e f g h i j k :=
 (bH (abf N) (by kernel_rfl) rfl (fun C => fw N a c d e f g h i j k (fun z => C 1000002 (el z))) (fun C => by kernel_rfl)).trans (Eq.trans (b := fw N a c d e f g h i j k (fun z => lQ N (el z))) (by kernel_rfl) (congrArg (fw N a c d e f g h i j k) (funext fun z => xG N z)))
theorem yT (N : Nat) (a : List ak) (b c d : Int) (e : Bs) (f : List aA) (g : Bss) (k : Int) (l : Bs) (m : Int) (h : Tot (mB N a b c d e f g k l m) (fun z => ∃ (n : Int) (i : List ak) (j : Int) (rest : List aI), z.1.dimR = .int .i64 n ∧ z.2 = some [.ul .atype i, .int .i64 j] :: rest ∧ dM a b c d e f g k l m (n, i, j))) : ∃ r, f7 a b c d e f g k l m r := by
 obtain ⟨⟨v, hp⟩, hz, n, i, j, rest, e1, e2, hq⟩ := h
 simp only at e1 e2
 subst e2
 exact ⟨(n, i, j), aY.dimR (FnC.objs (css := [[.ul .atype a, .int .i64 b]]) (css' := [[.ul .atype i, .int .i64 j]]) z1 (yS N a b c d e f g k l m) hz rfl) e1, hq⟩
noncomputable def aS : aM := tab (P := Try.prog) [] [jR, bW, abM, aaR, aaT, kJ] [] [mb, abN]
def qq : IR := Rs [Ld 88 5 true 5, Mv 89 12, Ca 90 113 [88, 89], Mv 87 90, Ex_ 91 0 87, Ex_ 92 1 87, Pp (.alr 13 5), Fz 13 5 91, Mv 14 92] (Sq (Rs [Mv 93 14, Un 94 93] (Cn 94 (Rs [Mv 95 0, Ca 96 110 [95, kI 2], Mv 8 96] .ret) .skip)) (Rs [Mv 97 0, Ld 98 5 true 13, Mv 99 2, Mv 100 3, Bc 101 .add 100 1, Ca 102 72 [97, 98, 99, 101], Mv 15 102] (Sq (Rs [Mv 103 0, Nk 104 103, Fa 105 1 104, Lo 106 105, Bc 107 .eql 106 0] (Cn 107 (.gh (.opn (.cell 0 0)) (.ghp (.cls (.cell 0 0)) (Rg [Mv 108 0, Nk 109 108, Fa 110 0 109, Fa 111 0 110, Lo 112 111, Mv 113 11, Mv 114 15, Pp (.ixw 115 .atype 112 113), Pp (.fdw 116 3 115), Pp (.stw none 1 116 114)]))) .skip)) (Rs [Mv 117 11, Mv 8 117] .ret))))
def gV : IR := Cn 75 (Rs [Mv 78 0, Fa 79 2 9, Lq 80 79, Ca 81 115 [80], Pp (.bld 82 [vI 0, vS, fu .str true, vI 0, fu .str true, .bool false, vS, vI 0, fu .afield true, fu (.num .i64) true] [(0, 1, 81)]), Ca 83 116 [78, 82], Mv 11 83] (Rs [Ms 12 [105, 116, 101, 109, 115]] (Sq (Rs [Fa 84 2 9, Lq 85 84, Pp (.bin 86 .eql 85 (kS [109, 97, 112]))] (Cn 86 (Rg [Ms 12 [118, 97, 108, 117, 101, 115]]) .skip)) (.cut [0, 2, 3, 5, 11, 12, 1000000] 1 qq)))) .skip
def gW : IR := Cn 63 (Sq (.reg [Mv 67 0, Ld 68 5 true 5, Fa 69 2 9, Lq 70 69, Ca 71 115 [70], Mv 72 2, Mv 73 3, Fo [] [0] (.call 74 114 [67, 68, 71, 72, 73]), Mv 8 74] [[], [], [], [2], [2, 3], [], [], rg 0 6, rg 0 7]) .ret) (Sq (Rs [Pp (.bin 76 .eql 62 (kS [97, 114, 114, 97, 121])), Mv 75 76] (Cn 75 .skip (Rg [Pp (.bin 77 .eql 62 (kS [109, 97, 112])), Mv 75 77]))) (.cut [0, 2, 3, 5, 9, 75, 1000001] 1 gV))
def qr : IR := Rs [Mv 118 0, Fa 119 2 9, Lq 120 119, Mv 121 2, Ca 122 111 [118, 120, 121], Mv 8 122] .ret
def gX : IR := .cut [0, 2, 9, 1000003] 1 qr
def cm : IR := Rs [Mv 123 0, Ca 124 110 [123, kI 2], Mv 8 124] .ret
def nC : IR := Rs [Bx 5 1, Mi 8 0] (Sq (Rs [Mv 16 0, Nk 17 16, Fa 18 1 17, Lo 19 18, Bc 20 .neq 19 0] (Cn 20 (Rs [Mi 8 0] .ret) .skip)) (Sq (Rs [Mv 21 3, Bc 22 .gtr 21 20] (Cn 22 (Rs [Mv 23 0, Ca 24 110 [23, kI 3], Mv 8 24] .ret) .skip)) (Sq (Rs [Fa 25 0 5, Lq 26 25] (.block 0 (Rs [Bc 28 .eql 26 4, Mv 27 28] (Cn 27 (Rs [Mv 29 0, Fa 30 2 5, Lq 31 30, Mv 32 2, Ca 33 111 [29, 31, 32], Mv 8 33] .ret) (Rs [Bc 35 .eql 26 5, Mv 34 35] (Cn 34 (Rs [Mv 36 0, Ld 37 5 true 5, Mv 38 2, Mv 39 3, Ca 40 112 [36, 37, 38, 39], Mv 8 40] .ret) (Rs [Bc 42 .eql 26 6, Mv 41 42] (Cn 41 (Rs [Ld 44 5 true 5, Ca 45 113 [44, kS [116, 121, 112, 101]], Mv 43 45, Ex_ 46 0 43, Ex_ 47 1 43, Pp (.alr 9 5), Fz 9 5 46, Mv 10 47] (Sq (Rs [Mv 48 10, Un 49 48] (Cn 49 (Rs [Mv 50 0, Ca 51 110 [50, kI 2], Mv 8 51] .ret) .skip)) (Sq (Rs [Fa 52 0 9, Lq 53 52, Bc 54 .neq 53 4] (Cn 54 (Rs [Mv 55 0, Ld 56 5 true 9, Mv 57 2, Mv 58 3, Bc 59 .add 58 1, Ca 60 72 [55, 56, 57, 59], Mv 8 60] .ret) .skip)) (Sq (Rs [Fa 61 2 9, Lq 62 61] (.block 1 (Sq (Rs [Pp (.bin 64 .eql 62 (kS [114, 101, 99, 111, 114, 100])), Mv 63 64] (Cn 63 .skip (Rs [Pp (.bin 65 .eql 62 (kS [101, 110, 117, 109])), Mv 63 65] (Cn 63 .skip (Rg [Pp (.bin 66 .eql 62 (kS [102, 105, 120, 101, 100])), Mv 63 66]))))) (.cut [0, 2, 3, 5, 9, 62, 63, 1000002] 1 gW)))) gX)))) .skip)))))))) cm)))
def b9 : List RV := [.t 8]
theorem abg : FnC Try.prog aS [72, 110, 111, 112, 114, 116, 2000072, 2000110, 2000111, 2000112, 2000114, 2000116] 1 tB Try.f72 nC b9 := fnC (by kernel_rfl) Try.func72 (by kernel_rfl) (by kernel_rfl) (by decide)
abbrev fx : Type := (Bs × Int × Int × Int × Bs × List aA × Bss × Int × Int × Bs × List aA × Bss × Bs × Bool × List ak × Int)
def eP : fx → St := fun (g, h, i, j, k, l, m, n, o, p, a, b, c, d, e, f) => { env := (.ptr 0 0 :: .undef :: .str g :: .int .i64 h :: .undef :: .ea [.int .i64 i, .int .i64 j, .str k, .sl .jnode (.may false) l, .sl .str (.may false) m] :: (U 3 (.ea [.int .i64 n, .int .i64 o, .str p, .sl .jnode (.may false) a, .sl .str (.may false) b] :: (U 52 (.str c :: .bool d :: (U 61 [])))))), hp := [some [.ul .atype e, .int .i64 f]] }
def cQ (R : IR → (Ex → St → Ro) → St → Ro) : Ex → St → Ro := (aT 1 (bv (R gX) (aT 0 (bv (R cm) (fin b9)))))
abbrev fy : Type := (Bs × Int × Int × Int × Bs × List aA × Bss × Int × Int × Bs × List aA × Bss × Bool × List ak × Int)
def di : fy → St := fun (f, g, h, i, j, k, l, m, n, o, a, b, c, d, e) => { env := (.ptr 0 0 :: .undef :: .str f :: .int .i64 g :: .undef :: .ea [.int .i64 h, .int .i64 i, .str j, .sl .jnode (.may false) k, .sl .str (.may false) l] :: (U 3 (.ea [.int .i64 m, .int .i64 n, .str o, .sl .jnode (.may false) a, .sl .str (.may false) b] :: (U 65 (.bool c :: (U 49 [])))))), hp := [some [.ul .atype d, .int .i64 e]] }
abbrev iX : Type := (Bs × Int × Int × Int × Bs × List aA × Bss × Int × Bs × List ak × Int)
def iv : iX → St := fun (b, c, d, e, f, g, h, i, j, k, a) => { env := (.ptr 0 0 :: .undef :: .str b :: .int .i64 c :: .undef :: .ea [.int .i64 d, .int .i64 e, .str f, .sl .jnode (.may false) g, .sl .str (.may false) h] :: (U 5 (.int .i64 i :: .str j :: (U 112 [])))), hp := [some [.ul .atype k, .int .i64 a]] }
def mC (N : Nat) : St → Ro := fun s => run aS N qq (cQ (run aS N)) s
def fA (N : Nat) : iX → Ro := fun (o, p, h, i, j, k, l, b, m, e, f) =>
 aF (b7 h i j k l m) (fun c =>
 cond (!c.2.2.2.2.2) (
 aF (aH e f 2) (fun g =>
 some (.int .i64 g.1, [some [.ul .atype g.2.1, .int .i64 g.2.2]]))) (
 let q : Int := (IntKind.wrap .i64 (p + 1))
 aF (bM e f c.1 c.2.1 c.2.2.1 c.2.2.2.1 c.2.2.2.2.1 o q) (fun a =>
 cond (a.2.2 == 0) (
 chk (decide (0 < List.length a.2.1)) (
 chk (decide (0 ≤ b) && decide (b < ↑(List.length a.2.1))) (
 chk (decide ((Int.toNat b) < List.length a.2.1)) (
 let n : List ak := (List.set a.2.1 (Int.toNat b) (let d := List.getD a.2.1 (Int.toNat b) (aC .atype); ⟨d.kind, d.name, d.aliases, a.1, d.syms, d.hasdef, d.df, d.size, d.fields, d.branches⟩))
 chk (Nat.beq (List.length a.2.1) (List.length n)) (
 some (.int .i64 b, [some [.ul .atype n, .int .i64 a.2.2], none, none])))))) (
 some (.int .i64 b, [some [.ul .atype a.2.1, .int .i64 a.2.2]])))))
theorem yU (N : Nat) : ∀ (x : iX), mC N (iv x) = fA N x := by
 intro x
 kernel_rfl
abbrev iY : Type := (Bs × Int × Int × Bs × List aA × Bss × List ak × Int)
def iw : iY → St := fun (a, b, c, d, e, f, g, h) => { env := (.ptr 0 0 :: .undef :: .str a :: (U 6 (.ea [.int .i64 b, .int .i64 c, .str d, .sl .jnode (.may false) e, .sl .str (.may false) f] :: (U 115 [])))), hp := [some [.ul .atype g, .int .i64 h]] }
def z2 (R : IR → (Ex → St → Ro) → St → Ro) : Ex → St → Ro := (aT 0 (bv (R cm) (fin b9)))
def mD (N : Nat) : St → Ro := fun s => run aS N qr (z2 (run aS N)) s
def fB (N : Nat) : iY → Ro := fun (e, _, _, b, _, _, c, d) =>
 aF (eq c d b e) (fun a =>
 some (.int .i64 a.1, [some [.ul .atype a.2.1, .int .i64 a.2.2]]))
theorem yV (N : Nat) : ∀ (x : iY), mD N (iw x) = fB N x := by
 intro x
 kernel_rfl
def iZ (N : Nat) : St → Ro := fun s => run aS N gV (cQ (run aS N)) s
def ix (N : Nat) (p : iX → Ro) (r : iY → Ro) : fy → Ro := fun (n, q, c, d, e, f, g, j, k, b, l, m, o, h, i) =>
 cond o (
 aF (jm b) (fun (s : Int) =>
 aF (cZ h i s ([] : Bs) ([] : Bss) 0 ([] : Bss) false ([] : Bs) 0 ([] : List aQ) ([] : List Int)) (fun a =>
 let t : Bool := decide (b = ([109, 97, 112] : Bs))
 cond t (
 p (n, q, c, d, e, f, g, a.1, ([118, 97, 108, 117, 101, 115] : Bs), a.2.1, a.2.2)) (
 p (n, q, c, d, e, f, g, a.1, ([105, 116, 101, 109, 115] : Bs), a.2.1, a.2.2))))) (
 r (n, j, k, b, l, m, h, i))
def fC (N : Nat) (x : fy) : Ro := ix N (fun z => fA N z) (fun z => fB N z) x
def i9 (N : Nat) : List (Nat × (St → Ro)) := (ba aS N gV (cQ (run aS N)) ++ (ba aS N gX (aT 0 (bv (run aS N cm) (fin b9))) ++ (ba aS N cm (fin b9) ++ [])))
theorem yW (N : Nat) : ∀ (x : fy), iZ N (di x) = fC N x := by
 intro x
 have hX : ∀ C : Nat → St → Ro, bL C aS N gV (cQ (bL C aS N)) (di x) = ix N (fun z => C 1000000 (iv z)) (fun z => C 1000003 (iw z)) x := by
  intro C
  kernel_rfl
 have h : iZ N (di x) = ix N (fun z => mC N (iv z)) (fun z => mD N (iw z)) x := (cN (C := eQ (i9 N)) (bU (be (l := (i9 N)) (by kernel_rfl))) (cT (gu (bU (du (be (l := (i9 N)) (by kernel_rfl)))) (cT (gu (bU (du (du (be (l := (i9 N)) (by kernel_rfl))))) rfl)))) _).trans ((hX _).trans (by kernel_rfl))
 have e2 : (fun z => mC N (iv z)) = (fun z => fA N z) := funext fun z => yU N z
 have e3 : (fun z => mD N (iw z)) = (fun z => fB N z) := funext fun z => yV N z
 rw [h, e2, e3]
 rfl
def mE (N : Nat) : St → Ro := fun s => run aS N gW (cQ (run aS N)) s
def iy (N : Nat) (r : fy → Ro) : fx → Ro := fun (n, o, a, b, c, d, e, i, j, f, k, l, m, p, g, h) =>
 cond p (
 aF (jm f) (fun (s : Int) =>
 aF (f7 g h a b c d e s n o) (fun q =>
 some (.int .i64 q.1, [some [.ul .atype q.2.1, .int .i64 q.2.2]])))) (
 let t : Bool := decide (m = ([97, 114, 114, 97, 121] : Bs))
 cond t (
 r (n, o, a, b, c, d, e, i, j, f, k, l, true, g, h)) (
 let u : Bool := decide (m = ([109, 97, 112] : Bs))
 r (n, o, a, b, c, d, e, i, j, f, k, l, u, g, h)))
def ja (N : Nat) (x : fx) : Ro := iy N (fun z => fC N z) x
def jb (N : Nat) : List (Nat × (St → Ro)) := (ba aS N gW (cQ (run aS N)) ++ (ba aS N gX (aT 0 (bv (run aS N cm) (fin b9))) ++ (ba aS N cm (fin b9) ++ [])))
theorem yX (N : Nat) : ∀ (x : fx), mE N (eP x) = ja N x := by
 intro x
 have hX : ∀ C : Nat → St → Ro, bL C aS N gW (cQ (bL C aS N)) (eP x) = iy N (fun z => C 1000001 (di z)) x := by
  intro C
  kernel_rfl
 have h : mE N (eP x) = iy N (fun z => iZ N (di z)) x := (cN (C := eQ (jb N)) (bU (be (l := (jb N)) (by kernel_rfl))) (cT (gu (bU (du (be (l := (jb N)) (by kernel_rfl)))) (cT (gu (bU (du (du (be (l := (jb N)) (by kernel_rfl))))) rfl)))) _).trans ((hX _).trans (by kernel_rfl))
 have e1 : (fun z => iZ N (di z)) = (fun z => fC N z) := funext fun z => yW N z
 rw [h, e1]
 rfl
def gl (N : Nat) (b : List ak) (a d f : Int) (e : Bs) (g : List aA) (h : Bss) (j : Bs) (k : Int) (l : fx → Ro) : Ro :=
 cond (!(a == 0)) (
 some (.int .i64 0, [some [.ul .atype b, .int .i64 a]])) (
 cond (decide (20 < k)) (
 aF (aH b a 3) (fun m =>
 some (.int .i64 m.1, [some [.ul .atype m.2.1, .int .i64 m.2.2]]))) (
 cond (d == 4) (
 aF (eq b a e j) (fun n =>
 some (.int .i64 n.1, [some [.ul .atype n.2.1, .int .i64 n.2.2]]))) (
 cond (d == 5) (
 aF (f6 b a d f e g h j k) (fun o =>
 some (.int .i64 o.1, [some [.ul .atype o.2.1, .int .i64 o.2.2]]))) (
 cond (d == 6) (
 aF (b7 d f e g h ([116, 121, 112, 101] : Bs)) (fun c =>
 cond (!c.2.2.2.2.2) (
 aF (aH b a 2) (fun p =>
 some (.int .i64 p.1, [some [.ul .atype p.2.1, .int .i64 p.2.2]]))) (
 cond (!(c.1 == 4)) (
 let r : Int := (IntKind.wrap .i64 (k + 1))
 aF (bM b a c.1 c.2.1 c.2.2.1 c.2.2.2.1 c.2.2.2.2.1 j r) (fun q =>
 some (.int .i64 q.1, [some [.ul .atype q.2.1, .int .i64 q.2.2]]))) (
 let s : Bool := decide (c.2.2.1 = ([114, 101, 99, 111, 114, 100] : Bs))
 cond s (
 l (j, k, d, f, e, g, h, c.1, c.2.1, c.2.2.1, c.2.2.2.1, c.2.2.2.2.1, c.2.2.1, true, b, a)) (
 let t : Bool := decide (c.2.2.1 = ([101, 110, 117, 109] : Bs))
 cond t (
 l (j, k, d, f, e, g, h, c.1, c.2.1, c.2.2.1, c.2.2.2.1, c.2.2.2.2.1, c.2.2.1, true, b, a)) (
 let u : Bool := decide (c.2.2.1 = ([102, 105, 120, 101, 100] : Bs))
 l (j, k, d, f, e, g, h, c.1, c.2.1, c.2.2.1, c.2.2.2.1, c.2.2.2.2.1, c.2.2.1, u, b, a))))))) (
 aF (aH b a 2) (fun i =>
 some (.int .i64 i.1, [some [.ul .atype i.2.1, .int .i64 i.2.2]])))))))
def nD (N : Nat) (a : List ak) (b c d : Int) (e : Bs) (f : List aA) (g : Bss) (h : Bs) (i : Int) : Ro := gl N a b c d e f g h i (fun z => ja N z)
def acz (N : Nat) : List (Nat × (St → Ro)) := ba aS N nC (fin b9) ++ []
theorem z3 (N : Nat) (a : List ak) (c d e : Int) (f : Bs) (g : List aA) (h : Bss) (i : Bs) (j : Int) : bb aS N 125 b9 nC [.ptr 0 0, .agg [.int .i64 d, .int .i64 e, .str f, .sl .jnode (.may false) g, .sl .str (.may false) h], .str i, .int .i64 j] [some [.ul .atype a, .int .i64 c]] = nD N a c d e f g h i j :=
 (bH (acz N) (by kernel_rfl) rfl (fun C => gl N a c d e f g h i j (fun z => C 1000002 (eP z))) (fun C => by kernel_rfl)).trans (Eq.trans (b := gl N a c d e f g h i j (fun z => mE N (eP z))) (by kernel_rfl) (congrArg (gl N a c d e f g h i j) (funext fun z => yX N z)))
theorem z4 (N : Nat) (a : List ak) (b c d : Int) (e : Bs) (f : List aA) (g : Bss) (k : Bs) (l : Int) (h : Tot (nD N a b c d e f g k l) (fun z => ∃ (m : Int) (i : List ak) (j : Int) (rest : List aI), z.1.dimR = .int .i64 m ∧ z.2 = some [.ul .atype i, .int .i64 j] :: rest ∧ dd a b c d e f g k l (m, i, j))) : ∃ r, bM a b c d e f g k l r := by
 obtain ⟨⟨v, hp⟩, hz, m, i, j, rest, e1, e2, hq⟩ := h
 simp only at e1 e2
 subst e2
 exact ⟨(m, i, j), aY.dimR (FnC.objs (css := [[.ul .atype a, .int .i64 b]]) (css' := [[.ul .atype i, .int .i64 j]]) abg (z3 N a b c d e f g k l) hz rfl) e1, hq⟩
noncomputable def acA : aM := tab (P := Try.prog) [] [jR] [] []
def aaK : IR := Rs [Bx 1 0, Pp (.new 2 [nl .atype]), Mi 3 0] (Rs [Pp (.bld 5 [.ul .atype ([] : List ak), vI 0] []), Pp (.box 6 5), Mv 4 6] (Rs [Mv 7 4, Ld 8 5 true 1, Ca 9 72 [7, 8, kS [], kI 1]] (Sq (Rs [Mv 10 4, Nk 11 10, Fa 12 1 11, Lo 13 12, Bc 14 .neq 13 0] (Cn 14 (Sq (.reg [Pp (.bld 15 [nl .atype] []), Mv 16 4, Nk 17 16, Fa 18 1 17, Fo [1] [] (.ld 19 1 false false 18), Fo [] [0] (.st none 1 2 15), Mv 3 19] [[], [], [1], [1, 2], [1, 2, 3], [0], rg 0 5]) .ret) .skip)) (Sq (.gh (.fz (.cell 1 0)) (Rg [Mv 20 4, Nk 21 20, Fa 22 0 21, Pp (.ld 23 1 true false 22), Sv 1 2 23, Mi 3 0])) .ret))))
def aaL : List RV := [.cell 2 1 true, .t 3]
theorem ahs : FnC Try.prog acA [72, 2000072] 0 abA Try.f39 aaK aaL := fnC (by kernel_rfl) Try.func39 (by kernel_rfl) (by kernel_rfl) (by decide)
def aaM (N : Nat) (b c : Int) (d : Bs) (e : List aA) (f : Bss) : Ro :=
 aF (bM ([] : List ak) 0 b c d e f ([] : Bs) 1) (fun a =>
 cond (!(a.2.2 == 0)) (
 some (.tup [.agg [.sl .atype (.may false) ([] : List ak)], .int .i64 a.2.2], [some [.sl .atype .own ([] : List ak)], some [.ul .atype a.2.1, .int .i64 a.2.2]])) (
 some (.tup [.agg [.sl .atype (.may false) a.2.1], .int .i64 0], [some [.sl .atype (.may false) a.2.1], some [.sl .atype .own a.2.1, .int .i64 a.2.2]])))
def uH (N : Nat) (a b : Int) (c : Bs) (d : List aA) (e : Bss) : Ro := aaM N a b c d e
theorem af7 (N : Nat) (a b : Int) (c : Bs) (d : List aA) (e : Bss) : bb acA N 24 aaL aaK [.agg [.int .i64 a, .int .i64 b, .str c, .sl .jnode (.may false) d, .sl .str (.may false) e]] [] = uH N a b c d e := by kernel_rfl
theorem af8 (N : Nat) (a b : Int) (c : Bs) (d : List aA) (e : Bss) (h : Tot (uH N a b c d e) (fun z => ∃ (f : List ak) (g : Int) (rest : List aI), z.1.dimR = .tup [.agg [.sl .atype (.may false) f], .int .i64 g] ∧ z.2 = rest ∧ rA a b c d e (f, g))) : ∃ r, oq a b c d e r := by
 obtain ⟨⟨v, hp⟩, hz, f, g, rest, e1, e2, hq⟩ := h
 simp only at e1 e2
 subst e2
 exact ⟨(f, g), aO.dimR (ahs.pure (af7 N a b c d e) hz) e1, hq⟩
end Go.Proofs.Ytdpajabhmmmjoaa
end
noncomputable section
namespace Go.Proofs.Ytdpajabhmmmjoaa
open Go.AM
set_option autoImplicit false
set_option linter.unusedVariables false
set_option linter.unusedSimpArgs false
set_option maxRecDepth 100000
theorem nz {e c : Int} (hc : c ≠ 0) : (if e = 0 then c else e) ≠ 0 := by split <;> assumption
theorem aks (s : List UInt8) (hs : s.length ≤ 1000000) : ∃ r, kR s r := by
 apply adU 2000000
 unfold si ke
 dsimp only
 refine bd (fun x => x.1 = s ∧ -1 ≤ x.2 ∧ x.2 < (s.length : Int)) (fun x => (x.2 + 1).toNat) ?_ _ _ ⟨rfl, by simp only [aJ ((s.length : Int) - 1) (by omega)]; omega, by simp only [aJ ((s.length : Int) - 1) (by omega)]; omega⟩ (by simp only [aJ ((s.length : Int) - 1) (by omega)]; omega)
 rintro again ⟨s, i⟩ ⟨rfl, i1, i2⟩ ih
 simp only at i1 i2 ih hs ⊢
 have e := aJ (i - 1) (by omega)
 unfold mr
 dsimp only
 repeat' (first | (with_reducible refine aD ?_ ?_ <;> (intro hb; (try simp only [bnl] at hb); (try revert hb; intro _))) | with_reducible refine aN ?_ ?_ | with_reducible refine aG ?_ | fail)
 ·first | (simp only [bnl, lnl]; done) | (simp only [bnl, lnl]; omega)
 ·first | (simp only [bnl, lnl]; done) | (simp only [bnl, lnl]; omega)
 ·exact ⟨_, _, rfl, rfl, by simp only [iC, List.length_drop, List.length_take]; omega⟩
 ·exact ih (s, _) ⟨rfl, by simp only [e]; omega, by simp only [e]; omega⟩ (by simp only [e]; omega)
 ·exact ⟨_, _, rfl, rfl, by simp [iC]⟩
theorem amg (ts : List ak) (t : Int) : ∃ r, ng ts t r := by
 apply ahr 1
 unfold vX acx
 dsimp only
 repeat' (first | (with_reducible refine aD ?_ ?_ <;> (intro hb; (try simp only [bnl] at hb); (try revert hb; intro _))) | with_reducible refine aN ?_ ?_ | with_reducible refine aG ?_ | (refine aE (alI _) ?_; intro _ _) | fail)
 all_goals first | exact ⟨_, _, rfl, rfl⟩ | (first | (simp only [bnl, lnl]; done) | (simp only [bnl, lnl]; omega))
theorem agq (ts : List ak) (e : Int) (name space : List UInt8) (h1 : name.length ≤ 100) (h2 : space.length ≤ 10000) : ∃ r, dI ts e name space r := by
 apply yI 2000
 unfold mt fh
 refine aE (alQ _ _ (by omega) (by omega)) ?_
 rintro j ⟨-, hj⟩
 dsimp only [pl] at hj ⊢
 refine bd (fun x => x.1 = name ∧ x.2.1.length ≤ name.length + space.length + 1 ∧ 0 ≤ x.2.2.1 ∧ x.2.2.1 ≤ (name.length : Int) ∧ x.2.2.2.1 = ts ∧ x.2.2.2.2 = e) (fun x => ((name.length : Int) - x.2.2.1).toNat) ?_ _ _ ⟨rfl, by simp only; omega, by simp, by simp, rfl, rfl⟩ (by simp; omega)
 rintro again ⟨name, w, i, ts, e⟩ ⟨rfl, i0, i1, i2, rfl, rfl⟩ ih
 simp only at i0 i1 i2 ih h1 hj ⊢
 have ew : i < name.length → IntKind.i64.wrap (i + 1) = i + 1 := fun h => aJ (i + 1) (by omega)
 unfold ik
 dsimp only
 have next : ∀ q : List UInt8, i < name.length → q.length ≤ name.length + space.length + 1 → Tot (again (name, q, IntKind.i64.wrap (i + 1), ts, e)) _ := fun q h hq => ih (name, q, IntKind.i64.wrap (i + 1), ts, e)
  (by simp only [ew h]; exact ⟨trivial, hq, by omega, by omega, trivial, trivial⟩) (by simp only [ew h]; omega)
 repeat' (first | (with_reducible refine aD ?_ ?_ <;> (intro hb; (try simp only [bnl] at hb); (try revert hb; intro _))) | with_reducible refine aN ?_ ?_ | with_reducible refine aG ?_ | (refine aE (bN _ _ _) ?_; rintro _ ⟨-, rfl⟩; try dsimp only) | (refine aE (ak6 _ (by omega)) ?_; intro _ _) | fail)
 all_goals first | (first | (simp only [bnl, lnl]; done) | (simp only [bnl, lnl]; omega)) | (refine next _ (by omega) (by omega)) | skip
 ·refine ⟨_, _, _, _, rfl, rfl, ?_, rfl, fun h => absurd h (nz (by decide))⟩
  simp only
  omega
 ·refine ⟨_, _, _, _, rfl, rfl, ?_, rfl, fun h => absurd h (nz (by decide))⟩
  simp only
  omega
 ·refine ⟨_, _, _, _, rfl, rfl, ?_, rfl, fun h => h⟩
  simp only
  omega
theorem adV (ts : List ak) (e c0 c1 : Int) (c2 : List UInt8) (c3 : List aA) (c4 : List (List UInt8)) (name : List UInt8) (must : Bool) (h : aV (.mk c0 c1 c2 c3 c4)) : ∃ r, cD ts e c0 c1 c2 c3 c4 name must r := by
 obtain ⟨k1, k2, k3, k4, k5, k6⟩ := h.kids
 apply zT 1
 unfold ny sK
 refine aE (lr _ _ _ _ _ _ (by omega)) ?_
 rintro r ⟨-, hr⟩
 have hg := pA (k := c0) (names := c4) (name := name) k6
 simp only [bQ] at hr
 rw [← hr] at hg
 obtain ⟨g1, g2, g3, g4, g5, g6⟩ := hg.kids
 repeat' (first | (with_reducible refine aD ?_ ?_ <;> (intro hb; (try simp only [bnl] at hb); (try revert hb; intro _))) | with_reducible refine aN ?_ ?_ | with_reducible refine aG ?_ | (refine aE (bN _ _ _) ?_; rintro _ ⟨-, rfl⟩; try dsimp only) | fail)
 all_goals first | exact ⟨_, _, _, _, rfl, rfl, g1, rfl, fun h => h⟩ | exact ⟨_, _, _, _, rfl, rfl, Nat.zero_le _, rfl, fun h => h⟩ | exact ⟨_, _, _, _, rfl, rfl, Nat.zero_le _, rfl, fun h => absurd h (nz (by decide))⟩
theorem acB (ts : List ak) (e c0 c1 : Int) (c2 : List UInt8) (c3 : List aA) (c4 : List (List UInt8)) (name : List UInt8) (h : aV (.mk c0 c1 c2 c3 c4)) : ∃ r, b8 ts e c0 c1 c2 c3 c4 name r := by
 obtain ⟨k1, k2, k3, k4, k5, k6⟩ := h.kids
 apply yL 2000
 unfold mv fj
 refine aE (lr _ _ _ _ _ _ (by omega)) ?_
 rintro r ⟨-, hr⟩
 have hg := pA (k := c0) (names := c4) (name := name) k6
 simp only [bQ] at hr
 rw [← hr] at hg
 obtain ⟨d0, d1, d2, l, d4, d5⟩ := r
 obtain ⟨g1, g2, g3, g4, g5, g6⟩ := hg.kids
 dsimp only at g2 g6 ⊢
 have loop : ∀ e1 : Int, (e1 = 0 → e = 0) → Tot (aW 2000 (eI 2000) (d0, d1, d2, l, d4, [], 0, ts, e1)) (fun z => ∃ (y0 : List (List UInt8)) (y1 : Bool) (y2 : List ak) (y3 : Int) (rest : List aI), z.1.dimR = .tup [.sl .str (.may false) y0, .bool y1] ∧ z.2 = some [.ul .atype y2, .int .i64 y3] :: rest ∧ kh ts e c0 c1 c2 c3 c4 name (y0, y1, y2, y3)) := by
  intro e1 he1
  refine bd (fun x => x.2.2.2.1 = l ∧ (x.2.2.2.2.2.1.length : Int) = x.2.2.2.2.2.2.1 ∧ x.2.2.2.2.2.2.1 ≤ (l.length : Int) ∧ bK x.2.2.2.2.2.1 ∧ x.2.2.2.2.2.2.2.1 = ts ∧ (x.2.2.2.2.2.2.2.2 = 0 → e = 0)) (fun x => ((l.length : Int) - x.2.2.2.2.2.2.1).toNat) ?_ _ _ ⟨rfl, rfl, by simp, by simp [bK], rfl, he1⟩ (by simp; omega)
  rintro again ⟨d0, d1, d2, l, d4, out, i, ts, e1⟩ ⟨rfl, i1, i2, i3, rfl, i4⟩ ih
  simp only at i1 i2 i3 i4 ih g2 g6 ⊢
  have ew : i < l.length → IntKind.i64.wrap (i + 1) = i + 1 := fun h => aJ (i + 1) (by omega)
  unfold eI
  dsimp only
  have next : ∀ e2 : Int, i < l.length → (e2 = 0 → e = 0) → Tot (again (d0, d1, d2, l, d4, out ++ [(List.getD l (Int.toNat i) (aC .jnode)).s], IntKind.i64.wrap (i + 1), ts, e2)) _ := fun e2 h hq => ih (d0, d1, d2, l, d4, out ++ [(List.getD l (Int.toNat i) (aC .jnode)).s], IntKind.i64.wrap (i + 1), ts, e2)
   (by
    simp only [ew h, List.length_append, List.length_cons, List.length_nil]
    refine ⟨trivial, by omega, by omega, ?_, trivial, hq⟩
    intro x hx
    rcases List.mem_append.1 hx with hx | hx
    ·exact i3 x hx
    ·simp only [List.mem_singleton] at hx
     subst hx
     exact (aV.eta.2 (aV.getD g6 i.toNat)).kids.1) (by simp only [ew h]; omega)
  repeat' (first | (with_reducible refine aD ?_ ?_ <;> (intro hb; (try simp only [bnl] at hb); (try revert hb; intro _))) | with_reducible refine aN ?_ ?_ | with_reducible refine aG ?_ | (refine aE (bN _ _ _) ?_; rintro _ ⟨-, rfl⟩; try dsimp only) | fail)
  all_goals first | (first | (simp only [bnl, lnl]; done) | (simp only [bnl, lnl]; omega)) | (refine next _ (by omega) ?_) | skip
  ·exact fun h => absurd h (nz (by decide))
  ·exact i4
  ·exact ⟨_, _, _, _, _, rfl, rfl, by simp only; omega, i3, rfl, i4⟩
  ·exact ⟨_, _, _, _, _, rfl, rfl, by simp only; omega, i3, rfl, i4⟩
 repeat' (first | (with_reducible refine aD ?_ ?_ <;> (intro hb; (try simp only [bnl] at hb); (try revert hb; intro _))) | with_reducible refine aN ?_ ?_ | with_reducible refine aG ?_ | (refine aE (bN _ _ _) ?_; rintro _ ⟨-, rfl⟩; try dsimp only) | fail)
 ·exact ⟨_, _, _, _, _, rfl, rfl, by simp, by simp [bK], rfl, fun h => h⟩
 ·exact loop _ fun h => absurd h (nz (by decide))
 ·exact loop _ fun h => h
theorem agr (ts : List ak) (e : Int) (s space : List UInt8) (h : ts.length ≤ 60) (h1 : s.length ≤ 100) (h2 : space.length ≤ 10000) : ∃ r, eq ts e s space r := by
 apply zX 2000
 unfold nB gj
 have loop : Tot (aW 2000 (fm 2000) (s, space, false, 0, ts, e)) (fun z => ∃ (y0 : Int) (y1 : List ak) (y2 : Int) (rest : List aI), z.1.dimR = .int .i64 y0 ∧ z.2 = some [.ul .atype y1, .int .i64 y2] :: rest ∧ kP ts e s space (y0, y1, y2)) := by
  refine bd (fun x => x.1 = s ∧ x.2.1 = space ∧ 0 ≤ x.2.2.2.1 ∧ x.2.2.2.1 ≤ (s.length : Int) ∧ x.2.2.2.2.1 = ts ∧ x.2.2.2.2.2 = e) (fun x => ((s.length : Int) - x.2.2.2.1).toNat) ?_ _ _ ⟨rfl, rfl, by simp, by simp, rfl, rfl⟩ (by simp; omega)
  rintro again ⟨s, space, d, i, ts, e⟩ ⟨rfl, rfl, i1, i2, rfl, rfl⟩ ih
  simp only at i1 i2 ih h h1 h2 ⊢
  have ew : i < s.length → IntKind.i64.wrap (i + 1) = i + 1 := fun h => aJ (i + 1) (by omega)
  unfold fm
  dsimp only
  have next : ∀ b : Bool, i < s.length → Tot (again (s, space, b, IntKind.i64.wrap (i + 1), ts, e)) _ := fun b h => ih (s, space, b, IntKind.i64.wrap (i + 1), ts, e)
   (by simp only [ew h]; exact ⟨trivial, trivial, by omega, by omega, trivial, trivial⟩) (by simp only [ew h]; omega)
  repeat' (first | (with_reducible refine aD ?_ ?_ <;> (intro hb; (try simp only [bnl] at hb); (try revert hb; intro _))) | with_reducible refine aN ?_ ?_ | with_reducible refine aG ?_ | (refine aE (bN _ _ _) ?_; rintro _ ⟨-, rfl⟩; try dsimp only) | (refine aE (aiB _ _ _ h) ?_; rintro ⟨a, b, ts', e'⟩ ⟨-, hq, hf⟩; simp only [Prod.mk.injEq] at hq; obtain ⟨rfl, rfl⟩ := hq; dsimp only at hf ⊢) | fail)
  all_goals first | (first | (simp only [bnl, lnl]; done) | (simp only [bnl, lnl]; omega)) | (refine next _ (by omega)) | exact ⟨_, _, _, _, rfl, rfl, bp.bad h (nz (by decide)), fun h => absurd h (nz (by decide))⟩ | exact ⟨_, _, _, _, rfl, rfl, bp.refl h, fun _ => hf (by assumption)⟩
 refine aE (adI _) ?_
 rintro (k : Int) ⟨-, hk1, hk2, hk3⟩
 repeat' (first | (with_reducible refine aD ?_ ?_ <;> (intro hb; (try simp only [bnl] at hb); (try revert hb; intro _))) | with_reducible refine aN ?_ ?_ | with_reducible refine aG ?_ | (refine aE (acH _ _ _ _ _ _ _ _ _ _ _ _ h) ?_; rintro _ ⟨-, rfl⟩; try dsimp only) | fail)
 ·by_cases hl : 60 ≤ ts.length
  ·skip
   simp only [if_pos hl]
   exact ⟨_, _, _, _, rfl, rfl, bp.bad h (nz (by decide)), fun h => absurd h (nz (by decide))⟩
  ·simp only [if_neg hl]
   refine ⟨_, _, _, _, rfl, rfl, bp.push (by omega) _ ⟨by simp only; omega, by simp, by simp, by simp, by simp, by simp, by simp, (fun h => by simp only at h; omega), (by simp only; omega), (fun h => by simp only at h; omega), fun _ => rfl⟩, fun _ => ?_⟩
   simp only [List.length_append, List.length_cons, List.length_nil]
   omega
 ·exact loop
 ·exact loop
end Go.Proofs.Ytdpajabhmmmjoaa
end
noncomputable section
namespace Go.Proofs.Ytdpajabhmmmjoaa
open Go.AM
set_option autoImplicit false
set_option linter.unusedVariables false
set_option linter.unusedSimpArgs false
set_option maxRecDepth 100000
theorem lR {α : Type} {l : List α} {i : Nat} {x d : α} (h : l[i]? = some x) : l.getD i d = x := by
 rw [List.getD_eq_getElem?_getD, h]; rfl
theorem ajw {α : Type} {l : List α} {i : Nat} {x d : α} (h : i < l.length) : (l.set i x).getD i d = x := lR (List.getElem?_set_self h)
theorem ajx (ts : List ak) (e c0 c1 : Int) (c2 : List UInt8) (c3 : List aA) (c4 : List (List UInt8)) (at_ : Int) (h : aV (.mk c0 c1 c2 c3 c4)) (hat : e = 0 → 0 ≤ at_ ∧ at_ < ts.length) : ∃ r, eu ts e c0 c1 c2 c3 c4 at_ r := by
 obtain ⟨k1, k2, k3, k4, k5, k6⟩ := h.kids
 apply wz 2000
 unfold kE eb
 refine aE (acB _ _ _ _ _ _ _ _ h) ?_
 rintro ⟨l, is, ts', e1⟩ ⟨-, h1, h2, rfl, h3⟩
 dsimp only at h1 h2 h3 hat ⊢
 have loop2 : ∀ (hd : Bool) (d : List UInt8) (e1 : Int), (e1 = 0 → e = 0 ∧ l ≠ []) → Tot (aW 2000 (cJ 2000) (at_, l, hd, d, false, 0, ts', e1)) (fun z => ∃ (y0 : List ak) (y1 : Int) (rest : List aI), z.1.dimR = .tup [] ∧ z.2 = some [.ul .atype y0, .int .i64 y1] :: rest ∧ ct ts' e c0 c1 c2 c3 c4 at_ (y0, y1)) := by
  intro hd d e1 he1
  refine bd (fun x => match x with | (a, l', hd', d', b, i, ts2, e2) => a = at_ ∧ l' = l ∧ hd' = hd ∧ d' = d ∧ 0 ≤ i ∧ i ≤ (l.length : Int) ∧ ts2 = ts' ∧ e2 = e1) (fun x => ((l.length : Int) - x.2.2.2.2.2.1).toNat) ?_ _ _ ⟨rfl, rfl, rfl, rfl, by simp, by simp, rfl, rfl⟩ (by simp; omega)
  rintro again ⟨a, l', hd', d', b, i, ts2, e2⟩ ⟨rfl, rfl, rfl, rfl, i1, i2, rfl, rfl⟩ ih
  dsimp only at ih
  have ew : i < l'.length → IntKind.i64.wrap (i + 1) = i + 1 := fun h => aJ (i + 1) (by omega)
  have next : ∀ b : Bool, i < l'.length → Tot (again (a, l', hd', d', b, IntKind.i64.wrap (i + 1), ts2, e2)) _ := fun b h => ih (a, l', hd', d', b, IntKind.i64.wrap (i + 1), ts2, e2)
   (by simp only [ew h]; exact ⟨trivial, trivial, trivial, trivial, by omega, by omega, trivial, trivial⟩) (by simp only [ew h]; omega)
  unfold cJ
  dsimp only
  have fin : ∀ (h0 : e2 = 0) (e3 : Int), e3 = e2 → ct ts2 e c0 c1 c2 c3 c4 a (List.set (List.set (List.set ts2 (Int.toNat a) (let e_ := List.getD ts2 (Int.toNat a) (aC .atype); ⟨(e_).kind, (e_).name, (e_).aliases, (e_).items, l', (e_).hasdef, (e_).df, (e_).size, (e_).fields, (e_).branches⟩)) (Int.toNat a) (let e_ := List.getD (List.set ts2 (Int.toNat a) (let e_ := List.getD ts2 (Int.toNat a) (aC .atype); ⟨(e_).kind, (e_).name, (e_).aliases, (e_).items, l', (e_).hasdef, (e_).df, (e_).size, (e_).fields, (e_).branches⟩)) (Int.toNat a) (aC .atype); ⟨(e_).kind, (e_).name, (e_).aliases, (e_).items, (e_).syms, hd', (e_).df, (e_).size, (e_).fields, (e_).branches⟩)) (Int.toNat a) (let e_ := List.getD (List.set (List.set ts2 (Int.toNat a) (let e_ := List.getD ts2 (Int.toNat a) (aC .atype); ⟨(e_).kind, (e_).name, (e_).aliases, (e_).items, l', (e_).hasdef, (e_).df, (e_).size, (e_).fields, (e_).branches⟩)) (Int.toNat a) (let e_ := List.getD (List.set ts2 (Int.toNat a) (let e_ := List.getD ts2 (Int.toNat a) (aC .atype); ⟨(e_).kind, (e_).name, (e_).aliases, (e_).items, l', (e_).hasdef, (e_).df, (e_).size, (e_).fields, (e_).branches⟩)) (Int.toNat a) (aC .atype); ⟨(e_).kind, (e_).name, (e_).aliases, (e_).items, (e_).syms, hd', (e_).df, (e_).size, (e_).fields, (e_).branches⟩)) (Int.toNat a) (aC .atype); ⟨(e_).kind, (e_).name, (e_).aliases, (e_).items, (e_).syms, (e_).hasdef, d', (e_).size, (e_).fields, (e_).branches⟩), e3) := by
   rintro h0 e3 rfl
   have ha := hat (he1 h0).1
   have hl : a.toNat < ts2.length := by omega
   refine ⟨fun h => (he1 h).1, fun h => absurd h0 h, fun _ => ⟨l', hd', d', (he1 h0).2, h1, ts2[a.toNat], List.getElem?_eq_getElem hl, ?_⟩⟩
   have g : ∀ x : ak, (ts2.set a.toNat x).getD a.toNat (aC .atype) = x := fun x => ajw hl
   have g0 : ts2.getD a.toNat (aC .atype) = ts2[a.toNat] := lR (List.getElem?_eq_getElem hl)
   simp only [List.set_set, g, g0]
  repeat' (first | (with_reducible refine aD ?_ ?_ <;> (intro hb; (try simp only [bnl] at hb); (try revert hb; intro _))) | with_reducible refine aN ?_ ?_ | with_reducible refine aG ?_ | (refine aE (bN _ _ _) ?_; rintro _ ⟨-, rfl⟩; try dsimp only) | fail)
  all_goals first | (refine next _ (by omega)) | skip
  all_goals have hat' : e2 = 0 → 0 ≤ a ∧ a < ts2.length := fun h => hat (he1 h).1
  all_goals first | (first | (simp only [bnl, lnl]; done) | (simp only [bnl, lnl]; omega)) | skip
  all_goals first | exact ⟨_, _, _, rfl, rfl, fun h => (he1 h).1, fun _ => rfl, fun h => absurd h (by assumption)⟩ | exact ⟨_, _, _, rfl, rfl, fun h => absurd h (nz (by decide)), fun _ => rfl, fun h => absurd h (nz (by decide))⟩ | exact ⟨_, _, _, rfl, rfl, fin (by assumption) _ rfl⟩ | (exfalso; exact nz (by decide) (by assumption)) | skip
 have loop1 : ∀ (e1 : Int), (e1 = 0 → e = 0 ∧ l ≠ []) → Tot (aW 2000 (dE 2000) (at_, c0, c1, c2, c3, c4, l, 0, ts', e1)) (fun z => ∃ (y0 : List ak) (y1 : Int) (rest : List aI), z.1.dimR = .tup [] ∧ z.2 = some [.ul .atype y0, .int .i64 y1] :: rest ∧ ct ts' e c0 c1 c2 c3 c4 at_ (y0, y1)) := by
  intro e1 he1
  refine bd (fun x => match x with | (a, d0, d1, d2, d3, d4, l', i, ts2, e2) => a = at_ ∧ d0 = c0 ∧ d1 = c1 ∧ d2 = c2 ∧ d3 = c3 ∧ d4 = c4 ∧ l' = l ∧ 0 ≤ i ∧ i ≤ (l.length : Int) ∧ ts2 = ts' ∧ (e2 = 0 → e = 0 ∧ l ≠ [])) (fun x => ((l.length : Int) - x.2.2.2.2.2.2.2.1).toNat) ?_ _ _ ⟨rfl, rfl, rfl, rfl, rfl, rfl, rfl, by simp, by simp, rfl, he1⟩ (by simp; omega)
  rintro again ⟨a, d0, d1, d2, d3, d4, l', i, ts2, e2⟩ ⟨rfl, rfl, rfl, rfl, rfl, rfl, rfl, i1, i2, rfl, i3⟩ ih
  dsimp only at ih
  have ew : i < l'.length → IntKind.i64.wrap (i + 1) = i + 1 := fun h => aJ (i + 1) (by omega)
  have next : ∀ e2 : Int, i < l'.length → (e2 = 0 → e = 0 ∧ l' ≠ []) → Tot (again (a, d0, d1, d2, d3, d4, l', IntKind.i64.wrap (i + 1), ts2, e2)) _ := fun e2 h he => ih (a, d0, d1, d2, d3, d4, l', IntKind.i64.wrap (i + 1), ts2, e2)
   (by simp only [ew h]; exact ⟨trivial, trivial, trivial, trivial, trivial, trivial, trivial, by omega, by omega, trivial, he⟩) (by simp only [ew h]; omega)
  have inner : ∀ e2 : Int, i < l'.length → (e2 = 0 → e = 0 ∧ l' ≠ []) → Tot (aW 2000 (cI 2000 again) (a, d0, d1, d2, d3, d4, l', i, 0, ts2, e2)) (fun z => ∃ (y0 : List ak) (y1 : Int) (rest : List aI), z.1.dimR = .tup [] ∧ z.2 = some [.ul .atype y0, .int .i64 y1] :: rest ∧ ct ts2 e d0 d1 d2 d3 d4 a (y0, y1)) := by
   intro e2 hi he
   refine bd (fun x => match x with | (a', b0, b1, b2, b3, b4, l2, i', k, ts3, e3) => a' = a ∧ b0 = d0 ∧ b1 = d1 ∧ b2 = d2 ∧ b3 = d3 ∧ b4 = d4 ∧ l2 = l' ∧ i' = i ∧ 0 ≤ k ∧ k ≤ i ∧ ts3 = ts2 ∧ (e3 = 0 → e = 0 ∧ l' ≠ [])) (fun x => (i - x.2.2.2.2.2.2.2.2.1).toNat) ?_ _ _ ⟨rfl, rfl, rfl, rfl, rfl, rfl, rfl, rfl, by simp, i1, rfl, he⟩ (by simp only; omega)
   rintro again1 ⟨a', b0, b1, b2, b3, b4, l2, i', k, ts3, e3⟩ ⟨rfl, rfl, rfl, rfl, rfl, rfl, rfl, rfl, j1, j2, rfl, j3⟩ ih1
   dsimp only at ih1
   have ek : k < i' → IntKind.i64.wrap (k + 1) = k + 1 := fun h => aJ (k + 1) (by omega)
   have next1 : ∀ e2 : Int, k < i' → (e2 = 0 → e = 0 ∧ l2 ≠ []) → Tot (again1 (a', b0, b1, b2, b3, b4, l2, i', IntKind.i64.wrap (k + 1), ts3, e2)) _ := fun e2 h he => ih1 (a', b0, b1, b2, b3, b4, l2, i', IntKind.i64.wrap (k + 1), ts3, e2)
    (by simp only [ek h]; exact ⟨trivial, trivial, trivial, trivial, trivial, trivial, trivial, trivial, by omega, by omega, trivial, he⟩) (by simp only [ek h]; omega)
   unfold cI
   dsimp only
   repeat' (first | (with_reducible refine aD ?_ ?_ <;> (intro hb; (try simp only [bnl] at hb); (try revert hb; intro _))) | with_reducible refine aN ?_ ?_ | with_reducible refine aG ?_ | (refine aE (bN _ _ _) ?_; rintro _ ⟨-, rfl⟩; try dsimp only) | fail)
   all_goals first | (first | (simp only [bnl, lnl]; done) | (simp only [bnl, lnl]; omega)) | exact next1 _ (by omega) j3 | exact next1 _ (by omega) (fun h => absurd h (nz (by decide))) | exact next _ hi j3
  unfold dE fk
  dsimp only
  repeat' (first | (with_reducible refine aD ?_ ?_ <;> (intro hb; (try simp only [bnl] at hb); (try revert hb; intro _))) | with_reducible refine aN ?_ ?_ | with_reducible refine aG ?_ | (refine aE (bN _ _ _) ?_; rintro _ ⟨-, rfl⟩; try dsimp only) | (refine aE (zG _ ?_) ?_; rotate_left; intro _ _) | (refine aE (lr _ _ _ _ _ _ (by omega)) ?_; intro _ _) | (refine aE (adV _ _ _ _ _ _ _ _ _ h) ?_; rintro ⟨w, ts4, e4⟩ ⟨-, w1, rfl, w2⟩; dsimp only at w2 ⊢) | fail)
  all_goals first | (first | (simp only [bnl, lnl]; done) | (simp only [bnl, lnl]; omega)) | exact inner _ (by omega) i3 | exact inner _ (by omega) (fun h => absurd h (nz (by decide))) | exact loop2 _ _ _ (fun h => i3 (w2 h)) | skip
  ·have : (l'.getD i.toNat (aC .str)).length ≤ 100 := by
    rw [List.getD_eq_getElem?_getD]
    cases hq : l'[i.toNat]? with
    | none => exact Nat.zero_le _
    | some y => exact h2 y (List.mem_of_getElem? hq)
   omega
 have nz' : ∀ {e c : Int}, c ≠ 0 → (if e = 0 then c else e) = 0 → ∀ {p : Prop}, p := fun hc h => absurd h (nz hc)
 repeat' (first | (with_reducible refine aD ?_ ?_ <;> (intro hb; (try simp only [bnl] at hb); (try revert hb; intro _))) | with_reducible refine aN ?_ ?_ | with_reducible refine aG ?_ | (refine aE (bN _ _ _) ?_; rintro _ ⟨-, rfl⟩; try dsimp only) | fail)
 all_goals first | exact loop1 _ (fun h => absurd h (nz (by decide))) | skip
 all_goals refine loop1 _ (fun h => ⟨h3 h, fun hl => ?_⟩)
 all_goals subst hl; simp at *
end Go.Proofs.Ytdpajabhmmmjoaa
end
noncomputable section
namespace Go.Proofs.Ytdpajabhmmmjoaa
open Go.AM
set_option autoImplicit false
set_option linter.unusedVariables false
set_option linter.unusedSimpArgs false
set_option maxRecDepth 100000
def vc (deep : Int) : Prop := ∀ (ts : List ak) (e c0 c1 : Int) (c2 : List UInt8) (c3 : List aA) (c4 : List (List UInt8)) (space : List UInt8),
 ts.length ≤ 60 → aV (.mk c0 c1 c2 c3 c4) → (space.length : Int) ≤ 202 * deep → ∃ r, bM ts e c0 c1 c2 c3 c4 space deep r
theorem bp.stuck {ts ts' : List ak} {e e' : Int} (h1 : ts.length ≤ ts'.length) (h2 : ts'.length ≤ 60) (he : e' ≠ 0) : bp ts e ts' e' :=
 ⟨h1, h2, fun h => absurd h he, fun h => absurd h he, fun h => absurd h he⟩
structure jA (ts : List ak) (e : Int) (t0 : ak) (at_ : Int) (ts2 : List ak) (e2 : Int) : Prop where
 len : ts.length ≤ ts2.length
 cap : ts2.length ≤ 60
 grow : e2 = 0 → at_ = ts.length ∧ bp (ts ++ [t0]) e ts2 e2
theorem jA.add {ts : List ak} {e : Int} {t0 : ak} (h : ts.length ≤ 60) {r : Int × List ak × Int} (hr : r = if 60 ≤ ts.length then (0, ts, if e = 0 then 3 else e) else ((ts.length : Int), ts ++ [t0], e)) : jA ts e t0 r.1 r.2.1 r.2.2 := by
 by_cases hl : 60 ≤ ts.length
 ·rw [if_pos hl] at hr
  subst hr
  exact ⟨Nat.le_refl _, h, fun h => absurd h (nz (by decide))⟩
 ·rw [if_neg hl] at hr
  subst hr
  exact ⟨by simp, by simp; omega, fun h => ⟨rfl, bp.refl (by simp; omega)⟩⟩
theorem jA.more {ts ts2 ts3 : List ak} {e e2 e3 : Int} {t0 : ak} {a : Int} (h : jA ts e t0 a ts2 e2) (h' : bp ts2 e2 ts3 e3) : jA ts e t0 a ts3 e3 :=
 ⟨Nat.le_trans h.len h'.len, h'.cap, fun he => ⟨(h.grow (h'.err he)).1, (h.grow (h'.err he)).2.trans h'⟩⟩
theorem jA.bad {ts ts2 : List ak} {e e2 e3 : Int} {t0 : ak} {a : Int} (h : jA ts e t0 a ts2 e2) (he : e3 ≠ 0) : jA ts e t0 a ts2 e3 :=
 ⟨h.len, h.cap, fun h' => absurd h' he⟩
theorem jA.stuck {ts ts2 : List ak} {e e2 : Int} {t0 : ak} {a : Int} (h : jA ts e t0 a ts2 e2) (he : e2 ≠ 0) : bp ts e ts2 e2 := bp.stuck h.len h.cap he
theorem jA.range {ts ts2 : List ak} {e e2 : Int} {t0 : ak} {a : Int} (h : jA ts e t0 a ts2 e2) (he : e2 = 0) : 0 ≤ a ∧ a < ts2.length := by
 obtain ⟨rfl, g⟩ := h.grow he
 have := g.len
 simp only [List.length_append, List.length_singleton] at this
 omega
theorem jA.done {ts ts2 : List ak} {e e2 : Int} {t0 t : ak} {a : Int} (h : jA ts e t0 a ts2 e2) (he : e2 = 0) (ht : fZ ts2.length t) : bp ts e (ts2.set a.toNat t) e2 := by
 obtain ⟨rfl, g⟩ := h.grow he
 rw [Int.toNat_natCast]
 exact g.close ht
theorem jA.get {ts ts2 : List ak} {e e2 : Int} {t0 : ak} {a : Int} (h : jA ts e t0 a ts2 e2) (he : e2 = 0) : ts2[a.toNat]? = some t0 := by
 obtain ⟨rfl, g⟩ := h.grow he
 rw [Int.toNat_natCast]
 exact g.at_open he
theorem jA.kept {ts ts2 : List ak} {e e2 : Int} {t0 : ak} {a : Int} (h : jA ts e t0 a ts2 e2) (ht : fZ (ts.length + 1) t0) : bp ts e ts2 e2 := by
 by_cases he : e2 = 0
 ·obtain ⟨rfl, g⟩ := h.grow he
  have := g.len
  have := g.cap
  simp only [List.length_append, List.length_singleton] at *
  exact (bp.push (by omega) t0 ht).trans g
 ·exact h.stuck he
theorem alg (deep : Int) (hd : 1 ≤ deep ∧ deep ≤ 20) (hT : vc (deep + 1)) (ts : List ak) (e c0 c1 : Int) (c2 : List UInt8) (c3 : List aA) (c4 : List (List UInt8)) (space : List UInt8)
  (h : ts.length ≤ 60) (hn : aV (.mk c0 c1 c2 c3 c4)) (hs : (space.length : Int) ≤ 202 * deep) : ∃ r, f6 ts e c0 c1 c2 c3 c4 space deep r := by
 obtain ⟨k1, k2, k3, k4, k5, k6⟩ := hn.kids
 apply yQ 2000
 unfold mz fp
 refine aE (acH _ _ _ _ _ _ _ _ _ _ _ _ h) ?_
 rintro r ⟨-, hr⟩
 have ho := jA.add h hr
 clear hr
 obtain ⟨a, ts1, e1⟩ := r
 dsimp only at ho ⊢
 repeat' (first | (with_reducible refine aD ?_ ?_ <;> (intro hb; (try simp only [bnl] at hb); (try revert hb; intro _))) | with_reducible refine aN ?_ ?_ | with_reducible refine aG ?_ | (refine aE (bN _ _ _) ?_; rintro _ ⟨-, rfl⟩; try dsimp only) | fail)
 ·exact ⟨_, _, _, _, rfl, rfl, ho.bad (nz (by decide)) |>.stuck (nz (by decide)), fun h => absurd h (nz (by decide))⟩
 ·exact ⟨_, _, _, _, rfl, rfl, ho.bad (nz (by decide)) |>.stuck (nz (by decide)), fun h => absurd h (nz (by decide))⟩
 rename_i hl1 hl2
 refine bd (fun x => match x with | (sp, dp, d0, d1, d2, l, d4, a', bs, i, ts2, e2) => sp = space ∧ dp = deep ∧ l = c3 ∧ a' = a ∧ (bs.length : Int) = i ∧ i ≤ (c3.length : Int) ∧ (∀ b ∈ bs, 0 ≤ b ∧ b < (ts2.length : Int)) ∧ jA ts e ⟨14, [], [], 0, [], false, [], 0, [], []⟩ a ts2 e2) (fun x => ((c3.length : Int) - x.2.2.2.2.2.2.2.2.2.1).toNat) ?_ _ _
  ⟨rfl, rfl, rfl, rfl, rfl, by simp, by simp, ho⟩ (by simp; omega)
 rintro again ⟨sp, dp, d0, d1, d2, l, d4, a', bs, i, ts2, e2⟩ ⟨rfl, rfl, rfl, rfl, i1, i2, i3, i4⟩ ih
 dsimp only at ih
 have ew : i < l.length → IntKind.i64.wrap (i + 1) = i + 1 := fun h => aJ (i + 1) (by omega)
 have ed : IntKind.i64.wrap (dp + 1) = dp + 1 := aJ (dp + 1) (by omega)
 unfold ip gL
 dsimp only
 have fin : e2 = 0 → i = l.length → fZ ts2.length (let e_ := List.getD ts2 (Int.toNat a') (aC .atype); ⟨(e_).kind, (e_).name, (e_).aliases, (e_).items, (e_).syms, (e_).hasdef, (e_).df, (e_).size, (e_).fields, bs⟩) := by
  intro h0 hi
  rw [lR (i4.get h0)]
  have hr := i4.range h0
  exact ⟨⟨by simp, by simp only; omega⟩, by simp, by simp, i3, by simp only; omega, by simp, by simp, fun _ hb => by
   have hb : bs = [] := hb
   rw [hb] at i1
   simp at i1
   omega, by simp, by simp, fun _ => rfl⟩
 have hat : e2 = 0 → 0 ≤ a' ∧ a' < ts2.length := fun h0 => i4.range h0
 repeat' (first | (with_reducible refine aD ?_ ?_ <;> (intro hb; (try simp only [bnl] at hb); (try revert hb; intro _))) | with_reducible refine aN ?_ ?_ | with_reducible refine aG ?_ | (refine aE (bN _ _ _) ?_; rintro _ ⟨-, rfl⟩; try dsimp only) | fail)
 all_goals try simp only [ed]
 ·first | (simp only [bnl, lnl]; done) | (simp only [bnl, lnl]; omega)
 ·have hkid := aV.eta.2 (aV.getD k6 i.toNat)
  refine aE (hT _ _ _ _ _ _ _ _ i4.cap hkid (by omega)) ?_
  rintro ⟨k, ts3, e3⟩ ⟨-, g1, g2⟩
  dsimp only at g1 g2 ⊢
  have i5 := i4.more g1
  have hl3 := g1.len
  repeat' (first | (with_reducible refine aD ?_ ?_ <;> (intro hb; (try simp only [bnl] at hb); (try revert hb; intro _))) | with_reducible refine aN ?_ ?_ | with_reducible refine aG ?_ | (refine aE (bN _ _ _) ?_; rintro _ ⟨-, rfl⟩; try dsimp only) | fail)
  ·rename_i he3
   exact ⟨_, _, _, _, rfl, rfl, i5.stuck he3, fun h => absurd h he3⟩
  ·have := g2 (by assumption); first | (simp only [bnl, lnl]; done) | (simp only [bnl, lnl]; omega)
  ·have := g2 (by assumption); first | (simp only [bnl, lnl]; done) | (simp only [bnl, lnl]; omega)
  ·have := g2 (by assumption); first | (simp only [bnl, lnl]; done) | (simp only [bnl, lnl]; omega)
  ·first | (simp only [bnl, lnl]; done) | (simp only [bnl, lnl]; omega)
  ·exact ⟨_, _, _, _, rfl, rfl, (i5.bad (nz (by decide))).stuck (nz (by decide)), fun h => absurd h (nz (by decide))⟩
  ·rename_i he3 hk
   have g2' := g2 he3
   refine bd (fun x => match x with | (sp', dp', d0, d1, d2, l', d4, a2, bs', i', k', m, ts4, e4) => sp' = sp ∧ dp' = dp ∧ l' = l ∧ a2 = a' ∧ bs' = bs ∧ i' = i ∧ k' = k ∧ 0 ≤ m ∧ m ≤ (bs.length : Int) ∧ ts4 = ts3 ∧ e4 = e3) (fun x => ((bs.length : Int) - x.2.2.2.2.2.2.2.2.2.2.2.1).toNat) ?_ _ _
    ⟨rfl, rfl, rfl, rfl, rfl, rfl, rfl, by simp, by simp, rfl, rfl⟩ (by simp; omega)
   rintro again1 ⟨sp', dp', d0', d1', d2', l', d4', a2, bs', i', k', m, ts4, e4⟩ ⟨rfl, rfl, rfl, rfl, rfl, rfl, rfl, j1, j2, rfl, rfl⟩ ih1
   dsimp only at ih1
   have em : m < bs'.length → IntKind.i64.wrap (m + 1) = m + 1 := fun h => aJ (m + 1) (by omega)
   unfold eL
   dsimp only
   repeat' (first | (with_reducible refine aD ?_ ?_ <;> (intro hb; (try simp only [bnl] at hb); (try revert hb; intro _))) | with_reducible refine aN ?_ ?_ | with_reducible refine aG ?_ | (refine aE (bN _ _ _) ?_; rintro _ ⟨-, rfl⟩; try dsimp only) | (refine ae9 ?_ (amg _ _) ?_; rotate_left; intro _ _) | fail)
   all_goals first | (first | (simp only [bnl, lnl]; done) | (simp only [bnl, lnl]; omega)) | exact ⟨_, _, _, _, rfl, rfl, (i5.bad (nz (by decide))).stuck (nz (by decide)), fun h => absurd h (nz (by decide))⟩ | skip
   ·rename_i hm _ _ _ _ _
    refine ih1 (sp', dp', d0', d1', d2', l', d4', a2, bs', i', k', _, ts4, e4) ?_ ?_
    ·simp only [em hm]; exact ⟨trivial, trivial, trivial, trivial, trivial, trivial, trivial, by omega, by omega, trivial, trivial⟩
    ·simp only [em hm]; omega
   ·have hil : i' < l'.length := by omega
    refine ih (sp', dp', d0', d1', d2', l', d4', a2, _, _, ts4, e4) ?_ ?_
    ·simp only [ew hil, List.length_append, List.length_cons, List.length_nil]
     refine ⟨trivial, trivial, trivial, trivial, by omega, by omega, ?_, i5⟩
     intro b hb
     rcases List.mem_append.1 hb with hb | hb
     ·have := i3 b hb; omega
     ·simp only [List.mem_singleton] at hb
      subst hb; exact g2'
    ·simp only [ew hil]; omega
 all_goals first | (exfalso; omega) | skip
 all_goals have hat2 := fun h0 => hat h0
 all_goals first | (first | (simp only [bnl, lnl]; done) | (simp only [bnl, lnl]; omega)) | skip
 ·rename_i h0
  exact ⟨_, _, _, _, rfl, rfl, i4.stuck h0, fun h => absurd h h0⟩
 ·rename_i h0
  have hr := i4.range h0
  exact ⟨_, _, _, _, rfl, rfl, i4.done h0 (fin h0 (by omega)), fun _ => by simpa using hr⟩
 ·rename_i h0
  exact ⟨_, _, _, _, rfl, rfl, i4.stuck h0, fun h => absurd h h0⟩
end Go.Proofs.Ytdpajabhmmmjoaa
end
noncomputable section
namespace Go.Proofs.Ytdpajabhmmmjoaa
open Go.AM
set_option autoImplicit false
set_option linter.unusedVariables false
set_option linter.unusedSimpArgs false
set_option maxRecDepth 100000
theorem z5 {l : List (List UInt8)} (h : bK l) (i : Nat) : (l.getD i (aC .str)).length ≤ 100 := by
 rw [List.getD_eq_getElem?_getD]
 cases hq : l[i]? with
 | none => exact Nat.zero_le _
 | some y => exact h y (List.mem_of_getElem? hq)
def qV (m : Nat) (l : List aQ) : Prop := l.length ≤ 8 ∧ ∀ f ∈ l, 0 ≤ f.typ ∧ f.typ < m ∧ aV f.df
theorem qV.mono {m m' : Nat} {l : List aQ} (h : qV m l) (hm : m ≤ m') : qV m' l :=
 ⟨h.1, fun f hf => ⟨(h.2 f hf).1, by have := (h.2 f hf).2.1; omega, (h.2 f hf).2.2⟩⟩
theorem akt (deep : Int) (hd : 1 ≤ deep ∧ deep ≤ 20) (hT : vc (deep + 1)) (ts : List ak) (e c0 c1 : Int) (c2 : List UInt8) (c3 : List aA) (c4 : List (List UInt8)) (at_ : Int) (space : List UInt8)
  (h : ts.length ≤ 60) (hn : aV (.mk c0 c1 c2 c3 c4)) (hs : (space.length : Int) ≤ 202 * deep + 201) (hat : e = 0 → 0 ≤ at_ ∧ at_ < ts.length) : ∃ r, eW ts e c0 c1 c2 c3 c4 at_ space deep r := by
 obtain ⟨k1, k2, k3, k4, k5, k6⟩ := hn.kids
 apply xD 2000
 unfold lM eM
 refine aE (lr _ _ _ _ _ _ (by omega)) ?_
 rintro r ⟨-, hr⟩
 have hg := pA (k := c0) (names := c4) (name := [102, 105, 101, 108, 100, 115]) k6
 simp only [bQ] at hr
 rw [← hr] at hg
 obtain ⟨b0, b1, b2, l, b4, b5⟩ := r
 obtain ⟨g1, g2, g3, g4, g5, g6⟩ := hg.kids
 dsimp only at g2 g6 ⊢
 have bad : ∀ c : Int, c ≠ 0 → cE ts e c0 c1 c2 c3 c4 at_ space deep (ts, if e = 0 then c else e) := fun c hc => ⟨ts, bp.stuck (Nat.le_refl _) h (nz hc), .inl rfl⟩
 repeat' (first | (with_reducible refine aD ?_ ?_ <;> (intro hb; (try simp only [bnl] at hb); (try revert hb; intro _))) | with_reducible refine aN ?_ ?_ | with_reducible refine aG ?_ | (refine aE (bN _ _ _) ?_; rintro _ ⟨-, rfl⟩; try dsimp only) | fail)
 ·exact ⟨_, _, _, rfl, rfl, bad 2 (by decide)⟩
 ·exact ⟨_, _, _, rfl, rfl, bad 2 (by decide)⟩
 ·exact ⟨_, _, _, rfl, rfl, bad 3 (by decide)⟩
 rename_i hl
 refine bd (fun x => match x with | (a, sp, dp, d0, d1, d2, l', d4, out, i, ts2, e2) => a = at_ ∧ sp = space ∧ dp = deep ∧ l' = l ∧ (out.length : Int) = i ∧ i ≤ (l.length : Int) ∧ bp ts e ts2 e2 ∧ (e2 = 0 → qV ts2.length out)) (fun x => ((l.length : Int) - x.2.2.2.2.2.2.2.2.2.1).toNat) ?_ _ _
  ⟨rfl, rfl, rfl, rfl, rfl, by simp, bp.refl h, fun _ => ⟨by simp, by simp⟩⟩ (by simp; omega)
 rintro again ⟨a, sp, dp, d0, d1, d2, l, d4, out, i, ts2, e2⟩ ⟨rfl, rfl, rfl, rfl, i1, i2, i3, i4⟩ ih
 dsimp only at ih
 have ew : i < l.length → IntKind.i64.wrap (i + 1) = i + 1 := fun h => aJ (i + 1) (by omega)
 have ed : IntKind.i64.wrap (dp + 1) = dp + 1 := aJ (dp + 1) (by omega)
 have hat2 : e2 = 0 → 0 ≤ a ∧ a < ts2.length := fun h0 => by
  have := hat (i3.err h0)
  have := i3.len
  omega
 unfold gQ fX
 dsimp only
 have hkid := aV.eta.2 (aV.getD g6 i.toNat)
 have hkk := hkid.kids
 have inner2 : ∀ (ts3 : List ak) (e3 : Int) (nm : List UInt8) (al : List (List UInt8)) (ty : Int) (hd' : Bool) (f0 f1 : Int) (f2 : List UInt8) (f3 : List aA) (f4 : List (List UInt8)), i < l.length → bp ts e ts3 e3 → bK al → al.length ≤ 100 → (e3 = 0 → qV ts3.length out ∧ 0 ≤ ty ∧ ty < ts3.length) → aV (.mk f0 f1 f2 f3 f4) →
   Tot (aW 2000 (cl 2000 again) (a, sp, dp, d0, d1, d2, l, d4, out, i, 0, ts3, e3, nm, al, ty, hd', f0, f1, f2, f3, f4)) (fun z => ∃ (y0 : List ak) (y1 : Int) (rest : List aI), z.1.dimR = .tup [] ∧ z.2 = some [.ul .atype y0, .int .i64 y1] :: rest ∧ cE ts e c0 c1 c2 c3 c4 a sp dp (y0, y1)) := by
  intro ts3 e3 nm al ty hd' f0 f1 f2 f3 f4 hil hgr hal hal2 hty hnd
  refine bd (fun x => match x with | (a', sp', dp', d0', d1', d2', l', d4', out', i', m, ts4, e4, nm', al', ty', hd2, f0', f1', f2', f3', f4') => a' = a ∧ sp' = sp ∧ dp' = dp ∧ l' = l ∧ out' = out ∧ i' = i ∧ 0 ≤ m ∧ m ≤ (al.length : Int) ∧ bp ts e ts4 e4 ∧ al' = al ∧ ty' = ty ∧ (e4 = 0 → qV ts4.length out ∧ 0 ≤ ty ∧ ty < ts4.length) ∧ aV (.mk f0' f1' f2' f3' f4')) (fun x => ((al.length : Int) - x.2.2.2.2.2.2.2.2.2.2.1).toNat) ?_ _ _
   ⟨rfl, rfl, rfl, rfl, rfl, rfl, by simp, by simp, hgr, rfl, rfl, hty, hnd⟩ (by simp; omega)
  rintro again2 ⟨a', sp', dp', d0', d1', d2', l', d4', out', i', m, ts4, e4, nm', al', ty', hd2, f0', f1', f2', f3', f4'⟩ ⟨rfl, rfl, rfl, rfl, rfl, rfl, j1, j2, j3, rfl, rfl, j4, j5⟩ ih2
  dsimp only at ih2
  have em : m < al'.length → IntKind.i64.wrap (m + 1) = m + 1 := fun h => aJ (m + 1) (by omega)
  have out1 : Tot (again (a', sp', dp', d0', d1', d2', l', d4', out' ++ [⟨nm', al', ty', hd2, ⟨f0', f1', f2', f3', f4'⟩⟩], IntKind.i64.wrap (i' + 1), ts4, e4)) _ := ih (a', sp', dp', d0', d1', d2', l', d4', out' ++ [⟨nm', al', ty', hd2, ⟨f0', f1', f2', f3', f4'⟩⟩], IntKind.i64.wrap (i' + 1), ts4, e4)
   (by
    simp only [ew hil, List.length_append, List.length_cons, List.length_nil]
    refine ⟨trivial, trivial, trivial, trivial, by omega, by omega, j3, fun h0 => ?_⟩
    obtain ⟨q1, q2⟩ := j4 h0
    refine ⟨by simp; omega, fun f hf => ?_⟩
    rcases List.mem_append.1 hf with hf | hf
    ·exact q1.2 f hf
    ·simp only [List.mem_singleton] at hf
     subst hf
     exact ⟨q2.1, q2.2, j5⟩) (by simp only [ew hil]; omega)
  have next : ∀ e5 : Int, m < al'.length → bp ts e ts4 e5 → (e5 = 0 → e4 = 0) → Tot (again2 (a', sp', dp', d0', d1', d2', l', d4', out', i', IntKind.i64.wrap (m + 1), ts4, e5, nm', al', ty', hd2, f0', f1', f2', f3', f4')) _ := fun e5 hm hg5 he5 => ih2 (a', sp', dp', d0', d1', d2', l', d4', out', i', IntKind.i64.wrap (m + 1), ts4, e5, nm', al', ty', hd2, f0', f1', f2', f3', f4')
   (by
    simp only [em hm]
    exact ⟨trivial, trivial, trivial, trivial, trivial, trivial, by omega, by omega, hg5, trivial, trivial, fun h0 => j4 (he5 h0), j5⟩) (by simp only [em hm]; omega)
  unfold cl
  dsimp only
  repeat' (first | (with_reducible refine aD ?_ ?_ <;> (intro hb; (try simp only [bnl] at hb); (try revert hb; intro _))) | with_reducible refine aN ?_ ?_ | with_reducible refine aG ?_ | (refine aE (bN _ _ _) ?_; rintro _ ⟨-, rfl⟩; try dsimp only) | (refine aE (zG _ ?_) ?_; rotate_left; intro _ _) | fail)
  all_goals first | (first | (simp only [bnl, lnl]; done) | (simp only [bnl, lnl]; omega)) | exact out1 | exact next _ (by omega) j3 (fun h => h) | exact next _ (by omega) (bp.stuck j3.len j3.cap (nz (by decide))) (fun h => absurd h (nz (by decide))) | skip
  ·have := z5 hal m.toNat; omega
 have inner1 : ∀ (ts3 : List ak) (e3 : Int) (nm : List UInt8), i < l.length → bp ts2 e2 ts3 e3 →
   Tot (aW 2000 (cY 2000 again) (a, sp, dp, d0, d1, d2, l, d4, out, i, (List.getD l (Int.toNat i) (aC .jnode)).kind, (List.getD l (Int.toNat i) (aC .jnode)).n, (List.getD l (Int.toNat i) (aC .jnode)).s, (List.getD l (Int.toNat i) (aC .jnode)).l, (List.getD l (Int.toNat i) (aC .jnode)).names, 0, ts3, e3, nm, ([] : List (List UInt8)), 0, false, 0, 0, ([] : List UInt8), ([] : List aA), ([] : List (List UInt8)))) (fun z => ∃ (y0 : List ak) (y1 : Int) (rest : List aI), z.1.dimR = .tup [] ∧ z.2 = some [.ul .atype y0, .int .i64 y1] :: rest ∧ cE ts e c0 c1 c2 c3 c4 a sp dp (y0, y1)) := by
  intro ts3 e3 nm hil hgr
  refine bd (fun x => match x with | (a', sp', dp', d0', d1', d2', l', d4', out', i', v0, v1, v2, v3, v4, m, ts4, e4, nm', al', ty', hd2, f0', f1', f2', f3', f4') => a' = a ∧ sp' = sp ∧ dp' = dp ∧ d0' = d0 ∧ d1' = d1 ∧ d2' = d2 ∧ l' = l ∧ d4' = d4 ∧ out' = out ∧ i' = i ∧ aV (.mk v0 v1 v2 v3 v4) ∧ 0 ≤ m ∧ m ≤ (out.length : Int) ∧ bp ts2 e2 ts4 e4) (fun x => ((out.length : Int) - x.2.2.2.2.2.2.2.2.2.2.2.2.2.2.2.1).toNat) ?_ _ _
   ⟨rfl, rfl, rfl, rfl, rfl, rfl, rfl, rfl, rfl, rfl, hkid, by simp, by simp, hgr⟩ (by simp; omega)
  rintro again1 ⟨a', sp', dp', d0', d1', d2', l', d4', out', i', v0, v1, v2, v3, v4, m, ts4, e4, nm', al', ty', hd2, f0', f1', f2', f3', f4'⟩ ⟨rfl, rfl, rfl, rfl, rfl, rfl, rfl, rfl, rfl, rfl, hv, j1, j2, j3⟩ ih1
  dsimp only at ih1
  have em : m < out'.length → IntKind.i64.wrap (m + 1) = m + 1 := fun h => aJ (m + 1) (by omega)
  have next : ∀ e5 : Int, m < out'.length → bp ts2 e2 ts4 e5 → Tot (again1 (a', sp', dp', d0', d1', d2', l', d4', out', i', v0, v1, v2, v3, v4, IntKind.i64.wrap (m + 1), ts4, e5, nm', al', ty', hd2, f0', f1', f2', f3', f4')) _ := fun e5 hm hg5 => ih1 (a', sp', dp', d0', d1', d2', l', d4', out', i', v0, v1, v2, v3, v4, IntKind.i64.wrap (m + 1), ts4, e5, nm', al', ty', hd2, f0', f1', f2', f3', f4')
   (by
    simp only [em hm]
    exact ⟨trivial, trivial, trivial, trivial, trivial, trivial, trivial, trivial, trivial, trivial, hv, by omega, by omega, hg5⟩) (by simp only [em hm]; omega)
  obtain ⟨q1, q2, q3, q4, q5, q6⟩ := hv.kids
  have behind : ∀ (e5 w0 w1 : Int) (w2 : List UInt8) (w3 : List aA) (w4 : List (List UInt8)), aV (.mk w0 w1 w2 w3 w4) → bp ts2 e2 ts4 e5 → Tot (aF (bM ts4 e5 w0 w1 w2 w3 w4 sp' (dp' + 1)) (fun r12 =>
      aF (b7 v0 v1 v2 v3 v4 ([100, 101, 102, 97, 117, 108, 116] : List UInt8)) (fun r13 =>
       aF (b8 r12.2.1 r12.2.2 v0 v1 v2 v3 v4 ([97, 108, 105, 97, 115, 101, 115] : List UInt8)) (fun r14 =>
        (fun z => aW 2000 (cl 2000 again) z) (a', sp', dp', d0', d1', d2', l', d4', out', i', 0, r14.2.2.1, r14.2.2.2, nm', r14.1, r12.1, r13.2.2.2.2.2, r13.1, r13.2.1, r13.2.2.1, r13.2.2.2.1, r13.2.2.2.2.1))))) (fun z => ∃ (y0 : List ak) (y1 : Int) (rest : List aI), z.1.dimR = .tup [] ∧ z.2 = some [.ul .atype y0, .int .i64 y1] :: rest ∧ cE ts e c0 c1 c2 c3 c4 a' sp' dp' (y0, y1)) := by
   intro e5 w0 w1 w2 w3 w4 hw hg5
   refine aE (hT _ _ _ _ _ _ _ _ j3.cap hw (by omega)) ?_
   rintro ⟨k, ts5, e6⟩ ⟨-, x1, x2⟩
   dsimp only at x1 x2 ⊢
   refine aE (lr _ _ _ _ _ _ (by omega)) ?_
   rintro r ⟨-, hr⟩
   have hg := pA (k := v0) (names := v4) (name := [100, 101, 102, 97, 117, 108, 116]) q6
   simp only [bQ] at hr
   rw [← hr] at hg
   refine aE (acB _ _ _ _ _ _ _ _ hv) ?_
   rintro ⟨al, is, ts6, e7⟩ ⟨-, t1, t2, rfl, t3⟩
   dsimp only at t1 t2 t3 ⊢
   have hgg := hg5.trans x1
   have g7 : bp ts2 e2 ts6 e7 := by
    by_cases h7 : e7 = 0
    ·have h6 := t3 h7
     rw [h6] at hgg
     rw [h7]; exact hgg
    ·exact bp.stuck hgg.len hgg.cap h7
   exact inner2 ts6 e7 _ _ _ _ _ _ _ _ _ hil (i3.trans g7) t2 t1 (fun h0 => ⟨(i4 (g7.err h0)).mono g7.len, x2 (t3 h0)⟩) hg
  unfold cY fW
  dsimp only
  repeat' (first | (with_reducible refine aD ?_ ?_ <;> (intro hb; (try simp only [bnl] at hb); (try revert hb; intro _))) | with_reducible refine aN ?_ ?_ | with_reducible refine aG ?_ | (refine aE (bN _ _ _) ?_; rintro _ ⟨-, rfl⟩; try dsimp only) | fail)
  all_goals first | (first | (simp only [bnl, lnl]; done) | (simp only [bnl, lnl]; omega)) | exact next _ (by omega) j3 | exact next _ (by omega) (bp.stuck j3.len j3.cap (nz (by decide))) | skip
  refine aE (lr _ _ _ _ _ _ (by omega)) ?_
  rintro r ⟨-, hr⟩
  have hg := pA (k := v0) (names := v4) (name := [116, 121, 112, 101]) q6
  simp only [bQ] at hr
  rw [← hr] at hg
  repeat' (first | (with_reducible refine aD ?_ ?_ <;> (intro hb; (try simp only [bnl] at hb); (try revert hb; intro _))) | with_reducible refine aN ?_ ?_ | with_reducible refine aG ?_ | (refine aE (bN _ _ _) ?_; rintro _ ⟨-, rfl⟩; try dsimp only) | fail)
  all_goals simp only [ed]
  ·exact behind _ _ _ _ _ _ hg (bp.stuck j3.len j3.cap (nz (by decide)))
  ·exact behind _ _ _ _ _ _ hg j3
 repeat' (first | (with_reducible refine aD ?_ ?_ <;> (intro hb; (try simp only [bnl] at hb); (try revert hb; intro _))) | with_reducible refine aN ?_ ?_ | with_reducible refine aG ?_ | (refine aE (bN _ _ _) ?_; rintro _ ⟨-, rfl⟩; try dsimp only) | (refine aE (adV _ _ _ _ _ _ _ _ _ hkid) ?_; rintro ⟨w, ts3, e3⟩ ⟨-, w1, rfl, w2⟩; dsimp only at w1 w2 ⊢) | fail)
 all_goals first | (first | (simp only [bnl, lnl]; done) | (simp only [bnl, lnl]; omega)) | skip
 ·exact ⟨_, _, _, rfl, rfl, _, bp.stuck i3.len i3.cap (nz (by decide)), .inl rfl⟩
 ·rename_i he3
  have g0 : bp ts3 e2 ts3 e3 := by
   have := w2 he3
   subst this; rw [he3]; exact bp.refl i3.cap
  repeat' (first | (with_reducible refine aD ?_ ?_ <;> (intro hb; (try simp only [bnl] at hb); (try revert hb; intro _))) | with_reducible refine aN ?_ ?_ | with_reducible refine aG ?_ | (refine aE (zG _ (by omega)) ?_; intro _ _) | (refine aE (bN _ _ _) ?_; rintro _ ⟨-, rfl⟩; try dsimp only) | fail)
  ·exact inner1 _ _ _ (by omega) (bp.stuck (Nat.le_refl _) i3.cap (nz (by decide)))
  ·exact inner1 _ _ _ (by omega) g0
 ·rename_i he3
  exact inner1 _ _ _ (by omega) (bp.stuck (Nat.le_refl _) i3.cap he3)
 all_goals first | (exfalso; omega) | skip
 all_goals first | (have := hat2 (by assumption); first | (simp only [bnl, lnl]; done) | (simp only [bnl, lnl]; omega)) | skip
 ·rename_i he
  exact ⟨_, _, _, rfl, rfl, _, i3, .inl rfl⟩
 ·rename_i he
  have hr := hat2 he
  have hl : a.toNat < ts2.length := by omega
  refine ⟨_, _, _, rfl, rfl, ts2, i3, .inr ⟨out, (i4 he).1, (i4 he).2, _, List.getElem?_eq_getElem hl, ?_⟩⟩
  rw [lR (List.getElem?_eq_getElem hl)]
 ·exact ⟨_, _, _, rfl, rfl, _, i3, .inl rfl⟩
end Go.Proofs.Ytdpajabhmmmjoaa
end
