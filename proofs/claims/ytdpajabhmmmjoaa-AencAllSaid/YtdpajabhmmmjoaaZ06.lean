import Derived.KernelRfl
import Derived.Test.YtdpajabhmmmjoaaZ02
import Derived.Test.YtdpajabhmmmjoaaZ03
import Derived.Test.YtdpajabhmmmjoaaZ05
noncomputable section
namespace Go.Proofs.Ytdpajabhmmmjoaa
open Go.AM
set_option autoImplicit false
set_option linter.unusedVariables false
set_option maxRecDepth 100000
noncomputable def bX : aN := tab (P := Try.prog) [] [aaX, l8, ya, ug, ajd] [] [zi, ai9]
def lJ : IR := Cn 62 (Sq (.reg [Mv 72 2, Nk 73 72, Fo [1] [] (.ld 74 1 false false 73), Mv 75 0, Mv 76 2, Nk 77 76, Fo [1] [] (.ld 78 1 false false 77), Ll 79 78, Fo [] [0] (.call 80 60 [75, 79]), Ix 81 .str 74 80, Lq 82 81, Ca 83 86 [82], Fo [] [2] (.st none 5 6 83)] [[], [0], [0, 1], [], [], [4], [4, 5], [4, 5, 6], rg 3 7, rg 0 8, rg 0 9, rg 0 10, rg 0 11]) .ret) .skip
def wB : IR := Rs [Mv 84 2, Nk 85 84, Lo 86 85, Ll 87 86, Bc 88 .rem 87 26, Pp (.bin 89 .add (kI 97) 88), Pp (.cvi 90 .u8 89), Pp (.bsl 91 .u8 [90] true), Pp (.b2s 92 91), Pp (.bin 93 .add (kS [78]) 92), Mv 9 93] (Rs [Mv 94 2, Mv 95 2, Nk 96 95, Pp (.ld 97 1 false true 96), Mv 98 9, Pp (.bsl 99 .str [98] true), Pp (.app 100 .str (.tk 97) 99), Nk 101 94, Sk 1 101 100] (Sq (.block 1 (Rs [Mv 103 7, Bc 104 .eql 103 15, Mv 102 104] (Cn 102 (Rs [Pp (.bsl 105 .str [kS [116, 121, 112, 101], kS [110, 97, 109, 101], kS [115, 105, 122, 101]] true), Ca 106 86 [kS [102, 105, 120, 101, 100]], Mv 107 9, Ca 108 86 [107], Mv 109 0, Ca 110 60 [109, kI 4], Pp (.bld 111 [vI 0, vI 0, vS, fu .jnode true, fu .str true] [(0, 1, kI 3), (1, 1, 110)]), Pp (.bsl 112 .jnode [106, 108, 111] true), Ca 113 118 [105, 112], Sv 5 6 113] .ret) (Rs [Mv 115 7, Bc 116 .eql 115 16, Mv 114 116] (Cn 114 (Rs [Ca 117 86 [kS [88]], Ca 118 86 [kS [89]], Ca 119 86 [kS [90]], Pp (.bsl 120 .jnode [117, 118, 119] true), Mv 121 0, Ca 122 60 [121, kI 3], Pp (.bin 123 .add (kI 1) 122), Pp (.subl 124 .jnode 120 none (some 123)), Mv 10 124] (Rs [Pp (.bsl 125 .str [kS [116, 121, 112, 101], kS [110, 97, 109, 101], kS [115, 121, 109, 98, 111, 108, 115]] true), Ca 126 86 [kS [101, 110, 117, 109]], Mv 127 9, Ca 128 86 [127], Mv 129 10, Pp (.bld 130 [vI 0, vI 0, vS, fu .jnode true, fu .str true] [(0, 1, kI 5), (3, 1, 129)]), Pp (.bsl 131 .jnode [126, 128, 130] true), Ca 132 118 [125, 131], Pp (.new 11 [vI 0, vI 0, vS, nl .jnode, nl .str]), Sv 5 11 132] (Sq (Rs [Mv 133 0, Ca 134 60 [133, kI 2], Bc 135 .eql 134 0] (Cn 135 (.reg [Fa 136 4 11, Fo [3] [] (.ld 137 1 false false 136), Pp (.bsl 138 .str [kS [100, 101, 102, 97, 117, 108, 116]] true), Pp (.app 139 .str (.tk 137) 138), Fa 140 3 11, Fo [3] [] (.ld 141 1 false false 140), Ca 142 86 [kS [88]], Pp (.bsl 143 .jnode [142] true), Pp (.app 144 .jnode (.tk 141) 143), Fa 145 4 11, Fo [] [3] (.st none 1 145 (.tk 139)), Fa 146 3 11, Fo [] [3] (.st none 1 146 (.tk 144))] [[], [0], [], [0, 1, 2], [], [4], rg 0 3, [0, 1, 2, 3, 6], rg 0 7, rg 0 5, rg 0 9, rg 0 10, rg 0 11]) .skip)) (Rs [Pp (.ld 147 5 true false 11), Sv 5 6 147] .ret)))) .skip))))) (Rs [Mv 148 0, Mv 149 9, Mv 150 1, Mv 151 2, Ca 152 73 [148, 149, 150, 151], Sv 5 6 152] .ret)))
def pp : IR := .cut [0, 1, 2, 6, 7, 1000001] 3 wB
def kA : IR := Rs [Pp (.bsl 22 .str [kS [105, 110, 116], kS [108, 111, 110, 103], kS [115, 116, 114, 105, 110, 103], kS [98, 121, 116, 101, 115], kS [98, 111, 111, 108, 101, 97, 110], kS [110, 117, 108, 108], kS [102, 108, 111, 97, 116], kS [100, 111, 117, 98, 108, 101]] true), Mv 8 22] (Sq (.block 0 (Rs [Mv 24 7, Bc 25 .lss 24 8, Mv 23 25] (Cn 23 (Rs [Mv 26 8, Mv 27 7, Ix 28 .str 26 27, Lq 29 28, Ca 30 86 [29], Sv 5 6 30] .ret) (Rs [Mv 32 7, Bc 33 .lss 32 10, Mv 31 33] (Cn 31 (Rs [Pp (.bsl 34 .str [kS [116, 121, 112, 101], kS [105, 116, 101, 109, 115]] true), Ca 35 86 [kS [97, 114, 114, 97, 121]], Mv 36 0, Mv 37 1, Bc 38 .add 37 1, Mv 39 2, Ca 40 117 [36, 38, 39], Pp (.bsl 41 .jnode [35, 40] true), Ca 42 118 [34, 41], Sv 5 6 42] .ret) (Rs [Mv 44 7, Bc 45 .eql 44 10, Mv 43 45] (Cn 43 (Rs [Pp (.bsl 46 .str [kS [116, 121, 112, 101], kS [118, 97, 108, 117, 101, 115]] true), Ca 47 86 [kS [109, 97, 112]], Mv 48 0, Mv 49 1, Bc 50 .add 49 1, Mv 51 2, Ca 52 117 [48, 50, 51], Pp (.bsl 53 .jnode [47, 52] true), Ca 54 118 [46, 53], Sv 5 6 54] .ret) (Rs [Mv 56 7, Bc 57 .lss 56 14, Mv 55 57] (Cn 55 (Rs [Mv 58 0, Mv 59 1, Mv 60 2, Ca 61 146 [58, 59, 60], Sv 5 6 61] .ret) (Rs [Mv 63 7, Bc 64 .eql 63 14, Mv 65 64, Gt 65 (.mov 66 2), Gt 65 (.nck 67 66), Gt 65 (.ld 68 1 false false 67), Gt 65 (.lenl 69 68), Gt 65 (.bin 70 .gtr 69 (kI 0)), Pa 71 65 70, Mv 62 71] (.cut [0, 1, 2, 6, 7, 62, 1000000] 3 lJ))))))))))) pp)
def s9 : IR := Rs [Pp (.new 6 [vI 0, vI 0, vS, nl .jnode, nl .str])] (Rs [Mv 12 0, Ca 13 60 [12, kI 20], Mv 7 13] (Sq (Rs [Mv 14 1, Bc 15 .gtr 14 3, Mv 16 15, Gf 16 (.mov 17 0), Gf 16 (.call 18 59 [17]), Po 19 16 18] (Cn 19 (Rg [Mv 20 7, Bc 21 .rem 20 8, Mv 7 21]) .skip)) (.cut [0, 1, 2, 6, 7, 1000002] 3 kA)))
def dd : List RV := [.cell 6 5 true]
theorem ajF : FnC Try.prog bX [59, 60, 73, 117, 146, 2000059, 2000060, 2000073, 2000117, 2000146] 2 aaV Try.f117 s9 dd := fnC (by kernel_rfl) Try.func117 (by kernel_rfl) (by kernel_rfl) (by decide)
abbrev iZ : Type := (Int × Int × Bs × Int × Bss × Int × Int × Bs × List aE × Bss)
def gV : iZ → St := fun (a, b, c, d, e, f, g, h, i, j) => { env := (.ptr 0 0 :: .int .i64 a :: .ptr 1 0 :: (U 3 (.ptr 2 0 :: .int .i64 b :: (U 145 [])))), hp := [some [.sl .u8 (.may false) c, .int .i64 d], some [.sl .str .own e], some [.int .i64 f, .int .i64 g, .str h, .sl .jnode .own i, .sl .str .own j]] }
abbrev ja : Type := (Int × Int × Bool × Bs × Int × Bss × Int × Int × Bs × List aE × Bss)
def eQ : ja → St := fun (b, c, d, e, f, g, h, i, j, k, a) => { env := (.ptr 0 0 :: .int .i64 b :: .ptr 1 0 :: (U 3 (.ptr 2 0 :: .int .i64 c :: (U 54 (.bool d :: (U 90 [])))))), hp := [some [.sl .u8 (.may false) e, .int .i64 f], some [.sl .str .own g], some [.int .i64 h, .int .i64 i, .str j, .sl .jnode .own k, .sl .str .own a]] }
def rF (R : IR → (Ex → St → Ro) → St → Ro) : Ex → St → Ro := (aR 0 (bp (R pp) (fin dd)))
abbrev mF : Type := (Int × Int × Bs × Int × Bss × Int × Int × Bs × List aE × Bss)
def lK : mF → St := fun (a, b, c, d, e, f, g, h, i, j) => { env := (.ptr 0 0 :: .int .i64 a :: .ptr 1 0 :: (U 3 (.ptr 2 0 :: .int .i64 b :: (U 145 [])))), hp := [some [.sl .u8 (.may false) c, .int .i64 d], some [.sl .str .own e], some [.int .i64 f, .int .i64 g, .str h, .sl .jnode .own i, .sl .str .own j]] }
def rG (N : Nat) : St → Ro := fun s => run bX N wB (fin dd) s
def jb (N : Nat) : mF → Ro := fun (z, x, h, i, j, _, _, _, _, _) =>
 let x7 : Int := (↑(List.length j) : Int)
 let y : Int := (IntKind.wrap .i64 (97 + (Int.tmod x7 26)))
 chk (decide (List.length ([78] : Bs) + List.length ([(UInt8.ofNat (Int.toNat (IntKind.wrap .u8 y)))] : Bs) ≤ 9223372036854775807)) (
 let v : Bs := (([78] : Bs) ++ ([(UInt8.ofNat (Int.toNat (IntKind.wrap .u8 y)))] : Bs))
 chk (decide ((List.length j + List.length ([v] : Bss)) * 16 ≤ 140737488355328)) (
 let p : Bss := (j ++ ([v] : Bss))
 cond (x == 15) (
 aH (bD ([102, 105, 120, 101, 100] : Bs)) (fun k =>
 aH (bD v) (fun l =>
 aH (aS h i 4) (fun q =>
 aH (eK true ([([116, 121, 112, 101] : Bs), ([110, 97, 109, 101] : Bs), ([115, 105, 122, 101] : Bs)] : Bss) true ([⟨k.1, k.2.1, k.2.2.1, k.2.2.2.1, k.2.2.2.2⟩, ⟨l.1, l.2.1, l.2.2.1, l.2.2.2.1, l.2.2.2.2⟩, ⟨3, q.1, ([] : Bs), ([] : List aE), ([] : Bss)⟩] : List aE)) (fun c =>
 some (.agg [.int .i64 c.1, .int .i64 c.2.1, .str c.2.2.1, .sl .jnode (.may c.2.2.2.1) c.2.2.2.2.1, .sl .str (.may c.2.2.2.2.2.1) c.2.2.2.2.2.2], [some [.sl .u8 (.may false) q.2.1, .int .i64 q.2.2], some [.sl .str .own p], some [.int .i64 c.1, .int .i64 c.2.1, .str c.2.2.1, .sl .jnode (.may c.2.2.2.1) c.2.2.2.2.1, .sl .str (.may c.2.2.2.2.2.1) c.2.2.2.2.2.2]])))))) (
 cond (x == 16) (
 aH (bD ([88] : Bs)) (fun e =>
 aH (bD ([89] : Bs)) (fun f =>
 aH (bD ([90] : Bs)) (fun g =>
 aH (aS h i 3) (fun r =>
 let s : Int := (IntKind.wrap .i64 (1 + r.1))
 chk (decide (0 ≤ s) && decide (s ≤ (↑(List.length ([⟨e.1, e.2.1, e.2.2.1, e.2.2.2.1, e.2.2.2.2⟩, ⟨f.1, f.2.1, f.2.2.1, f.2.2.2.1, f.2.2.2.2⟩, ⟨g.1, g.2.1, g.2.2.1, g.2.2.2.1, g.2.2.2.2⟩] : List aE)) : Int))) (
 let w : List aE := (List.drop 0 (List.take (Int.toNat s) ([⟨e.1, e.2.1, e.2.2.1, e.2.2.2.1, e.2.2.2.2⟩, ⟨f.1, f.2.1, f.2.2.1, f.2.2.2.1, f.2.2.2.2⟩, ⟨g.1, g.2.1, g.2.2.1, g.2.2.2.1, g.2.2.2.2⟩] : List aE)))
 aH (bD ([101, 110, 117, 109] : Bs)) (fun m =>
 aH (bD v) (fun n =>
 aH (eK true ([([116, 121, 112, 101] : Bs), ([110, 97, 109, 101] : Bs), ([115, 121, 109, 98, 111, 108, 115] : Bs)] : Bss) true ([⟨m.1, m.2.1, m.2.2.1, m.2.2.2.1, m.2.2.2.2⟩, ⟨n.1, n.2.1, n.2.2.1, n.2.2.2.1, n.2.2.2.2⟩, ⟨5, 0, ([] : Bs), w, ([] : Bss)⟩] : List aE)) (fun a =>
 aH (aS r.2.1 r.2.2 2) (fun o =>
 cond (o.1 == 0) (
 chk ((a.2.2.2.2.2.1 && decide (0 < List.length ([([100, 101, 102, 97, 117, 108, 116] : Bs)] : Bss))) && decide ((List.length a.2.2.2.2.2.2 + List.length ([([100, 101, 102, 97, 117, 108, 116] : Bs)] : Bss)) * 16 ≤ 140737488355328)) (
 let t : Bss := (a.2.2.2.2.2.2 ++ ([([100, 101, 102, 97, 117, 108, 116] : Bs)] : Bss))
 aH (bD ([88] : Bs)) (fun b =>
 chk ((a.2.2.2.1 && decide (0 < List.length ([⟨b.1, b.2.1, b.2.2.1, b.2.2.2.1, b.2.2.2.2⟩] : List aE))) && decide ((List.length a.2.2.2.2.1 + List.length ([⟨b.1, b.2.1, b.2.2.1, b.2.2.2.1, b.2.2.2.2⟩] : List aE)) * 80 ≤ 140737488355328)) (
 let u : List aE := (a.2.2.2.2.1 ++ ([⟨b.1, b.2.1, b.2.2.1, b.2.2.2.1, b.2.2.2.2⟩] : List aE))
 some (.agg [.int .i64 a.1, .int .i64 a.2.1, .str a.2.2.1, .sl .jnode (.may false) u, .sl .str (.may false) t], [some [.sl .u8 (.may false) o.2.1, .int .i64 o.2.2], some [.sl .str .own p], some [.int .i64 a.1, .int .i64 a.2.1, .str a.2.2.1, .sl .jnode (.may false) u, .sl .str (.may false) t], some [.int .i64 a.1, .int .i64 a.2.1, .str a.2.2.1, .sl .jnode .own u, .sl .str .own t]]))))) (
 some (.agg [.int .i64 a.1, .int .i64 a.2.1, .str a.2.2.1, .sl .jnode (.may a.2.2.2.1) a.2.2.2.2.1, .sl .str (.may a.2.2.2.2.2.1) a.2.2.2.2.2.2], [some [.sl .u8 (.may false) o.2.1, .int .i64 o.2.2], some [.sl .str .own p], some [.int .i64 a.1, .int .i64 a.2.1, .str a.2.2.1, .sl .jnode (.may a.2.2.2.1) a.2.2.2.2.1, .sl .str (.may a.2.2.2.2.2.1) a.2.2.2.2.2.2], some [.int .i64 a.1, .int .i64 a.2.1, .str a.2.2.1, .sl .jnode (.may a.2.2.2.1) a.2.2.2.2.1, .sl .str (.may a.2.2.2.2.2.1) a.2.2.2.2.2.2]])))))))))))) (
 aH (fl h i p v z) (fun d =>
 some (.agg [.int .i64 d.1, .int .i64 d.2.1, .str d.2.2.1, .sl .jnode (.may false) d.2.2.2.1, .sl .str (.may false) d.2.2.2.2.1], [some [.sl .u8 (.may false) d.2.2.2.2.2.1, .int .i64 d.2.2.2.2.2.2.1], some [.sl .str .own d.2.2.2.2.2.2.2], some [.int .i64 d.1, .int .i64 d.2.1, .str d.2.2.1, .sl .jnode (.may false) d.2.2.2.1, .sl .str (.may false) d.2.2.2.2.1]]))))))
theorem agz (N : Nat) : ∀ (x : mF), rG N (lK x) = jb N x := by
 intro x
 kernel_rfl
def mG (N : Nat) : St → Ro := fun s => run bX N lJ (rF (run bX N)) s
def lL (N : Nat) (l : mF → Ro) : ja → Ro := fun (m, n, k, d, e, b, f, g, h, i, j) =>
 cond k (
 let o : Int := (↑(List.length b) : Int)
 aH (aS d e o) (fun c =>
 chk (decide (0 ≤ c.1) && decide (c.1 < ↑(List.length b))) (
 let p : Bs := List.getD b (Int.toNat c.1) (aC .str)
 aH (bD p) (fun a =>
 some (.agg [.int .i64 a.1, .int .i64 a.2.1, .str a.2.2.1, .sl .jnode (.may false) a.2.2.2.1, .sl .str (.may false) a.2.2.2.2], [some [.sl .u8 (.may false) c.2.1, .int .i64 c.2.2], some [.sl .str .own b], some [.int .i64 a.1, .int .i64 a.2.1, .str a.2.2.1, .sl .jnode (.may false) a.2.2.2.1, .sl .str (.may false) a.2.2.2.2]]))))) (
 l (m, n, d, e, b, f, g, h, i, j))
def jc (N : Nat) (x : ja) : Ro := lL N (fun z => jb N z) x
def rH (N : Nat) : List (Nat × (St → Ro)) := (ba bX N lJ (rF (run bX N)) ++ (ba bX N pp (fin dd) ++ []))
theorem agA (N : Nat) : ∀ (x : ja), mG N (eQ x) = jc N x := by
 intro x
 have hX : ∀ C : Nat → St → Ro, bQ C bX N lJ (rF (bQ C bX N)) (eQ x) = lL N (fun z => C 1000001 (lK z)) x := by
  intro C
  kernel_rfl
 have h : mG N (eQ x) = lL N (fun z => rG N (lK z)) x := (ch (C := dA (rH N)) (bO (aX (l := (rH N)) (by kernel_rfl))) (cp (eq (bO (da (aX (l := (rH N)) (by kernel_rfl)))) rfl)) _).trans ((hX _).trans (by kernel_rfl))
 have e2 : (fun z => rG N (lK z)) = (fun z => jb N z) := funext fun z => agz N z
 rw [h, e2]
 rfl
def rI (N : Nat) : St → Ro := fun s => run bX N kA (fin dd) s
def lM (N : Nat) (s : ja → Ro) : iZ → Ro := fun (p, g, b, c, a, i, j, k, l, m) =>
 cond (decide (g < 8)) (
 chk (decide (0 ≤ g) && decide (g < ↑(List.length ([([105, 110, 116] : Bs), ([108, 111, 110, 103] : Bs), ([115, 116, 114, 105, 110, 103] : Bs), ([98, 121, 116, 101, 115] : Bs), ([98, 111, 111, 108, 101, 97, 110] : Bs), ([110, 117, 108, 108] : Bs), ([102, 108, 111, 97, 116] : Bs), ([100, 111, 117, 98, 108, 101] : Bs)] : Bss)))) (
 let t : Bs := List.getD ([([105, 110, 116] : Bs), ([108, 111, 110, 103] : Bs), ([115, 116, 114, 105, 110, 103] : Bs), ([98, 121, 116, 101, 115] : Bs), ([98, 111, 111, 108, 101, 97, 110] : Bs), ([110, 117, 108, 108] : Bs), ([102, 108, 111, 97, 116] : Bs), ([100, 111, 117, 98, 108, 101] : Bs)] : Bss) (Int.toNat g) (aC .str)
 aH (bD t) (fun h =>
 some (.agg [.int .i64 h.1, .int .i64 h.2.1, .str h.2.2.1, .sl .jnode (.may false) h.2.2.2.1, .sl .str (.may false) h.2.2.2.2], [some [.sl .u8 (.may false) b, .int .i64 c], some [.sl .str .own a], some [.int .i64 h.1, .int .i64 h.2.1, .str h.2.2.1, .sl .jnode (.may false) h.2.2.2.1, .sl .str (.may false) h.2.2.2.2]])))) (
 cond (decide (g < 10)) (
 aH (bD ([97, 114, 114, 97, 121] : Bs)) (fun q =>
 let u : Int := (IntKind.wrap .i64 (p + 1))
 aH (cX b c a u) (fun n =>
 aH (eK true ([([116, 121, 112, 101] : Bs), ([105, 116, 101, 109, 115] : Bs)] : Bss) true ([⟨q.1, q.2.1, q.2.2.1, q.2.2.2.1, q.2.2.2.2⟩, ⟨n.1, n.2.1, n.2.2.1, n.2.2.2.1, n.2.2.2.2.1⟩] : List aE)) (fun d =>
 some (.agg [.int .i64 d.1, .int .i64 d.2.1, .str d.2.2.1, .sl .jnode (.may d.2.2.2.1) d.2.2.2.2.1, .sl .str (.may d.2.2.2.2.2.1) d.2.2.2.2.2.2], [some [.sl .u8 (.may false) n.2.2.2.2.2.1, .int .i64 n.2.2.2.2.2.2.1], some [.sl .str .own n.2.2.2.2.2.2.2], some [.int .i64 d.1, .int .i64 d.2.1, .str d.2.2.1, .sl .jnode (.may d.2.2.2.1) d.2.2.2.2.1, .sl .str (.may d.2.2.2.2.2.1) d.2.2.2.2.2.2]]))))) (
 cond (g == 10) (
 aH (bD ([109, 97, 112] : Bs)) (fun r =>
 let v : Int := (IntKind.wrap .i64 (p + 1))
 aH (cX b c a v) (fun o =>
 aH (eK true ([([116, 121, 112, 101] : Bs), ([118, 97, 108, 117, 101, 115] : Bs)] : Bss) true ([⟨r.1, r.2.1, r.2.2.1, r.2.2.2.1, r.2.2.2.2⟩, ⟨o.1, o.2.1, o.2.2.1, o.2.2.2.1, o.2.2.2.2.1⟩] : List aE)) (fun e =>
 some (.agg [.int .i64 e.1, .int .i64 e.2.1, .str e.2.2.1, .sl .jnode (.may e.2.2.2.1) e.2.2.2.2.1, .sl .str (.may e.2.2.2.2.2.1) e.2.2.2.2.2.2], [some [.sl .u8 (.may false) o.2.2.2.2.2.1, .int .i64 o.2.2.2.2.2.2.1], some [.sl .str .own o.2.2.2.2.2.2.2], some [.int .i64 e.1, .int .i64 e.2.1, .str e.2.2.1, .sl .jnode (.may e.2.2.2.1) e.2.2.2.2.1, .sl .str (.may e.2.2.2.2.2.1) e.2.2.2.2.2.2]]))))) (
 cond (decide (g < 14)) (
 aH (j6 b c a p) (fun f =>
 some (.agg [.int .i64 f.1, .int .i64 f.2.1, .str f.2.2.1, .sl .jnode (.may false) f.2.2.2.1, .sl .str (.may false) f.2.2.2.2.1], [some [.sl .u8 (.may false) f.2.2.2.2.2.1, .int .i64 f.2.2.2.2.2.2.1], some [.sl .str .own f.2.2.2.2.2.2.2], some [.int .i64 f.1, .int .i64 f.2.1, .str f.2.2.1, .sl .jnode (.may false) f.2.2.2.1, .sl .str (.may false) f.2.2.2.2.1]]))) (
 cond (g == 14) (
 let w : Int := (↑(List.length a) : Int)
 s (p, g, decide (0 < w), b, c, a, i, j, k, l, m)) (
 s (p, g, false, b, c, a, i, j, k, l, m))))))
def mH (N : Nat) (x : iZ) : Ro := lM N (fun z => jc N z) x
def yi (N : Nat) : List (Nat × (St → Ro)) := (ba bX N kA (fin dd) ++ [])
theorem agB (N : Nat) : ∀ (x : iZ), rI N (gV x) = mH N x := by
 intro x
 have hX : ∀ C : Nat → St → Ro, bQ C bX N kA (fin dd) (gV x) = lM N (fun z => C 1000000 (eQ z)) x := by
  intro C
  kernel_rfl
 have h : rI N (gV x) = lM N (fun z => mG N (eQ z)) x := (ch (C := dA (yi N)) (bO (aX (l := (yi N)) (by kernel_rfl))) rfl _).trans ((hX _).trans (by kernel_rfl))
 have e1 : (fun z => mG N (eQ z)) = (fun z => jc N z) := funext fun z => agA N z
 rw [h, e1]
 rfl
def j9 (N : Nat) (d : Bs) (e : Int) (a : Bss) (f : Int) (g : iZ → Ro) : Ro :=
 aH (aS d e 20) (fun c =>
 cond (decide (3 < f)) (
 g (f, (Int.tmod c.1 8), c.2.1, c.2.2, a, 0, 0, ([] : Bs), ([] : List aE), ([] : Bss))) (
 aH (ii c.2.1 c.2.2) (fun b =>
 cond b.1 (
 g (f, (Int.tmod c.1 8), b.2.1, b.2.2, a, 0, 0, ([] : Bs), ([] : List aE), ([] : Bss))) (
 g (f, c.1, b.2.1, b.2.2, a, 0, 0, ([] : Bs), ([] : List aE), ([] : Bss))))))
def ta (N : Nat) (a : Bs) (b : Int) (c : Bss) (d : Int) : Ro := j9 N a b c d (fun z => mH N z)
def aky (N : Nat) : List (Nat × (St → Ro)) := ba bX N s9 (fin dd) ++ []
theorem ah8 (N : Nat) (a : Bs) (c : Int) (d : Bss) (e : Int) : aW bX N 153 dd s9 [.ptr 0 0, .int .i64 e, .ptr 1 0] [some [.sl .u8 (.may false) a, .int .i64 c], some [.sl .str .own d]] = ta N a c d e :=
 (bL (aky N) (by kernel_rfl) rfl (fun C => j9 N a c d e (fun z => C 1000002 (gV z))) (fun C => by kernel_rfl)).trans (Eq.trans (b := j9 N a c d e (fun z => rI N (gV z))) (by kernel_rfl) (congrArg (j9 N a c d e) (funext fun z => agB N z)))
theorem ah9 (N : Nat) (a : Bs) (b : Int) (c : Bss) (g : Int) (h : Tot (ta N a b c g) (fun z => ∃ (i : Int) (j : Int) (k : Bs) (l : List aE) (m : Bss) (d : Bs) (e : Int) (f : Bss) (rest : List aK), z.1.dimR = .agg [.int .i64 i, .int .i64 j, .str k, .sl .jnode (.may false) l, .sl .str (.may false) m] ∧ z.2 = some [.sl .u8 (.may false) d, .int .i64 e] :: some [.sl .str .own f] :: rest ∧ eP a b c g (i, j, k, l, m, d, e, f))) : ∃ r, cX a b c g r := by
 obtain ⟨⟨v, hp⟩, hz, i, j, k, l, m, d, e, f, rest, e1, e2, hq⟩ := h
 simp only at e1 e2
 subst e2
 exact ⟨(i, j, k, l, m, d, e, f), bk.dimR (FnC.objs (css := [[.sl .u8 (.may false) a, .int .i64 b], [.sl .str .own c]]) (css' := [[.sl .u8 (.may false) d, .int .i64 e], [.sl .str .own f]]) ajF (ah8 N a b c g) hz rfl) e1, hq⟩
noncomputable def zI : aN := tab (P := Try.prog) [] [l8, ug] [] [zi]
def yj : IR := Rs [Pp (.new 6 [vI 0, vI 0, vS, nl .jnode, nl .str])] (Rs [Ca 9 86 [kS [110, 117, 108, 108]], Pp (.bsl 10 .jnode [9] true), Pp (.bld 11 [vI 0, vI 0, vS, nl .jnode, nl .str] [(0, 1, kI 5), (3, 1, 10)]), Pp (.new 7 [vI 0, vI 0, vS, nl .jnode, nl .str]), Sv 5 7 11] (Sq (Rs [Mv 12 0, Ca 13 60 [12, kI 2], Bc 14 .eql 13 0] (Cn 14 (.reg [Fa 15 3 7, Fo [3] [] (.ld 16 1 false false 15), Pp (.bsl 17 .str [kS [105, 110, 116], kS [115, 116, 114, 105, 110, 103]] true), Mv 18 0, Fo [] [0] (.call 19 60 [18, kI 2]), Ix 20 .str 17 19, Lq 21 20, Ca 22 86 [21], Pp (.bsl 23 .jnode [22] true), Pp (.app 24 .jnode (.tk 16) 23), Fa 25 3 7, Fo [] [3] (.st none 1 25 (.tk 24))] [[], [0], [], [], [3], [2, 3, 4], rg 2 5, rg 2 6, rg 2 7, rg 0 8, rg 0 9, rg 0 10]) .skip)) (Rs [Mv 26 0, Mv 27 1, Bc 28 .add 27 1, Mv 29 2, Ca 30 117 [26, 28, 29], Pp (.alr 8 5), Fz 8 5 30] (Sq (Rs [Fa 31 0 8, Lq 32 31, Bc 33 .eql 32 6] (Cn 33 (Rg [Fa 34 3 7, Pp (.ld 35 1 false true 34), Ld 36 5 true 8, Pp (.bsl 37 .jnode [36] true), Pp (.app 38 .jnode (.tk 35) 37), Fa 39 3 7, Sk 1 39 38]) .skip)) (Rs [Pp (.ld 40 5 true false 7), Sv 5 6 40] .ret)))))
def yk : List RV := [.cell 6 5 true]
theorem aia : FnC Try.prog zI [60, 117, 2000060, 2000117] 2 zr Try.f146 yj yk := fnC (by kernel_rfl) Try.func146 (by kernel_rfl) (by kernel_rfl) (by decide)
def yl (N : Nat) (f : Bs) (g : Int) (e : Bss) (m : Int) : Ro :=
 aH (bD ([110, 117, 108, 108] : Bs)) (fun a =>
 aH (aS f g 2) (fun h =>
 cond (h.1 == 0) (
 aH (aS h.2.1 h.2.2 2) (fun i =>
 chk (decide (0 ≤ i.1) && decide (i.1 < ↑(List.length ([([105, 110, 116] : Bs), ([115, 116, 114, 105, 110, 103] : Bs)] : Bss)))) (
 let n : Bs := List.getD ([([105, 110, 116] : Bs), ([115, 116, 114, 105, 110, 103] : Bs)] : Bss) (Int.toNat i.1) (aC .str)
 aH (bD n) (fun d =>
 chk ((true && decide (0 < List.length ([⟨d.1, d.2.1, d.2.2.1, d.2.2.2.1, d.2.2.2.2⟩] : List aE))) && decide ((List.length ([⟨a.1, a.2.1, a.2.2.1, a.2.2.2.1, a.2.2.2.2⟩] : List aE) + List.length ([⟨d.1, d.2.1, d.2.2.1, d.2.2.2.1, d.2.2.2.2⟩] : List aE)) * 80 ≤ 140737488355328)) (
 let j : List aE := (([⟨a.1, a.2.1, a.2.2.1, a.2.2.2.1, a.2.2.2.2⟩] : List aE) ++ ([⟨d.1, d.2.1, d.2.2.1, d.2.2.2.1, d.2.2.2.2⟩] : List aE))
 let o : Int := (IntKind.wrap .i64 (m + 1))
 aH (cX i.2.1 i.2.2 e o) (fun c =>
 cond (c.1 == 6) (
 chk (decide ((List.length j + List.length ([⟨c.1, c.2.1, c.2.2.1, c.2.2.2.1, c.2.2.2.2.1⟩] : List aE)) * 80 ≤ 140737488355328)) (
 let k : List aE := (j ++ ([⟨c.1, c.2.1, c.2.2.1, c.2.2.2.1, c.2.2.2.2.1⟩] : List aE))
 some (.agg [.int .i64 5, .int .i64 0, .str ([] : Bs), .sl .jnode (.may false) k, .sl .str (.may false) ([] : Bss)], [some [.sl .u8 (.may false) c.2.2.2.2.2.1, .int .i64 c.2.2.2.2.2.2.1], some [.sl .str .own c.2.2.2.2.2.2.2], some [.int .i64 5, .int .i64 0, .str ([] : Bs), .sl .jnode (.may false) k, .sl .str (.may false) ([] : Bss)], some [.int .i64 5, .int .i64 0, .str ([] : Bs), .sl .jnode .own k, .sl .str .own ([] : Bss)]]))) (
 some (.agg [.int .i64 5, .int .i64 0, .str ([] : Bs), .sl .jnode (.may false) j, .sl .str (.may false) ([] : Bss)], [some [.sl .u8 (.may false) c.2.2.2.2.2.1, .int .i64 c.2.2.2.2.2.2.1], some [.sl .str .own c.2.2.2.2.2.2.2], some [.int .i64 5, .int .i64 0, .str ([] : Bs), .sl .jnode (.may false) j, .sl .str (.may false) ([] : Bss)], some [.int .i64 5, .int .i64 0, .str ([] : Bs), .sl .jnode .own j, .sl .str .own ([] : Bss)]])))))))) (
 let p : Int := (IntKind.wrap .i64 (m + 1))
 aH (cX h.2.1 h.2.2 e p) (fun b =>
 cond (b.1 == 6) (
 chk ((true && decide (0 < List.length ([⟨b.1, b.2.1, b.2.2.1, b.2.2.2.1, b.2.2.2.2.1⟩] : List aE))) && decide ((List.length ([⟨a.1, a.2.1, a.2.2.1, a.2.2.2.1, a.2.2.2.2⟩] : List aE) + List.length ([⟨b.1, b.2.1, b.2.2.1, b.2.2.2.1, b.2.2.2.2.1⟩] : List aE)) * 80 ≤ 140737488355328)) (
 let l : List aE := (([⟨a.1, a.2.1, a.2.2.1, a.2.2.2.1, a.2.2.2.2⟩] : List aE) ++ ([⟨b.1, b.2.1, b.2.2.1, b.2.2.2.1, b.2.2.2.2.1⟩] : List aE))
 some (.agg [.int .i64 5, .int .i64 0, .str ([] : Bs), .sl .jnode (.may false) l, .sl .str (.may false) ([] : Bss)], [some [.sl .u8 (.may false) b.2.2.2.2.2.1, .int .i64 b.2.2.2.2.2.2.1], some [.sl .str .own b.2.2.2.2.2.2.2], some [.int .i64 5, .int .i64 0, .str ([] : Bs), .sl .jnode (.may false) l, .sl .str (.may false) ([] : Bss)], some [.int .i64 5, .int .i64 0, .str ([] : Bs), .sl .jnode .own l, .sl .str .own ([] : Bss)]]))) (
 some (.agg [.int .i64 5, .int .i64 0, .str ([] : Bs), .sl .jnode (.may true) ([⟨a.1, a.2.1, a.2.2.1, a.2.2.2.1, a.2.2.2.2⟩] : List aE), .sl .str (.may false) ([] : Bss)], [some [.sl .u8 (.may false) b.2.2.2.2.2.1, .int .i64 b.2.2.2.2.2.2.1], some [.sl .str .own b.2.2.2.2.2.2.2], some [.int .i64 5, .int .i64 0, .str ([] : Bs), .sl .jnode (.may true) ([⟨a.1, a.2.1, a.2.2.1, a.2.2.2.1, a.2.2.2.2⟩] : List aE), .sl .str (.may false) ([] : Bss)], some [.int .i64 5, .int .i64 0, .str ([] : Bs), .sl .jnode (.may true) ([⟨a.1, a.2.1, a.2.2.1, a.2.2.2.1, a.2.2.2.2⟩] : List aE), .sl .str .own ([] : Bss)]]))))))
def rJ (N : Nat) (a : Bs) (b : Int) (c : Bss) (d : Int) : Ro := yl N a b c d
theorem agC (N : Nat) (a : Bs) (b : Int) (c : Bss) (d : Int) : aW zI N 41 yk yj [.ptr 0 0, .int .i64 d, .ptr 1 0] [some [.sl .u8 (.may false) a, .int .i64 b], some [.sl .str .own c]] = rJ N a b c d := by kernel_rfl
theorem agD (N : Nat) (a : Bs) (b : Int) (c : Bss) (g : Int) (h : Tot (rJ N a b c g) (fun z => ∃ (i : Int) (j : Int) (k : Bs) (l : List aE) (m : Bss) (d : Bs) (e : Int) (f : Bss) (rest : List aK), z.1.dimR = .agg [.int .i64 i, .int .i64 j, .str k, .sl .jnode (.may false) l, .sl .str (.may false) m] ∧ z.2 = some [.sl .u8 (.may false) d, .int .i64 e] :: some [.sl .str .own f] :: rest ∧ wo a b c g (i, j, k, l, m, d, e, f))) : ∃ r, j6 a b c g r := by
 obtain ⟨⟨v, hp⟩, hz, i, j, k, l, m, d, e, f, rest, e1, e2, hq⟩ := h
 simp only at e1 e2
 subst e2
 exact ⟨(i, j, k, l, m, d, e, f), bk.dimR (FnC.objs (css := [[.sl .u8 (.may false) a, .int .i64 b], [.sl .str .own c]]) (css' := [[.sl .u8 (.may false) d, .int .i64 e], [.sl .str .own f]]) aia (agC N a b c g) hz rfl) e1, hq⟩
noncomputable def jd : aN := tab (P := Try.prog) [] [l8, ug, af5] [] [zi, ai9]
def uW : IR := Sq (Rs [Mv 17 10, Mv 18 11, Bi 19 .lss 17 18] (Cn 19 .skip (.exit 0))) (Sq (.block 1 (Rs [Mv 22 0, Mv 23 2, Bc 24 .add 23 1, Mv 25 3, Ca 26 117 [22, 24, 25], Pp (.alr 12 5), Fz 12 5 26] (Sq (.reg [Pp (.bsl 27 .str [kS [110, 97, 109, 101], kS [116, 121, 112, 101]] true), Mv 28 10, Pp (.bin 29 .add (kI 97) 28), Pp (.cvi 30 .u8 29), Pp (.bsl 31 .u8 [30] true), Pp (.b2s 32 31), Pp (.bin 33 .add (kS [102]) 32), Ca 34 86 [33], Ld 35 5 true 12, Pp (.bsl 36 .jnode [34, 35] true), Ca 37 118 [27, 36], Pp (.new 13 [vI 0, vI 0, vS, nl .jnode, nl .str]), Fo [] [4] (.st none 5 13 37)] [[], [], [1], [1, 2], [1, 2, 3], rg 1 4, rg 1 5, rg 1 6, [], rg 1 8, rg 0 9, [], rg 0 11]) (Sq (Rs [Mv 38 0, Ca 39 60 [38, kI 3], Bc 40 .eql 39 0] (Cn 40 (.reg [Fa 41 4 13, Fo [4] [] (.ld 42 1 false false 41), Pp (.bsl 43 .str [kS [100, 101, 102, 97, 117, 108, 116]] true), Pp (.app 44 .str (.tk 42) 43), Fa 45 3 13, Fo [4] [] (.ld 46 1 false false 45), Mv 47 0, Ld 48 5 true 12, Fo [] [0] (.call 49 119 [47, 48]), Pp (.bsl 50 .jnode [49] true), Pp (.app 51 .jnode (.tk 46) 50), Fa 52 4 13, Fo [] [4] (.st none 1 52 (.tk 44)), Fa 53 3 13, Fo [] [4] (.st none 1 53 (.tk 51))] [[], [0], [], [0, 1, 2], [], [4], [], [], [0, 1, 2, 3, 6, 7], [0, 1, 2, 3, 6, 7, 8], rg 0 9, rg 0 5, rg 0 11, rg 0 12, rg 0 13]) .skip)) (Rg [Fa 54 3 9, Pp (.ld 55 1 false true 54), Pp (.ld 56 5 true false 13), Pp (.bsl 57 .jnode [56] true), Pp (.app 58 .jnode (.tk 55) 57), Fa 59 3 9, Sk 1 59 58]))))) (Rg [Mv 20 10, Bc 21 .add 20 1, Mv 10 21]))
def ub : IR := Sq (.reg [Pp (.bsl 60 .str [kS [116, 121, 112, 101], kS [110, 97, 109, 101], kS [110, 97, 109, 101, 115, 112, 97, 99, 101], kS [102, 105, 101, 108, 100, 115]] true), Ca 61 86 [kS [114, 101, 99, 111, 114, 100]], Mv 62 1, Ca 63 86 [62], Ca 64 86 [kS [115]], Fo [3] [] (.ld 65 5 true false 9), Pp (.bsl 66 .jnode [61, 63, 64, 65] true), Ca 67 118 [60, 66], Fo [] [2] (.st none 5 8 67)] [[], [], [], [1, 2], [1, 2, 3], [], rg 1 5, rg 0 6, rg 0 7]) .ret
def ql : IR := Rs [Pp (.new 8 [vI 0, vI 0, vS, nl .jnode, nl .str])] (Rs [Pp (.bld 14 [vI 0, vI 0, vS, nl .jnode, nl .str] [(0, 1, kI 5)]), Pp (.new 9 [vI 0, vI 0, vS, nl .jnode, nl .str]), Sv 5 9 14] (Sq (Rs [Mv 15 0, Ca 16 60 [15, kI 5], Mi 10 0, Mv 11 16] (.block 0 (.loop [0, 1, 2, 3, 8, 9, 10, 11, 1000000] 4 uW))) ub))
def lN : List RV := [.cell 8 5 true]
theorem agE : FnC Try.prog jd [60, 117, 119, 2000060, 2000117, 2000119] 2 xV Try.f73 ql lN := fnC (by kernel_rfl) Try.func73 (by kernel_rfl) (by kernel_rfl) (by decide)
def afd (R : IR → (Ex → St → Ro) → St → Ro) (a : St → Ro) : Ex → St → Ro := (bz a [0, 1, 2, 3, 8, 9, 10, 11, 1000000] 4 (aR 0 (bp (R ub) (fin lN))))
abbrev gg : Type := (Bs × Int × Int × Int × Bs × Int × Bss × Int × Int × Bs × List aE × Bss × Int × Int × Bs × List aE × Bss)
def fD : gg → St := fun (h, i, j, k, l, m, n, o, p, q, a, b, c, d, e, f, g) => { env := (.ptr 0 0 :: .str h :: .int .i64 i :: .ptr 1 0 :: (U 4 (.ptr 2 0 :: .ptr 3 0 :: .int .i64 j :: .int .i64 k :: (U 56 [])))), hp := [some [.sl .u8 (.may false) l, .int .i64 m], some [.sl .str .own n], some [.int .i64 o, .int .i64 p, .str q, .sl .jnode .own a, .sl .str .own b], some [.int .i64 c, .int .i64 d, .str e, .sl .jnode .own f, .sl .str .own g]] }
def pq (N : Nat) : (St → Ro) → St → Ro := fun a s => run jd N uW (afd (run jd N) a) s
def kC (N : Nat) (e : gg → Ro) : gg → Ro := fun (z, v2, k, t, l, m, n, o, p, q, r, s, f, g, h, c, i) =>
 cond (decide (k < t)) (
 let x1 : Int := (IntKind.wrap .i64 (v2 + 1))
 aH (cX l m n x1) (fun j =>
 let x2 : Int := (IntKind.wrap .i64 (97 + k))
 chk (decide (List.length ([102] : Bs) + List.length ([(UInt8.ofNat (Int.toNat (IntKind.wrap .u8 x2)))] : Bs) ≤ 9223372036854775807)) (
 let x3 : Bs := (([102] : Bs) ++ ([(UInt8.ofNat (Int.toNat (IntKind.wrap .u8 x2)))] : Bs))
 aH (bD x3) (fun u =>
 aH (eK true ([([110, 97, 109, 101] : Bs), ([116, 121, 112, 101] : Bs)] : Bss) true ([⟨u.1, u.2.1, u.2.2.1, u.2.2.2.1, u.2.2.2.2⟩, ⟨j.1, j.2.1, j.2.2.1, j.2.2.2.1, j.2.2.2.2.1⟩] : List aE)) (fun b =>
 aH (aS j.2.2.2.2.2.1 j.2.2.2.2.2.2.1 3) (fun v =>
 cond (v.1 == 0) (
 chk ((b.2.2.2.2.2.1 && decide (0 < List.length ([([100, 101, 102, 97, 117, 108, 116] : Bs)] : Bss))) && decide ((List.length b.2.2.2.2.2.2 + List.length ([([100, 101, 102, 97, 117, 108, 116] : Bs)] : Bss)) * 16 ≤ 140737488355328)) (
 let x4 : Bss := (b.2.2.2.2.2.2 ++ ([([100, 101, 102, 97, 117, 108, 116] : Bs)] : Bss))
 aH (gw v.2.1 v.2.2 j.1 j.2.1 j.2.2.1 j.2.2.2.1 j.2.2.2.2.1) (fun d =>
 chk ((b.2.2.2.1 && decide (0 < List.length ([⟨d.1, d.2.1, d.2.2.1, d.2.2.2.1, d.2.2.2.2.1⟩] : List aE))) && decide ((List.length b.2.2.2.2.1 + List.length ([⟨d.1, d.2.1, d.2.2.1, d.2.2.2.1, d.2.2.2.2.1⟩] : List aE)) * 80 ≤ 140737488355328)) (
 let x5 : List aE := (b.2.2.2.2.1 ++ ([⟨d.1, d.2.1, d.2.2.1, d.2.2.2.1, d.2.2.2.2.1⟩] : List aE))
 chk (decide ((List.length c + List.length ([⟨b.1, b.2.1, b.2.2.1, x5, x4⟩] : List aE)) * 80 ≤ 140737488355328)) (
 let x6 : List aE := (c ++ ([⟨b.1, b.2.1, b.2.2.1, x5, x4⟩] : List aE))
 let x7 : Int := (IntKind.wrap .i64 (k + 1))
 e (z, v2, x7, t, d.2.2.2.2.2.1, d.2.2.2.2.2.2, j.2.2.2.2.2.2.2, o, p, q, r, s, f, g, h, x6, i)))))) (
 chk (decide ((List.length c + List.length ([⟨b.1, b.2.1, b.2.2.1, b.2.2.2.2.1, b.2.2.2.2.2.2⟩] : List aE)) * 80 ≤ 140737488355328)) (
 let x8 : List aE := (c ++ ([⟨b.1, b.2.1, b.2.2.1, b.2.2.2.2.1, b.2.2.2.2.2.2⟩] : List aE))
 let x9 : Int := (IntKind.wrap .i64 (k + 1))
 e (z, v2, x9, t, v.2.1, v.2.2, j.2.2.2.2.2.2.2, o, p, q, r, s, f, g, h, x8, i))))))))) (
 aH (bD ([114, 101, 99, 111, 114, 100] : Bs)) (fun w =>
 aH (bD z) (fun x =>
 aH (bD ([115] : Bs)) (fun y =>
 aH (eK true ([([116, 121, 112, 101] : Bs), ([110, 97, 109, 101] : Bs), ([110, 97, 109, 101, 115, 112, 97, 99, 101] : Bs), ([102, 105, 101, 108, 100, 115] : Bs)] : Bss) true ([⟨w.1, w.2.1, w.2.2.1, w.2.2.2.1, w.2.2.2.2⟩, ⟨x.1, x.2.1, x.2.2.1, x.2.2.2.1, x.2.2.2.2⟩, ⟨y.1, y.2.1, y.2.2.1, y.2.2.2.1, y.2.2.2.2⟩, ⟨f, g, h, c, i⟩] : List aE)) (fun a =>
 some (.agg [.int .i64 a.1, .int .i64 a.2.1, .str a.2.2.1, .sl .jnode (.may a.2.2.2.1) a.2.2.2.2.1, .sl .str (.may a.2.2.2.2.2.1) a.2.2.2.2.2.2], [some [.sl .u8 (.may false) l, .int .i64 m], some [.sl .str .own n], some [.int .i64 a.1, .int .i64 a.2.1, .str a.2.2.1, .sl .jnode (.may a.2.2.2.1) a.2.2.2.2.1, .sl .str (.may a.2.2.2.2.2.1) a.2.2.2.2.2.2], some [.int .i64 f, .int .i64 g, .str h, .sl .jnode .own c, .sl .str .own i]]))))))
theorem ad2 (N : Nat) : ∀ (a : St → Ro) (x : gg), pq N a (fD x) = kC N (fun y => a (fD y)) x := by
 intro a x
 kernel_rfl
def gW (N : Nat) (a : Bs) (b : Int) (c : Bss) (e : Bs) (f : Int) (g : gg → Ro) : Ro :=
 aH (aS a b 5) (fun d =>
 g (e, f, 0, d.1, d.2.1, d.2.2, c, 0, 0, ([] : Bs), ([] : List aE), ([] : Bss), 5, 0, ([] : Bs), ([] : List aE), ([] : Bss)))
def qm (N : Nat) (a : Bs) (b : Int) (c : Bss) (d : Bs) (e : Int) : Ro := gW N a b c d e (fun z => aQ N (kC N) z)
def aib (N : Nat) : List (Nat × (St → Ro)) := ba jd N ql (fin lN) ++ []
theorem afe (N : Nat) (a : Bs) (c : Int) (d : Bss) (e : Bs) (f : Int) : aW jd N 68 lN ql [.ptr 0 0, .str e, .int .i64 f, .ptr 1 0] [some [.sl .u8 (.may false) a, .int .i64 c], some [.sl .str .own d]] = qm N a c d e f :=
 (bL (aib N) (by kernel_rfl) rfl (fun C => gW N a c d e f (fun z => C 1000000 (fD z))) (fun C => by kernel_rfl)).trans (Eq.trans (b := gW N a c d e f (fun z => bg N (pq N) (fD z))) (by kernel_rfl) (congrArg (gW N a c d e f) (funext fun z => bc (fD) (pq N) (kC N) (ad2 N) N z)))
theorem aff (N : Nat) (a : Bs) (b : Int) (c : Bss) (g : Bs) (i : Int) (h : Tot (qm N a b c g i) (fun z => ∃ (j : Int) (k : Int) (l : Bs) (m : List aE) (n : Bss) (d : Bs) (e : Int) (f : Bss) (rest : List aK), z.1.dimR = .agg [.int .i64 j, .int .i64 k, .str l, .sl .jnode (.may false) m, .sl .str (.may false) n] ∧ z.2 = some [.sl .u8 (.may false) d, .int .i64 e] :: some [.sl .str .own f] :: rest ∧ uF a b c g i (j, k, l, m, n, d, e, f))) : ∃ r, fl a b c g i r := by
 obtain ⟨⟨v, hp⟩, hz, j, k, l, m, n, d, e, f, rest, e1, e2, hq⟩ := h
 simp only at e1 e2
 subst e2
 exact ⟨(j, k, l, m, n, d, e, f), bk.dimR (FnC.objs (css := [[.sl .u8 (.may false) a, .int .i64 b], [.sl .str .own c]]) (css' := [[.sl .u8 (.may false) d, .int .i64 e], [.sl .str .own f]]) agE (afe N a b c g i) hz rfl) e1, hq⟩
noncomputable def bU : aN := tab (P := Try.prog) [] [l8] [] [zi, avX]
def gX : IR := Cn 12 (Rs [Mv 17 0, Ca 18 60 [17, kI 200], Bc 19 .sub 18 50, Pp (.bld 20 [vI 0, vI 0, vS, nl .jnode, nl .str] [(0, 1, kI 3), (1, 1, 19)]), Sv 5 4 20] .ret) (Sq (Rs [Pp (.bin 22 .eql 11 (kS [115, 116, 114, 105, 110, 103])), Mv 21 22] (Cn 21 .skip (Rg [Pp (.bin 23 .eql 11 (kS [98, 121, 116, 101, 115])), Mv 21 23]))) (Cn 21 (Rs [Pp (.bsl 24 .str [kS [], kS [100], kS [195, 164]] true), Mv 25 0, Ca 26 60 [25, kI 3], Ix 27 .str 24 26, Lq 28 27, Ca 29 86 [28], Sv 5 4 29] .ret) (Rs [Pp (.bin 31 .eql 11 (kS [98, 111, 111, 108, 101, 97, 110])), Mv 30 31] (Cn 30 (Rs [Mv 32 0, Ca 33 60 [32, kI 2], Pp (.bld 34 [vI 0, vI 0, vS, nl .jnode, nl .str] [(0, 1, kI 2), (1, 1, 33)]), Sv 5 4 34] .ret) (Rs [Pp (.bin 36 .eql 11 (kS [110, 117, 108, 108])), Mv 35 36] (Cn 35 (Rs [Pp (.bld 37 [vI 0, vI 0, vS, nl .jnode, nl .str] [(0, 1, kI 1)]), Sv 5 4 37] .ret) .skip))))))
def me : IR := Sq (Rs [Fa 38 0 3, Lq 39 38, Bc 40 .eql 39 5] (Cn 40 (Rs [Pp (.bld 41 [vI 0, vI 0, vS, nl .jnode, nl .str] [(0, 1, kI 1)]), Sv 5 4 41] .ret) .skip)) (Rs [Ld 43 5 true 3, Ca 44 87 [43, kS [116, 121, 112, 101]], Mv 42 44, Ex_ 45 0 42, Ex_ 46 1 42, Pp (.alr 5 5), Fz 5 5 45, Mv 6 46] (Sq (Rs [Fa 47 2 5, Lq 48 47] (.block 1 (Rs [Pp (.bin 50 .eql 48 (kS [97, 114, 114, 97, 121])), Mv 49 50] (Cn 49 (Rs [Pp (.bld 51 [vI 0, vI 0, vS, nl .jnode, nl .str] [(0, 1, kI 5)]), Sv 5 4 51] .ret) (Rs [Pp (.bin 53 .eql 48 (kS [101, 110, 117, 109])), Mv 52 53] (Cn 52 (Rs [Ca 54 86 [kS [88]], Sv 5 4 54] .ret) .skip)))))) (Rs [Pp (.bld 55 [vI 0, vI 0, vS, nl .jnode, nl .str] [(0, 1, kI 6)]), Sv 5 4 55] .ret)))
def mf : IR := .cut [3, 4, 1000001] 2 me
def pr : IR := Rs [Bx 3 1, Pp (.new 4 [vI 0, vI 0, vS, nl .jnode, nl .str])] (Sq (Rs [Fa 7 0 3, Lq 8 7, Bc 9 .eql 8 4] (Cn 9 (Rs [Fa 10 2 3, Lq 11 10] (.block 0 (Sq (Rs [Pp (.bin 13 .eql 11 (kS [105, 110, 116])), Mv 12 13] (Cn 12 .skip (Rs [Pp (.bin 14 .eql 11 (kS [108, 111, 110, 103])), Mv 12 14] (Cn 12 .skip (Rs [Pp (.bin 15 .eql 11 (kS [102, 108, 111, 97, 116])), Mv 12 15] (Cn 12 .skip (Rg [Pp (.bin 16 .eql 11 (kS [100, 111, 117, 98, 108, 101])), Mv 12 16]))))))) (.cut [0, 3, 4, 11, 12, 1000000] 2 gX)))) .skip)) mf)
def dz : List RV := [.cell 4 5 true]
theorem afg : FnC Try.prog bU [60, 2000060] 1 xc Try.f119 pr dz := fnC (by kernel_rfl) Try.func119 (by kernel_rfl) (by kernel_rfl) (by decide)
abbrev fE : Type := (Int × Int × Bs × List aE × Bss × Bs × Bool × Bs × Int × Int × Int × Bs × List aE × Bss)
def eY : fE → St := fun (e, f, g, h, i, j, k, l, m, n, a, b, c, d) => { env := (.ptr 0 0 :: .undef :: .undef :: .ea [.int .i64 e, .int .i64 f, .str g, .sl .jnode (.may false) h, .sl .str (.may false) i] :: .ptr 1 0 :: (U 6 (.str j :: .bool k :: (U 43 [])))), hp := [some [.sl .u8 (.may false) l, .int .i64 m], some [.int .i64 n, .int .i64 a, .str b, .sl .jnode .own c, .sl .str .own d]] }
def nW (R : IR → (Ex → St → Ro) → St → Ro) : Ex → St → Ro := (aR 0 (bp (R mf) (fin dz)))
abbrev jN : Type := (Int × Int × Bs × List aE × Bss × Bs × Int × Int × Int × Bs × List aE × Bss)
def iH : jN → St := fun (c, d, e, f, g, h, i, j, k, l, a, b) => { env := (U 3 (.ea [.int .i64 c, .int .i64 d, .str e, .sl .jnode (.may false) f, .sl .str (.may false) g] :: .ptr 1 0 :: (U 51 []))), hp := [some [.sl .u8 (.may false) h, .int .i64 i], some [.int .i64 j, .int .i64 k, .str l, .sl .jnode .own a, .sl .str .own b]] }
def nX (N : Nat) : St → Ro := fun s => run bU N me (fin dz) s
def fF (N : Nat) : jN → Ro := fun (d, e, f, g, h, a, b, _, _, _, _, _) =>
 cond (d == 5) (
 some (.agg [.int .i64 1, .int .i64 0, .str ([] : Bs), .sl .jnode (.may false) ([] : List aE), .sl .str (.may false) ([] : Bss)], [some [.sl .u8 (.may false) a, .int .i64 b], some [.int .i64 1, .int .i64 0, .str ([] : Bs), .sl .jnode .own ([] : List aE), .sl .str .own ([] : Bss)]])) (
 aH (tO d e f g h ([116, 121, 112, 101] : Bs)) (fun j =>
 let k : Bool := decide (j.2.2.1 = ([97, 114, 114, 97, 121] : Bs))
 cond k (
 some (.agg [.int .i64 5, .int .i64 0, .str ([] : Bs), .sl .jnode (.may false) ([] : List aE), .sl .str (.may false) ([] : Bss)], [some [.sl .u8 (.may false) a, .int .i64 b], some [.int .i64 5, .int .i64 0, .str ([] : Bs), .sl .jnode .own ([] : List aE), .sl .str .own ([] : Bss)]])) (
 let i : Bool := decide (j.2.2.1 = ([101, 110, 117, 109] : Bs))
 cond i (
 aH (bD ([88] : Bs)) (fun c =>
 some (.agg [.int .i64 c.1, .int .i64 c.2.1, .str c.2.2.1, .sl .jnode (.may false) c.2.2.2.1, .sl .str (.may false) c.2.2.2.2], [some [.sl .u8 (.may false) a, .int .i64 b], some [.int .i64 c.1, .int .i64 c.2.1, .str c.2.2.1, .sl .jnode (.may false) c.2.2.2.1, .sl .str (.may false) c.2.2.2.2]]))) (
 some (.agg [.int .i64 6, .int .i64 0, .str ([] : Bs), .sl .jnode (.may false) ([] : List aE), .sl .str (.may false) ([] : Bss)], [some [.sl .u8 (.may false) a, .int .i64 b], some [.int .i64 6, .int .i64 0, .str ([] : Bs), .sl .jnode .own ([] : List aE), .sl .str .own ([] : Bss)]])))))
theorem acP (N : Nat) : ∀ (x : jN), nX N (iH x) = fF N x := by
 intro x
 kernel_rfl
def nY (N : Nat) : St → Ro := fun s => run bU N gX (nW (run bU N)) s
def iI (N : Nat) (v : jN → Ro) : fE → Ro := fun (f, g, h, i, j, e, s, a, b, k, l, m, n, o) =>
 cond s (
 aH (aS a b 200) (fun t =>
 let u : Int := (IntKind.wrap .i64 (t.1 - 50))
 some (.agg [.int .i64 3, .int .i64 u, .str ([] : Bs), .sl .jnode (.may false) ([] : List aE), .sl .str (.may false) ([] : Bss)], [some [.sl .u8 (.may false) t.2.1, .int .i64 t.2.2], some [.int .i64 3, .int .i64 u, .str ([] : Bs), .sl .jnode .own ([] : List aE), .sl .str .own ([] : Bss)]]))) (
 let w : Bool := decide (e = ([115, 116, 114, 105, 110, 103] : Bs))
 cond w (
 aH (aS a b 3) (fun p =>
 chk (decide (0 ≤ p.1) && decide (p.1 < ↑(List.length ([([] : Bs), ([100] : Bs), ([195, 164] : Bs)] : Bss)))) (
 let x : Bs := List.getD ([([] : Bs), ([100] : Bs), ([195, 164] : Bs)] : Bss) (Int.toNat p.1) (aC .str)
 aH (bD x) (fun c =>
 some (.agg [.int .i64 c.1, .int .i64 c.2.1, .str c.2.2.1, .sl .jnode (.may false) c.2.2.2.1, .sl .str (.may false) c.2.2.2.2], [some [.sl .u8 (.may false) p.2.1, .int .i64 p.2.2], some [.int .i64 c.1, .int .i64 c.2.1, .str c.2.2.1, .sl .jnode (.may false) c.2.2.2.1, .sl .str (.may false) c.2.2.2.2]]))))) (
 let y : Bool := decide (e = ([98, 121, 116, 101, 115] : Bs))
 cond y (
 aH (aS a b 3) (fun q =>
 chk (decide (0 ≤ q.1) && decide (q.1 < ↑(List.length ([([] : Bs), ([100] : Bs), ([195, 164] : Bs)] : Bss)))) (
 let z : Bs := List.getD ([([] : Bs), ([100] : Bs), ([195, 164] : Bs)] : Bss) (Int.toNat q.1) (aC .str)
 aH (bD z) (fun d =>
 some (.agg [.int .i64 d.1, .int .i64 d.2.1, .str d.2.2.1, .sl .jnode (.may false) d.2.2.2.1, .sl .str (.may false) d.2.2.2.2], [some [.sl .u8 (.may false) q.2.1, .int .i64 q.2.2], some [.int .i64 d.1, .int .i64 d.2.1, .str d.2.2.1, .sl .jnode (.may false) d.2.2.2.1, .sl .str (.may false) d.2.2.2.2]]))))) (
 let x7 : Bool := decide (e = ([98, 111, 111, 108, 101, 97, 110] : Bs))
 cond x7 (
 aH (aS a b 2) (fun r =>
 some (.agg [.int .i64 2, .int .i64 r.1, .str ([] : Bs), .sl .jnode (.may false) ([] : List aE), .sl .str (.may false) ([] : Bss)], [some [.sl .u8 (.may false) r.2.1, .int .i64 r.2.2], some [.int .i64 2, .int .i64 r.1, .str ([] : Bs), .sl .jnode .own ([] : List aE), .sl .str .own ([] : Bss)]]))) (
 let x8 : Bool := decide (e = ([110, 117, 108, 108] : Bs))
 cond x8 (
 some (.agg [.int .i64 1, .int .i64 0, .str ([] : Bs), .sl .jnode (.may false) ([] : List aE), .sl .str (.may false) ([] : Bss)], [some [.sl .u8 (.may false) a, .int .i64 b], some [.int .i64 1, .int .i64 0, .str ([] : Bs), .sl .jnode .own ([] : List aE), .sl .str .own ([] : Bss)]])) (
 v (f, g, h, i, j, a, b, k, l, m, n, o))))))
def jO (N : Nat) (x : fE) : Ro := iI N (fun z => fF N z) x
def nZ (N : Nat) : List (Nat × (St → Ro)) := (ba bU N gX (nW (run bU N)) ++ (ba bU N mf (fin dz) ++ []))
theorem acQ (N : Nat) : ∀ (x : fE), nY N (eY x) = jO N x := by
 intro x
 have hX : ∀ C : Nat → St → Ro, bQ C bU N gX (nW (bQ C bU N)) (eY x) = iI N (fun z => C 1000001 (iH z)) x := by
  intro C
  kernel_rfl
 have h : nY N (eY x) = iI N (fun z => nX N (iH z)) x := (ch (C := dA (nZ N)) (bO (aX (l := (nZ N)) (by kernel_rfl))) (cp (eq (bO (da (aX (l := (nZ N)) (by kernel_rfl)))) rfl)) _).trans ((hX _).trans (by kernel_rfl))
 have e1 : (fun z => nX N (iH z)) = (fun z => fF N z) := funext fun z => acP N z
 rw [h, e1]
 rfl
abbrev jP : Type := (Int × Int × Bs × List aE × Bss × Bs × Int × Int × Int × Bs × List aE × Bss)
def mO : jP → St := fun (c, d, e, f, g, h, i, j, k, l, a, b) => { env := (U 3 (.ea [.int .i64 c, .int .i64 d, .str e, .sl .jnode (.may false) f, .sl .str (.may false) g] :: .ptr 1 0 :: (U 51 []))), hp := [some [.sl .u8 (.may false) h, .int .i64 i], some [.int .i64 j, .int .i64 k, .str l, .sl .jnode .own a, .sl .str .own b]] }
def uX (N : Nat) : St → Ro := fun s => run bU N me (fin dz) s
def jQ (N : Nat) : jP → Ro := fun (d, e, f, g, h, b, c, _, _, _, _, _) =>
 cond (d == 5) (
 some (.agg [.int .i64 1, .int .i64 0, .str ([] : Bs), .sl .jnode (.may false) ([] : List aE), .sl .str (.may false) ([] : Bss)], [some [.sl .u8 (.may false) b, .int .i64 c], some [.int .i64 1, .int .i64 0, .str ([] : Bs), .sl .jnode .own ([] : List aE), .sl .str .own ([] : Bss)]])) (
 aH (tO d e f g h ([116, 121, 112, 101] : Bs)) (fun k =>
 let i : Bool := decide (k.2.2.1 = ([97, 114, 114, 97, 121] : Bs))
 cond i (
 some (.agg [.int .i64 5, .int .i64 0, .str ([] : Bs), .sl .jnode (.may false) ([] : List aE), .sl .str (.may false) ([] : Bss)], [some [.sl .u8 (.may false) b, .int .i64 c], some [.int .i64 5, .int .i64 0, .str ([] : Bs), .sl .jnode .own ([] : List aE), .sl .str .own ([] : Bss)]])) (
 let j : Bool := decide (k.2.2.1 = ([101, 110, 117, 109] : Bs))
 cond j (
 aH (bD ([88] : Bs)) (fun a =>
 some (.agg [.int .i64 a.1, .int .i64 a.2.1, .str a.2.2.1, .sl .jnode (.may false) a.2.2.2.1, .sl .str (.may false) a.2.2.2.2], [some [.sl .u8 (.may false) b, .int .i64 c], some [.int .i64 a.1, .int .i64 a.2.1, .str a.2.2.1, .sl .jnode (.may false) a.2.2.2.1, .sl .str (.may false) a.2.2.2.2]]))) (
 some (.agg [.int .i64 6, .int .i64 0, .str ([] : Bs), .sl .jnode (.may false) ([] : List aE), .sl .str (.may false) ([] : Bss)], [some [.sl .u8 (.may false) b, .int .i64 c], some [.int .i64 6, .int .i64 0, .str ([] : Bs), .sl .jnode .own ([] : List aE), .sl .str .own ([] : Bss)]])))))
theorem acR (N : Nat) : ∀ (x : jP), uX N (mO x) = jQ N x := by
 intro x
 kernel_rfl
def gi (N : Nat) (c : Bs) (d b e : Int) (a : Bs) (f : List aE) (g : Bss) (h : fE → Ro) (l : jP → Ro) : Ro :=
 cond (b == 4) (
 let m : Bool := decide (a = ([105, 110, 116] : Bs))
 cond m (
 h (b, e, a, f, g, a, true, c, d, 0, 0, ([] : Bs), ([] : List aE), ([] : Bss))) (
 let i : Bool := decide (a = ([108, 111, 110, 103] : Bs))
 cond i (
 h (b, e, a, f, g, a, true, c, d, 0, 0, ([] : Bs), ([] : List aE), ([] : Bss))) (
 let j : Bool := decide (a = ([102, 108, 111, 97, 116] : Bs))
 cond j (
 h (b, e, a, f, g, a, true, c, d, 0, 0, ([] : Bs), ([] : List aE), ([] : Bss))) (
 let k : Bool := decide (a = ([100, 111, 117, 98, 108, 101] : Bs))
 h (b, e, a, f, g, a, k, c, d, 0, 0, ([] : Bs), ([] : List aE), ([] : Bss)))))) (
 l (b, e, a, f, g, c, d, 0, 0, ([] : Bs), ([] : List aE), ([] : Bss)))
def pt (N : Nat) (a : Bs) (b c d : Int) (e : Bs) (f : List aE) (g : Bss) : Ro := gi N a b c d e f g (fun z => jO N z) (fun z => jQ N z)
def agF (N : Nat) : List (Nat × (St → Ro)) := ba bU N pr (fin dz) ++ []
theorem ad3 (N : Nat) (a : Bs) (c d e : Int) (f : Bs) (g : List aE) (h : Bss) : aW bU N 56 dz pr [.ptr 0 0, .agg [.int .i64 d, .int .i64 e, .str f, .sl .jnode (.may false) g, .sl .str (.may false) h]] [some [.sl .u8 (.may false) a, .int .i64 c]] = pt N a c d e f g h :=
 (bL (agF N) (by kernel_rfl) rfl (fun C => gi N a c d e f g h (fun z => C 1000000 (eY z)) (fun z => C 1000001 (mO z))) (fun C => by kernel_rfl)).trans (Eq.trans (b := gi N a c d e f g h (fun z => nY N (eY z)) (fun z => uX N (mO z))) (by kernel_rfl) (congr (congrArg (gi N a c d e f g h) (funext fun z => acQ N z)) (funext fun z => acR N z)))
theorem ad4 (N : Nat) (a : Bs) (b c d : Int) (e : Bs) (f : List aE) (g : Bss) (h : Tot (pt N a b c d e f g) (fun z => ∃ (k : Int) (l : Int) (m : Bs) (n : List aE) (o : Bss) (i : Bs) (j : Int) (rest : List aK), z.1.dimR = .agg [.int .i64 k, .int .i64 l, .str m, .sl .jnode (.may false) n, .sl .str (.may false) o] ∧ z.2 = some [.sl .u8 (.may false) i, .int .i64 j] :: rest ∧ eU a b c d e f g (k, l, m, n, o, i, j))) : ∃ r, gw a b c d e f g r := by
 obtain ⟨⟨v, hp⟩, hz, k, l, m, n, o, i, j, rest, e1, e2, hq⟩ := h
 simp only at e1 e2
 subst e2
 exact ⟨(k, l, m, n, o, i, j), bk.dimR (FnC.objs (css := [[.sl .u8 (.may false) a, .int .i64 b]]) (css' := [[.sl .u8 (.may false) i, .int .i64 j]]) afg (ad3 N a b c d e f g) hz rfl) e1, hq⟩
noncomputable def aa5 : aN := tab (P := Try.prog) [] [ahM] [] [atb, ars]
def zJ : IR := Rs [Pp (.new 2 [nl .atype]), Mb 3 false] (Rs [Mv 10 0, Ca 11 40 [10], Ca 12 39 [11], Mv 9 12, Ex_ 13 0 9, Ex_ 14 1 9, Pp (.alr 4 1), Fz 4 1 13, Mv 5 14] (Sq (Rs [Mv 15 5, Bc 16 .neq 15 0] (Cn 16 (Rs [Ld 17 1 true 4, Sv 1 2 17, Mb 3 false] .ret) .skip)) (Rs [Ld 19 1 true 4, Ca 20 41 [19], Mv 18 20, Ex_ 21 0 18, Ex_ 22 1 18, Ex_ 23 2 18, Mv 6 21, Mv 7 22, Mv 8 23] (Rs [Ld 24 1 true 4, Mv 25 6, Bc 26 .eql 25 0, Sv 1 2 24, Mv 3 26] .ret))))
def zK : List RV := [.cell 2 1 true, .t 3]
theorem ajG : FnC Try.prog aa5 [40, 2000040] 1 aaT Try.f15 zJ zK := fnC (by kernel_rfl) Try.func15 (by kernel_rfl) (by kernel_rfl) (by decide)
def zL (N : Nat) (c : Bs) (d : Int) : Ro :=
 aH (iR c d) (fun a =>
 aH (sI a.1 a.2.1 a.2.2.1 a.2.2.2.1 a.2.2.2.2.1) (fun b =>
 cond (!(b.2 == 0)) (
 some (.tup [.agg [.sl .atype (.may false) b.1], .bool false], [some [.sl .u8 (.may false) a.2.2.2.2.2.1, .int .i64 a.2.2.2.2.2.2], some [.sl .atype (.may false) b.1]])) (
 aH (qP b.1) (fun e =>
 some (.tup [.agg [.sl .atype (.may false) b.1], .bool (e.1 == 0)], [some [.sl .u8 (.may false) a.2.2.2.2.2.1, .int .i64 a.2.2.2.2.2.2], some [.sl .atype (.may false) b.1]])))))
def tb (N : Nat) (a : Bs) (b : Int) : Ro := zL N a b
theorem aic (N : Nat) (a : Bs) (b : Int) : aW aa5 N 27 zK zJ [.ptr 0 0] [some [.sl .u8 (.may false) a, .int .i64 b]] = tb N a b := by kernel_rfl
theorem aid (N : Nat) (a : Bs) (b : Int) (h : Tot (tb N a b) (fun z => ∃ (e : List aA) (f : Bool) (c : Bs) (d : Int) (rest : List aK), z.1.dimR = .tup [.agg [.sl .atype (.may false) e], .bool f] ∧ z.2 = some [.sl .u8 (.may false) c, .int .i64 d] :: rest ∧ xa a b (e, f, c, d))) : ∃ r, kW a b r := by
 obtain ⟨⟨v, hp⟩, hz, e, f, c, d, rest, e1, e2, hq⟩ := h
 simp only at e1 e2
 subst e2
 exact ⟨(e, f, c, d), bk.dimR (FnC.objs (css := [[.sl .u8 (.may false) a, .int .i64 b]]) (css' := [[.sl .u8 (.may false) c, .int .i64 d]]) ajG (aic N a b) hz rfl) e1, hq⟩
end Go.Proofs.Ytdpajabhmmmjoaa
end
noncomputable section
namespace Go.Proofs.Ytdpajabhmmmjoaa
open Go.AM
set_option autoImplicit false
set_option linter.unusedVariables false
set_option linter.unusedSimpArgs false
set_option maxRecDepth 100000
theorem dW (k n : Int) (s : List UInt8) (h : s.length ≤ 100) : bh (.mk k n s [] []) := .mk _ _ _ _ _ h (by simp) (by simp) (by simp) (by simp) (by simp)
theorem afh (k n : Int) (l : List aE) (h : l.length ≤ 8) (hl : ∀ c ∈ l, bh c) (hk : k ≠ 6) : bh (.mk k n [] l []) := .mk _ _ _ _ _ (by simp) h (by simp) (by simp) (fun h => absurd h hk) hl
theorem agG (k n : Int) (l : List aE) (names : List (List UInt8)) (hn : names.length = l.length) (h : l.length ≤ 8) (hs : cm names) (hl : ∀ c ∈ l, bh c) : bh (.mk k n [] l names) := .mk _ _ _ _ _ (by simp) h (by omega) hs (fun _ => hn) hl
theorem akg {l : List (List UInt8)} (h : cm l) (i : Nat) : (l.getD i (aC .str)).length ≤ 100 := agy h i
theorem auV (a : List UInt8) (n c0 c1 : Int) (c2 : List UInt8) (c3 : List aE) (c4 : List (List UInt8)) (hp : fe a n) (hn : bh (.mk c0 c1 c2 c3 c4)) : ∃ r, gw a n c0 c1 c2 c3 c4 r := by
 obtain ⟨k1, k2, k3, k4, k5, k6⟩ := hn.kids
 apply ad4 1
 unfold pt gi
 have one : ∀ (n' x0 x1 : Int) (x2 : List UInt8) (x3 : List aE) (x4 : List (List UInt8)), fe a n' → Tot (fF 1 (c0, c1, c2, c3, c4, a, n', x0, x1, x2, x3, x4)) (fun z => ∃ (y0 y1 : Int) (y2 : List UInt8) (y3 : List aE) (y4 : List (List UInt8)) (y5 : List UInt8) (y6 : Int) (rest : List aK), z.1.dimR = .agg [.int .i64 y0, .int .i64 y1, .str y2, .sl .jnode (.may false) y3, .sl .str (.may false) y4] ∧ z.2 = some [.sl .u8 (.may false) y5, .int .i64 y6] :: rest ∧ eU a n c0 c1 c2 c3 c4 (y0, y1, y2, y3, y4, y5, y6)) := by
  intro n' x0 x1 x2 x3 x4 hp'
  unfold fF
  dsimp only
  repeat' (first | (with_reducible refine aF ?_ ?_ <;> (intro hb; (try simp only [bnl] at hb); (try revert hb; intro _))) | with_reducible refine aU ?_ ?_ | with_reducible refine aG ?_ | (refine aD (avs _ _ _ _ _ _ k3 (by omega)) ?_; rintro r ⟨-, hr⟩; clear hr) | (refine aD (dv _) ?_; rintro _ ⟨-, rfl⟩; dsimp only) | fail)
  all_goals exact ⟨_, _, _, _, _, _, _, _, rfl, rfl, dW _ _ _ (by simp), rfl, hp'⟩
 have two : ∀ (n' x0 x1 : Int) (x2 : List UInt8) (x3 : List aE) (x4 : List (List UInt8)), fe a n' → Tot (jQ 1 (c0, c1, c2, c3, c4, a, n', x0, x1, x2, x3, x4)) (fun z => ∃ (y0 y1 : Int) (y2 : List UInt8) (y3 : List aE) (y4 : List (List UInt8)) (y5 : List UInt8) (y6 : Int) (rest : List aK), z.1.dimR = .agg [.int .i64 y0, .int .i64 y1, .str y2, .sl .jnode (.may false) y3, .sl .str (.may false) y4] ∧ z.2 = some [.sl .u8 (.may false) y5, .int .i64 y6] :: rest ∧ eU a n c0 c1 c2 c3 c4 (y0, y1, y2, y3, y4, y5, y6)) := by
  intro n' x0 x1 x2 x3 x4 hp'
  unfold jQ
  dsimp only
  repeat' (first | (with_reducible refine aF ?_ ?_ <;> (intro hb; (try simp only [bnl] at hb); (try revert hb; intro _))) | with_reducible refine aU ?_ ?_ | with_reducible refine aG ?_ | (refine aD (avs _ _ _ _ _ _ k3 (by omega)) ?_; rintro r ⟨-, hr⟩; clear hr) | (refine aD (dv _) ?_; rintro _ ⟨-, rfl⟩; dsimp only) | fail)
  all_goals exact ⟨_, _, _, _, _, _, _, _, rfl, rfl, dW _ _ _ (by simp), rfl, hp'⟩
 have zero : ∀ (b : Bool), Tot (jO 1 (c0, c1, c2, c3, c4, c2, b, a, n, 0, 0, [], [], [])) (fun z => ∃ (y0 y1 : Int) (y2 : List UInt8) (y3 : List aE) (y4 : List (List UInt8)) (y5 : List UInt8) (y6 : Int) (rest : List aK), z.1.dimR = .agg [.int .i64 y0, .int .i64 y1, .str y2, .sl .jnode (.may false) y3, .sl .str (.may false) y4] ∧ z.2 = some [.sl .u8 (.may false) y5, .int .i64 y6] :: rest ∧ eU a n c0 c1 c2 c3 c4 (y0, y1, y2, y3, y4, y5, y6)) := by
  intro b
  unfold jO iI
  dsimp only
  have w3 : cm ([([] : List UInt8), ([100] : List UInt8), ([195, 164] : List UInt8)] : List (List UInt8)) := by simp [cm]
  repeat' (first | (with_reducible refine aF ?_ ?_ <;> (intro hb; (try simp only [bnl] at hb); (try revert hb; intro _))) | with_reducible refine aU ?_ ?_ | with_reducible refine aG ?_ | (refine aD (dF _ _ _ hp (by omega) (by omega)) ?_; rintro ⟨m, a', n'⟩ ⟨-, m1, m2, rfl, m3⟩; dsimp only at m1 m2 m3 ⊢) | (refine aD (dv _) ?_; rintro _ ⟨-, rfl⟩; dsimp only) | fail)
  all_goals first | exact ⟨_, _, _, _, _, _, _, _, rfl, rfl, dW _ _ _ (Nat.zero_le _), rfl, hp⟩ | exact ⟨_, _, _, _, _, _, _, _, rfl, rfl, dW _ _ _ (Nat.zero_le _), rfl, m3⟩ | exact ⟨_, _, _, _, _, _, _, _, rfl, rfl, dW _ _ _ (akg w3 _), rfl, m3⟩ | exact one _ _ _ _ _ _ hp | exact two _ _ _ _ _ _ hp | (first | (simp only [bnl, lnl]; done) | (simp only [bnl, lnl]; omega)) | skip
 dsimp only
 repeat' (first | (with_reducible refine aF ?_ ?_ <;> (intro hb; (try simp only [bnl] at hb); (try revert hb; intro _))) | with_reducible refine aU ?_ ?_ | with_reducible refine aG ?_ | fail)
 all_goals first | exact zero _ | exact two _ _ _ _ _ _ hp
def anQ (deep : Int) : Prop := ∀ (a : List UInt8) (n : Int) (ns : List (List UInt8)), fe a n → cm ns → ns.length + sG (5 - deep.toNat) ≤ 100000 → ∃ r, cX a n ns deep r
theorem ad5 {deep : Int} (h : 0 ≤ deep ∧ deep ≤ 4) : sG (5 - deep.toNat) = 1 + 4 * sG (5 - (deep + 1).toNat) := by
 have : 5 - deep.toNat = (5 - (deep + 1).toNat) + 1 := by omega
 rw [this]; rfl
theorem av5 (deep : Int) (hd : 0 ≤ deep ∧ deep ≤ 3) (hT : anQ (deep + 1)) (a : List UInt8) (n : Int) (ns : List (List UInt8)) (hp : fe a n) (hns : cm ns) (hl : ns.length + sG (5 - deep.toNat) ≤ 100000) : ∃ r, j6 a n ns deep r := by
 have hN := ad5 (deep := deep) (by omega)
 have ed : IntKind.i64.wrap (deep + 1) = deep + 1 := aJ (deep + 1) (by omega)
 apply agD 1
 unfold rJ yl
 have w2 : cm ([([105, 110, 116] : List UInt8), ([115, 116, 114, 105, 110, 103] : List UInt8)] : List (List UInt8)) := by simp [cm]
 refine aD (dv _) ?_
 rintro _ ⟨-, rfl⟩
 refine aD (dF _ _ _ hp (by omega) (by omega)) ?_
 rintro ⟨m, a', n'⟩ ⟨-, m1, m2, rfl, m3⟩
 dsimp only at m1 m2 m3 ⊢
 refine aF (fun _ => ?_) (fun _ => ?_)
 ·refine aD (dF _ _ _ m3 (by omega) (by omega)) ?_
  rintro ⟨m', a', n''⟩ ⟨-, m1', m2', rfl, m3'⟩
  dsimp only at m1' m2' m3' ⊢
  refine vck ?_
  refine aD (dv _) ?_
  rintro _ ⟨-, rfl⟩
  dsimp only
  refine vck ?_
  rw [ed]
  refine aD (hT _ _ _ m3' hns (by omega)) ?_
  rintro ⟨t0, t1, t2, t3, t4, a'', n3, ns'⟩ ⟨-, h1, rfl, h3, h4, h5⟩
  dsimp only at h1 h3 h4 h5 ⊢
  have kids2 : ∀ c ∈ ([aE.mk 4 0 [110, 117, 108, 108] [] []] ++ [aE.mk 4 0 (List.getD ([([105, 110, 116] : List UInt8), ([115, 116, 114, 105, 110, 103] : List UInt8)] : List (List UInt8)) (Int.toNat m') (aC .str)) [] []]), bh c := by
   intro c hc
   simp only [List.cons_append, List.nil_append, List.mem_cons, List.not_mem_nil, or_false] at hc
   rcases hc with rfl | rfl
   ·exact dW _ _ _ (by simp)
   ·exact dW _ _ _ (akg w2 _)
  repeat' (first | (with_reducible refine aF ?_ ?_ <;> (intro hb; (try simp only [bnl] at hb); (try revert hb; intro _))) | with_reducible refine aU ?_ ?_ | with_reducible refine aG ?_ | fail)
  ·first | (simp only [bnl, lnl]; done) | (simp only [bnl, lnl]; omega)
  ·refine ⟨_, _, _, _, _, _, _, _, _, rfl, rfl, afh _ _ _ (by simp) ?_ (by simp), rfl, h3, h4, by simp only; omega⟩
   intro c hc
   rcases List.mem_append.1 hc with hc | hc
   ·exact kids2 c hc
   ·simp only [List.mem_singleton] at hc
    subst hc; exact h1
  ·exact ⟨_, _, _, _, _, _, _, _, _, rfl, rfl, afh _ _ _ (by simp) kids2 (by simp), rfl, h3, h4, by simp only; omega⟩
 ·rw [ed]
  refine aD (hT _ _ _ m3 hns (by omega)) ?_
  rintro ⟨t0, t1, t2, t3, t4, a'', n3, ns'⟩ ⟨-, h1, rfl, h3, h4, h5⟩
  dsimp only at h1 h3 h4 h5 ⊢
  repeat' (first | (with_reducible refine aF ?_ ?_ <;> (intro hb; (try simp only [bnl] at hb); (try revert hb; intro _))) | with_reducible refine aU ?_ ?_ | with_reducible refine aG ?_ | fail)
  ·first | (simp only [bnl, lnl]; done) | (simp only [bnl, lnl]; omega)
  ·refine ⟨_, _, _, _, _, _, _, _, _, rfl, rfl, afh _ _ _ (by simp) ?_ (by simp), rfl, h3, h4, by simp only; omega⟩
   intro c hc
   simp only [List.cons_append, List.nil_append, List.mem_cons, List.not_mem_nil, or_false] at hc
   rcases hc with rfl | rfl
   ·exact dW _ _ _ (by simp)
   ·exact h1
  ·refine ⟨_, _, _, _, _, _, _, _, _, rfl, rfl, afh _ _ _ (by simp) ?_ (by simp), rfl, h3, h4, by simp only; omega⟩
   intro c hc
   simp only [List.mem_singleton] at hc
   subst hc; exact dW _ _ _ (by simp)
theorem alo (deep : Int) (hd : 0 ≤ deep ∧ deep ≤ 3) (hT : anQ (deep + 1)) (a : List UInt8) (n : Int) (ns : List (List UInt8)) (name : List UInt8) (hp : fe a n) (hns : cm ns) (hnm : name.length ≤ 100) (hl : ns.length + sG (5 - deep.toNat) ≤ 100001) : ∃ r, fl a n ns name deep r := by
 have hN := ad5 (deep := deep) (by omega)
 have ed : IntKind.i64.wrap (deep + 1) = deep + 1 := aJ (deep + 1) (by omega)
 apply aff 100
 unfold qm gW
 refine aD (dF _ _ _ hp (by omega) (by omega)) ?_
 rintro ⟨m, a', n'⟩ ⟨-, m1, m2, rfl, m3⟩
 dsimp only at m1 m2 m3 ⊢
 refine be (fun x => match x with | (nm, dp, i, m', a2, n2, ns2, x0, x1, x2, x3, x4, k0, k1, k2, l, k4) => nm = name ∧ dp = deep ∧ 0 ≤ i ∧ i ≤ m ∧ m' = m ∧ a2 = a' ∧ fe a' n2 ∧ cm ns2 ∧ (ns2.length : Int) ≤ ns.length + i * sG (5 - (deep + 1).toNat) ∧ k0 = 5 ∧ k1 = 0 ∧ k2 = [] ∧ k4 = [] ∧ (l.length : Int) = i ∧ ∀ c ∈ l, bh c) (fun x => (m - x.2.2.1).toNat) ?_ _ _
  ⟨rfl, rfl, by simp, m1, rfl, rfl, m3, hns, by simp, rfl, rfl, rfl, rfl, rfl, by simp⟩ (by simp only; omega)
 rintro again ⟨nm, dp, i, m', a2, n2, ns2, x0, x1, x2, x3, x4, k0, k1, k2, l, k4⟩ ⟨rfl, rfl, i1, i2, rfl, rfl, i3, i4, i5, rfl, rfl, rfl, rfl, i6, i7⟩ ih
 dsimp only at ih
 have ei : i < m' → IntKind.i64.wrap (i + 1) = i + 1 := fun h => aJ (i + 1) (by omega)
 generalize hq : sG (5 - (dp + 1).toNat) = q at *
 have hi5 : i * (q : Int) ≤ 4 * q := Int.mul_le_mul_of_nonneg_right (by omega) (by omega)
 have nnil : cm ([] : List (List UInt8)) := by simp [cm]
 unfold kC
 dsimp only
 refine aF (fun h => ?_) (fun h => ?_)
 ·have h := of_decide_eq_true h
  rw [ed]
  have hi4 : (i + 1) * (q : Int) ≤ 4 * q := Int.mul_le_mul_of_nonneg_right (by omega) (by omega)
  have hi6 : (i + 1) * (q : Int) = i * q + q := by rw [Int.add_mul, Int.one_mul]
  refine aD (hT _ _ _ i3 i4 (by rw [hq]; omega)) ?_
  rintro ⟨t0, t1, t2, t3, t4, a'', n3, ns'⟩ ⟨-, h1, rfl, h3, h4, h5⟩
  dsimp only at h1 h3 h4 h5 ⊢
  rw [hq] at h5
  refine vck ?_
  refine aD (dv _) ?_
  rintro _ ⟨-, rfl⟩
  refine aD (zG _ _ _ _) ?_
  rintro _ ⟨-, rfl⟩
  dsimp only
  refine aD (dF _ _ _ h3 (by omega) (by omega)) ?_
  rintro ⟨mm, a3, n4⟩ ⟨-, mm1, mm2, rfl, mm3⟩
  dsimp only at mm1 mm2 mm3 ⊢
  have next : ∀ (n5 : Int) (c : aE), fe a3 n5 → bh c → Tot (again (nm, dp, IntKind.i64.wrap (i + 1), m', a3, n5, ns', x0, x1, x2, x3, x4, 5, 0, [], l ++ [c], [])) _ := fun n5 c hp5 hc => ih (nm, dp, IntKind.i64.wrap (i + 1), m', a3, n5, ns', x0, x1, x2, x3, x4, 5, 0, [], l ++ [c], [])
   (by
    simp only [ei h, List.length_append, List.length_cons, List.length_nil]
    refine ⟨trivial, trivial, by omega, by omega, trivial, trivial, hp5, h4, by omega, trivial, trivial, trivial, trivial, by omega, ?_⟩
    intro d hd
    rcases List.mem_append.1 hd with hd | hd
    ·exact i7 d hd
    ·simp only [List.mem_singleton] at hd
     subst hd; exact hc) (by simp only [ei h]; omega)
  have f1 : bh (.mk 4 0 ([102] ++ [UInt8.ofNat (Int.toNat (IntKind.wrap .u8 (IntKind.wrap .i64 (97 + i))))]) [] []) := dW _ _ _ (by simp)
  refine aF (fun _ => ?_) (fun _ => ?_)
  ·refine vck ?_
   refine aD (auV _ _ _ _ _ _ _ mm3 h1) ?_
   rintro ⟨d0, d1, d2, d3, d4, a4, n5⟩ ⟨-, q1, rfl, q3⟩
   dsimp only at q1 q3 ⊢
   refine vck ?_
   refine vck ?_
   refine next _ _ q3 (agG _ _ _ _ (by simp) (by simp) (by simp [cm]) ?_)
   intro c hc
   simp only [List.cons_append, List.nil_append, List.mem_cons, List.not_mem_nil, or_false] at hc
   rcases hc with rfl | rfl | rfl
   ·exact f1
   ·exact h1
   ·exact q1
  ·refine vck ?_
   refine next _ _ mm3 (agG _ _ _ _ (by simp) (by simp) (by simp [cm]) ?_)
   intro c hc
   simp only [List.mem_cons, List.not_mem_nil, or_false] at hc
   rcases hc with rfl | rfl
   ·exact f1
   ·exact h1
 ·refine aD (dv _) ?_
  rintro _ ⟨-, rfl⟩
  refine aD (dv _) ?_
  rintro _ ⟨-, rfl⟩
  refine aD (dv _) ?_
  rintro _ ⟨-, rfl⟩
  refine aD (zG _ _ _ _) ?_
  rintro _ ⟨-, rfl⟩
  dsimp only
  refine aG ⟨_, _, _, _, _, _, _, _, _, rfl, rfl, ⟨agG _ _ _ _ (by simp) (by simp) (by simp [cm]) ?_, rfl, i3, i4, by simp only; omega⟩, by simp only; omega⟩
  intro c hc
  simp only [List.mem_cons, List.not_mem_nil, or_false] at hc
  rcases hc with rfl | rfl | rfl | rfl
  ·exact dW _ _ _ (by simp)
  ·exact dW _ _ _ hnm
  ·exact dW _ _ _ (by simp)
  ·exact afh _ _ _ (by omega) i7 (by decide)
theorem anR (deep : Int) (hd : 0 ≤ deep ∧ deep ≤ 4) (hT : deep ≤ 3 → anQ (deep + 1)) : anQ deep := by
 intro a n ns hp hns hl
 have hN := ad5 (deep := deep) (by omega)
 have ed : IntKind.i64.wrap (deep + 1) = deep + 1 := aJ (deep + 1) (by omega)
 apply ah9 1
 unfold ta j9
 have w8 : cm ([([105, 110, 116] : List UInt8), ([108, 111, 110, 103] : List UInt8), ([115, 116, 114, 105, 110, 103] : List UInt8), ([98, 121, 116, 101, 115] : List UInt8), ([98, 111, 111, 108, 101, 97, 110] : List UInt8), ([110, 117, 108, 108] : List UInt8), ([102, 108, 111, 97, 116] : List UInt8), ([100, 111, 117, 98, 108, 101] : List UInt8)] : List (List UInt8)) := by simp [cm]
 have two : ∀ (k n' : Int), deep ≤ 3 → fe a n' → Tot (jb 1 (deep, k, a, n', ns, 0, 0, [], [], [])) (fun z => ∃ (y0 y1 : Int) (y2 : List UInt8) (y3 : List aE) (y4 : List (List UInt8)) (y5 : List UInt8) (y6 : Int) (y7 : List (List UInt8)) (rest : List aK), z.1.dimR = .agg [.int .i64 y0, .int .i64 y1, .str y2, .sl .jnode (.may false) y3, .sl .str (.may false) y4] ∧ z.2 = some [.sl .u8 (.may false) y5, .int .i64 y6] :: some [.sl .str .own y7] :: rest ∧ eP a n ns deep (y0, y1, y2, y3, y4, y5, y6, y7)) := by
  intro k n' hd3 hp'
  have hT := hT hd3
  unfold jb
  dsimp only
  refine vck ?_
  refine vck ?_
  generalize hnm : ([78] : List UInt8) ++ [(UInt8.ofNat (Int.toNat (IntKind.wrap .u8 (IntKind.wrap .i64 (97 + (Int.tmod (↑(List.length ns) : Int) 26))))))] = nm
  have hnl : nm.length ≤ 100 := by subst hnm; simp
  have hns2 : cm (ns ++ [nm]) := by
   intro x hx
   rcases List.mem_append.1 hx with hx | hx
   ·exact hns x hx
   ·simp only [List.mem_singleton] at hx
    subst hx; exact hnl
  have hlen : (ns ++ [nm]).length = ns.length + 1 := by simp
  refine aF (fun _ => ?_) (fun _ => aF (fun _ => ?_) (fun _ => ?_))
  ·refine aD (dv _) ?_
   rintro _ ⟨-, rfl⟩
   refine aD (dv _) ?_
   rintro _ ⟨-, rfl⟩
   refine aD (dF _ _ _ hp' (by omega) (by omega)) ?_
   rintro ⟨mm, a3, n4⟩ ⟨-, mm1, mm2, rfl, mm3⟩
   dsimp only at mm1 mm2 mm3 ⊢
   refine aD (zG _ _ _ _) ?_
   rintro _ ⟨-, rfl⟩
   dsimp only
   refine aG ⟨_, _, _, _, _, _, _, _, _, rfl, rfl, agG _ _ _ _ (by simp) (by simp) (by simp [cm]) ?_, rfl, mm3, hns2, by simp only [hlen]; omega⟩
   intro c hc
   simp only [List.mem_cons, List.not_mem_nil, or_false] at hc
   rcases hc with rfl | rfl | rfl
   ·exact dW _ _ _ (by simp)
   ·exact dW _ _ _ hnl
   ·exact dW _ _ _ (by simp)
  ·refine aD (dv _) ?_
   rintro _ ⟨-, rfl⟩
   refine aD (dv _) ?_
   rintro _ ⟨-, rfl⟩
   refine aD (dv _) ?_
   rintro _ ⟨-, rfl⟩
   refine aD (dF _ _ _ hp' (by omega) (by omega)) ?_
   rintro ⟨mm, a3, n4⟩ ⟨-, mm1, mm2, rfl, mm3⟩
   dsimp only at mm1 mm2 mm3 ⊢
   have em : IntKind.i64.wrap (1 + mm) = 1 + mm := aJ (1 + mm) (by omega)
   rw [em]
   refine vck ?_
   refine aD (dv _) ?_
   rintro _ ⟨-, rfl⟩
   refine aD (dv _) ?_
   rintro _ ⟨-, rfl⟩
   refine aD (zG _ _ _ _) ?_
   rintro _ ⟨-, rfl⟩
   dsimp only
   refine aD (dF _ _ _ mm3 (by omega) (by omega)) ?_
   rintro ⟨m5, a5, n5⟩ ⟨-, m51, m52, rfl, m53⟩
   dsimp only at m51 m52 m53 ⊢
   have hsub : ∀ c ∈ (List.drop 0 (List.take (Int.toNat (1 + mm)) ([aE.mk 4 0 [88] [] [], aE.mk 4 0 [89] [] [], aE.mk 4 0 [90] [] []] : List aE))), bh c := by
    intro c hc
    rw [List.drop_zero] at hc
    have hc := List.mem_of_mem_take hc
    simp only [List.mem_cons, List.not_mem_nil, or_false] at hc
    rcases hc with rfl | rfl | rfl <;> exact dW _ _ _ (by simp)
   have hsl : (List.drop 0 (List.take (Int.toNat (1 + mm)) ([aE.mk 4 0 [88] [] [], aE.mk 4 0 [89] [] [], aE.mk 4 0 [90] [] []] : List aE))).length ≤ 8 := by
    simp only [List.length_drop, List.length_take, List.length_cons, List.length_nil]; omega
   have hsy := afh 5 0 _ hsl hsub (by decide)
   refine aF (fun _ => ?_) (fun _ => ?_)
   ·refine vck ?_
    refine aD (dv _) ?_
    rintro _ ⟨-, rfl⟩
    dsimp only
    refine vck ?_
    refine aG ⟨_, _, _, _, _, _, _, _, _, rfl, rfl, agG _ _ _ _ (by simp) (by simp) (by simp [cm]) ?_, rfl, m53, hns2, by simp only [hlen]; omega⟩
    intro c hc
    simp only [List.cons_append, List.nil_append, List.mem_cons, List.not_mem_nil, or_false] at hc
    rcases hc with rfl | rfl | rfl | rfl
    ·exact dW _ _ _ (by simp)
    ·exact dW _ _ _ hnl
    ·exact hsy
    ·exact dW _ _ _ (by simp)
   ·refine aG ⟨_, _, _, _, _, _, _, _, _, rfl, rfl, agG _ _ _ _ (by simp) (by simp) (by simp [cm]) ?_, rfl, m53, hns2, by simp only [hlen]; omega⟩
    intro c hc
    simp only [List.mem_cons, List.not_mem_nil, or_false] at hc
    rcases hc with rfl | rfl | rfl
    ·exact dW _ _ _ (by simp)
    ·exact dW _ _ _ hnl
    ·exact hsy
  ·refine aD (alo deep (by omega) hT _ _ _ _ hp' hns2 hnl ?_) ?_
   ·rw [hlen]; omega
   rintro ⟨t0, t1, t2, t3, t4, a'', n3, ns'⟩ ⟨-, ⟨h1, rfl, h3, h4, h5⟩, h6⟩
   dsimp only at h1 h3 h4 h5 h6 ⊢
   rw [hlen] at h6
   exact aG ⟨_, _, _, _, _, _, _, _, _, rfl, rfl, h1, rfl, h3, h4, by simp only; omega⟩
 have one : ∀ (k n' : Int) (b : Bool), deep ≤ 3 → fe a n' → (b = true → 0 < ns.length) → Tot (jc 1 (deep, k, b, a, n', ns, 0, 0, [], [], [])) (fun z => ∃ (y0 y1 : Int) (y2 : List UInt8) (y3 : List aE) (y4 : List (List UInt8)) (y5 : List UInt8) (y6 : Int) (y7 : List (List UInt8)) (rest : List aK), z.1.dimR = .agg [.int .i64 y0, .int .i64 y1, .str y2, .sl .jnode (.may false) y3, .sl .str (.may false) y4] ∧ z.2 = some [.sl .u8 (.may false) y5, .int .i64 y6] :: some [.sl .str .own y7] :: rest ∧ eP a n ns deep (y0, y1, y2, y3, y4, y5, y6, y7)) := by
  intro k n' b hd3 hp' hb
  unfold jc lL
  dsimp only
  refine aF (fun h1 => ?_) (fun h1 => two _ _ hd3 hp')
  have hb := hb h1
  have numTot : ∃ r, aS a n' (ns.length : Int) r := atJ _ _ _ hp' (by omega)
  refine aD numTot ?_
  rintro ⟨mm, a3, n4⟩ ⟨-, mm1, mm2, rfl, mm3⟩
  dsimp only at mm1 mm2 mm3 ⊢
  refine vck ?_
  refine aD (dv _) ?_
  rintro _ ⟨-, rfl⟩
  exact aG ⟨_, _, _, _, _, _, _, _, _, rfl, rfl, dW _ _ _ (akg hns _), rfl, mm3, hns, by simp only; omega⟩
 have zero : ∀ (k n' : Int), 0 ≤ k → (8 ≤ k → deep ≤ 3) → fe a n' → Tot (mH 1 (deep, k, a, n', ns, 0, 0, [], [], [])) (fun z => ∃ (y0 y1 : Int) (y2 : List UInt8) (y3 : List aE) (y4 : List (List UInt8)) (y5 : List UInt8) (y6 : Int) (y7 : List (List UInt8)) (rest : List aK), z.1.dimR = .agg [.int .i64 y0, .int .i64 y1, .str y2, .sl .jnode (.may false) y3, .sl .str (.may false) y4] ∧ z.2 = some [.sl .u8 (.may false) y5, .int .i64 y6] :: some [.sl .str .own y7] :: rest ∧ eP a n ns deep (y0, y1, y2, y3, y4, y5, y6, y7)) := by
  intro k n' hk hk2 hp'
  unfold mH lM
  dsimp only
  refine aF (fun h1 => ?_) (fun h1 => ?_)
  ·have h1 := of_decide_eq_true h1
   refine vck ?_
   refine aD (dv _) ?_
   rintro _ ⟨-, rfl⟩
   exact aG ⟨_, _, _, _, _, _, _, _, _, rfl, rfl, dW _ _ _ (akg w8 _), rfl, hp', hns, by simp only; omega⟩
  have hd3 := hk2 (by have := of_decide_eq_false h1; omega)
  have hT := hT hd3
  rw [ed]
  have tab : ∀ (word w2 : List UInt8), word.length ≤ 100 → w2.length ≤ 100 → ∀ (nm : List UInt8), nm.length ≤ 100 → Tot (aH (bD word) (fun r3 => aH (cX a n' ns (deep + 1)) (fun r4 =>
     aH (eK true ([nm, w2] : List (List UInt8)) true ([⟨r3.1, r3.2.1, r3.2.2.1, r3.2.2.2.1, r3.2.2.2.2⟩, ⟨r4.1, r4.2.1, r4.2.2.1, r4.2.2.2.1, r4.2.2.2.2.1⟩] : List aE)) (fun r5 =>
      some (V.agg [.int .i64 r5.1, .int .i64 r5.2.1, .str r5.2.2.1, .sl .jnode (.may r5.2.2.2.1) r5.2.2.2.2.1, .sl .str (.may r5.2.2.2.2.2.1) r5.2.2.2.2.2.2], ([some [.sl .u8 (.may false) r4.2.2.2.2.2.1, .int .i64 r4.2.2.2.2.2.2.1], some [.sl .str .own r4.2.2.2.2.2.2.2], some [.int .i64 r5.1, .int .i64 r5.2.1, .str r5.2.2.1, .sl .jnode (.may r5.2.2.2.1) r5.2.2.2.2.1, .sl .str (.may r5.2.2.2.2.2.1) r5.2.2.2.2.2.2]] : List aK)))))) (fun z => ∃ (y0 y1 : Int) (y2 : List UInt8) (y3 : List aE) (y4 : List (List UInt8)) (y5 : List UInt8) (y6 : Int) (y7 : List (List UInt8)) (rest : List aK), z.1.dimR = .agg [.int .i64 y0, .int .i64 y1, .str y2, .sl .jnode (.may false) y3, .sl .str (.may false) y4] ∧ z.2 = some [.sl .u8 (.may false) y5, .int .i64 y6] :: some [.sl .str .own y7] :: rest ∧ eP a n ns deep (y0, y1, y2, y3, y4, y5, y6, y7)) := by
   intro word w2 hw hw2 nm hnm
   refine aD (dv _) ?_
   rintro _ ⟨-, rfl⟩
   refine aD (hT _ _ _ hp' hns (by omega)) ?_
   rintro ⟨t0, t1, t2, t3, t4, a'', n3, ns'⟩ ⟨-, h1, rfl, h3, h4, h5⟩
   dsimp only at h1 h3 h4 h5 ⊢
   refine aD (zG _ _ _ _) ?_
   rintro _ ⟨-, rfl⟩
   dsimp only
   refine aG ⟨_, _, _, _, _, _, _, _, _, rfl, rfl, agG _ _ _ _ (by simp) (by simp) ?_ ?_, rfl, h3, h4, by simp only; omega⟩
   ·intro x hx
    simp only [List.mem_cons, List.not_mem_nil, or_false] at hx
    rcases hx with rfl | rfl <;> assumption
   ·intro c hc
    simp only [List.mem_cons, List.not_mem_nil, or_false] at hc
    rcases hc with rfl | rfl
    ·exact dW _ _ _ hw
    ·exact h1
  refine aF (fun _ => ?_) (fun _ => aF (fun _ => ?_) (fun _ => aF (fun _ => ?_) (fun _ => aF (fun _ => one _ _ _ hd3 hp' fun hb => ?_) (fun _ => one _ _ _ hd3 hp' fun hb => by cases hb))))
  ·exact tab _ _ (by simp) (by simp) _ (by simp)
  ·exact tab _ _ (by simp) (by simp) _ (by simp)
  ·refine aD (av5 deep (by omega) hT _ _ _ hp' hns hl) ?_
   rintro ⟨t0, t1, t2, t3, t4, a'', n3, ns'⟩ ⟨-, h1, rfl, h3, h4, h5⟩
   exact aG ⟨_, _, _, _, _, _, _, _, _, rfl, rfl, h1, rfl, h3, h4, h5⟩
  ·have := of_decide_eq_true hb
   omega
 refine aD (dF _ _ _ hp (by omega) (by omega)) ?_
 rintro ⟨m, a', n'⟩ ⟨-, m1, m2, rfl, m3⟩
 dsimp only at m1 m2 m3 ⊢
 have t8 : 0 ≤ Int.tmod m 8 ∧ Int.tmod m 8 < 8 := ⟨Int.tmod_nonneg _ m1, Int.tmod_lt_of_pos _ (by omega)⟩
 refine aF (fun h1 => zero _ _ t8.1 (fun h => by omega) m3) (fun h1 => ?_)
 have h1 := of_decide_eq_false h1
 refine aD (atK _ _) ?_
 rintro ⟨b, a2, n2⟩ ⟨-, rfl, rfl⟩
 dsimp only
 exact aF (fun _ => zero _ _ t8.1 (fun h => by omega) m3) (fun _ => zero _ _ m1 (fun _ => by omega) m3)
theorem aqR : ∀ (k : Nat) (deep : Int), deep + k = 4 → 0 ≤ deep → anQ deep
 | 0, deep, h, h1 => anR deep (by omega) (fun h' => by omega)
 | k + 1, deep, h, h1 => anR deep (by omega) (fun _ => aqR k (deep + 1) (by omega) (by omega))
theorem av6 (a : List UInt8) (n : Int) (hp : fe a n) : ∃ r, iR a n r := by
 apply aeK 1
 unfold p6 xl
 refine aD (alo 0 (by omega) (aqR 3 1 (by omega) (by omega)) _ _ _ _ hp (by simp [cm]) (by simp) (by simp [sG])) ?_
 rintro ⟨t0, t1, t2, t3, t4, a'', n3, ns'⟩ ⟨-, ⟨h1, rfl, h3, h4, h5⟩, h6⟩
 exact aG ⟨_, _, _, _, _, _, _, _, rfl, rfl, h1, rfl, h3⟩
end Go.Proofs.Ytdpajabhmmmjoaa
end
noncomputable section
namespace Go.Proofs.Ytdpajabhmmmjoaa
open Go.AM
set_option autoImplicit false
set_option linter.unusedVariables false
set_option maxRecDepth 100000
noncomputable def gY : aN := tab (P := Try.prog) [] [lw] [] [ale]
def uc : IR := Sq (Rs [Mv 15 11, Fa 16 3 6, Lq 17 16, Ll 18 17, Bi 19 .lss 15 18] (Cn 19 .skip (.exit 0))) (Sq (.block 1 (Sq (.reg [Mv 23 0, Fa 24 3 5, Lq 25 24, Fa 26 3 6, Lq 27 26, Mv 28 11, Ix 29 .jnode 27 28, Ld 30 5 true 29, Mv 31 3, Bc 32 .add 31 1, Fo [] [0] (.call 33 120 [23, 25, 30, 32]), Mv 22 33, Ex_ 34 0 22, Ex_ 35 1 22, Pp (.alr 12 5), Fz 12 5 34, Mv 13 35] [[], [], [1], [], [3], [], [3, 4, 5], rg 3 6, [], [8], rg 0 9, rg 0 10, rg 0 11, rg 0 11, [], rg 0 12 ++ [14], rg 0 15]) (Sq (Rs [Mv 36 13, Bc 37 .neq 36 0] (Cn 37 (Rs [Pp (.bld 38 [vU 0, vS, nl .aval, nl .str, vI 0] []), Mv 39 13, Sv 5 8 38, Mv 9 39] .ret) .skip)) (Rs [Fa 40 0 5, Lq 41 40, Bc 42 .eql 41 12] (Cn 42 (Rg [Fa 43 2 10, Pp (.ld 44 1 false true 43), Ld 45 5 true 12, Pp (.bsl 46 .aval [45] true), Pp (.app 47 .aval (.tk 44) 46), Fa 48 2 10, Sk 1 48 47]) (.reg [Fo [2] [] (.ld 49 5 true false 10), Fa 50 4 6, Lq 51 50, Mv 52 11, Ix 53 .str 51 52, Lq 54 53, Ld 55 5 true 12, Ca 56 61 [49, 54, 55], Fo [] [2] (.st none 5 10 56)] [[], [], [1], [], [1, 2, 3], rg 1 4, [], rg 0 6, rg 0 7])))))) (Rg [Mv 20 11, Bc 21 .add 20 1, Mv 11 21]))
def tc : IR := Rs [Pp (.ld 57 5 true false 10), Sv 5 8 57, Mi 9 0] .ret
def pu : IR := Rs [Bx 5 1, Bx 6 2, Pp (.new 8 [vU 0, vS, nl .aval, nl .str, vI 0]), Mi 9 0] (Rs [Pp (.bld 14 [vU 0, vS, nl .aval, nl .str, vI 0] []), Pp (.new 10 [vU 0, vS, nl .aval, nl .str, vI 0]), Sv 5 10 14] (Sq (Rs [Mi 11 0] (.block 0 (.loop [0, 3, 5, 6, 8, 10, 11, 1000000] 3 uc))) tc))
def kD : List RV := [.cell 8 5 true, .t 9]
theorem afi : FnC Try.prog gY [120, 2000120] 1 xe Try.f148 pu kD := fnC (by kernel_rfl) Try.func148 (by kernel_rfl) (by kernel_rfl) (by decide)
def ad6 (R : IR → (Ex → St → Ro) → St → Ro) (a : St → Ro) : Ex → St → Ro := (bz a [0, 3, 5, 6, 8, 10, 11, 1000000] 3 (aR 0 (bp (R tc) (fin kD))))
abbrev fG : Type := (Int × Int × Bs × Bss × Int × Bss × Bool × Bs × Int × List aM × List Int × Int × Int × Bs × List aE × Bss × Int × List aA × Int × Int × Bs × List aB × Bss × Int × Int × Bs × List aB × Bss × Int) ⊕ (Int × Int × Bs × Bss × Int × Bss × Bool × Bs × Int × List aM × List Int × Int × Int × Bs × List aE × Bss × Int × List aA × Int × Int × Bs × List aB × Bss × Int × Int × Bs × List aB × Bss × Int)
def abr : (Int × Int × Bs × Bss × Int × Bss × Bool × Bs × Int × List aM × List Int × Int × Int × Bs × List aE × Bss × Int × List aA × Int × Int × Bs × List aB × Bss × Int × Int × Bs × List aB × Bss × Int) → St := fun (t, u, v, w, x, y, z, x7, x8, x9, a, b, c, d, e, f, g, h, i, j, k, l, m, n, o, p, q, r, s) => { env := (.ptr 0 0 :: .undef :: .undef :: .int .i64 t :: .undef :: .ea [.int .i64 u, .str v, .sl .str (.may false) w, .int .i64 x, .sl .str (.may false) y, .bool z, .str x7, .int .i64 x8, .sl .afield (.may false) x9, .sl (.num .i64) (.may false) a] :: .ea [.int .i64 b, .int .i64 c, .str d, .sl .jnode (.may false) e, .sl .str (.may false) f] :: .undef :: .ptr 1 0 :: .undef :: .ptr 2 0 :: .int .i64 g :: (U 46 [])), hp := [some [.sl .atype (.may false) h, .int .i64 i], some [.int .u64 j, .str k, .sl .aval .own l, .sl .str .own m, .int .i64 n], some [.int .u64 o, .str p, .sl .aval .own q, .sl .str .own r, .int .i64 s]] }
def abt : (Int × Int × Bs × Bss × Int × Bss × Bool × Bs × Int × List aM × List Int × Int × Int × Bs × List aE × Bss × Int × List aA × Int × Int × Bs × List aB × Bss × Int × Int × Bs × List aB × Bss × Int) → St := fun (t, u, v, w, x, y, z, x7, x8, x9, a, b, c, d, e, f, g, h, i, j, k, l, m, n, o, p, q, r, s) => { env := (.ptr 0 0 :: .undef :: .undef :: .int .i64 t :: .undef :: .ea [.int .i64 u, .str v, .sl .str (.may false) w, .int .i64 x, .sl .str (.may false) y, .bool z, .str x7, .int .i64 x8, .sl .afield (.may false) x9, .sl (.num .i64) (.may false) a] :: .ea [.int .i64 b, .int .i64 c, .str d, .sl .jnode (.may false) e, .sl .str (.may false) f] :: .undef :: .ptr 1 0 :: .undef :: .ptr 2 0 :: .int .i64 g :: (U 46 [])), hp := [some [.sl .atype (.may false) h, .int .i64 i], some [.int .u64 j, .str k, .sl .aval .own l, .sl .str .own m, .int .i64 n], some [.int .u64 o, .str p, .sl .aval (.may false) q, .sl .str (.may false) r, .int .i64 s]] }
def eZ : fG → St
 | (Sum.inl x) => abr x
 | (Sum.inr x) => abt x
def n7 (N : Nat) : (St → Ro) → St → Ro := fun a s => run gY N uc (ad6 (run gY N) a) s
def fH (N : Nat) (m : fG → Ro) (x : fG) : Ro :=
 match x with
 | (Sum.inl (v3, j, q, r, k, t, u, v, w, y, z, aa, ab, ac, a, h, b, o, p, ad, ae, af, ag, ah, d, e, c, f, g)) =>
   let x1 : Int := (↑(List.length a) : Int)
   cond (decide (b < x1)) (
    chk (decide (0 ≤ b) && decide (b < ↑(List.length a))) (
     let x2 : Int := (List.getD a (Int.toNat b) (aC .jnode)).kind
     let x3 : Int := (List.getD a (Int.toNat b) (aC .jnode)).n
     let x4 : Bs := (List.getD a (Int.toNat b) (aC .jnode)).s
     let x5 : List aE := (List.getD a (Int.toNat b) (aC .jnode)).l
     let x6 : Bss := (List.getD a (Int.toNat b) (aC .jnode)).names
     let x7 : Int := (IntKind.wrap .i64 (v3 + 1))
     aH (ce o p k x2 x3 x4 x5 x6 x7) (fun i =>
      cond (!(i.2.2.2.2.2.1 == 0)) (
       some (.tup [.agg [.int .u64 0, .str ([] : Bs), .sl .aval (.may false) ([] : List aB), .sl .str (.may false) ([] : Bss), .int .i64 0], .int .i64 i.2.2.2.2.2.1], [some [.sl .atype (.may false) i.2.2.2.2.2.2.1, .int .i64 i.2.2.2.2.2.2.2], some [.int .u64 0, .str ([] : Bs), .sl .aval .own ([] : List aB), .sl .str .own ([] : Bss), .int .i64 0], some [.int .u64 d, .str e, .sl .aval .own c, .sl .str .own f, .int .i64 g]])) (
       cond (j == 12) (
        chk (decide ((List.length c + List.length ([⟨i.1, i.2.1, i.2.2.1, i.2.2.2.1, i.2.2.2.2.1⟩] : List aB)) * 80 ≤ 140737488355328)) (
         let x8 : List aB := (c ++ ([⟨i.1, i.2.1, i.2.2.1, i.2.2.2.1, i.2.2.2.2.1⟩] : List aB))
         let x9 : Int := (IntKind.wrap .i64 (b + 1))
         m (Sum.inl (v3, j, q, r, k, t, u, v, w, y, z, aa, ab, ac, a, h, x9, i.2.2.2.2.2.2.1, i.2.2.2.2.2.2.2, ad, ae, af, ag, ah, d, e, x8, f, g)))) (
        chk (decide (0 ≤ b) && decide (b < ↑(List.length h))) (
         let am : Bs := List.getD h (Int.toNat b) (aC .str)
         aH (jA d e c f g am i.1 i.2.1 i.2.2.1 i.2.2.2.1 i.2.2.2.2.1) (fun r2 =>
          let an : Int := (IntKind.wrap .i64 (b + 1))
          m (Sum.inr (v3, j, q, r, k, t, u, v, w, y, z, aa, ab, ac, a, h, an, i.2.2.2.2.2.2.1, i.2.2.2.2.2.2.2, ad, ae, af, ag, ah, r2.1, r2.2.1, r2.2.2.1, r2.2.2.2.1, r2.2.2.2.2))))))))) (
    some (.tup [.agg [.int .u64 d, .str e, .sl .aval (.may false) c, .sl .str (.may false) f, .int .i64 g], .int .i64 0], [some [.sl .atype (.may false) o, .int .i64 p], some [.int .u64 d, .str e, .sl .aval (.may false) c, .sl .str (.may false) f, .int .i64 g], some [.int .u64 d, .str e, .sl .aval .own c, .sl .str .own f, .int .i64 g]]))
 | (Sum.inr (v3, j, q, r, k, t, u, v, w, y, z, aa, ab, ac, a, h, b, o, p, ad, ae, af, ag, ah, d, e, c, f, g)) =>
   let ao : Int := (↑(List.length a) : Int)
   cond (decide (b < ao)) (
    chk (decide (0 ≤ b) && decide (b < ↑(List.length a))) (
     let ap : Int := (List.getD a (Int.toNat b) (aC .jnode)).kind
     let aq : Int := (List.getD a (Int.toNat b) (aC .jnode)).n
     let ar : Bs := (List.getD a (Int.toNat b) (aC .jnode)).s
     let au : List aE := (List.getD a (Int.toNat b) (aC .jnode)).l
     let av : Bss := (List.getD a (Int.toNat b) (aC .jnode)).names
     let aw : Int := (IntKind.wrap .i64 (v3 + 1))
     aH (ce o p k ap aq ar au av aw) (fun r3 =>
      cond (!(r3.2.2.2.2.2.1 == 0)) (
       some (.tup [.agg [.int .u64 0, .str ([] : Bs), .sl .aval (.may false) ([] : List aB), .sl .str (.may false) ([] : Bss), .int .i64 0], .int .i64 r3.2.2.2.2.2.1], [some [.sl .atype (.may false) r3.2.2.2.2.2.2.1, .int .i64 r3.2.2.2.2.2.2.2], some [.int .u64 0, .str ([] : Bs), .sl .aval .own ([] : List aB), .sl .str .own ([] : Bss), .int .i64 0], some [.int .u64 d, .str e, .sl .aval (.may false) c, .sl .str (.may false) f, .int .i64 g]])) (
       cond (j == 12) (
        none) (
        chk (decide (0 ≤ b) && decide (b < ↑(List.length h))) (
         let ax : Bs := List.getD h (Int.toNat b) (aC .str)
         aH (jA d e c f g ax r3.1 r3.2.1 r3.2.2.1 r3.2.2.2.1 r3.2.2.2.2.1) (fun r4 =>
          let ay : Int := (IntKind.wrap .i64 (b + 1))
          m (Sum.inr (v3, j, q, r, k, t, u, v, w, y, z, aa, ab, ac, a, h, ay, r3.2.2.2.2.2.2.1, r3.2.2.2.2.2.2.2, ad, ae, af, ag, ah, r4.1, r4.2.1, r4.2.2.1, r4.2.2.2.1, r4.2.2.2.2))))))))) (
    some (.tup [.agg [.int .u64 d, .str e, .sl .aval (.may false) c, .sl .str (.may false) f, .int .i64 g], .int .i64 0], [some [.sl .atype (.may false) o, .int .i64 p], some [.int .u64 d, .str e, .sl .aval (.may false) c, .sl .str (.may false) f, .int .i64 g], some [.int .u64 d, .str e, .sl .aval (.may false) c, .sl .str (.may false) f, .int .i64 g]]))
theorem acS (N : Nat) : ∀ (a : St → Ro) (x : fG), n7 N a (eZ x) = fH N (fun y => a (eZ y)) x := by
 intro a x
 rcases x with x | x <;> kernel_rfl
def gj (N : Nat) (a : List aA) (b c : Int) (d : Bs) (e : Bss) (f : Int) (g : Bss) (h : Bool) (i : Bs) (j : Int) (k : List aM) (l : List Int) (m n : Int) (o : Bs) (p : List aE) (q : Bss) (r : Int) (s : fG → Ro) : Ro :=
 s (Sum.inl (r, c, d, e, f, g, h, i, j, k, l, m, n, o, p, q, 0, a, b, 0, ([] : Bs), ([] : List aB), ([] : Bss), 0, 0, ([] : Bs), ([] : List aB), ([] : Bss), 0))
def pv (N : Nat) (a : List aA) (b c : Int) (d : Bs) (e : Bss) (f : Int) (g : Bss) (h : Bool) (i : Bs) (j : Int) (k : List aM) (l : List Int) (m n : Int) (o : Bs) (p : List aE) (q : Bss) (r : Int) : Ro := gj N a b c d e f g h i j k l m n o p q r (fun z => aQ N (fH N) z)
def agH (N : Nat) : List (Nat × (St → Ro)) := ba gY N pu (fin kD) ++ []
theorem ad7 (N : Nat) (a : List aA) (c d : Int) (e : Bs) (f : Bss) (g : Int) (h : Bss) (i : Bool) (j : Bs) (k : Int) (l : List aM) (m : List Int) (n o : Int) (p : Bs) (q : List aE) (r : Bss) (s : Int) : aW gY N 58 kD pu [.ptr 0 0, .agg [.int .i64 d, .str e, .sl .str (.may false) f, .int .i64 g, .sl .str (.may false) h, .bool i, .str j, .int .i64 k, .sl .afield (.may false) l, .sl (.num .i64) (.may false) m], .agg [.int .i64 n, .int .i64 o, .str p, .sl .jnode (.may false) q, .sl .str (.may false) r], .int .i64 s] [some [.sl .atype (.may false) a, .int .i64 c]] = pv N a c d e f g h i j k l m n o p q r s :=
 (bL (agH N) (by kernel_rfl) rfl (fun C => gj N a c d e f g h i j k l m n o p q r s (fun z => C 1000000 (eZ z))) (fun C => by kernel_rfl)).trans (Eq.trans (b := gj N a c d e f g h i j k l m n o p q r s (fun z => bg N (n7 N) (eZ z))) (by kernel_rfl) (congrArg (gj N a c d e f g h i j k l m n o p q r s) (funext fun z => bc (eZ) (n7 N) (fH N) (acS N) N z)))
theorem ad8 (N : Nat) (a : List aA) (b c : Int) (d : Bs) (e : Bss) (f : Int) (g : Bss) (i : Bool) (j : Bs) (k : Int) (l : List aM) (m : List Int) (n o : Int) (p : Bs) (q : List aE) (s : Bss) (w : Int) (h : Tot (pv N a b c d e f g i j k l m n o p q s w) (fun z => ∃ (x : Int) (y : Bs) (y2 : List aB) (y3 : Bss) (y4 : Int) (y5 : Int) (t : List aA) (u : Int) (rest : List aK), z.1.dimR = .tup [.agg [.int .u64 x, .str y, .sl .aval (.may false) y2, .sl .str (.may false) y3, .int .i64 y4], .int .i64 y5] ∧ z.2 = some [.sl .atype (.may false) t, .int .i64 u] :: rest ∧ tX a b c d e f g i j k l m n o p q s w (x, y, y2, y3, y4, y5, t, u))) : ∃ r, gA a b c d e f g i j k l m n o p q s w r := by
 obtain ⟨⟨v, hp⟩, hz, x, y, y2, y3, y4, y5, t, u, rest, e1, e2, hq⟩ := h
 simp only at e1 e2
 subst e2
 exact ⟨(x, y, y2, y3, y4, y5, t, u), bk.dimR (FnC.objs (css := [[.sl .atype (.may false) a, .int .i64 b]]) (css' := [[.sl .atype (.may false) t, .int .i64 u]]) afi (ad7 N a b c d e f g i j k l m n o p q s w) hz rfl) e1, hq⟩
noncomputable def gl : aN := tab (P := Try.prog) [] [lw] [] [pZ]
def rY : IR := Sq (Rs [Mv 18 11, Fa 19 8 5, Lq 20 19, Ll 21 20, Bi 22 .lss 18 21] (Cn 22 .skip (.exit 0))) (Sq (.block 1 (Rs [Fa 25 8 5, Lq 26 25, Mv 27 11, Ix 28 .afield 26 27, Ld 29 9 true 28, Pp (.alr 12 9), Fz 12 9 29] (Rs [Ld 31 5 true 6, Fa 32 0 12, Lq 33 32, Ca 34 113 [31, 33], Mv 30 34, Ex_ 35 0 30, Ex_ 36 1 30, Pp (.new 13 [vI 0, vI 0, vS, nl .jnode, nl .str]), Sv 5 13 35, Mv 14 36] (Sq (Rs [Mv 37 14, Un 38 37] (Cn 38 (Sq (Rs [Fa 39 3 12, Lq 40 39, Un 41 40] (Cn 41 (Rs [Pp (.bld 42 [vU 0, vS, nl .aval, nl .str, vI 0] []), Sv 5 8 42, Mi 9 7] .ret) .skip)) (Rg [Fa 43 4 12, Ld 44 5 true 43, Sv 5 13 44])) .skip)) (Rs [Mv 46 0, Fa 47 2 12, Lq 48 47, Pp (.ld 49 5 true false 13), Mv 50 3, Bc 51 .add 50 1, Ca 52 120 [46, 48, 49, 51], Mv 45 52, Ex_ 53 0 45, Ex_ 54 1 45, Pp (.alr 15 5), Fz 15 5 53, Mv 16 54] (Sq (Rs [Mv 55 16, Bc 56 .neq 55 0] (Cn 56 (Rs [Pp (.bld 57 [vU 0, vS, nl .aval, nl .str, vI 0] []), Mv 58 16, Sv 5 8 57, Mv 9 58] .ret) .skip)) (Rg [Fa 59 2 10, Pp (.ld 60 1 false true 59), Ld 61 5 true 15, Pp (.bsl 62 .aval [61] true), Pp (.app 63 .aval (.tk 60) 62), Fa 64 2 10, Sk 1 64 63]))))))) (Rg [Mv 23 11, Bc 24 .add 23 1, Mv 11 24]))
def rZ : IR := Rs [Pp (.ld 65 5 true false 10), Sv 5 8 65, Mi 9 0] .ret
def n8 : IR := Rs [Bx 5 1, Bx 6 2, Pp (.new 8 [vU 0, vS, nl .aval, nl .str, vI 0]), Mi 9 0] (Rs [Pp (.bld 17 [vU 0, vS, nl .aval, nl .str, vI 0] []), Pp (.new 10 [vU 0, vS, nl .aval, nl .str, vI 0]), Sv 5 10 17] (Sq (Rs [Mi 11 0] (.block 0 (.loop [0, 3, 5, 6, 8, 10, 11, 1000000] 3 rY))) rZ))
def jR : List RV := [.cell 8 5 true, .t 9]
theorem ad9 : FnC Try.prog gl [120, 2000120] 1 wu Try.f149 n8 jR := fnC (by kernel_rfl) Try.func149 (by kernel_rfl) (by kernel_rfl) (by decide)
def acT (R : IR → (Ex → St → Ro) → St → Ro) (a : St → Ro) : Ex → St → Ro := (bz a [0, 3, 5, 6, 8, 10, 11, 1000000] 3 (aR 0 (bp (R rZ) (fin jR))))
abbrev fa : Type := (Int × Int × Bs × Bss × Int × Bss × Bool × Bs × Int × List aM × List Int × Int × Int × Bs × List aE × Bss × Int × List aA × Int × Int × Bs × List aB × Bss × Int × Int × Bs × List aB × Bss × Int)
def eM : fa → St := fun (t, u, v, w, x, y, z, x7, x8, x9, a, b, c, d, e, f, g, h, i, j, k, l, m, n, o, p, q, r, s) => { env := (.ptr 0 0 :: .undef :: .undef :: .int .i64 t :: .undef :: .ea [.int .i64 u, .str v, .sl .str (.may false) w, .int .i64 x, .sl .str (.may false) y, .bool z, .str x7, .int .i64 x8, .sl .afield (.may false) x9, .sl (.num .i64) (.may false) a] :: .ea [.int .i64 b, .int .i64 c, .str d, .sl .jnode (.may false) e, .sl .str (.may false) f] :: .undef :: .ptr 1 0 :: .undef :: .ptr 2 0 :: .int .i64 g :: (U 54 [])), hp := [some [.sl .atype (.may false) h, .int .i64 i], some [.int .u64 j, .str k, .sl .aval .own l, .sl .str .own m, .int .i64 n], some [.int .u64 o, .str p, .sl .aval .own q, .sl .str .own r, .int .i64 s]] }
def mP (N : Nat) : (St → Ro) → St → Ro := fun a s => run gl N rY (acT (run gl N) a) s
def iJ (N : Nat) (k : fa → Ro) : fa → Ro := fun (v3, v, w, x, y, z, aa, ab, ac, a, ad, p, q, r, t, u, c, m, o, ae, af, ag, ah, ai, d, e, b, f, g) =>
 let x1 : Int := (↑(List.length a) : Int)
 cond (decide (c < x1)) (
 chk (decide (0 ≤ c) && decide (c < ↑(List.length a))) (
 let x2 : Bs := (List.getD a (Int.toNat c) (aC .afield)).name
 let x4 : Int := (List.getD a (Int.toNat c) (aC .afield)).typ
 let x5 : Bool := (List.getD a (Int.toNat c) (aC .afield)).hasdef
 let x6 : Int := (List.getD a (Int.toNat c) (aC .afield)).df.kind
 let x7 : Int := (List.getD a (Int.toNat c) (aC .afield)).df.n
 let x8 : Bs := (List.getD a (Int.toNat c) (aC .afield)).df.s
 let x9 : List aE := (List.getD a (Int.toNat c) (aC .afield)).df.l
 let aj : Bss := (List.getD a (Int.toNat c) (aC .afield)).df.names
 aH (cT p q r t u x2) (fun h =>
 cond (!h.2.2.2.2.2) (
 cond (!x5) (
 some (.tup [.agg [.int .u64 0, .str ([] : Bs), .sl .aval (.may false) ([] : List aB), .sl .str (.may false) ([] : Bss), .int .i64 0], .int .i64 7], [some [.sl .atype (.may false) m, .int .i64 o], some [.int .u64 0, .str ([] : Bs), .sl .aval .own ([] : List aB), .sl .str .own ([] : Bss), .int .i64 0], some [.int .u64 d, .str e, .sl .aval .own b, .sl .str .own f, .int .i64 g], some [.int .i64 h.1, .int .i64 h.2.1, .str h.2.2.1, .sl .jnode (.may false) h.2.2.2.1, .sl .str (.may false) h.2.2.2.2.1]])) (
 let al : Int := (IntKind.wrap .i64 (v3 + 1))
 aH (ce m o x4 x6 x7 x8 x9 aj al) (fun i =>
 cond (!(i.2.2.2.2.2.1 == 0)) (
 some (.tup [.agg [.int .u64 0, .str ([] : Bs), .sl .aval (.may false) ([] : List aB), .sl .str (.may false) ([] : Bss), .int .i64 0], .int .i64 i.2.2.2.2.2.1], [some [.sl .atype (.may false) i.2.2.2.2.2.2.1, .int .i64 i.2.2.2.2.2.2.2], some [.int .u64 0, .str ([] : Bs), .sl .aval .own ([] : List aB), .sl .str .own ([] : Bss), .int .i64 0], some [.int .u64 d, .str e, .sl .aval .own b, .sl .str .own f, .int .i64 g], some [.int .i64 x6, .int .i64 x7, .str x8, .sl .jnode (.may false) x9, .sl .str (.may false) aj]])) (
 chk (decide ((List.length b + List.length ([⟨i.1, i.2.1, i.2.2.1, i.2.2.2.1, i.2.2.2.2.1⟩] : List aB)) * 80 ≤ 140737488355328)) (
 let am : List aB := (b ++ ([⟨i.1, i.2.1, i.2.2.1, i.2.2.2.1, i.2.2.2.2.1⟩] : List aB))
 let an : Int := (IntKind.wrap .i64 (c + 1))
 k (v3, v, w, x, y, z, aa, ab, ac, a, ad, p, q, r, t, u, an, i.2.2.2.2.2.2.1, i.2.2.2.2.2.2.2, ae, af, ag, ah, ai, d, e, am, f, g)))))) (
 let ao : Int := (IntKind.wrap .i64 (v3 + 1))
 aH (ce m o x4 h.1 h.2.1 h.2.2.1 h.2.2.2.1 h.2.2.2.2.1 ao) (fun j =>
 cond (!(j.2.2.2.2.2.1 == 0)) (
 some (.tup [.agg [.int .u64 0, .str ([] : Bs), .sl .aval (.may false) ([] : List aB), .sl .str (.may false) ([] : Bss), .int .i64 0], .int .i64 j.2.2.2.2.2.1], [some [.sl .atype (.may false) j.2.2.2.2.2.2.1, .int .i64 j.2.2.2.2.2.2.2], some [.int .u64 0, .str ([] : Bs), .sl .aval .own ([] : List aB), .sl .str .own ([] : Bss), .int .i64 0], some [.int .u64 d, .str e, .sl .aval .own b, .sl .str .own f, .int .i64 g], some [.int .i64 h.1, .int .i64 h.2.1, .str h.2.2.1, .sl .jnode (.may false) h.2.2.2.1, .sl .str (.may false) h.2.2.2.2.1]])) (
 chk (decide ((List.length b + List.length ([⟨j.1, j.2.1, j.2.2.1, j.2.2.2.1, j.2.2.2.2.1⟩] : List aB)) * 80 ≤ 140737488355328)) (
 let ap : List aB := (b ++ ([⟨j.1, j.2.1, j.2.2.1, j.2.2.2.1, j.2.2.2.2.1⟩] : List aB))
 let aq : Int := (IntKind.wrap .i64 (c + 1))
 k (v3, v, w, x, y, z, aa, ab, ac, a, ad, p, q, r, t, u, aq, j.2.2.2.2.2.2.1, j.2.2.2.2.2.2.2, ae, af, ag, ah, ai, d, e, ap, f, g)))))))) (
 some (.tup [.agg [.int .u64 d, .str e, .sl .aval (.may false) b, .sl .str (.may false) f, .int .i64 g], .int .i64 0], [some [.sl .atype (.may false) m, .int .i64 o], some [.int .u64 d, .str e, .sl .aval (.may false) b, .sl .str (.may false) f, .int .i64 g], some [.int .u64 d, .str e, .sl .aval .own b, .sl .str .own f, .int .i64 g]]))
theorem acg (N : Nat) : ∀ (a : St → Ro) (x : fa), mP N a (eM x) = iJ N (fun y => a (eM y)) x := by
 intro a x
 kernel_rfl
def fI (N : Nat) (a : List aA) (b c : Int) (d : Bs) (e : Bss) (f : Int) (g : Bss) (h : Bool) (i : Bs) (j : Int) (k : List aM) (l : List Int) (m n : Int) (o : Bs) (p : List aE) (q : Bss) (r : Int) (s : fa → Ro) : Ro :=
 s (r, c, d, e, f, g, h, i, j, k, l, m, n, o, p, q, 0, a, b, 0, ([] : Bs), ([] : List aB), ([] : Bss), 0, 0, ([] : Bs), ([] : List aB), ([] : Bss), 0)
def n9 (N : Nat) (a : List aA) (b c : Int) (d : Bs) (e : Bss) (f : Int) (g : Bss) (h : Bool) (i : Bs) (j : Int) (k : List aM) (l : List Int) (m n : Int) (o : Bs) (p : List aE) (q : Bss) (r : Int) : Ro := fI N a b c d e f g h i j k l m n o p q r (fun z => aQ N (iJ N) z)
def afj (N : Nat) : List (Nat × (St → Ro)) := ba gl N n8 (fin jR) ++ []
theorem acU (N : Nat) (a : List aA) (c d : Int) (e : Bs) (f : Bss) (g : Int) (h : Bss) (i : Bool) (j : Bs) (k : Int) (l : List aM) (m : List Int) (n o : Int) (p : Bs) (q : List aE) (r : Bss) (s : Int) : aW gl N 66 jR n8 [.ptr 0 0, .agg [.int .i64 d, .str e, .sl .str (.may false) f, .int .i64 g, .sl .str (.may false) h, .bool i, .str j, .int .i64 k, .sl .afield (.may false) l, .sl (.num .i64) (.may false) m], .agg [.int .i64 n, .int .i64 o, .str p, .sl .jnode (.may false) q, .sl .str (.may false) r], .int .i64 s] [some [.sl .atype (.may false) a, .int .i64 c]] = n9 N a c d e f g h i j k l m n o p q r s :=
 (bL (afj N) (by kernel_rfl) rfl (fun C => fI N a c d e f g h i j k l m n o p q r s (fun z => C 1000000 (eM z))) (fun C => by kernel_rfl)).trans (Eq.trans (b := fI N a c d e f g h i j k l m n o p q r s (fun z => bg N (mP N) (eM z))) (by kernel_rfl) (congrArg (fI N a c d e f g h i j k l m n o p q r s) (funext fun z => bc (eM) (mP N) (iJ N) (acg N) N z)))
theorem acV (N : Nat) (a : List aA) (b c : Int) (d : Bs) (e : Bss) (f : Int) (g : Bss) (i : Bool) (j : Bs) (k : Int) (l : List aM) (m : List Int) (n o : Int) (p : Bs) (q : List aE) (s : Bss) (w : Int) (h : Tot (n9 N a b c d e f g i j k l m n o p q s w) (fun z => ∃ (x : Int) (y : Bs) (y2 : List aB) (y3 : Bss) (y4 : Int) (y5 : Int) (t : List aA) (u : Int) (rest : List aK), z.1.dimR = .tup [.agg [.int .u64 x, .str y, .sl .aval (.may false) y2, .sl .str (.may false) y3, .int .i64 y4], .int .i64 y5] ∧ z.2 = some [.sl .atype (.may false) t, .int .i64 u] :: rest ∧ sH a b c d e f g i j k l m n o p q s w (x, y, y2, y3, y4, y5, t, u))) : ∃ r, fX a b c d e f g i j k l m n o p q s w r := by
 obtain ⟨⟨v, hp⟩, hz, x, y, y2, y3, y4, y5, t, u, rest, e1, e2, hq⟩ := h
 simp only at e1 e2
 subst e2
 exact ⟨(x, y, y2, y3, y4, y5, t, u), bk.dimR (FnC.objs (css := [[.sl .atype (.may false) a, .int .i64 b]]) (css' := [[.sl .atype (.may false) t, .int .i64 u]]) ad9 (acU N a b c d e f g i j k l m n o p q s w) hz rfl) e1, hq⟩
noncomputable def aO : aN := tab (P := Try.prog) [] [lw, aga, aeG] [] [ath, ary, auI]
def iK : IR := Cn 68 .skip (Rg [Fa 85 0 10, Lq 86 85, Bc 87 .eql 86 4, Mv 88 87, Gt 88 (.mov 89 11), Pa 90 88 89, Mv 68 90])
def td : IR := Cn 162 (Rs [Mv 163 12, Pp (.bld 164 [vU 0, vS, nl .aval, nl .str, vI 0] [(1, 1, 163)]), Sv 5 8 164, Mi 9 0] .ret) .skip
def te : IR := Sq (Rs [Mv 174 14, Fa 175 4 10, Lq 176 175, Ll 177 176, Bi 178 .lss 174 177] (Cn 178 .skip (.exit 1))) (Sq (.block 2 (Sq (.reg [Fa 181 4 10, Lq 182 181, Mv 183 14, Ix 184 .str 182 183, Lq 185 184, Fa 186 2 6, Lq 187 186, Bi 188 .eql 185 187] [[], [0], [], [0, 1, 2], rg 0 3, [], [5], rg 0 6]) (Cn 188 (Rs [Mv 189 14, Pp (.cvi 190 .u64 189), Pp (.bld 191 [vU 0, vS, nl .aval, nl .str, vI 0] [(0, 1, 190)]), Sv 5 8 191, Mi 9 0] .ret) .skip))) (Rg [Mv 179 14, Bc 180 .add 179 1, Mv 14 180]))
def tf : IR := Cn 192 (Rs [Mv 209 0, Ld 210 10 true 10, Ld 211 5 true 6, Mv 212 3, Ca 213 148 [209, 210, 211, 212], Ex_ 214 0 213, Ex_ 215 1 213, Sv 5 8 214, Mv 9 215] .ret) (Rs [Fa 217 0 10, Lq 218 217, Bc 219 .eql 218 9, Mv 220 219, Gt 220 (.fad 221 0 6), Gt 220 (.lde 222 1 false 221), Gt 220 (.bin 223 .eql 222 (kI 6)), Pa 224 220 223, Mv 216 224] (Cn 216 (Rs [Mv 225 0, Ld 226 10 true 10, Ld 227 5 true 6, Mv 228 3, Ca 229 149 [225, 226, 227, 228], Ex_ 230 0 229, Ex_ 231 1 229, Sv 5 8 230, Mv 9 231] .ret) (Rs [Fa 233 0 10, Lq 234 233, Bc 235 .eql 234 14, Mv 232 235] (Cn 232 (Sq (.reg [Mv 237 0, Fa 238 9 10, Lq 239 238, Pp (.ixa 240 (.num .i64) 239 (kI 0)), Lq 241 240, Ld 242 5 true 6, Mv 243 3, Bc 244 .add 243 1, Fo [] [0] (.call 245 120 [237, 241, 242, 244]), Mv 236 245, Ex_ 246 0 236, Ex_ 247 1 236, Pp (.alr 15 5), Fz 15 5 246, Mv 16 247] [[], [], [1], [1, 2], [1, 2, 3], [], [], [6], rg 0 7, rg 0 8, rg 0 9, rg 0 9, [], rg 0 10 ++ [12], rg 0 13]) (Rs [Ld 248 5 true 15, Pp (.bsl 249 .aval [248] true), Pp (.bld 250 [vU 0, vS, nl .aval, nl .str, vI 0] [(2, 1, 249)]), Mv 251 16, Sv 5 8 250, Mv 9 251] .ret)) .skip))))
def gZ : IR := Cn 130 (Rs [Fa 145 2 6, Lq 146 145, Ca 147 147 [146], Mv 144 147, Ex_ 148 0 144, Ex_ 149 1 144, Mv 12 148, Mv 13 149] (Rs [Mv 150 13, Mv 151 150, Gt 151 (.fad 152 0 10), Gt 151 (.lde 153 1 false 152), Gt 151 (.bin 154 .eql 153 (kI 7)), Gt 151 (.mov 155 154), Gf 155 (.mov 156 12), Gf 155 (.lens 157 156), Gf 155 (.fad 158 7 10), Gf 155 (.lde 159 1 false 158), Gf 155 (.bin 160 .eql 157 159), Gt 151 (.pick 161 155 (kB true) 160), Pa 162 151 161] (.cut [8, 12, 162, 1000001] 2 td))) (Rs [Fa 166 0 10, Lq 167 166, Bc 168 .eql 167 10, Mv 169 168, Gt 169 (.fad 170 0 6), Gt 169 (.lde 171 1 false 170), Gt 169 (.bin 172 .eql 171 (kI 4)), Pa 173 169 172, Mv 165 173] (Cn 165 (Rs [Mi 14 0] (.block 1 (.loop [6, 8, 10, 14, 1000002] 2 te))) (Sq (Rs [Fa 193 0 10, Lq 194 193, Bc 195 .eql 194 12, Mv 196 195, Gt 196 (.fad 197 0 6), Gt 196 (.lde 198 1 false 197), Gt 196 (.bin 199 .eql 198 (kI 5)), Pa 200 196 199, Mv 192 200] (Cn 192 .skip (Rg [Fa 201 0 10, Lq 202 201, Bc 203 .eql 202 13, Mv 204 203, Gt 204 (.fad 205 0 6), Gt 204 (.lde 206 1 false 205), Gt 204 (.bin 207 .eql 206 (kI 6)), Pa 208 204 207, Mv 192 208]))) (.cut [0, 3, 6, 8, 10, 192, 1000003] 2 tf))))
def hH : IR := Cn 68 (Rs [Fa 91 1 6, Lq 92 91, Pp (.cvi 93 .u64 92), Pp (.bld 94 [vU 0, vS, nl .aval, nl .str, vI 0] [(0, 1, 93)]), Sv 5 8 94, Mi 9 0] .ret) (Rs [Fa 96 0 10, Lq 97 96, Bc 98 .eql 97 5, Mv 99 98, Gt 99 (.mov 100 11), Pa 101 99 100, Mv 95 101] (Cn 95 (Rs [Fa 102 1 6, Lq 103 102, Ca 104 132 [103], Pp (.cvi 105 .u64 104), Pp (.bld 106 [vU 0, vS, nl .aval, nl .str, vI 0] [(0, 1, 105)]), Sv 5 8 106, Mi 9 0] .ret) (Rs [Fa 108 0 10, Lq 109 108, Bc 110 .eql 109 6, Mv 111 110, Gt 111 (.mov 112 11), Pa 113 111 112, Mv 107 113] (Cn 107 (Rs [Fa 114 1 6, Lq 115 114, Ca 116 133 [115], Pp (.bld 117 [vU 0, vS, nl .aval, nl .str, vI 0] [(0, 1, 116)]), Sv 5 8 117, Mi 9 0] .ret) (Rs [Fa 119 0 10, Lq 120 119, Bc 121 .eql 120 8, Mv 122 121, Gt 122 (.fad 123 0 6), Gt 122 (.lde 124 1 false 123), Gt 122 (.bin 125 .eql 124 (kI 4)), Pa 126 122 125, Mv 118 126] (Cn 118 (Rs [Fa 127 2 6, Lq 128 127, Pp (.bld 129 [vU 0, vS, nl .aval, nl .str, vI 0] [(1, 1, 128)]), Sv 5 8 129, Mi 9 0] .ret) (Rs [Fa 131 0 10, Lq 132 131, Bc 133 .eql 132 7, Mv 134 133, Gf 134 (.fad 135 0 10), Gf 134 (.lde 136 1 false 135), Gf 134 (.bin 137 .eql 136 (kI 11)), Po 138 134 137, Mv 139 138, Gt 139 (.fad 140 0 6), Gt 139 (.lde 141 1 false 140), Gt 139 (.bin 142 .eql 141 (kI 4)), Pa 143 139 142, Mv 130 143] (.cut [0, 3, 6, 8, 10, 130, 1000004] 2 gZ))))))))
def mg : IR := .cut [0, 3, 6, 8, 10, 11, 68, 1000005] 2 hH
def cS : IR := Rs [Pp (.bld 252 [vU 0, vS, nl .aval, nl .str, vI 0] []), Sv 5 8 252, Mi 9 7] .ret
def pw : IR := Rs [Bx 6 2, Pp (.new 8 [vU 0, vS, nl .aval, nl .str, vI 0]), Mi 9 0] (Rs [Mv 17 0, Nk 18 17, Fa 19 1 18, Lo 20 19, Bc 21 .add 20 1, Nk 22 17, Fa 23 1 22, Sv 1 23 21] (Sq (Rs [Mv 24 3, Bc 25 .gtr 24 20, Mv 26 25, Gf 26 (.mov 27 0), Gf 26 (.nck 28 27), Gf 26 (.fad 29 1 28), Gf 26 (.ld 30 1 false false 29), Gf 26 (.bin 31 .gtr 30 (kI 2000)), Po 32 26 31] (Cn 32 (Rs [Pp (.bld 33 [vU 0, vS, nl .aval, nl .str, vI 0] []), Sv 5 8 33, Mi 9 3] .ret) .skip)) (Rs [Mv 34 0, Nk 35 34, Fa 36 0 35, Fa 37 0 36, Lo 38 37, Mv 39 1, Ix 40 .atype 38 39, Ld 41 10 true 40, Pp (.alr 10 10), Fz 10 10 41] (Rs [Fa 42 0 6, Lq 43 42, Bc 44 .eql 43 3, Mv 11 44] (Sq (.block 0 (Rs [Fa 46 0 10, Lq 47 46, Bc 48 .eql 47 1, Mv 49 48, Gt 49 (.fad 50 0 6), Gt 49 (.lde 51 1 false 50), Gt 49 (.bin 52 .eql 51 (kI 1)), Pa 53 49 52, Mv 45 53] (Cn 45 (Rs [Pp (.bld 54 [vU 0, vS, nl .aval, nl .str, vI 0] []), Sv 5 8 54, Mi 9 0] .ret) (Rs [Fa 56 0 10, Lq 57 56, Bc 58 .eql 57 2, Mv 59 58, Gt 59 (.fad 60 0 6), Gt 59 (.lde 61 1 false 60), Gt 59 (.bin 62 .eql 61 (kI 2)), Pa 63 59 62, Mv 55 63] (Cn 55 (Rs [Fa 64 1 6, Lq 65 64, Pp (.cvi 66 .u64 65), Pp (.bld 67 [vU 0, vS, nl .aval, nl .str, vI 0] [(0, 1, 66)]), Sv 5 8 67, Mi 9 0] .ret) (Sq (Rs [Fa 69 0 10, Lq 70 69, Bc 71 .eql 70 3, Mv 72 71, Gt 72 (.mov 73 11), Pa 74 72 73, Mv 75 74, Gt 75 (.fad 76 1 6), Gt 75 (.lde 77 1 false 76), Gt 75 (.bin 78 .geq 77 (kI (-2147483648))), Pa 79 75 78, Mv 80 79, Gt 80 (.fad 81 1 6), Gt 80 (.lde 82 1 false 81), Gt 80 (.bin 83 .lss 82 (kI 2147483648)), Pa 84 80 83, Mv 68 84] (.cut [0, 3, 6, 8, 10, 11, 68, 1000000] 2 iK)) mg)))))) cS)))))
def cq : List RV := [.cell 8 5 true, .t 9]
theorem afk : FnC Try.prog aO [120, 148, 149, 2000120, 2000148, 2000149] 1 xf Try.f120 pw cq := fnC (by kernel_rfl) Try.func120 (by kernel_rfl) (by kernel_rfl) (by decide)
abbrev fJ : Type := (Int × Int × Int × Bs × List aE × Bss × Int × Bs × Bss × Int × Bss × Bool × Bs × Int × List aM × List Int × Bool × Bool × List aA × Int × Int × Bs × List aB × Bss × Int)
def fb : fJ → St := fun (p, q, r, s, t, u, v, w, x, y, a, b, c, d, e, f, g, h, i, j, k, l, m, n, o) => { env := (.ptr 0 0 :: .undef :: .undef :: .int .i64 p :: .undef :: .undef :: .ea [.int .i64 q, .int .i64 r, .str s, .sl .jnode (.may false) t, .sl .str (.may false) u] :: .undef :: .ptr 1 0 :: .undef :: .ea [.int .i64 v, .str w, .sl .str (.may false) x, .int .i64 y, .sl .str (.may false) a, .bool b, .str c, .int .i64 d, .sl .afield (.may false) e, .sl (.num .i64) (.may false) f] :: .bool g :: (U 56 (.bool h :: (U 184 [])))), hp := [some [.sl .atype (.may false) i, .int .i64 j], some [.int .u64 k, .str l, .sl .aval .own m, .sl .str .own n, .int .i64 o]] }
def oa (R : IR → (Ex → St → Ro) → St → Ro) : Ex → St → Ro := (bp (R mg) (aR 0 (bp (R cS) (fin cq))))
abbrev fK : Type := (Int × Int × Int × Bs × List aE × Bss × Int × Bs × Bss × Int × Bss × Bool × Bs × Int × List aM × List Int × Bool × Bool × List aA × Int × Int × Bs × List aB × Bss × Int)
def dJ : fK → St := fun (p, q, r, s, t, u, v, w, x, y, a, b, c, d, e, f, g, h, i, j, k, l, m, n, o) => { env := (.ptr 0 0 :: .undef :: .undef :: .int .i64 p :: .undef :: .undef :: .ea [.int .i64 q, .int .i64 r, .str s, .sl .jnode (.may false) t, .sl .str (.may false) u] :: .undef :: .ptr 1 0 :: .undef :: .ea [.int .i64 v, .str w, .sl .str (.may false) x, .int .i64 y, .sl .str (.may false) a, .bool b, .str c, .int .i64 d, .sl .afield (.may false) e, .sl (.num .i64) (.may false) f] :: .bool g :: (U 56 (.bool h :: (U 184 [])))), hp := [some [.sl .atype (.may false) i, .int .i64 j], some [.int .u64 k, .str l, .sl .aval .own m, .sl .str .own n, .int .i64 o]] }
def cl (R : IR → (Ex → St → Ro) → St → Ro) : Ex → St → Ro := (aR 0 (bp (R cS) (fin cq)))
abbrev fL : Type := (Int × Int × Int × Bs × List aE × Bss × Int × Bs × Bss × Int × Bss × Bool × Bs × Int × List aM × List Int × Bool × List aA × Int × Int × Bs × List aB × Bss × Int)
def dK : fL → St := fun (o, p, q, r, s, t, u, v, w, x, a, b, c, d, e, f, g, h, i, j, k, l, m, n) => { env := (.ptr 0 0 :: .undef :: .undef :: .int .i64 o :: .undef :: .undef :: .ea [.int .i64 p, .int .i64 q, .str r, .sl .jnode (.may false) s, .sl .str (.may false) t] :: .undef :: .ptr 1 0 :: .undef :: .ea [.int .i64 u, .str v, .sl .str (.may false) w, .int .i64 x, .sl .str (.may false) a, .bool b, .str c, .int .i64 d, .sl .afield (.may false) e, .sl (.num .i64) (.may false) f] :: (U 119 (.bool g :: (U 122 [])))), hp := [some [.sl .atype (.may false) h, .int .i64 i], some [.int .u64 j, .str k, .sl .aval .own l, .sl .str .own m, .int .i64 n]] }
abbrev jS : Type := (Bs × Bool × List aA × Int × Int × Bs × List aB × Bss × Int)
def iL : jS → St := fun (a, b, c, d, e, f, g, h, i) => { env := (U 8 (.ptr 1 0 :: (U 3 (.str a :: (U 149 (.bool b :: (U 90 []))))))), hp := [some [.sl .atype (.may false) c, .int .i64 d], some [.int .u64 e, .str f, .sl .aval .own g, .sl .str .own h, .int .i64 i]] }
def od (N : Nat) : St → Ro := fun s => run aO N td (cl (run aO N)) s
def fM (N : Nat) : jS → Ro := fun (c, d, a, b, _, _, _, _, _) =>
 cond d (
 some (.tup [.agg [.int .u64 0, .str c, .sl .aval (.may false) ([] : List aB), .sl .str (.may false) ([] : Bss), .int .i64 0], .int .i64 0], [some [.sl .atype (.may false) a, .int .i64 b], some [.int .u64 0, .str c, .sl .aval .own ([] : List aB), .sl .str .own ([] : Bss), .int .i64 0]])) (
 some (.tup [.agg [.int .u64 0, .str ([] : Bs), .sl .aval (.may false) ([] : List aB), .sl .str (.may false) ([] : Bss), .int .i64 0], .int .i64 7], [some [.sl .atype (.may false) a, .int .i64 b], some [.int .u64 0, .str ([] : Bs), .sl .aval .own ([] : List aB), .sl .str .own ([] : Bss), .int .i64 0]]))
theorem acW (N : Nat) : ∀ (x : jS), od N (iL x) = fM N x := by
 intro x
 kernel_rfl
def aea (R : IR → (Ex → St → Ro) → St → Ro) (a : St → Ro) : Ex → St → Ro := (bz a [6, 8, 10, 14, 1000002] 2 (aR 1 (cl R)))
abbrev fN : Type := (Int × Int × Bs × List aE × Bss × Int × Bs × Bss × Int × Bss × Bool × Bs × Int × List aM × List Int × Int × List aA × Int × Int × Bs × List aB × Bss × Int)
def dL : fN → St := fun (n, o, p, q, r, s, t, u, v, w, a, b, c, d, e, f, g, h, i, j, k, l, m) => { env := (U 6 (.ea [.int .i64 n, .int .i64 o, .str p, .sl .jnode (.may false) q, .sl .str (.may false) r] :: .undef :: .ptr 1 0 :: .undef :: .ea [.int .i64 s, .str t, .sl .str (.may false) u, .int .i64 v, .sl .str (.may false) w, .bool a, .str b, .int .i64 c, .sl .afield (.may false) d, .sl (.num .i64) (.may false) e] :: (U 3 (.int .i64 f :: (U 238 []))))), hp := [some [.sl .atype (.may false) g, .int .i64 h], some [.int .u64 i, .str j, .sl .aval .own k, .sl .str .own l, .int .i64 m]] }
def jT (N : Nat) : (St → Ro) → St → Ro := fun a s => run aO N te (aea (run aO N) a) s
def eg (N : Nat) (e : fN → Ro) : fN → Ro := fun (p, q, f, r, s, g, h, i, j, a, k, l, m, n, o, b, c, d, t, u, v, w, x) =>
 let y : Int := (↑(List.length a) : Int)
 cond (decide (b < y)) (
 chk (decide (0 ≤ b) && decide (b < ↑(List.length a))) (
 let z : Bs := List.getD a (Int.toNat b) (aC .str)
 cond (decide (z = f)) (
 some (.tup [.agg [.int .u64 (IntKind.wrap .u64 b), .str ([] : Bs), .sl .aval (.may false) ([] : List aB), .sl .str (.may false) ([] : Bss), .int .i64 0], .int .i64 0], [some [.sl .atype (.may false) c, .int .i64 d], some [.int .u64 (IntKind.wrap .u64 b), .str ([] : Bs), .sl .aval .own ([] : List aB), .sl .str .own ([] : Bss), .int .i64 0]])) (
 let aa : Int := (IntKind.wrap .i64 (b + 1))
 e (p, q, f, r, s, g, h, i, j, a, k, l, m, n, o, aa, c, d, t, u, v, w, x)))) (
 some (.tup [.agg [.int .u64 0, .str ([] : Bs), .sl .aval (.may false) ([] : List aB), .sl .str (.may false) ([] : Bss), .int .i64 0], .int .i64 7], [some [.sl .atype (.may false) c, .int .i64 d], some [.int .u64 0, .str ([] : Bs), .sl .aval .own ([] : List aB), .sl .str .own ([] : Bss), .int .i64 0]]))
theorem acX (N : Nat) : ∀ (a : St → Ro) (x : fN), jT N a (dL x) = eg N (fun y => a (dL y)) x := by
 intro a x
 kernel_rfl
abbrev jU : Type := (Int × Int × Int × Bs × List aE × Bss × Int × Bs × Bss × Int × Bss × Bool × Bs × Int × List aM × List Int × Bool × List aA × Int × Int × Bs × List aB × Bss × Int)
def iM : jU → St := fun (o, p, q, r, s, t, u, v, w, x, a, b, c, d, e, f, g, h, i, j, k, l, m, n) => { env := (.ptr 0 0 :: .undef :: .undef :: .int .i64 o :: .undef :: .undef :: .ea [.int .i64 p, .int .i64 q, .str r, .sl .jnode (.may false) s, .sl .str (.may false) t] :: .undef :: .ptr 1 0 :: .undef :: .ea [.int .i64 u, .str v, .sl .str (.may false) w, .int .i64 x, .sl .str (.may false) a, .bool b, .str c, .int .i64 d, .sl .afield (.may false) e, .sl (.num .i64) (.may false) f] :: (U 181 (.bool g :: (U 60 [])))), hp := [some [.sl .atype (.may false) h, .int .i64 i], some [.int .u64 j, .str k, .sl .aval .own l, .sl .str .own m, .int .i64 n]] }
def oe (N : Nat) : St → Ro := fun s => run aO N tf (cl (run aO N)) s
def fO (N : Nat) : jU → Ro := fun (w, e, f, g, h, i, b, n, o, p, q, r, s, t, u, a, v, c, d, _, _, _, _, _) =>
 cond v (
 aH (gA c d b n o p q r s t u a e f g h i w) (fun j =>
 some (.tup [.agg [.int .u64 j.1, .str j.2.1, .sl .aval (.may false) j.2.2.1, .sl .str (.may false) j.2.2.2.1, .int .i64 j.2.2.2.2.1], .int .i64 j.2.2.2.2.2.1], [some [.sl .atype (.may false) j.2.2.2.2.2.2.1, .int .i64 j.2.2.2.2.2.2.2], some [.int .u64 j.1, .str j.2.1, .sl .aval (.may false) j.2.2.1, .sl .str (.may false) j.2.2.2.1, .int .i64 j.2.2.2.2.1]]))) (
 cond (b == 9) (
 cond (e == 6) (
 aH (fX c d b n o p q r s t u a e f g h i w) (fun k =>
 some (.tup [.agg [.int .u64 k.1, .str k.2.1, .sl .aval (.may false) k.2.2.1, .sl .str (.may false) k.2.2.2.1, .int .i64 k.2.2.2.2.1], .int .i64 k.2.2.2.2.2.1], [some [.sl .atype (.may false) k.2.2.2.2.2.2.1, .int .i64 k.2.2.2.2.2.2.2], some [.int .u64 k.1, .str k.2.1, .sl .aval (.may false) k.2.2.1, .sl .str (.may false) k.2.2.2.1, .int .i64 k.2.2.2.2.1]]))) (
 cond (b == 14) (
 chk (decide ((0 : Int) < ↑(List.length a))) (
 let x : Int := List.getD a (Int.toNat 0) (aC (.num .i64))
 let y : Int := (IntKind.wrap .i64 (w + 1))
 aH (ce c d x e f g h i y) (fun l =>
 some (.tup [.agg [.int .u64 0, .str ([] : Bs), .sl .aval (.may true) ([⟨l.1, l.2.1, l.2.2.1, l.2.2.2.1, l.2.2.2.2.1⟩] : List aB), .sl .str (.may false) ([] : Bss), .int .i64 0], .int .i64 l.2.2.2.2.2.1], [some [.sl .atype (.may false) l.2.2.2.2.2.2.1, .int .i64 l.2.2.2.2.2.2.2], some [.int .u64 0, .str ([] : Bs), .sl .aval (.may true) ([⟨l.1, l.2.1, l.2.2.1, l.2.2.2.1, l.2.2.2.2.1⟩] : List aB), .sl .str .own ([] : Bss), .int .i64 0]])))) (
 some (.tup [.agg [.int .u64 0, .str ([] : Bs), .sl .aval (.may false) ([] : List aB), .sl .str (.may false) ([] : Bss), .int .i64 0], .int .i64 7], [some [.sl .atype (.may false) c, .int .i64 d], some [.int .u64 0, .str ([] : Bs), .sl .aval .own ([] : List aB), .sl .str .own ([] : Bss), .int .i64 0]])))) (
 cond (b == 14) (
 chk (decide ((0 : Int) < ↑(List.length a))) (
 let z : Int := List.getD a (Int.toNat 0) (aC (.num .i64))
 let aa : Int := (IntKind.wrap .i64 (w + 1))
 aH (ce c d z e f g h i aa) (fun m =>
 some (.tup [.agg [.int .u64 0, .str ([] : Bs), .sl .aval (.may true) ([⟨m.1, m.2.1, m.2.2.1, m.2.2.2.1, m.2.2.2.2.1⟩] : List aB), .sl .str (.may false) ([] : Bss), .int .i64 0], .int .i64 m.2.2.2.2.2.1], [some [.sl .atype (.may false) m.2.2.2.2.2.2.1, .int .i64 m.2.2.2.2.2.2.2], some [.int .u64 0, .str ([] : Bs), .sl .aval (.may true) ([⟨m.1, m.2.1, m.2.2.1, m.2.2.2.1, m.2.2.2.2.1⟩] : List aB), .sl .str .own ([] : Bss), .int .i64 0]])))) (
 some (.tup [.agg [.int .u64 0, .str ([] : Bs), .sl .aval (.may false) ([] : List aB), .sl .str (.may false) ([] : Bss), .int .i64 0], .int .i64 7], [some [.sl .atype (.may false) c, .int .i64 d], some [.int .u64 0, .str ([] : Bs), .sl .aval .own ([] : List aB), .sl .str .own ([] : Bss), .int .i64 0]]))))
theorem acY (N : Nat) : ∀ (x : jU), oe N (iM x) = fO N x := by
 intro x
 kernel_rfl
def jV (N : Nat) : St → Ro := fun s => run aO N gZ (cl (run aO N)) s
def iN (N : Nat) (q3 : jS → Ro) (q4 : fN → Ro) (w : jU → Ro) : fL → Ro := fun (x, b, t, s, u, v, a, d, e, f, g, h, i, c, j, k, y, l, m, n, o, p, q, r) =>
 cond y (
 aH (uJ s) (fun z =>
 cond z.2 (
 cond (a == 7) (
 q3 (z.1, true, l, m, n, o, p, q, r)) (
 let ab : Int := (↑(List.length z.1) : Int)
 q3 (z.1, (ab == c), l, m, n, o, p, q, r))) (
 q3 (z.1, false, l, m, n, o, p, q, r)))) (
 cond (a == 10) (
 cond (b == 4) (
 q4 (b, t, s, u, v, a, d, e, f, g, h, i, c, j, k, 0, l, m, n, o, p, q, r)) (
 cond (a == 12) (
 cond (b == 5) (
 w (x, b, t, s, u, v, a, d, e, f, g, h, i, c, j, k, true, l, m, n, o, p, q, r)) (
 cond (a == 13) (
 w (x, b, t, s, u, v, a, d, e, f, g, h, i, c, j, k, (b == 6), l, m, n, o, p, q, r)) (
 w (x, b, t, s, u, v, a, d, e, f, g, h, i, c, j, k, false, l, m, n, o, p, q, r)))) (
 cond (a == 13) (
 w (x, b, t, s, u, v, a, d, e, f, g, h, i, c, j, k, (b == 6), l, m, n, o, p, q, r)) (
 w (x, b, t, s, u, v, a, d, e, f, g, h, i, c, j, k, false, l, m, n, o, p, q, r))))) (
 cond (a == 12) (
 cond (b == 5) (
 w (x, b, t, s, u, v, a, d, e, f, g, h, i, c, j, k, true, l, m, n, o, p, q, r)) (
 cond (a == 13) (
 w (x, b, t, s, u, v, a, d, e, f, g, h, i, c, j, k, (b == 6), l, m, n, o, p, q, r)) (
 w (x, b, t, s, u, v, a, d, e, f, g, h, i, c, j, k, false, l, m, n, o, p, q, r)))) (
 cond (a == 13) (
 w (x, b, t, s, u, v, a, d, e, f, g, h, i, c, j, k, (b == 6), l, m, n, o, p, q, r)) (
 w (x, b, t, s, u, v, a, d, e, f, g, h, i, c, j, k, false, l, m, n, o, p, q, r)))))
def fP (N : Nat) (x : fL) : Ro := iN N (fun z => fM N z) (fun z => aQ N (eg N) z) (fun z => fO N z) x
def og (N : Nat) : List (Nat × (St → Ro)) := (ba aO N gZ (cl (run aO N)) ++ (ba aO N cS (fin cq) ++ []))
theorem acZ (N : Nat) : ∀ (x : fL), jV N (dK x) = fP N x := by
 intro x
 have hX : ∀ C : Nat → St → Ro, bQ C aO N gZ (cl (bQ C aO N)) (dK x) = iN N (fun z => C 1000001 (iL z)) (fun z => C 1000002 (dL z)) (fun z => C 1000003 (iM z)) x := by
  intro C
  kernel_rfl
 have h : jV N (dK x) = iN N (fun z => od N (iL z)) (fun z => bg N (jT N) (dL z)) (fun z => oe N (iM z)) x := (ch (C := dA (og N)) (bO (aX (l := (og N)) (by kernel_rfl))) (cp (eq (bO (da (aX (l := (og N)) (by kernel_rfl)))) rfl)) _).trans ((hX _).trans (by kernel_rfl))
 have e3 : (fun z => od N (iL z)) = (fun z => fM N z) := funext fun z => acW N z
 have e4 : (fun z => bg N (jT N) (dL z)) = (fun z => aQ N (eg N) z) := funext fun z => bc (dL) (jT N) (eg N) (acX N) N z
 have e5 : (fun z => oe N (iM z)) = (fun z => fO N z) := funext fun z => acY N z
 rw [h, e3, e4, e5]
 rfl
def jW (N : Nat) : St → Ro := fun s => run aO N hH (cl (run aO N)) s
def iO (N : Nat) (w : fL → Ro) : fK → Ro := fun (x, b, o, l, p, q, a, c, d, e, f, g, h, i, j, k, y, z, m, n, r, s, t, u, v) =>
 cond z (
 some (.tup [.agg [.int .u64 (IntKind.wrap .u64 o), .str ([] : Bs), .sl .aval (.may false) ([] : List aB), .sl .str (.may false) ([] : Bss), .int .i64 0], .int .i64 0], [some [.sl .atype (.may false) m, .int .i64 n], some [.int .u64 (IntKind.wrap .u64 o), .str ([] : Bs), .sl .aval .own ([] : List aB), .sl .str .own ([] : Bss), .int .i64 0]])) (
 cond (a == 5) (
 cond y (
 aH (sJ o) (fun (r1 : Int) =>
 some (.tup [.agg [.int .u64 (IntKind.wrap .u64 r1), .str ([] : Bs), .sl .aval (.may false) ([] : List aB), .sl .str (.may false) ([] : Bss), .int .i64 0], .int .i64 0], [some [.sl .atype (.may false) m, .int .i64 n], some [.int .u64 (IntKind.wrap .u64 r1), .str ([] : Bs), .sl .aval .own ([] : List aB), .sl .str .own ([] : Bss), .int .i64 0]]))) (
 cond (a == 6) (
 cond y (
 aH (mR o) (fun (r2 : Int) =>
 some (.tup [.agg [.int .u64 r2, .str ([] : Bs), .sl .aval (.may false) ([] : List aB), .sl .str (.may false) ([] : Bss), .int .i64 0], .int .i64 0], [some [.sl .atype (.may false) m, .int .i64 n], some [.int .u64 r2, .str ([] : Bs), .sl .aval .own ([] : List aB), .sl .str .own ([] : Bss), .int .i64 0]]))) (
 cond (a == 8) (
 cond (b == 4) (
 some (.tup [.agg [.int .u64 0, .str l, .sl .aval (.may false) ([] : List aB), .sl .str (.may false) ([] : Bss), .int .i64 0], .int .i64 0], [some [.sl .atype (.may false) m, .int .i64 n], some [.int .u64 0, .str l, .sl .aval .own ([] : List aB), .sl .str .own ([] : Bss), .int .i64 0]])) (
 cond (a == 7) (
 w (x, b, o, l, p, q, a, c, d, e, f, g, h, i, j, k, (b == 4), m, n, r, s, t, u, v)) (
 cond (a == 11) (
 w (x, b, o, l, p, q, a, c, d, e, f, g, h, i, j, k, (b == 4), m, n, r, s, t, u, v)) (
 w (x, b, o, l, p, q, a, c, d, e, f, g, h, i, j, k, false, m, n, r, s, t, u, v))))) (
 cond (a == 7) (
 w (x, b, o, l, p, q, a, c, d, e, f, g, h, i, j, k, (b == 4), m, n, r, s, t, u, v)) (
 cond (a == 11) (
 w (x, b, o, l, p, q, a, c, d, e, f, g, h, i, j, k, (b == 4), m, n, r, s, t, u, v)) (
 w (x, b, o, l, p, q, a, c, d, e, f, g, h, i, j, k, false, m, n, r, s, t, u, v)))))) (
 cond (a == 8) (
 cond (b == 4) (
 some (.tup [.agg [.int .u64 0, .str l, .sl .aval (.may false) ([] : List aB), .sl .str (.may false) ([] : Bss), .int .i64 0], .int .i64 0], [some [.sl .atype (.may false) m, .int .i64 n], some [.int .u64 0, .str l, .sl .aval .own ([] : List aB), .sl .str .own ([] : Bss), .int .i64 0]])) (
 cond (a == 7) (
 w (x, b, o, l, p, q, a, c, d, e, f, g, h, i, j, k, (b == 4), m, n, r, s, t, u, v)) (
 cond (a == 11) (
 w (x, b, o, l, p, q, a, c, d, e, f, g, h, i, j, k, (b == 4), m, n, r, s, t, u, v)) (
 w (x, b, o, l, p, q, a, c, d, e, f, g, h, i, j, k, false, m, n, r, s, t, u, v))))) (
 cond (a == 7) (
 w (x, b, o, l, p, q, a, c, d, e, f, g, h, i, j, k, (b == 4), m, n, r, s, t, u, v)) (
 cond (a == 11) (
 w (x, b, o, l, p, q, a, c, d, e, f, g, h, i, j, k, (b == 4), m, n, r, s, t, u, v)) (
 w (x, b, o, l, p, q, a, c, d, e, f, g, h, i, j, k, false, m, n, r, s, t, u, v))))))) (
 cond (a == 6) (
 cond y (
 aH (mR o) (fun (r8 : Int) =>
 some (.tup [.agg [.int .u64 r8, .str ([] : Bs), .sl .aval (.may false) ([] : List aB), .sl .str (.may false) ([] : Bss), .int .i64 0], .int .i64 0], [some [.sl .atype (.may false) m, .int .i64 n], some [.int .u64 r8, .str ([] : Bs), .sl .aval .own ([] : List aB), .sl .str .own ([] : Bss), .int .i64 0]]))) (
 cond (a == 8) (
 cond (b == 4) (
 some (.tup [.agg [.int .u64 0, .str l, .sl .aval (.may false) ([] : List aB), .sl .str (.may false) ([] : Bss), .int .i64 0], .int .i64 0], [some [.sl .atype (.may false) m, .int .i64 n], some [.int .u64 0, .str l, .sl .aval .own ([] : List aB), .sl .str .own ([] : Bss), .int .i64 0]])) (
 cond (a == 7) (
 w (x, b, o, l, p, q, a, c, d, e, f, g, h, i, j, k, (b == 4), m, n, r, s, t, u, v)) (
 cond (a == 11) (
 w (x, b, o, l, p, q, a, c, d, e, f, g, h, i, j, k, (b == 4), m, n, r, s, t, u, v)) (
 w (x, b, o, l, p, q, a, c, d, e, f, g, h, i, j, k, false, m, n, r, s, t, u, v))))) (
 cond (a == 7) (
 w (x, b, o, l, p, q, a, c, d, e, f, g, h, i, j, k, (b == 4), m, n, r, s, t, u, v)) (
 cond (a == 11) (
 w (x, b, o, l, p, q, a, c, d, e, f, g, h, i, j, k, (b == 4), m, n, r, s, t, u, v)) (
 w (x, b, o, l, p, q, a, c, d, e, f, g, h, i, j, k, false, m, n, r, s, t, u, v)))))) (
 cond (a == 8) (
 cond (b == 4) (
 some (.tup [.agg [.int .u64 0, .str l, .sl .aval (.may false) ([] : List aB), .sl .str (.may false) ([] : Bss), .int .i64 0], .int .i64 0], [some [.sl .atype (.may false) m, .int .i64 n], some [.int .u64 0, .str l, .sl .aval .own ([] : List aB), .sl .str .own ([] : Bss), .int .i64 0]])) (
 cond (a == 7) (
 w (x, b, o, l, p, q, a, c, d, e, f, g, h, i, j, k, (b == 4), m, n, r, s, t, u, v)) (
 cond (a == 11) (
 w (x, b, o, l, p, q, a, c, d, e, f, g, h, i, j, k, (b == 4), m, n, r, s, t, u, v)) (
 w (x, b, o, l, p, q, a, c, d, e, f, g, h, i, j, k, false, m, n, r, s, t, u, v))))) (
 cond (a == 7) (
 w (x, b, o, l, p, q, a, c, d, e, f, g, h, i, j, k, (b == 4), m, n, r, s, t, u, v)) (
 cond (a == 11) (
 w (x, b, o, l, p, q, a, c, d, e, f, g, h, i, j, k, (b == 4), m, n, r, s, t, u, v)) (
 w (x, b, o, l, p, q, a, c, d, e, f, g, h, i, j, k, false, m, n, r, s, t, u, v)))))))
def fQ (N : Nat) (x : fK) : Ro := iO N (fun z => fP N z) x
def oh (N : Nat) : List (Nat × (St → Ro)) := (ba aO N hH (cl (run aO N)) ++ (ba aO N cS (fin cq) ++ []))
theorem ac0 (N : Nat) : ∀ (x : fK), jW N (dJ x) = fQ N x := by
 intro x
 have hX : ∀ C : Nat → St → Ro, bQ C aO N hH (cl (bQ C aO N)) (dJ x) = iO N (fun z => C 1000004 (dK z)) x := by
  intro C
  kernel_rfl
 have h : jW N (dJ x) = iO N (fun z => jV N (dK z)) x := (ch (C := dA (oh N)) (bO (aX (l := (oh N)) (by kernel_rfl))) (cp (eq (bO (da (aX (l := (oh N)) (by kernel_rfl)))) rfl)) _).trans ((hX _).trans (by kernel_rfl))
 have e2 : (fun z => jV N (dK z)) = (fun z => fP N z) := funext fun z => acZ N z
 rw [h, e2]
 rfl
def oi (N : Nat) : St → Ro := fun s => run aO N iK (oa (run aO N)) s
def iP (N : Nat) (x : fK → Ro) : fJ → Ro := fun (y, k, l, m, n, o, a, b, c, d, e, f, g, h, i, j, w, z, p, q, r, s, t, u, v) =>
 cond z (
 x (y, k, l, m, n, o, a, b, c, d, e, f, g, h, i, j, w, true, p, q, r, s, t, u, v)) (
 cond (a == 4) (
 x (y, k, l, m, n, o, a, b, c, d, e, f, g, h, i, j, w, w, p, q, r, s, t, u, v)) (
 x (y, k, l, m, n, o, a, b, c, d, e, f, g, h, i, j, w, false, p, q, r, s, t, u, v)))
def jX (N : Nat) (x : fJ) : Ro := iP N (fun z => fQ N z) x
def jY (N : Nat) : List (Nat × (St → Ro)) := (ba aO N iK (oa (run aO N)) ++ (ba aO N mg (aR 0 (bp (run aO N cS) (fin cq))) ++ (ba aO N cS (fin cq) ++ [])))
theorem ac1 (N : Nat) : ∀ (x : fJ), oi N (fb x) = jX N x := by
 intro x
 have hX : ∀ C : Nat → St → Ro, bQ C aO N iK (oa (bQ C aO N)) (fb x) = iP N (fun z => C 1000005 (dJ z)) x := by
  intro C
  kernel_rfl
 have h : oi N (fb x) = iP N (fun z => jW N (dJ z)) x := (ch (C := dA (jY N)) (bO (aX (l := (jY N)) (by kernel_rfl))) (eq (bO (da (aX (l := (jY N)) (by kernel_rfl)))) (cp (eq (bO (da (da (aX (l := (jY N)) (by kernel_rfl))))) rfl))) _).trans ((hX _).trans (by kernel_rfl))
 have e1 : (fun z => jW N (dJ z)) = (fun z => fQ N z) := funext fun z => ac0 N z
 rw [h, e1]
 rfl
def gm (N : Nat) (b : List aA) (u t a c : Int) (d : Bs) (e : List aE) (f : Bss) (k : Int) (l : fJ → Ro) : Ro :=
 let j : Int := (IntKind.wrap .i64 (u + 1))
 cond (decide (20 < k)) (
 some (.tup [.agg [.int .u64 0, .str ([] : Bs), .sl .aval (.may false) ([] : List aB), .sl .str (.may false) ([] : Bss), .int .i64 0], .int .i64 3], [some [.sl .atype (.may false) b, .int .i64 j], some [.int .u64 0, .str ([] : Bs), .sl .aval .own ([] : List aB), .sl .str .own ([] : Bss), .int .i64 0]])) (
 cond (decide (2000 < j)) (
 some (.tup [.agg [.int .u64 0, .str ([] : Bs), .sl .aval (.may false) ([] : List aB), .sl .str (.may false) ([] : Bss), .int .i64 0], .int .i64 3], [some [.sl .atype (.may false) b, .int .i64 j], some [.int .u64 0, .str ([] : Bs), .sl .aval .own ([] : List aB), .sl .str .own ([] : Bss), .int .i64 0]])) (
 chk (decide (0 ≤ t) && decide (t < ↑(List.length b))) (
 let i : Int := (List.getD b (Int.toNat t) (aC .atype)).kind
 let m : Bs := (List.getD b (Int.toNat t) (aC .atype)).name
 let n : Bss := (List.getD b (Int.toNat t) (aC .atype)).aliases
 let o : Int := (List.getD b (Int.toNat t) (aC .atype)).items
 let p : Bss := (List.getD b (Int.toNat t) (aC .atype)).syms
 let q : Bool := (List.getD b (Int.toNat t) (aC .atype)).hasdef
 let r : Bs := (List.getD b (Int.toNat t) (aC .atype)).df
 let s : Int := (List.getD b (Int.toNat t) (aC .atype)).size
 let g : List aM := (List.getD b (Int.toNat t) (aC .atype)).fields
 let h : List Int := (List.getD b (Int.toNat t) (aC .atype)).branches
 cond (i == 1) (
 cond (a == 1) (
 some (.tup [.agg [.int .u64 0, .str ([] : Bs), .sl .aval (.may false) ([] : List aB), .sl .str (.may false) ([] : Bss), .int .i64 0], .int .i64 0], [some [.sl .atype (.may false) b, .int .i64 j], some [.int .u64 0, .str ([] : Bs), .sl .aval .own ([] : List aB), .sl .str .own ([] : Bss), .int .i64 0]])) (
 cond (i == 2) (
 cond (a == 2) (
 some (.tup [.agg [.int .u64 (IntKind.wrap .u64 c), .str ([] : Bs), .sl .aval (.may false) ([] : List aB), .sl .str (.may false) ([] : Bss), .int .i64 0], .int .i64 0], [some [.sl .atype (.may false) b, .int .i64 j], some [.int .u64 (IntKind.wrap .u64 c), .str ([] : Bs), .sl .aval .own ([] : List aB), .sl .str .own ([] : Bss), .int .i64 0]])) (
 cond (i == 3) (
 cond (a == 3) (
 let v : Bool := decide ((-2147483648) ≤ c)
 cond v (
 let w : Bool := decide (c < 2147483648)
 l (k, a, c, d, e, f, i, m, n, o, p, q, r, s, g, h, (a == 3), w, b, j, 0, ([] : Bs), ([] : List aB), ([] : Bss), 0)) (
 l (k, a, c, d, e, f, i, m, n, o, p, q, r, s, g, h, (a == 3), false, b, j, 0, ([] : Bs), ([] : List aB), ([] : Bss), 0))) (
 l (k, a, c, d, e, f, i, m, n, o, p, q, r, s, g, h, (a == 3), false, b, j, 0, ([] : Bs), ([] : List aB), ([] : Bss), 0))) (
 l (k, a, c, d, e, f, i, m, n, o, p, q, r, s, g, h, (a == 3), false, b, j, 0, ([] : Bs), ([] : List aB), ([] : Bss), 0)))) (
 cond (i == 3) (
 cond (a == 3) (
 let x : Bool := decide ((-2147483648) ≤ c)
 cond x (
 let y : Bool := decide (c < 2147483648)
 l (k, a, c, d, e, f, i, m, n, o, p, q, r, s, g, h, (a == 3), y, b, j, 0, ([] : Bs), ([] : List aB), ([] : Bss), 0)) (
 l (k, a, c, d, e, f, i, m, n, o, p, q, r, s, g, h, (a == 3), false, b, j, 0, ([] : Bs), ([] : List aB), ([] : Bss), 0))) (
 l (k, a, c, d, e, f, i, m, n, o, p, q, r, s, g, h, (a == 3), false, b, j, 0, ([] : Bs), ([] : List aB), ([] : Bss), 0))) (
 l (k, a, c, d, e, f, i, m, n, o, p, q, r, s, g, h, (a == 3), false, b, j, 0, ([] : Bs), ([] : List aB), ([] : Bss), 0))))) (
 cond (i == 2) (
 cond (a == 2) (
 some (.tup [.agg [.int .u64 (IntKind.wrap .u64 c), .str ([] : Bs), .sl .aval (.may false) ([] : List aB), .sl .str (.may false) ([] : Bss), .int .i64 0], .int .i64 0], [some [.sl .atype (.may false) b, .int .i64 j], some [.int .u64 (IntKind.wrap .u64 c), .str ([] : Bs), .sl .aval .own ([] : List aB), .sl .str .own ([] : Bss), .int .i64 0]])) (
 cond (i == 3) (
 cond (a == 3) (
 let z : Bool := decide ((-2147483648) ≤ c)
 cond z (
 let aa : Bool := decide (c < 2147483648)
 l (k, a, c, d, e, f, i, m, n, o, p, q, r, s, g, h, (a == 3), aa, b, j, 0, ([] : Bs), ([] : List aB), ([] : Bss), 0)) (
 l (k, a, c, d, e, f, i, m, n, o, p, q, r, s, g, h, (a == 3), false, b, j, 0, ([] : Bs), ([] : List aB), ([] : Bss), 0))) (
 l (k, a, c, d, e, f, i, m, n, o, p, q, r, s, g, h, (a == 3), false, b, j, 0, ([] : Bs), ([] : List aB), ([] : Bss), 0))) (
 l (k, a, c, d, e, f, i, m, n, o, p, q, r, s, g, h, (a == 3), false, b, j, 0, ([] : Bs), ([] : List aB), ([] : Bss), 0)))) (
 cond (i == 3) (
 cond (a == 3) (
 let ab : Bool := decide ((-2147483648) ≤ c)
 cond ab (
 let ac : Bool := decide (c < 2147483648)
 l (k, a, c, d, e, f, i, m, n, o, p, q, r, s, g, h, (a == 3), ac, b, j, 0, ([] : Bs), ([] : List aB), ([] : Bss), 0)) (
 l (k, a, c, d, e, f, i, m, n, o, p, q, r, s, g, h, (a == 3), false, b, j, 0, ([] : Bs), ([] : List aB), ([] : Bss), 0))) (
 l (k, a, c, d, e, f, i, m, n, o, p, q, r, s, g, h, (a == 3), false, b, j, 0, ([] : Bs), ([] : List aB), ([] : Bss), 0))) (
 l (k, a, c, d, e, f, i, m, n, o, p, q, r, s, g, h, (a == 3), false, b, j, 0, ([] : Bs), ([] : List aB), ([] : Bss), 0)))))))
def px (N : Nat) (a : List aA) (b h c d : Int) (e : Bs) (f : List aE) (g : Bss) (i : Int) : Ro := gm N a b h c d e f g i (fun z => jX N z)
def agI (N : Nat) : List (Nat × (St → Ro)) := ba aO N pw (fin cq) ++ []
theorem aeb (N : Nat) (a : List aA) (c i d e : Int) (f : Bs) (g : List aE) (h : Bss) (j : Int) : aW aO N 253 cq pw [.ptr 0 0, .int .i64 i, .agg [.int .i64 d, .int .i64 e, .str f, .sl .jnode (.may false) g, .sl .str (.may false) h], .int .i64 j] [some [.sl .atype (.may false) a, .int .i64 c]] = px N a c i d e f g h j :=
 (bL (agI N) (by kernel_rfl) rfl (fun C => gm N a c i d e f g h j (fun z => C 1000000 (fb z))) (fun C => by kernel_rfl)).trans (Eq.trans (b := gm N a c i d e f g h j (fun z => oi N (fb z))) (by kernel_rfl) (congrArg (gm N a c i d e f g h j) (funext fun z => ac1 N z)))
theorem aec (N : Nat) (a : List aA) (b k c d : Int) (e : Bs) (f : List aE) (g : Bss) (l : Int) (h : Tot (px N a b k c d e f g l) (fun z => ∃ (m : Int) (n : Bs) (o : List aB) (p : Bss) (q : Int) (s : Int) (i : List aA) (j : Int) (rest : List aK), z.1.dimR = .tup [.agg [.int .u64 m, .str n, .sl .aval (.may false) o, .sl .str (.may false) p, .int .i64 q], .int .i64 s] ∧ z.2 = some [.sl .atype (.may false) i, .int .i64 j] :: rest ∧ cw a b k c d e f g l (m, n, o, p, q, s, i, j))) : ∃ r, ce a b k c d e f g l r := by
 obtain ⟨⟨v, hp⟩, hz, m, n, o, p, q, s, i, j, rest, e1, e2, hq⟩ := h
 simp only at e1 e2
 subst e2
 exact ⟨(m, n, o, p, q, s, i, j), bk.dimR (FnC.objs (css := [[.sl .atype (.may false) a, .int .i64 b]]) (css' := [[.sl .atype (.may false) i, .int .i64 j]]) afk (aeb N a b k c d e f g l) hz rfl) e1, hq⟩
noncomputable def ahu : aN := tab (P := Try.prog) [] [lw] [] [abq]
def afl : IR := Rs [Bx 3 0, Bx 5 2, Pp (.new 6 [vU 0, vS, nl .aval, nl .str, vI 0]), Mi 7 0] (Sq (Rs [Ld 11 1 true 3, Mv 12 1, Ca 13 45 [11, 12], Un 14 13] (Cn 14 (Rs [Pp (.bld 15 [vU 0, vS, nl .aval, nl .str, vI 0] []), Sv 5 6 15, Mi 7 1] .ret) .skip)) (Rs [Ld 16 1 true 3, Pp (.bld 17 [fu .atype true, vI 0] [(0, 1, 16)]), Pp (.box 18 17), Mv 8 18] (Rs [Mv 20 8, Mv 21 1, Ld 22 5 true 5, Ca 23 120 [20, 21, 22, kI 1], Mv 19 23, Ex_ 24 0 19, Ex_ 25 1 19, Pp (.alr 9 5), Fz 9 5 24, Mv 10 25] (Sq (Rs [Mv 26 10, Bc 27 .neq 26 0] (Cn 27 (Rs [Pp (.bld 28 [vU 0, vS, nl .aval, nl .str, vI 0] []), Mv 29 10, Sv 5 6 28, Mv 7 29] .ret) .skip)) (Rs [Ld 30 5 true 9, Sv 5 6 30, Mi 7 0] .ret)))))
def afm : List RV := [.cell 6 5 true, .t 7]
theorem apV : FnC Try.prog ahu [120, 2000120] 0 ag3 Try.f74 afl afm := fnC (by kernel_rfl) Try.func74 (by kernel_rfl) (by kernel_rfl) (by decide)
def afn (N : Nat) (b : List aA) (h c d : Int) (e : Bs) (f : List aE) (g : Bss) : Ro :=
 aH (lv b h) (fun (i : Bool) =>
 cond (!i) (
 some (.tup [.agg [.int .u64 0, .str ([] : Bs), .sl .aval (.may false) ([] : List aB), .sl .str (.may false) ([] : Bss), .int .i64 0], .int .i64 1], [some [.int .u64 0, .str ([] : Bs), .sl .aval .own ([] : List aB), .sl .str .own ([] : Bss), .int .i64 0]])) (
 aH (ce b 0 h c d e f g 1) (fun a =>
 cond (!(a.2.2.2.2.2.1 == 0)) (
 some (.tup [.agg [.int .u64 0, .str ([] : Bs), .sl .aval (.may false) ([] : List aB), .sl .str (.may false) ([] : Bss), .int .i64 0], .int .i64 a.2.2.2.2.2.1], [some [.int .u64 0, .str ([] : Bs), .sl .aval .own ([] : List aB), .sl .str .own ([] : Bss), .int .i64 0], some [.sl .atype (.may false) a.2.2.2.2.2.2.1, .int .i64 a.2.2.2.2.2.2.2]])) (
 some (.tup [.agg [.int .u64 a.1, .str a.2.1, .sl .aval (.may false) a.2.2.1, .sl .str (.may false) a.2.2.2.1, .int .i64 a.2.2.2.2.1], .int .i64 0], [some [.int .u64 a.1, .str a.2.1, .sl .aval (.may false) a.2.2.1, .sl .str (.may false) a.2.2.2.1, .int .i64 a.2.2.2.2.1], some [.sl .atype (.may false) a.2.2.2.2.2.2.1, .int .i64 a.2.2.2.2.2.2.2]])))))
def yH (N : Nat) (a : List aA) (g b c : Int) (d : Bs) (e : List aE) (f : Bss) : Ro := afn N a g b c d e f
theorem anS (N : Nat) (a : List aA) (g b c : Int) (d : Bs) (e : List aE) (f : Bss) : aW ahu N 31 afm afl [.agg [.sl .atype (.may false) a], .int .i64 g, .agg [.int .i64 b, .int .i64 c, .str d, .sl .jnode (.may false) e, .sl .str (.may false) f]] [] = yH N a g b c d e f := by kernel_rfl
theorem anT (N : Nat) (a : List aA) (g b c : Int) (d : Bs) (e : List aE) (f : Bss) (h : Tot (yH N a g b c d e f) (fun z => ∃ (i : Int) (j : Bs) (k : List aB) (l : Bss) (m : Int) (n : Int) (rest : List aK), z.1.dimR = .tup [.agg [.int .u64 i, .str j, .sl .aval (.may false) k, .sl .str (.may false) l, .int .i64 m], .int .i64 n] ∧ z.2 = rest)) : ∃ r, qR a g b c d e f r := by
 obtain ⟨⟨v, hp⟩, hz, i, j, k, l, m, n, rest, e1, e2⟩ := h
 simp only at e1 e2
 subst e2
 exact ⟨(i, j, k, l, m, n), aI.dimR (apV.pure (anS N a g b c d e f) hz) e1⟩
noncomputable def dr : aN := tab (P := Try.prog) [] [] [] [arw]
def aa6 : IR := Sq (Rs [Mv 17 6, Fa 18 0 1, Lq 19 18, Mv 20 5, Ix 21 .atype 19 20, Fa 22 8 21, Lo 23 22, Ll 24 23, Bi 25 .lss 17 24] (Cn 25 .skip (.exit 2))) (Sq (.block 3 (Rs [Fa 28 0 1, Lq 29 28, Mv 30 5, Ix 31 .atype 29 30, Fa 32 8 31, Lo 33 32, Mv 34 6, Ix 35 .afield 33 34, Ld 36 9 true 35, Pp (.alr 7 9), Fz 7 9 36] (Sq (Rs [Fa 37 3 7, Lq 38 37, Un 39 38] (Cn 39 (.exit 3) .skip)) (Rs [Ld 41 1 true 1, Fa 42 2 7, Lq 43 42, Fa 44 4 7, Ld 45 5 true 44, Ca 46 74 [41, 43, 45], Mv 40 46, Ex_ 47 0 40, Ex_ 48 1 40, Pp (.alr 8 5), Fz 8 5 47, Mv 9 48] (Rs [Mv 49 9, Bc 50 .neq 49 0] (Cn 50 (Rs [Mv 51 9, Mv 52 5, Mv 53 6, Mv 2 51, Mv 3 52, Mv 4 53] .ret) .skip)))))) (Rg [Mv 26 6, Bc 27 .add 26 1, Mv 6 27]))
def aa7 : IR := Rg [Mv 15 5, Bc 16 .add 15 1, Mv 5 16]
def oq : IR := Sq (Rs [Mv 10 5, Fa 11 0 1, Lq 12 11, Ll 13 12, Bi 14 .lss 10 13] (Cn 14 .skip (.exit 0))) (Sq (.block 1 (Rs [Mi 6 0] (.block 2 (.loop [1, 5, 6, 1000000] 0 aa6)))) aa7)
def ui : IR := Rs [Mi 2 0, Mi 3 0, Mi 4 0] .ret
def yI : IR := Rs [Bx 1 0, Mi 2 0, Mi 3 0, Mi 4 0] (Sq (Rs [Mi 5 0] (.block 0 (.loop [1, 5, 1000001] 0 oq))) ui)
def py : List RV := [.t 2, .t 3, .t 4]
theorem apW : FnC Try.prog dr [] 0 ag2 Try.f41 yI py := fnC (by kernel_rfl) Try.func41 (by kernel_rfl) (by kernel_rfl) (by decide)
def sa (R : IR → (Ex → St → Ro) → St → Ro) (a : St → Ro) : Ex → St → Ro := (bz a [1, 5, 1000001] 0 (aR 0 (bp (R ui) (fin py))))
abbrev fj : Type := (List aA × Int)
def cu : fj → St := fun (a, b) => { env := (.undef :: .ea [.sl .atype (.may false) a] :: (U 3 (.int .i64 b :: (U 48 [])))), hp := [] }
def anU (R : IR → (Ex → St → Ro) → St → Ro) (a b : St → Ro) : Ex → St → Ro := (bz b [1, 5, 6, 1000000] 0 (aR 2 (aR 1 (bp (R aa7) (sa R a)))))
abbrev ne : Type := (List aA × Int × Int)
def jk : ne → St := fun (a, b, c) => { env := (.undef :: .ea [.sl .atype (.may false) a] :: (U 3 (.int .i64 b :: .int .i64 c :: (U 47 [])))), hp := [] }
def sb (N : Nat) (a : St → Ro) : (St → Ro) → St → Ro := fun b s => run dr N aa6 (anU (run dr N) a b) s
def ng (N : Nat) (f : fj → Ro) (c : ne → Ro) : ne → Ro := fun (a, e, d) =>
 chk (decide (0 ≤ e) && decide (e < ↑(List.length a))) (
 let g : List aM := (List.getD a (Int.toNat e) (aC .atype)).fields
 let h : Int := (↑(List.length g) : Int)
 cond (decide (d < h)) (
 chk (decide (0 ≤ e) && decide (e < ↑(List.length a))) (
 let b : List aM := (List.getD a (Int.toNat e) (aC .atype)).fields
 chk (decide (0 ≤ d) && decide (d < ↑(List.length b))) (
 let i : Int := (List.getD b (Int.toNat d) (aC .afield)).typ
 let j : Bool := (List.getD b (Int.toNat d) (aC .afield)).hasdef
 let k : Int := (List.getD b (Int.toNat d) (aC .afield)).df.kind
 let m : Int := (List.getD b (Int.toNat d) (aC .afield)).df.n
 let o : Bs := (List.getD b (Int.toNat d) (aC .afield)).df.s
 let p : List aE := (List.getD b (Int.toNat d) (aC .afield)).df.l
 let q : Bss := (List.getD b (Int.toNat d) (aC .afield)).df.names
 cond (!j) (
 let r : Int := (IntKind.wrap .i64 (d + 1))
 c (a, e, r)) (
 aH (qR a i k m o p q) (fun v =>
 cond (!(v.2.2.2.2.2 == 0)) (
 some (.tup [.int .i64 v.2.2.2.2.2, .int .i64 e, .int .i64 d], [])) (
 let t : Int := (IntKind.wrap .i64 (d + 1))
 c (a, e, t))))))) (
 let u : Int := (IntKind.wrap .i64 (e + 1))
 f (a, u)))
theorem ame (N : Nat) (b : St → Ro) : ∀ (a : St → Ro) (x : ne), sb N b a (jk x) = ng N (fun y => b (cu y)) (fun y => a (jk y)) x := by
 intro a x
 kernel_rfl
def sc (N : Nat) : (St → Ro) → St → Ro := fun a s => run dr N oq (sa (run dr N) a) s
def qn (N : Nat) (b : fj → Ro) (d : ne → Ro) : fj → Ro := fun (a, c) =>
 let e : Int := (↑(List.length a) : Int)
 cond (decide (c < e)) (
 d (a, c, 0)) (
 some (.tup [.int .i64 0, .int .i64 0, .int .i64 0], []))
def sd (N : Nat) (a : fj → Ro) (x : fj) : Ro := qn N a (fun z => aQ N (ng N a) z) x
def xt (N : Nat) (a : St → Ro) : List (Nat × (St → Ro)) := (ba dr N oq (sa (run dr N) a) ++ (ba dr N ui (fin py) ++ []))
theorem amf (N : Nat) : ∀ (a : St → Ro) (x : fj), sc N a (cu x) = sd N (fun y => a (cu y)) x := by
 intro a x
 have hX : ∀ C : Nat → St → Ro, bQ C dr N oq (sa (bQ C dr N) a) (cu x) = qn N (fun y => a (cu y)) (fun z => C 1000000 (jk z)) x := by
  intro C
  kernel_rfl
 have h : sc N a (cu x) = qn N (fun y => a (cu y)) (fun z => bg N (sb N a) (jk z)) x := (ch (C := dA (xt N a)) (bO (aX (l := (xt N a)) (by kernel_rfl))) (oL (cp (eq (bO (da (aX (l := (xt N a)) (by kernel_rfl)))) rfl))) _).trans ((hX _).trans (by kernel_rfl))
 have e1 : (fun z => bg N (sb N a) (jk z)) = (fun z => aQ N (ng N (fun y => a (cu y))) z) := funext fun z => bc (jk) (sb N a) (ng N (fun y => a (cu y))) (ame N a) N z
 rw [h, e1]
 rfl
def pz (N : Nat) (a : List aA) (b : fj → Ro) : Ro :=
 b (a, 0)
def yJ (N : Nat) (a : List aA) : Ro := pz N a (fun z => aQ N (sd N) z)
def ar3 (N : Nat) : List (Nat × (St → Ro)) := ba dr N yI (fin py) ++ []
theorem anV (N : Nat) (a : List aA) : aW dr N 54 py yI [.agg [.sl .atype (.may false) a]] [] = yJ N a :=
 (bL (ar3 N) (by kernel_rfl) rfl (fun C => pz N a (fun z => C 1000001 (cu z))) (fun C => by kernel_rfl)).trans (Eq.trans (b := pz N a (fun z => bg N (sc N) (cu z))) (by kernel_rfl) (congrArg (pz N a) (funext fun z => bc (cu) (sc N) (sd N) (amf N) N z)))
theorem anW (N : Nat) (a : List aA) (h : Tot (yJ N a) (fun z => ∃ (b : Int) (c : Int) (d : Int) (rest : List aK), z.1.dimR = .tup [.int .i64 b, .int .i64 c, .int .i64 d] ∧ z.2 = rest)) : ∃ r, qP a r := by
 obtain ⟨⟨v, hp⟩, hz, b, c, d, rest, e1, e2⟩ := h
 simp only at e1 e2
 subst e2
 exact ⟨(b, c, d), aI.dimR (apW.pure (anV N a) hz) e1⟩
noncomputable def uY : aN := tab (P := Try.prog) [] [] [] [atn]
def afo : IR := Sq (Rs [Mv 7 0, Pp (.lens 8 7), Bc 9 .gtr 8 0] (Cn 9 .skip (.exit 0))) (.block 1 (Rs [Mv 11 0, Ca 12 162 [11], Mv 10 12, Ex_ 13 0 10, Ex_ 14 1 10, Mv 5 13, Mv 6 14] (Sq (Rs [Mv 15 6, Bc 16 .eql 15 0, Mv 17 16, Gf 17 (.mov 18 5), Gf 17 (.bin 19 .gtr 18 (.c (.int .u32 255))), Po 20 17 19] (Cn 20 (Rs [Ms 2 [], Mb 3 false] .ret) .skip)) (.reg [Mv 21 4, Mv 22 5, Pp (.cvi 23 .u8 22), Pp (.bsl 24 .u8 [23] true), Pp (.b2s 25 24), Bi 26 .add 21 25, Mv 27 0, Mv 28 6, Pp (.subs 29 27 (some 28) none), Mv 4 26, Mv 0 29] [[], [], [1], [1, 2], [1, 2, 3], rg 0 4, [], [], [6, 7], rg 0 5, rg 0 9]))))
def afp : IR := Rs [Mv 30 4, Mv 2 30, Mb 3 true] .ret
def ach : IR := Rs [Ms 2 [], Mb 3 false] (Rs [Ms 4 []] (Sq (.block 0 (.loop [0, 4, 1000000] 0 afo)) afp))
def xu : List RV := [.t 2, .t 3]
theorem atR : FnC Try.prog uY [] 0 alb Try.f147 ach xu := fnC (by kernel_rfl) Try.func147 (by kernel_rfl) (by kernel_rfl) (by decide)
def ar4 (R : IR → (Ex → St → Ro) → St → Ro) (a : St → Ro) : Ex → St → Ro := (bz a [0, 4, 1000000] 0 (aR 0 (bp (R afp) (fin xu))))
abbrev q9 : Type := (Bs × Bs)
def pA : q9 → St := fun (a, b) => { env := (.str a :: (U 3 (.str b :: (U 26 [])))), hp := [] }
def aaC (N : Nat) : (St → Ro) → St → Ro := fun a s => run uY N afo (ar4 (run uY N) a) s
def vC (N : Nat) (a : q9 → Ro) : q9 → Ro := fun (c, d) =>
 let e : Int := (↑(List.length c) : Int)
 cond (decide (0 < e)) (
 aH (sN c) (fun b =>
 cond (b.2 == 0) (
 some (.tup [.str ([] : Bs), .bool false], [])) (
 cond (decide (255 < b.1)) (
 some (.tup [.str ([] : Bs), .bool false], [])) (
 chk (decide (List.length d + List.length ([(UInt8.ofNat (Int.toNat (IntKind.wrap .u8 b.1)))] : Bs) ≤ 9223372036854775807)) (
 let f : Bs := (d ++ ([(UInt8.ofNat (Int.toNat (IntKind.wrap .u8 b.1)))] : Bs))
 chk (decide (0 ≤ b.2) && decide (b.2 ≤ (↑(List.length c) : Int))) (
 let g : Bs := (List.drop (Int.toNat b.2) (List.take (List.length c) c))
 a (g, f))))))) (
 some (.tup [.str d, .bool true], []))
theorem apX (N : Nat) : ∀ (a : St → Ro) (x : q9), aaC N a (pA x) = vC N (fun y => a (pA y)) x := by
 intro a x
 kernel_rfl
def tg (N : Nat) (a : Bs) (b : q9 → Ro) : Ro :=
 b (a, ([] : Bs))
def aci (N : Nat) (a : Bs) : Ro := tg N a (fun z => aQ N (vC N) z)
def auW (N : Nat) : List (Nat × (St → Ro)) := ba uY N ach (fin xu) ++ []
theorem ar5 (N : Nat) (a : Bs) : aW uY N 31 xu ach [.str a] [] = aci N a :=
 (bL (auW N) (by kernel_rfl) rfl (fun C => tg N a (fun z => C 1000000 (pA z))) (fun C => by kernel_rfl)).trans (Eq.trans (b := tg N a (fun z => bg N (aaC N) (pA z))) (by kernel_rfl) (congrArg (tg N a) (funext fun z => bc (pA) (aaC N) (vC N) (apX N) N z)))
theorem ar6 (N : Nat) (a : Bs) (h : Tot (aci N a) (fun z => ∃ (b : Bs) (c : Bool) (rest : List aK), z.1.dimR = .tup [.str b, .bool c] ∧ z.2 = rest)) : ∃ r, uJ a r := by
 obtain ⟨⟨v, hp⟩, hz, b, c, rest, e1, e2⟩ := h
 simp only at e1 e2
 subst e2
 exact ⟨(b, c), aI.dimR (atR.pure (ar5 N a) hz) e1⟩
end Go.Proofs.Ytdpajabhmmmjoaa
end
noncomputable section
namespace Go.Proofs.Ytdpajabhmmmjoaa
open Go.AM
set_option autoImplicit false
set_option linter.unusedVariables false
set_option linter.unusedSimpArgs false
set_option maxRecDepth 100000
theorem aym (s : List UInt8) (hs : s.length ≤ 1000) : ∃ r, uJ s r := by
 apply ar6 2000
 unfold aci tg
 refine be (fun x => x.1.length + x.2.length ≤ s.length) (fun x => x.1.length) ?_ _ _ (by simp) (by simp; omega)
 rintro again ⟨a, out⟩ h ih
 dsimp only at h ih
 unfold vC
 dsimp only
 refine aF (fun h1 => ?_) (fun _ => aG ⟨_, _, _, rfl, rfl⟩)
 have h1 := of_decide_eq_true h1
 refine aD (awM _ (by omega)) ?_
 rintro ⟨c, n⟩ ⟨-, hp⟩
 obtain ⟨p1, p2⟩ := aqN a
 rw [← (show (c, n) = dS a from hp)] at p1 p2
 dsimp only at p1 p2 ⊢
 repeat' (first | (with_reducible refine aF ?_ ?_ <;> (intro hb; (try simp only [bnl] at hb); (try revert hb; intro _))) | with_reducible refine aU ?_ ?_ | with_reducible refine aG ?_ | fail)
 all_goals first | exact ⟨_, _, _, rfl, rfl⟩ | (first | (simp only [bnl, lnl]; done) | (simp only [bnl, lnl]; omega)) | skip
 rename_i h2 h3
 have hn : 0 < n := by omega
 refine ih _ ?_ ?_
 ·simp only [List.length_append, List.length_cons, List.length_nil, List.length_drop, List.length_take]; omega
 ·simp only [List.length_append, List.length_cons, List.length_nil, List.length_drop, List.length_take]; omega
def ajH (ts : List aA) (deep : Int) : Prop := ∀ (all t c0 c1 : Int) (c2 : List UInt8) (c3 : List aE) (c4 : List (List UInt8)), 0 ≤ t → t < ts.length → bh (.mk c0 c1 c2 c3 c4) → ∃ r, ce ts all t c0 c1 c2 c3 c4 deep r
theorem awP (ts : List aA) (deep : Int) (hd : 1 ≤ deep ∧ deep ≤ 20) (hV : ajH ts (deep + 1)) (all k0 : Int) (k1 : List UInt8) (k2 : List (List UInt8)) (k3 : Int) (k4 : List (List UInt8)) (k5 : Bool) (k6 : List UInt8) (k7 : Int) (k8 : List aM) (k9 : List Int)
  (c0 c1 : Int) (c2 : List UInt8) (c3 : List aE) (c4 : List (List UInt8)) (hk : 0 ≤ k3 ∧ k3 < ts.length) (hn : bh (.mk c0 c1 c2 c3 c4)) (hm : k0 ≠ 12 → c4.length = c3.length) : ∃ r, gA ts all k0 k1 k2 k3 k4 k5 k6 k7 k8 k9 c0 c1 c2 c3 c4 deep r := by
 obtain ⟨n1, n2, n3, n4, n5, n6⟩ := hn.kids
 have ed : IntKind.i64.wrap (deep + 1) = deep + 1 := aJ (deep + 1) (by omega)
 apply ad8 1000
 unfold pv gj
 refine be (fun x => match x with
  | .inl (dp, v0, v1, v2, v3, v4, v5, v6, v7, v8, v9, d0, d1, d2, l, ks, i, ts', al, p0, p1, p2, p3, p4, q0, q1, q2, q3, q4) => dp = deep ∧ v0 = k0 ∧ v3 = k3 ∧ l = c3 ∧ ks = c4 ∧ 0 ≤ i ∧ i ≤ (c3.length : Int) ∧ ts' = ts ∧ q3 = [] ∧ (q2.length : Int) = i ∧ (k0 ≠ 12 → q2 = [])
  | .inr (dp, v0, v1, v2, v3, v4, v5, v6, v7, v8, v9, d0, d1, d2, l, ks, i, ts', al, p0, p1, p2, p3, p4, q0, q1, q2, q3, q4) => dp = deep ∧ v0 = k0 ∧ v3 = k3 ∧ l = c3 ∧ ks = c4 ∧ 0 ≤ i ∧ i ≤ (c3.length : Int) ∧ ts' = ts ∧ k0 ≠ 12 ∧ q3.length = q2.length ∧ (q2.length : Int) ≤ i)
  (fun x => match x with
  | .inl x => ((c3.length : Int) - x.2.2.2.2.2.2.2.2.2.2.2.2.2.2.2.2.1).toNat
  | .inr x => ((c3.length : Int) - x.2.2.2.2.2.2.2.2.2.2.2.2.2.2.2.2.1).toNat) ?_ _ _
  ⟨rfl, rfl, rfl, rfl, rfl, by simp, by simp, rfl, rfl, rfl, fun _ => rfl⟩ (by simp; omega)
 rintro again (⟨dp, v0, v1, v2, v3, v4, v5, v6, v7, v8, v9, d0, d1, d2, l, ks, i, ts', al, p0, p1, p2, p3, p4, q0, q1, q2, q3, q4⟩ | ⟨dp, v0, v1, v2, v3, v4, v5, v6, v7, v8, v9, d0, d1, d2, l, ks, i, ts', al, p0, p1, p2, p3, p4, q0, q1, q2, q3, q4⟩)
 ·rintro ⟨rfl, rfl, rfl, rfl, rfl, i1, i2, rfl, rfl, i3, i4⟩ ih
  dsimp only at ih
  have ei : i < l.length → IntKind.i64.wrap (i + 1) = i + 1 := fun h => aJ (i + 1) (by omega)
  unfold fH
  dsimp only
  rw [ed]
  refine aF (fun h0 => ?_) (fun _ => aG ⟨_, _, _, _, _, _, _, _, _, rfl, rfl, rfl⟩)
  have h := of_decide_eq_true h0
  clear h0
  refine vck ?_
  refine aD (hV _ _ _ _ _ _ _ hk.1 hk.2 (bh.eta.2 (bh.getD n6 i.toNat))) ?_
  rintro ⟨w0, w1, w2, w3, w4, e, ts2, al2⟩ ⟨-, rfl⟩
  dsimp only
  refine aF (fun _ => aG ⟨_, _, _, _, _, _, _, _, _, rfl, rfl, rfl⟩) (fun _ => aF (fun h12 => ?_) (fun h12 => ?_))
  ·simp only [bnl] at h12
   refine vck ?_
   refine ih (.inl (dp, v0, v1, v2, v3, v4, v5, v6, v7, v8, v9, d0, d1, d2, l, ks, _, ts2, al2, p0, p1, p2, p3, p4, q0, q1, _, [], q4)) ?_ ?_
   ·simp only [ei h, List.length_append, List.length_cons, List.length_nil]
    exact ⟨trivial, trivial, trivial, trivial, trivial, by omega, by omega, trivial, trivial, by omega, fun hh => absurd h12 hh⟩
   ·simp only [ei h]; omega
  ·simp only [bnl] at h12
   have hks := hm h12
   have hq := i4 h12
   subst hq
   refine vck ?_
   refine aD (akf _ _ _ _ _ _ _ _ _ _ _ rfl (by simp)) ?_
   rintro ⟨x0, x1, x2, x3, x4⟩ ⟨-, y1, y2⟩
   dsimp only at y1 y2 ⊢
   refine ih (.inr (dp, v0, v1, v2, v3, v4, v5, v6, v7, v8, v9, d0, d1, d2, l, ks, _, ts2, al2, p0, p1, p2, p3, p4, x0, x1, x2, x3, x4)) ?_ ?_
   ·simp only [ei h]
    simp only [List.length_nil] at y2
    exact ⟨trivial, trivial, trivial, trivial, trivial, by omega, by omega, trivial, h12, y1, by omega⟩
   ·simp only [ei h]; omega
 ·rintro ⟨rfl, rfl, rfl, rfl, rfl, i1, i2, rfl, i3, i4, i5⟩ ih
  dsimp only at ih
  have ei : i < l.length → IntKind.i64.wrap (i + 1) = i + 1 := fun h => aJ (i + 1) (by omega)
  have hks := hm i3
  unfold fH
  dsimp only
  rw [ed]
  refine aF (fun h0 => ?_) (fun _ => aG ⟨_, _, _, _, _, _, _, _, _, rfl, rfl, rfl⟩)
  have h := of_decide_eq_true h0
  clear h0
  refine vck ?_
  refine aD (hV _ _ _ _ _ _ _ hk.1 hk.2 (bh.eta.2 (bh.getD n6 i.toNat))) ?_
  rintro ⟨w0, w1, w2, w3, w4, e, ts2, al2⟩ ⟨-, rfl⟩
  dsimp only
  refine aF (fun _ => aG ⟨_, _, _, _, _, _, _, _, _, rfl, rfl, rfl⟩) (fun _ => aF (fun h12 => ?_) (fun h12 => ?_))
  ·simp only [bnl] at h12
   exact absurd h12 i3
  ·refine vck ?_
   refine aD (akf _ _ _ _ _ _ _ _ _ _ _ i4 (by omega)) ?_
   rintro ⟨x0, x1, x2, x3, x4⟩ ⟨-, y1, y2⟩
   dsimp only at y1 y2 ⊢
   refine ih (.inr (dp, v0, v1, v2, v3, v4, v5, v6, v7, v8, v9, d0, d1, d2, l, ks, _, ts2, al2, p0, p1, p2, p3, p4, x0, x1, x2, x3, x4)) ?_ ?_
   ·simp only [ei h]
    exact ⟨trivial, trivial, trivial, trivial, trivial, by omega, by omega, trivial, i3, y1, by omega⟩
   ·simp only [ei h]; omega
theorem auX (ts : List aA) (deep : Int) (hd : 1 ≤ deep ∧ deep ≤ 20) (hV : ajH ts (deep + 1)) (all k0 : Int) (k1 : List UInt8) (k2 : List (List UInt8)) (k3 : Int) (k4 : List (List UInt8)) (k5 : Bool) (k6 : List UInt8) (k7 : Int) (k8 : List aM) (k9 : List Int)
  (c0 c1 : Int) (c2 : List UInt8) (c3 : List aE) (c4 : List (List UInt8)) (hk : vN ts.length k8) (hn : bh (.mk c0 c1 c2 c3 c4)) : ∃ r, fX ts all k0 k1 k2 k3 k4 k5 k6 k7 k8 k9 c0 c1 c2 c3 c4 deep r := by
 obtain ⟨n1, n2, n3, n4, n5, n6⟩ := hn.kids
 obtain ⟨hk1, hk2⟩ := hk
 have ed : IntKind.i64.wrap (deep + 1) = deep + 1 := aJ (deep + 1) (by omega)
 apply acV 1000
 unfold n9 fI
 refine be (fun x => match x with
  | (dp, v0, v1, v2, v3, v4, v5, v6, v7, v8, v9, d0, d1, d2, l, ks, i, ts', al, p0, p1, p2, p3, p4, q0, q1, q2, q3, q4) => dp = deep ∧ v8 = k8 ∧ bh (.mk d0 d1 d2 l ks) ∧ 0 ≤ i ∧ i ≤ (k8.length : Int) ∧ ts' = ts ∧ (q2.length : Int) = i)
  (fun x => ((k8.length : Int) - x.2.2.2.2.2.2.2.2.2.2.2.2.2.2.2.2.1).toNat) ?_ _ _
  ⟨rfl, rfl, hn, by simp, by simp, rfl, rfl⟩ (by simp; omega)
 rintro again ⟨dp, v0, v1, v2, v3, v4, v5, v6, v7, v8, v9, d0, d1, d2, l, ks, i, ts', al, p0, p1, p2, p3, p4, q0, q1, q2, q3, q4⟩ ⟨rfl, rfl, hn', i1, i2, rfl, i3⟩ ih
 dsimp only at ih
 have ei : i < v8.length → IntKind.i64.wrap (i + 1) = i + 1 := fun h => aJ (i + 1) (by omega)
 obtain ⟨m1, m2, m3, m4, m5, m6⟩ := hn'.kids
 unfold iJ
 dsimp only
 rw [ed]
 refine aF (fun h => ?_) (fun _ => aG ⟨_, _, _, _, _, _, _, _, _, rfl, rfl, rfl⟩)
 have h := of_decide_eq_true h
 have hl : i.toNat < v8.length := by omega
 have hf := hk2 v8[i.toNat] (List.getElem_mem hl)
 have hg : v8.getD i.toNat (aC .afield) = v8[i.toNat] := po (List.getElem?_eq_getElem hl)
 refine vck ?_
 refine aD (pd _ _ _ _ _ _ (by omega)) ?_
 rintro r ⟨-, hr⟩
 have hgo := tR (k := d0) (names := ks) (name := (v8.getD i.toNat (aC .afield)).name) m6
 simp only [ct] at hr
 rw [← hr] at hgo
 clear hr
 have next : ∀ (al2 : Int) (w : aB), Tot (again (dp, v0, v1, v2, v3, v4, v5, v6, v7, v8, v9, d0, d1, d2, l, ks, IntKind.i64.wrap (i + 1), ts', al2, p0, p1, p2, p3, p4, q0, q1, q2 ++ [w], q3, q4)) _ := fun al2 w => ih (dp, v0, v1, v2, v3, v4, v5, v6, v7, v8, v9, d0, d1, d2, l, ks, IntKind.i64.wrap (i + 1), ts', al2, p0, p1, p2, p3, p4, q0, q1, q2 ++ [w], q3, q4)
  (by
   simp only [ei h, List.length_append, List.length_cons, List.length_nil]
   exact ⟨trivial, trivial, hn', by omega, by omega, trivial, by omega⟩) (by simp only [ei h]; omega)
 refine aF (fun _ => aF (fun _ => aG ⟨_, _, _, _, _, _, _, _, _, rfl, rfl, rfl⟩) (fun _ => ?_)) (fun _ => ?_)
 ·refine aD (hV _ _ _ _ _ _ _ (by rw [hg]; exact hf.1) (by rw [hg]; exact hf.2.1) (by rw [hg]; exact bh.eta.2 hf.2.2)) ?_
  rintro ⟨w0, w1, w2, w3, w4, e, ts2, al2⟩ ⟨-, rfl⟩
  dsimp only
  refine aF (fun _ => aG ⟨_, _, _, _, _, _, _, _, _, rfl, rfl, rfl⟩) (fun _ => ?_)
  refine vck ?_
  exact next _ _
 ·refine aD (hV _ _ _ _ _ _ _ (by rw [hg]; exact hf.1) (by rw [hg]; exact hf.2.1) hgo) ?_
  rintro ⟨w0, w1, w2, w3, w4, e, ts2, al2⟩ ⟨-, rfl⟩
  dsimp only
  refine aF (fun _ => aG ⟨_, _, _, _, _, _, _, _, _, rfl, rfl, rfl⟩) (fun _ => ?_)
  refine vck ?_
  exact next _ _
theorem anX (ts : List aA) (hs : dm ts) (deep : Int) (hd : 1 ≤ deep ∧ deep ≤ 21) (hV : deep ≤ 20 → ajH ts (deep + 1)) : ajH ts deep := by
 intro all t c0 c1 c2 c3 c4 ht ht2 hn
 obtain ⟨n1, n2, n3, n4, n5, n6⟩ := hn.kids
 have ed : IntKind.i64.wrap (deep + 1) = deep + 1 := aJ (deep + 1) (by omega)
 apply aec 1000
 unfold px gm
 dsimp only
 refine aF (fun _ => aG ⟨_, _, _, _, _, _, _, _, _, rfl, rfl, rfl⟩) (fun h20 => aF (fun _ => aG ⟨_, _, _, _, _, _, _, _, _, rfl, rfl, rfl⟩) (fun _ => vck ?_))
 have h20 := of_decide_eq_false h20
 have hV := hV (by omega)
 have hl : t.toNat < ts.length := by omega
 have hT := hs.2 ts[t.toNat] (List.getElem_mem hl)
 rw [po (List.getElem?_eq_getElem hl)]
 generalize ts[t.toNat] = k at hT
 obtain ⟨k0, k1, k2, k3, k4, k5, k6, k7, k8, k9⟩ := k
 dsimp only
 have three : ∀ (b : List UInt8) (f : Bool) (al x0 : Int) (x1 : List UInt8) (x2 : List aB) (x3 : List (List UInt8)) (x4 : Int), Tot (fM 1000 (b, f, ts, al, x0, x1, x2, x3, x4)) (fun z => ∃ (y0 : Int) (y1 : List UInt8) (y2 : List aB) (y3 : List (List UInt8)) (y4 y5 : Int) (y6 : List aA) (y7 : Int) (rest : List aK), z.1.dimR = .tup [.agg [.int .u64 y0, .str y1, .sl .aval (.may false) y2, .sl .str (.may false) y3, .int .i64 y4], .int .i64 y5] ∧ z.2 = some [.sl .atype (.may false) y6, .int .i64 y7] :: rest ∧ cw ts all t c0 c1 c2 c3 c4 deep (y0, y1, y2, y3, y4, y5, y6, y7)) := by
  intro b f al x0 x1 x2 x3 x4
  unfold fM
  dsimp only
  repeat' (first | (with_reducible refine aF ?_ ?_ <;> (intro hb; (try simp only [bnl] at hb); (try revert hb; intro _))) | with_reducible refine aU ?_ ?_ | with_reducible refine aG ?_ | fail)
  all_goals exact ⟨_, _, _, _, _, _, _, _, _, rfl, rfl, rfl⟩
 have four : ∀ (al x0 : Int) (x1 : List UInt8) (x2 : List aB) (x3 : List (List UInt8)) (x4 : Int), Tot (aQ 1000 (eg 1000) (c0, c1, c2, c3, c4, k0, k1, k2, k3, k4, k5, k6, k7, k8, k9, 0, ts, al, x0, x1, x2, x3, x4)) (fun z => ∃ (y0 : Int) (y1 : List UInt8) (y2 : List aB) (y3 : List (List UInt8)) (y4 y5 : Int) (y6 : List aA) (y7 : Int) (rest : List aK), z.1.dimR = .tup [.agg [.int .u64 y0, .str y1, .sl .aval (.may false) y2, .sl .str (.may false) y3, .int .i64 y4], .int .i64 y5] ∧ z.2 = some [.sl .atype (.may false) y6, .int .i64 y7] :: rest ∧ cw ts all t c0 c1 c2 c3 c4 deep (y0, y1, y2, y3, y4, y5, y6, y7)) := by
  intro al x0 x1 x2 x3 x4
  have hns : k4.length ≤ 100 := hT.ns
  refine be (fun x => match x with
   | (d0, d1, d2, d3, d4, v0, v1, v2, v3, v4, v5, v6, v7, v8, v9, i, ts', al, p0, p1, p2, p3, p4) => v4 = k4 ∧ 0 ≤ i ∧ i ≤ (k4.length : Int) ∧ ts' = ts)
   (fun x => ((k4.length : Int) - x.2.2.2.2.2.2.2.2.2.2.2.2.2.2.2.1).toNat) ?_ _ _ ⟨rfl, by simp, by simp, rfl⟩ (by simp; omega)
  rintro again ⟨d0, d1, d2, d3, d4, v0, v1, v2, v3, v4, v5, v6, v7, v8, v9, i, ts', al, p0, p1, p2, p3, p4⟩ ⟨rfl, i1, i2, rfl⟩ ih
  dsimp only at ih
  unfold eg
  dsimp only
  repeat' (first | (with_reducible refine aF ?_ ?_ <;> (intro hb; (try simp only [bnl] at hb); (try revert hb; intro _))) | with_reducible refine aU ?_ ?_ | with_reducible refine aG ?_ | fail)
  all_goals first | (first | (simp only [bnl, lnl]; done) | (simp only [bnl, lnl]; omega)) | exact ⟨_, _, _, _, _, _, _, _, _, rfl, rfl, rfl⟩ | skip
  have ei : IntKind.i64.wrap (i + 1) = i + 1 := aJ (i + 1) (by omega)
  refine ih (d0, d1, d2, d3, d4, v0, v1, v2, v3, v4, v5, v6, v7, v8, v9, _, ts', al, p0, p1, p2, p3, p4) ?_ ?_
  ·simp only [ei]; exact ⟨trivial, by omega, by omega, trivial⟩
  ·simp only [ei]; omega
 have five : ∀ (f : Bool) (al x0 : Int) (x1 : List UInt8) (x2 : List aB) (x3 : List (List UInt8)) (x4 : Int), (f = true → k0 = 12 ∨ c0 = 6) → Tot (fO 1000 (deep, c0, c1, c2, c3, c4, k0, k1, k2, k3, k4, k5, k6, k7, k8, k9, f, ts, al, x0, x1, x2, x3, x4)) (fun z => ∃ (y0 : Int) (y1 : List UInt8) (y2 : List aB) (y3 : List (List UInt8)) (y4 y5 : Int) (y6 : List aA) (y7 : Int) (rest : List aK), z.1.dimR = .tup [.agg [.int .u64 y0, .str y1, .sl .aval (.may false) y2, .sl .str (.may false) y3, .int .i64 y4], .int .i64 y5] ∧ z.2 = some [.sl .atype (.may false) y6, .int .i64 y7] :: rest ∧ cw ts all t c0 c1 c2 c3 c4 deep (y0, y1, y2, y3, y4, y5, y6, y7)) := by
  intro f al x0 x1 x2 x3 x4 hf
  unfold fO
  dsimp only
  rw [ed]
  have un : k0 = 14 → 0 < k9.length ∧ 0 ≤ k9.getD 0 (aC (.num .i64)) ∧ k9.getD 0 (aC (.num .i64)) < ts.length := by
   intro h
   have hne : k9 ≠ [] := hT.done h
   have hpos : 0 < k9.length := List.length_pos_iff.2 hne
   have := hT.branches k9[0] (List.getElem_mem hpos)
   rw [po (List.getElem?_eq_getElem hpos)]
   exact ⟨hpos, this⟩
  repeat' (first | (with_reducible refine aF ?_ ?_ <;> (intro hb; (try simp only [bnl] at hb); (try revert hb; intro _))) | with_reducible refine aU ?_ ?_ | with_reducible refine aG ?_ | (refine aD (awP ts deep (by omega) hV _ _ _ _ _ _ _ _ _ _ _ _ _ _ _ _ hT.items hn ?_) ?_; rotate_left; rintro ⟨w0, w1, w2, w3, w4, e, ts2, al2⟩ ⟨-, rfl⟩; dsimp only) | (refine aD (auX ts deep (by omega) hV _ _ _ _ _ _ _ _ _ _ _ _ _ _ _ _ ⟨hT.nf, hT.fields⟩ hn) ?_; rintro ⟨w0, w1, w2, w3, w4, e, ts2, al2⟩ ⟨-, rfl⟩; dsimp only) | (refine aD (hV _ _ _ _ _ _ _ (un (by assumption)).2.1 (un (by assumption)).2.2 hn) ?_; rintro ⟨w0, w1, w2, w3, w4, e, ts2, al2⟩ ⟨-, rfl⟩; dsimp only) | fail)
  all_goals first | exact ⟨_, _, _, _, _, _, _, _, _, rfl, rfl, rfl⟩ | (have := (un (by assumption)).1; first | (simp only [bnl, lnl]; done) | (simp only [bnl, lnl]; omega)) | skip
  ·rename_i h
   intro h12
   rcases hf h with h' | h'
   ·exact absurd h' h12
   ·exact n5 h'
 have two : ∀ (f : Bool) (al x0 : Int) (x1 : List UInt8) (x2 : List aB) (x3 : List (List UInt8)) (x4 : Int), Tot (fP 1000 (deep, c0, c1, c2, c3, c4, k0, k1, k2, k3, k4, k5, k6, k7, k8, k9, f, ts, al, x0, x1, x2, x3, x4)) (fun z => ∃ (y0 : Int) (y1 : List UInt8) (y2 : List aB) (y3 : List (List UInt8)) (y4 y5 : Int) (y6 : List aA) (y7 : Int) (rest : List aK), z.1.dimR = .tup [.agg [.int .u64 y0, .str y1, .sl .aval (.may false) y2, .sl .str (.may false) y3, .int .i64 y4], .int .i64 y5] ∧ z.2 = some [.sl .atype (.may false) y6, .int .i64 y7] :: rest ∧ cw ts all t c0 c1 c2 c3 c4 deep (y0, y1, y2, y3, y4, y5, y6, y7)) := by
  intro f al x0 x1 x2 x3 x4
  unfold fP iN
  dsimp only
  repeat' (first | (with_reducible refine aF ?_ ?_ <;> (intro hb; (try simp only [bnl] at hb); (try revert hb; intro _))) | with_reducible refine aU ?_ ?_ | with_reducible refine aG ?_ | (refine aD (aym _ (by omega)) ?_; intro _ _) | fail)
  all_goals first | exact three _ _ _ _ _ _ _ _ | exact four _ _ _ _ _ _ | (refine five _ _ _ _ _ _ _ ?_) | skip
  all_goals (intro hh; first | exact .inl (by assumption) | (simp at hh; done) | (right; simp at hh; exact hh))
 have one : ∀ (f g : Bool) (al x0 : Int) (x1 : List UInt8) (x2 : List aB) (x3 : List (List UInt8)) (x4 : Int), Tot (fQ 1000 (deep, c0, c1, c2, c3, c4, k0, k1, k2, k3, k4, k5, k6, k7, k8, k9, f, g, ts, al, x0, x1, x2, x3, x4)) (fun z => ∃ (y0 : Int) (y1 : List UInt8) (y2 : List aB) (y3 : List (List UInt8)) (y4 y5 : Int) (y6 : List aA) (y7 : Int) (rest : List aK), z.1.dimR = .tup [.agg [.int .u64 y0, .str y1, .sl .aval (.may false) y2, .sl .str (.may false) y3, .int .i64 y4], .int .i64 y5] ∧ z.2 = some [.sl .atype (.may false) y6, .int .i64 y7] :: rest ∧ cw ts all t c0 c1 c2 c3 c4 deep (y0, y1, y2, y3, y4, y5, y6, y7)) := by
  intro f g al x0 x1 x2 x3 x4
  unfold fQ iO
  dsimp only
  repeat' (first | (with_reducible refine aF ?_ ?_ <;> (intro hb; (try simp only [bnl] at hb); (try revert hb; intro _))) | with_reducible refine aU ?_ ?_ | with_reducible refine aG ?_ | (refine aD (awK _) ?_; intro _ _) | (refine aD (av2 _) ?_; intro _ _) | fail)
  all_goals first | exact two _ _ _ _ _ _ _ | exact ⟨_, _, _, _, _, _, _, _, _, rfl, rfl, rfl⟩
 have zero : ∀ (f g : Bool) (al x0 : Int) (x1 : List UInt8) (x2 : List aB) (x3 : List (List UInt8)) (x4 : Int), Tot (jX 1000 (deep, c0, c1, c2, c3, c4, k0, k1, k2, k3, k4, k5, k6, k7, k8, k9, f, g, ts, al, x0, x1, x2, x3, x4)) (fun z => ∃ (y0 : Int) (y1 : List UInt8) (y2 : List aB) (y3 : List (List UInt8)) (y4 y5 : Int) (y6 : List aA) (y7 : Int) (rest : List aK), z.1.dimR = .tup [.agg [.int .u64 y0, .str y1, .sl .aval (.may false) y2, .sl .str (.may false) y3, .int .i64 y4], .int .i64 y5] ∧ z.2 = some [.sl .atype (.may false) y6, .int .i64 y7] :: rest ∧ cw ts all t c0 c1 c2 c3 c4 deep (y0, y1, y2, y3, y4, y5, y6, y7)) := by
  intro f g al x0 x1 x2 x3 x4
  unfold jX iP
  dsimp only
  repeat' (first | (with_reducible refine aF ?_ ?_ <;> (intro hb; (try simp only [bnl] at hb); (try revert hb; intro _))) | with_reducible refine aU ?_ ?_ | with_reducible refine aG ?_ | fail)
  all_goals exact one _ _ _ _ _ _ _ _
 repeat' (first | (with_reducible refine aF ?_ ?_ <;> (intro hb; (try simp only [bnl] at hb); (try revert hb; intro _))) | with_reducible refine aU ?_ ?_ | with_reducible refine aG ?_ | fail)
 all_goals first | exact zero _ _ _ _ _ _ _ _ | exact ⟨_, _, _, _, _, _, _, _, _, rfl, rfl, rfl⟩
theorem aqS (ts : List aA) (hs : dm ts) : ∀ (n : Nat) (deep : Int), deep + n = 21 → 1 ≤ deep → ajH ts deep
 | 0, deep, h, h1 => anX ts hs deep (by omega) (fun h' => by omega)
 | n + 1, deep, h, h1 => anX ts hs deep (by omega) (fun _ => aqS ts hs n (deep + 1) (by omega) (by omega))
theorem awQ (ts : List aA) (hs : dm ts) (t c0 c1 : Int) (c2 : List UInt8) (c3 : List aE) (c4 : List (List UInt8)) (ht : 0 ≤ t ∧ t < ts.length) (hn : bh (.mk c0 c1 c2 c3 c4)) : ∃ r, qR ts t c0 c1 c2 c3 c4 r := by
 apply anT 1
 unfold yH afn
 refine aD (anO _ _) ?_
 intro b _
 refine aF (fun _ => aG ⟨_, _, _, _, _, _, _, rfl, rfl⟩) (fun _ => ?_)
 refine aD (aqS ts hs 20 1 (by omega) (by omega) _ _ _ _ _ _ _ ht.1 ht.2 hn) ?_
 rintro r _
 repeat' (first | (with_reducible refine aF ?_ ?_ <;> (intro hb; (try simp only [bnl] at hb); (try revert hb; intro _))) | with_reducible refine aU ?_ ?_ | with_reducible refine aG ?_ | fail)
 all_goals exact ⟨_, _, _, _, _, _, _, rfl, rfl⟩
theorem awR (ts : List aA) (hs : dm ts) : ∃ r, qP ts r := by
 have h60 := hs.1
 apply anW 1000
 unfold yJ pz
 refine be (fun x => match x with | (ts', i) => ts' = ts ∧ 0 ≤ i ∧ i ≤ (ts.length : Int)) (fun x => ((ts.length : Int) - x.2).toNat) ?_ _ _ ⟨rfl, by simp, by simp⟩ (by simp; omega)
 rintro again ⟨ts', i⟩ ⟨rfl, i1, i2⟩ ih
 dsimp only at i1 i2 ih
 have ei : i < ts'.length → IntKind.i64.wrap (i + 1) = i + 1 := fun h => aJ (i + 1) (by omega)
 unfold sd qn
 dsimp only
 refine aF (fun h => ?_) (fun _ => aG ⟨_, _, _, _, rfl, rfl⟩)
 have h := of_decide_eq_true h
 have hl : i.toNat < ts'.length := by omega
 have hT := hs.2 ts'[i.toNat] (List.getElem_mem hl)
 have hg : ts'.getD i.toNat (aC .atype) = ts'[i.toNat] := po (List.getElem?_eq_getElem hl)
 generalize hk : ts'[i.toNat] = k at hT hg
 have hnf := hT.nf
 refine be (fun x => match x with | (ts2, i', j) => ts2 = ts' ∧ i' = i ∧ 0 ≤ j ∧ j ≤ (k.fields.length : Int)) (fun x => ((k.fields.length : Int) - x.2.2).toNat) ?_ _ _ ⟨rfl, rfl, by simp, by simp⟩ (by simp; omega)
 rintro again1 ⟨ts2, i', j⟩ ⟨rfl, rfl, j1, j2⟩ ih1
 dsimp only at j1 j2 ih1
 have ej : j < k.fields.length → IntKind.i64.wrap (j + 1) = j + 1 := fun h => aJ (j + 1) (by omega)
 have next : j < k.fields.length → Tot (again1 (ts2, i', IntKind.i64.wrap (j + 1))) _ := fun hj => ih1 (ts2, i', IntKind.i64.wrap (j + 1)) (by simp only [ej hj]; exact ⟨trivial, trivial, by omega, by omega⟩) (by simp only [ej hj]; omega)
 unfold ng
 dsimp only
 rw [hg]
 refine vck (aF (fun hj => ?_) (fun hj => ?_))
 ·have hj := of_decide_eq_true hj
  have hjl : j.toNat < k.fields.length := by omega
  have hf := hT.fields k.fields[j.toNat] (List.getElem_mem hjl)
  refine vck (vck ?_)
  rw [po (List.getElem?_eq_getElem hjl)]
  refine aF (fun _ => next hj) (fun _ => ?_)
  refine aD (awQ ts2 hs _ _ _ _ _ _ ⟨hf.1, hf.2.1⟩ (bh.eta.2 hf.2.2)) ?_
  intro r _
  exact aF (fun _ => aG ⟨_, _, _, _, rfl, rfl⟩) (fun _ => next hj)
 ·exact ih (ts2, _) (by simp only [ei h]; exact ⟨trivial, by omega, by omega⟩) (by simp only [ei h]; omega)
theorem axF (a : List UInt8) (n : Int) (hp : fe a n) : ∃ r, kW a n r := by
 apply aid 1
 unfold tb zL
 refine aD (av6 a n hp) ?_
 rintro ⟨t0, t1, t2, t3, t4, a', n'⟩ ⟨-, h1, rfl, h3⟩
 dsimp only at h1 h3 ⊢
 refine aD (axE _ _ _ _ _ h1) ?_
 rintro ⟨ts, e⟩ ⟨-, hs⟩
 dsimp only [w9] at hs ⊢
 refine aF (fun _ => aG ⟨_, _, _, _, _, rfl, rfl, (fun h => by cases h), rfl, h3⟩) (fun he => ?_)
 simp only [bnl] at he
 refine aD (awR ts (hs he)) ?_
 intro r _
 exact aG ⟨_, _, _, _, _, rfl, rfl, fun _ => hs he, rfl, h3⟩
end Go.Proofs.Ytdpajabhmmmjoaa
end
noncomputable section
namespace Go.Proofs.Ytdpajabhmmmjoaa
open Go.AM
set_option autoImplicit false
set_option linter.unusedVariables false
set_option maxRecDepth 100000
noncomputable def mh : aN := tab (P := Try.prog) [] [] [] [abq, ai2, aru]
def acj : IR := Rs [Mv 97 11, Mv 98 97, Gt 98 (.mov 99 8), Gt 98 (.mov 100 99), Gf 100 (.fad 101 0 5), Gf 100 (.lde 102 1 false 101), Gf 100 (.bin 103 .eql 102 (kU 0)), Gt 98 (.pick 104 100 (kB true) 103), Pa 105 98 104, Mv 106 105, Gt 106 (.mov 107 9), Gt 106 (.mov 108 107), Gf 108 (.fad 109 1 5), Gf 108 (.lde 110 1 false 109), Gf 108 (.bin 111 .eql 110 (kS [])), Gt 106 (.pick 112 108 (kB true) 111), Pa 113 106 112, Mv 114 113, Gt 114 (.mov 115 10), Gt 114 (.mov 116 115), Gf 116 (.fad 117 2 5), Gf 116 (.lde 118 1 false 117), Gf 116 (.lenl 119 118), Gf 116 (.bin 120 .eql 119 (kI 0)), Gt 114 (.pick 121 116 (kB true) 120), Pa 122 114 121, Mv 6 122] .ret
def qo : IR := Sq (Rs [Fa 78 0 7, Lq 79 78, Bc 80 .neq 79 13, Mv 81 80, Gt 81 (.fad 82 3 5), Gt 81 (.lde 83 1 false 82), Gt 81 (.lenl 84 83), Gt 81 (.bin 85 .gtr 84 (kI 0)), Pa 86 81 85, Mv 87 86, Gf 87 (.fad 88 0 7), Gf 87 (.lde 89 1 false 88), Gf 87 (.bin 90 .neq 89 (kI 14)), Gf 87 (.mov 91 90), Gt 91 (.fad 92 4 5), Gt 91 (.lde 93 1 false 92), Gt 91 (.bin 94 .neq 93 (kI 0)), Gf 87 (.pick 95 91 94 (kB false)), Po 96 87 95] (Cn 96 (Rs [Mb 6 false] .ret) .skip)) (.cut [5, 8, 9, 10, 11, 1000000] 0 acj)
def aaD : IR := Rs [Bx 3 0, Bx 5 2, Mb 6 false] (Sq (Rs [Ld 12 1 true 3, Mv 13 1, Ca 14 45 [12, 13], Un 15 14] (Cn 15 (Rs [Mb 6 false] .ret) .skip)) (Rs [Fa 16 0 3, Lq 17 16, Mv 18 1, Ix 19 .atype 17 18, Ld 20 10 true 19, Pp (.alr 7 10), Fz 7 10 20] (Rs [Mb 8 false, Mb 9 false, Mb 10 false] (Rs [Mb 11 true] (Sq (Rs [Fa 21 0 7, Lq 22 21] (.block 0 (Rs [Bc 28 .eql 22 1, Mv 27 28] (Cn 27 .skip (Rs [Bc 30 .eql 22 2, Mv 29 30] (Cn 29 (.reg [Fa 31 0 5, Lq 32 31, Pp (.bin 33 .leq 32 (kU 1)), Mb 8 true, Mv 11 33] [[], [0], [0, 1], [], rg 0 3]) (Rs [Bc 35 .eql 22 3, Mv 34 35] (Cn 34 (.reg [Fa 36 0 5, Lq 37 36, Pp (.cvi 38 .i64 37), Pp (.bin 39 .geq 38 (kI (-2147483648))), Mv 40 39, Gt 40 (.fad 41 0 5), Gt 40 (.lde 42 1 false 41), Gt 40 (.cvi 43 .i64 42), Gt 40 (.bin 44 .lss 43 (kI 2147483648)), Pa 45 40 44, Mb 8 true, Mv 11 45] [[], [0], [0, 1], [0, 1, 2], rg 0 3, rg 0 4, rg 0 5, rg 0 6, rg 0 7, rg 0 8, rg 0 4, rg 0 10]) (Sq (Rs [Bc 47 .eql 22 4, Mv 46 47] (Cn 46 .skip (Rg [Bc 48 .eql 22 6, Mv 46 48]))) (Cn 46 (Rg [Mb 8 true]) (Rs [Bc 50 .eql 22 5, Mv 49 50] (Cn 49 (.reg [Fa 51 0 5, Lq 52 51, Pp (.bin 53 .lss 52 (kU 4294967296)), Mb 8 true, Mv 11 53] [[], [0], [0, 1], [], rg 0 3]) (Rs [Bc 55 .eql 22 10, Mv 54 55] (Cn 54 (.reg [Fa 56 0 5, Lq 57 56, Fa 58 4 7, Lq 59 58, Ll 60 59, Pp (.cvi 61 .u64 60), Bi 62 .lss 57 61, Mb 8 true, Mv 11 62] [[], [0], [], [2], [2, 3], [2, 3, 4], rg 0 5, [], rg 0 7]) (Rs [Bc 64 .eql 22 7, Mv 63 64] (Cn 63 (Rg [Mb 9 true]) (Rs [Bc 66 .eql 22 8, Mv 65 66] (Cn 65 (Rg [Fa 67 1 5, Lq 68 67, Ca 69 46 [68], Mb 9 true, Mv 11 69]) (Rs [Bc 71 .eql 22 11, Mv 70 71] (Cn 70 (.reg [Fa 72 1 5, Lq 73 72, Pp (.lens 74 73), Fa 75 7 7, Lq 76 75, Bi 77 .eql 74 76, Mb 9 true, Mv 11 77] [[], [0], [0, 1], [], [3], rg 0 4, [], rg 0 6]) (Rg [Ld 23 1 true 3, Ld 24 10 true 7, Ld 25 5 true 5, Ca 26 47 [23, 24, 25], Mb 10 true, Mv 11 26]))))))))))))))))))))) (.cut [5, 7, 8, 9, 10, 11, 1000001] 0 qo))))))
def kO : List RV := [.t 6]
theorem ar7 : FnC Try.prog mh [] 0 aiY Try.f18 aaD kO := fnC (by kernel_rfl) Try.func18 (by kernel_rfl) (by kernel_rfl) (by decide)
abbrev pB : Type := (Int × Bs × List aB × Bss × Int × Int × Bs × Bss × Int × Bss × Bool × Bs × Int × List aM × List Int × Bool × Bool × Bool × Bool)
def nh : pB → St := fun (j, k, l, m, n, o, p, q, r, s, a, b, c, d, e, f, g, h, i) => { env := (U 5 (.ea [.int .u64 j, .str k, .sl .aval (.may false) l, .sl .str (.may false) m, .int .i64 n] :: .undef :: .ea [.int .i64 o, .str p, .sl .str (.may false) q, .int .i64 r, .sl .str (.may false) s, .bool a, .str b, .int .i64 c, .sl .afield (.may false) d, .sl (.num .i64) (.may false) e] :: .bool f :: .bool g :: .bool h :: .bool i :: (U 111 []))), hp := [] }
abbrev tS : Type := (Int × Bs × List aB × Bss × Int × Bool × Bool × Bool × Bool)
def se : tS → St := fun (a, b, c, d, e, f, g, h, i) => { env := (U 5 (.ea [.int .u64 a, .str b, .sl .aval (.may false) c, .sl .str (.may false) d, .int .i64 e] :: .undef :: .undef :: .bool f :: .bool g :: .bool h :: .bool i :: (U 111 []))), hp := [] }
def yK (N : Nat) : St → Ro := fun s => run mh N acj (fin kO) s
def pC (N : Nat) : tS → Ro := fun (d, c, a, _, _, m, l, b, e) =>
 cond e (
 cond m (
 cond l (
 cond b (
 some (.bool true, [])) (
 let f : Int := (↑(List.length a) : Int)
 some (.bool (f == 0), []))) (
 let g : Bool := decide (c = ([] : Bs))
 cond g (
 cond b (
 some (.bool true, [])) (
 let h : Int := (↑(List.length a) : Int)
 some (.bool (h == 0), []))) (
 some (.bool false, [])))) (
 cond (d == 0) (
 cond l (
 cond b (
 some (.bool true, [])) (
 let i : Int := (↑(List.length a) : Int)
 some (.bool (i == 0), []))) (
 let j : Bool := decide (c = ([] : Bs))
 cond j (
 cond b (
 some (.bool true, [])) (
 let k : Int := (↑(List.length a) : Int)
 some (.bool (k == 0), []))) (
 some (.bool false, [])))) (
 some (.bool false, [])))) (
 some (.bool false, []))
theorem anY (N : Nat) : ∀ (x : tS), yK N (se x) = pC N x := by
 intro x
 kernel_rfl
def yL (N : Nat) : St → Ro := fun s => run mh N qo (fin kO) s
def sf (N : Nat) (i : tS → Ro) : pB → Ro := fun (c, d, e, b, a, f, _, _, _, _, _, _, _, _, _, j, k, g, h) =>
 cond (!(f == 13)) (
 let l : Int := (↑(List.length b) : Int)
 cond (decide (0 < l)) (
 some (.bool false, [])) (
 cond (!(f == 14)) (
 cond (!(a == 0)) (
 some (.bool false, [])) (
 i (c, d, e, b, a, j, k, g, h))) (
 i (c, d, e, b, a, j, k, g, h)))) (
 cond (!(f == 14)) (
 cond (!(a == 0)) (
 some (.bool false, [])) (
 i (c, d, e, b, a, j, k, g, h))) (
 i (c, d, e, b, a, j, k, g, h)))
def pD (N : Nat) (x : pB) : Ro := sf N (fun z => pC N z) x
def afq (N : Nat) : List (Nat × (St → Ro)) := (ba mh N qo (fin kO) ++ [])
theorem anZ (N : Nat) : ∀ (x : pB), yL N (nh x) = pD N x := by
 intro x
 have hX : ∀ C : Nat → St → Ro, bQ C mh N qo (fin kO) (nh x) = sf N (fun z => C 1000000 (se z)) x := by
  intro C
  kernel_rfl
 have h : yL N (nh x) = sf N (fun z => yK N (se z)) x := (ch (C := dA (afq N)) (bO (aX (l := (afq N)) (by kernel_rfl))) rfl _).trans ((hX _).trans (by kernel_rfl))
 have e1 : (fun z => yK N (se z)) = (fun z => pC N z) := funext fun z => anY N z
 rw [h, e1]
 rfl
def ra (N : Nat) (c : List aA) (k a : Int) (b : Bs) (d : List aB) (e : Bss) (f : Int) (r : pB → Ro) : Ro :=
 aH (lv c k) (fun (y : Bool) =>
 cond (!y) (
 some (.bool false, [])) (
 chk (decide (0 ≤ k) && decide (k < ↑(List.length c))) (
 let h : Int := (List.getD c (Int.toNat k) (aC .atype)).kind
 let l : Bs := (List.getD c (Int.toNat k) (aC .atype)).name
 let m : Bss := (List.getD c (Int.toNat k) (aC .atype)).aliases
 let n : Int := (List.getD c (Int.toNat k) (aC .atype)).items
 let i : Bss := (List.getD c (Int.toNat k) (aC .atype)).syms
 let o : Bool := (List.getD c (Int.toNat k) (aC .atype)).hasdef
 let p : Bs := (List.getD c (Int.toNat k) (aC .atype)).df
 let j : Int := (List.getD c (Int.toNat k) (aC .atype)).size
 let q : List aM := (List.getD c (Int.toNat k) (aC .atype)).fields
 let g : List Int := (List.getD c (Int.toNat k) (aC .atype)).branches
 cond (h == 1) (
 r (a, b, d, e, f, h, l, m, n, i, o, p, j, q, g, false, false, false, true)) (
 cond (h == 2) (
 r (a, b, d, e, f, h, l, m, n, i, o, p, j, q, g, true, false, false, decide (a ≤ 1))) (
 cond (h == 3) (
 let s : Bool := decide ((-2147483648) ≤ (IntKind.wrap .i64 a))
 cond s (
 let t : Bool := decide ((IntKind.wrap .i64 a) < 2147483648)
 r (a, b, d, e, f, h, l, m, n, i, o, p, j, q, g, true, false, false, (cond true t false))) (
 r (a, b, d, e, f, h, l, m, n, i, o, p, j, q, g, true, false, false, false))) (
 cond (h == 4) (
 r (a, b, d, e, f, h, l, m, n, i, o, p, j, q, g, true, false, false, true)) (
 cond (h == 6) (
 r (a, b, d, e, f, h, l, m, n, i, o, p, j, q, g, true, false, false, true)) (
 cond (h == 5) (
 let u : Bool := decide (a < 4294967296)
 r (a, b, d, e, f, h, l, m, n, i, o, p, j, q, g, true, false, false, u)) (
 cond (h == 10) (
 let v : Int := (↑(List.length i) : Int)
 let w : Bool := decide (a < (IntKind.wrap .u64 v))
 r (a, b, d, e, f, h, l, m, n, i, o, p, j, q, g, true, false, false, w)) (
 cond (h == 7) (
 r (a, b, d, e, f, h, l, m, n, i, o, p, j, q, g, false, true, false, true)) (
 cond (h == 8) (
 aH (oU b) (fun (z : Bool) =>
 r (a, b, d, e, f, h, l, m, n, i, o, p, j, q, g, false, true, false, z))) (
 cond (h == 11) (
 let x : Int := (↑(List.length b) : Int)
 r (a, b, d, e, f, h, l, m, n, i, o, p, j, q, g, false, true, false, (x == j))) (
 aH (qQ c h l m n i o p j q g a b d e f) (fun (r3 : Bool) =>
 r (a, b, d, e, f, h, l, m, n, i, o, p, j, q, g, false, false, true, r3)))))))))))))))
def aaE (N : Nat) (a : List aA) (g b : Int) (c : Bs) (d : List aB) (e : Bss) (f : Int) : Ro := ra N a g b c d e f (fun z => pD N z)
def atS (N : Nat) : List (Nat × (St → Ro)) := ba mh N aaD (fin kO) ++ []
theorem apY (N : Nat) (a : List aA) (h c : Int) (d : Bs) (e : List aB) (f : Bss) (g : Int) : aW mh N 123 kO aaD [.agg [.sl .atype (.may false) a], .int .i64 h, .agg [.int .u64 c, .str d, .sl .aval (.may false) e, .sl .str (.may false) f, .int .i64 g]] [] = aaE N a h c d e f g :=
 (bL (atS N) (by kernel_rfl) rfl (fun C => ra N a h c d e f g (fun z => C 1000001 (nh z))) (fun C => by kernel_rfl)).trans (Eq.trans (b := ra N a h c d e f g (fun z => yL N (nh z))) (by kernel_rfl) (congrArg (ra N a h c d e f g) (funext fun z => anZ N z)))
theorem apZ (N : Nat) (a : List aA) (g b : Int) (c : Bs) (d : List aB) (e : Bss) (f : Int) (h : Tot (aaE N a g b c d e f) (fun z => ∃ (i : Bool) (rest : List aK), z.1.dimR = .bool i ∧ z.2 = rest ∧ rT a g b c d e f (i))) : ∃ r, eJ a g b c d e f r := by
 obtain ⟨⟨v, hp⟩, hz, i, rest, e1, e2, hq⟩ := h
 simp only at e1 e2
 subst e2
 exact ⟨(i), aI.dimR (ar7.pure (apY N a g b c d e f) hz) e1, hq⟩
noncomputable def cP : aN := tab (P := Try.prog) [] [] [] [ai1, ai2]
def qp : IR := Sq (Rs [Mv 30 7, Fa 31 3 5, Lq 32 31, Ll 33 32, Bi 34 .lss 30 33] (Cn 34 .skip (.exit 1))) (Sq (.block 2 (Sq (.reg [Fa 37 3 5, Lq 38 37, Mv 39 7, Ix 40 .str 38 39, Lq 41 40, Ca 42 46 [41], Un 43 42, Mv 44 43, Gf 44 (.mov 45 7), Gf 44 (.bin 46 .gtr 45 (kI 0)), Gf 44 (.mov 47 46), Gt 47 (.fad 48 3 5), Gt 47 (.lde 49 1 false 48), Gt 47 (.mov 50 7), Gt 47 (.ixa 51 .str 49 50), Gt 47 (.lde 52 1 false 51), Gt 47 (.fad 53 3 5), Gt 47 (.lde 54 1 false 53), Gt 47 (.mov 55 7), Gt 47 (.bin 56 .sub 55 (kI 1)), Gt 47 (.ixa 57 .str 54 56), Gt 47 (.lde 58 1 false 57), Gt 47 (.bin 59 .leq 52 58), Gf 44 (.pick 60 47 59 (kB false)), Po 61 44 60] [[], [0], [], [0, 1, 2], rg 0 3, rg 0 4, rg 0 5, rg 0 6, rg 0 7, rg 0 8, rg 0 9, rg 0 10, rg 0 11, rg 0 10, rg 0 13, rg 0 14, rg 0 10, rg 0 10 ++ [16], rg 0 10, rg 0 10 ++ [18], rg 0 10 ++ rg 16 19, rg 0 10 ++ rg 16 20, rg 0 21, rg 0 22, rg 0 23]) (Cn 61 (Rs [Mb 6 false] .ret) .skip))) (Rg [Mv 35 7, Bc 36 .add 35 1, Mv 7 36]))
def uj : IR := Sq (Rs [Mv 95 8, Fa 96 2 5, Lq 97 96, Ll 98 97, Bi 99 .lss 95 98] (Cn 99 .skip (.exit 3))) (Sq (.block 4 (Rs [Fa 102 3 4, Lq 103 102, Mv 9 103] (Sq (Rs [Fa 104 0 4, Lq 105 104, Bc 106 .eql 105 9] (Cn 106 (Rg [Fa 107 8 4, Lq 108 107, Mv 109 8, Ix 110 .afield 108 109, Fa 111 2 110, Lo 112 111, Mv 9 112]) .skip)) (Sq (.reg [Ld 113 1 true 3, Mv 114 9, Fa 115 2 5, Lq 116 115, Mv 117 8, Ix 118 .aval 116 117, Ld 119 5 true 118, Ca 120 18 [113, 114, 119], Un 121 120] [[], [], [], [2], [], [2, 3, 4], rg 2 5, rg 0 6, rg 0 7]) (Cn 121 (Rs [Mb 6 false] .ret) .skip))))) (Rg [Mv 100 8, Bc 101 .add 100 1, Mv 8 101]))
def uk : IR := Rs [Mb 6 true] .ret
def um : IR := Sq (Rs [Mi 8 0] (.block 3 (.loop [3, 4, 5, 8, 1000001] 0 uj))) uk
def yM : IR := Rs [Bx 3 0, Bx 4 1, Bx 5 2, Mb 6 false] (Sq (Rs [Fa 10 0 4, Lq 11 10] (.block 0 (Rs [Bc 13 .eql 11 9, Mv 12 13] (Cn 12 (Rs [Fa 14 2 5, Lq 15 14, Ll 16 15, Fa 17 8 4, Lq 18 17, Ll 19 18, Bi 20 .neq 16 19] (Cn 20 (Rs [Mb 6 false] .ret) .skip)) (Rs [Bc 22 .eql 11 13, Mv 21 22] (Cn 21 (Sq (Rs [Fa 23 2 5, Lq 24 23, Ll 25 24, Fa 26 3 5, Lq 27 26, Ll 28 27, Bi 29 .neq 25 28] (Cn 29 (Rs [Mb 6 false] .ret) .skip)) (Rs [Mi 7 0] (.block 1 (.loop [3, 4, 5, 7, 1000000] 0 qp)))) (Rs [Bc 63 .eql 11 14, Mv 62 63] (Cn 62 (Sq (.reg [Fa 64 4 5, Lq 65 64, Bc 66 .geq 65 0, Mv 67 66, Gt 67 (.fad 68 4 5), Gt 67 (.lde 69 1 false 68), Gt 67 (.fad 70 9 4), Gt 67 (.lde 71 1 false 70), Gt 67 (.lenl 72 71), Gt 67 (.bin 73 .lss 69 72), Pa 74 67 73, Mv 75 74, Gt 75 (.fad 76 2 5), Gt 75 (.lde 77 1 false 76), Gt 75 (.lenl 78 77), Gt 75 (.bin 79 .eql 78 (kI 1)), Pa 80 75 79, Mv 81 80, Gt 81 (.lde 82 1 true 3), Gt 81 (.fad 83 9 4), Gt 81 (.lde 84 1 false 83), Gt 81 (.fad 85 4 5), Gt 81 (.lde 86 1 false 85), Gt 81 (.ixa 87 (.num .i64) 84 86), Gt 81 (.lde 88 1 false 87), Gt 81 (.fad 89 2 5), Gt 81 (.lde 90 1 false 89), Gt 81 (.ixa 91 .aval 90 (kI 0)), Gt 81 (.lde 92 5 true 91), Gt 81 (.call 93 18 [82, 88, 92]), Pa 94 81 93, Mv 6 94] [[], [0], [0, 1], [0, 1, 2], rg 0 3, rg 0 4, rg 0 3, [0, 1, 2, 3, 6], [0, 1, 2, 3, 6, 7], rg 0 8, rg 0 9, rg 0 10, rg 0 11, rg 0 12, rg 0 13, rg 0 14, rg 0 15, rg 0 16, rg 0 17, rg 0 17, rg 0 17 ++ [19], rg 0 17, rg 0 17 ++ [21], rg 0 17 ++ rg 19 22, rg 0 17 ++ rg 19 23, rg 0 17, rg 0 17 ++ [25], rg 0 17 ++ [25, 26], rg 0 17 ++ [25, 26, 27], rg 0 28, rg 0 29, rg 0 30]) .ret) .skip)))))))) um)
def jm : List RV := [.t 6]
theorem ap0 : FnC Try.prog cP [] 0 ag4 Try.f47 yM jm := fnC (by kernel_rfl) Try.func47 (by kernel_rfl) (by kernel_rfl) (by decide)
def an0 (R : IR → (Ex → St → Ro) → St → Ro) (a : St → Ro) : Ex → St → Ro := (bz a [3, 4, 5, 8, 1000001] 0 (aR 3 (bp (R uk) (fin jm))))
abbrev ni : Type := (List aA × Int × Bs × Bss × Int × Bss × Bool × Bs × Int × List aM × List Int × Int × Bs × List aB × Bss × Int × Int)
def mi : ni → St := fun (h, i, j, k, l, m, n, o, p, q, a, b, c, d, e, f, g) => { env := (U 3 (.ea [.sl .atype (.may false) h] :: .ea [.int .i64 i, .str j, .sl .str (.may false) k, .int .i64 l, .sl .str (.may false) m, .bool n, .str o, .int .i64 p, .sl .afield (.may false) q, .sl (.num .i64) (.may false) a] :: .ea [.int .u64 b, .str c, .sl .aval (.may false) d, .sl .str (.may false) e, .int .i64 f] :: .undef :: .undef :: .int .i64 g :: (U 113 []))), hp := [] }
def xv (N : Nat) : (St → Ro) → St → Ro := fun a s => run cP N uj (an0 (run cP N) a) s
def kE (N : Nat) (c : ni → Ro) : ni → Ro := fun (d, f, h, i, g, j, k, m, o, e, p, q, r, a, t, u, b) =>
 let x3 : Int := (↑(List.length a) : Int)
 cond (decide (b < x3)) (
 cond (f == 9) (
 chk (decide (0 ≤ b) && decide (b < ↑(List.length e))) (
 let x6 : Int := (List.getD e (Int.toNat b) (aC .afield)).typ
 chk (decide (0 ≤ b) && decide (b < ↑(List.length a))) (
 let v : Int := (List.getD a (Int.toNat b) (aC .aval)).n
 let w : Bs := (List.getD a (Int.toNat b) (aC .aval)).s
 let x : List aB := (List.getD a (Int.toNat b) (aC .aval)).l
 let y : Bss := (List.getD a (Int.toNat b) (aC .aval)).keys
 let z : Int := (List.getD a (Int.toNat b) (aC .aval)).branch
 aH (eJ d x6 v w x y z) (fun (r1 : Bool) =>
 cond (!r1) (
 some (.bool false, [])) (
 let aa : Int := (IntKind.wrap .i64 (b + 1))
 c (d, f, h, i, g, j, k, m, o, e, p, q, r, a, t, u, aa)))))) (
 chk (decide (0 ≤ b) && decide (b < ↑(List.length a))) (
 let ab : Int := (List.getD a (Int.toNat b) (aC .aval)).n
 let ac : Bs := (List.getD a (Int.toNat b) (aC .aval)).s
 let ad : List aB := (List.getD a (Int.toNat b) (aC .aval)).l
 let ae : Bss := (List.getD a (Int.toNat b) (aC .aval)).keys
 let af : Int := (List.getD a (Int.toNat b) (aC .aval)).branch
 aH (eJ d g ab ac ad ae af) (fun (r2 : Bool) =>
 cond (!r2) (
 some (.bool false, [])) (
 let ag : Int := (IntKind.wrap .i64 (b + 1))
 c (d, f, h, i, g, j, k, m, o, e, p, q, r, a, t, u, ag)))))) (
 some (.bool true, []))
theorem amg (N : Nat) : ∀ (a : St → Ro) (x : ni), xv N a (mi x) = kE N (fun y => a (mi y)) x := by
 intro a x
 kernel_rfl
def xw (R : IR → (Ex → St → Ro) → St → Ro) (a : St → Ro) : Ex → St → Ro := (bz a [3, 4, 5, 7, 1000000] 0 (aR 1 (aR 0 (bp (R um) (fin jm)))))
abbrev hJ : Type := (List aA × Int × Bs × Bss × Int × Bss × Bool × Bs × Int × List aM × List Int × Int × Bs × List aB × Bss × Int × Int)
def dN : hJ → St := fun (h, i, j, k, l, m, n, o, p, q, a, b, c, d, e, f, g) => { env := (U 3 (.ea [.sl .atype (.may false) h] :: .ea [.int .i64 i, .str j, .sl .str (.may false) k, .int .i64 l, .sl .str (.may false) m, .bool n, .str o, .int .i64 p, .sl .afield (.may false) q, .sl (.num .i64) (.may false) a] :: .ea [.int .u64 b, .str c, .sl .aval (.may false) d, .sl .str (.may false) e, .int .i64 f] :: .undef :: .int .i64 g :: (U 114 []))), hp := [] }
def an1 (R : IR → (Ex → St → Ro) → St → Ro) (a : St → Ro) : Ex → St → Ro := (bz a [3, 4, 5, 8, 1000001] 0 (aR 3 (bp (R uk) (fin jm))))
abbrev nj : Type := (List aA × Int × Bs × Bss × Int × Bss × Bool × Bs × Int × List aM × List Int × Int × Bs × List aB × Bss × Int × Int)
def jn : nj → St := fun (h, i, j, k, l, m, n, o, p, q, a, b, c, d, e, f, g) => { env := (U 3 (.ea [.sl .atype (.may false) h] :: .ea [.int .i64 i, .str j, .sl .str (.may false) k, .int .i64 l, .sl .str (.may false) m, .bool n, .str o, .int .i64 p, .sl .afield (.may false) q, .sl (.num .i64) (.may false) a] :: .ea [.int .u64 b, .str c, .sl .aval (.may false) d, .sl .str (.may false) e, .int .i64 f] :: .undef :: .undef :: .int .i64 g :: (U 113 []))), hp := [] }
def sg (N : Nat) : (St → Ro) → St → Ro := fun a s => run cP N uj (an1 (run cP N) a) s
def nk (N : Nat) (c : nj → Ro) : nj → Ro := fun (d, f, h, i, g, j, k, m, o, e, p, q, r, a, t, u, b) =>
 let v : Int := (↑(List.length a) : Int)
 cond (decide (b < v)) (
 cond (f == 9) (
 chk (decide (0 ≤ b) && decide (b < ↑(List.length e))) (
 let w : Int := (List.getD e (Int.toNat b) (aC .afield)).typ
 chk (decide (0 ≤ b) && decide (b < ↑(List.length a))) (
 let x : Int := (List.getD a (Int.toNat b) (aC .aval)).n
 let y : Bs := (List.getD a (Int.toNat b) (aC .aval)).s
 let z : List aB := (List.getD a (Int.toNat b) (aC .aval)).l
 let aa : Bss := (List.getD a (Int.toNat b) (aC .aval)).keys
 let ab : Int := (List.getD a (Int.toNat b) (aC .aval)).branch
 aH (eJ d w x y z aa ab) (fun (r4 : Bool) =>
 cond (!r4) (
 some (.bool false, [])) (
 let ac : Int := (IntKind.wrap .i64 (b + 1))
 c (d, f, h, i, g, j, k, m, o, e, p, q, r, a, t, u, ac)))))) (
 chk (decide (0 ≤ b) && decide (b < ↑(List.length a))) (
 let ad : Int := (List.getD a (Int.toNat b) (aC .aval)).n
 let ae : Bs := (List.getD a (Int.toNat b) (aC .aval)).s
 let af : List aB := (List.getD a (Int.toNat b) (aC .aval)).l
 let ag : Bss := (List.getD a (Int.toNat b) (aC .aval)).keys
 let ah : Int := (List.getD a (Int.toNat b) (aC .aval)).branch
 aH (eJ d g ad ae af ag ah) (fun (r5 : Bool) =>
 cond (!r5) (
 some (.bool false, [])) (
 let ai : Int := (IntKind.wrap .i64 (b + 1))
 c (d, f, h, i, g, j, k, m, o, e, p, q, r, a, t, u, ai)))))) (
 some (.bool true, []))
theorem amh (N : Nat) : ∀ (a : St → Ro) (x : nj), sg N a (jn x) = nk N (fun y => a (jn y)) x := by
 intro a x
 kernel_rfl
def sh (N : Nat) : (St → Ro) → St → Ro := fun a s => run cP N qp (xw (run cP N) a) s
def qq (N : Nat) (b : hJ → Ro) (q2 : nj → Ro) : hJ → Ro := fun (c, d, e, f, g, h, i, j, k, l, m, n, o, p, a, q, r) =>
 let v : Int := (↑(List.length a) : Int)
 cond (decide (r < v)) (
  chk (decide (0 ≤ r) && decide (r < ↑(List.length a))) (
   let w : Bs := List.getD a (Int.toNat r) (aC .str)
   aH (oU w) (fun (r3 : Bool) =>
    cond (!r3) (
     some (.bool false, [])) (
     cond (decide (0 < r)) (
      chk (decide (0 ≤ r) && decide (r < ↑(List.length a))) (
       let t : Bs := List.getD a (Int.toNat r) (aC .str)
       let s : Int := (IntKind.wrap .i64 (r - 1))
       chk (decide (0 ≤ s) && decide (s < ↑(List.length a))) (
        let u : Bs := List.getD a (Int.toNat s) (aC .str)
        let x : Bool := (Op.bytesLess t u || decide (t = u))
        cond x (
         some (.bool false, [])) (
         let y : Int := (IntKind.wrap .i64 (r + 1))
         b (c, d, e, f, g, h, i, j, k, l, m, n, o, p, a, q, y))))) (
      let z : Int := (IntKind.wrap .i64 (r + 1))
      b (c, d, e, f, g, h, i, j, k, l, m, n, o, p, a, q, z)))))) (
  q2 (c, d, e, f, g, h, i, j, k, l, m, n, o, p, a, q, 0))
def si (N : Nat) (a : hJ → Ro) (x : hJ) : Ro := qq N a (fun z => aQ N (nk N) z) x
def xx (N : Nat) (a : St → Ro) : List (Nat × (St → Ro)) := (ba cP N qp (xw (run cP N) a) ++ (ba cP N um (fin jm) ++ []))
theorem ami (N : Nat) : ∀ (a : St → Ro) (x : hJ), sh N a (dN x) = si N (fun y => a (dN y)) x := by
 intro a x
 have hX : ∀ C : Nat → St → Ro, bQ C cP N qp (xw (bQ C cP N) a) (dN x) = qq N (fun y => a (dN y)) (fun z => C 1000001 (jn z)) x := by
  intro C
  kernel_rfl
 have h : sh N a (dN x) = qq N (fun y => a (dN y)) (fun z => bg N (sg N) (jn z)) x := (ch (C := dA (xx N a)) (bO (aX (l := (xx N a)) (by kernel_rfl))) (oL (cp (cp (eq (bO (da (aX (l := (xx N a)) (by kernel_rfl)))) rfl)))) _).trans ((hX _).trans (by kernel_rfl))
 have e2 : (fun z => bg N (sg N) (jn z)) = (fun z => aQ N (nk N) z) := funext fun z => bc (jn) (sg N) (nk N) (amh N) N z
 rw [h, e2]
 rfl
def pE (N : Nat) (e : List aA) (c : Int) (h : Bs) (i : Bss) (j : Int) (k : Bss) (m : Bool) (o : Bs) (p : Int) (f : List aM) (d : List Int) (q : Int) (r : Bs) (a : List aB) (g : Bss) (b : Int) (q0 : ni → Ro) (q1 : hJ → Ro) : Ro :=
 cond (c == 9) (
 let x1 : Int := (↑(List.length a) : Int)
 let x2 : Int := (↑(List.length f) : Int)
 cond (!(x1 == x2)) (
 some (.bool false, [])) (
 q0 (e, c, h, i, j, k, m, o, p, f, d, q, r, a, g, b, 0))) (
 cond (c == 13) (
 let t : Int := (↑(List.length a) : Int)
 let u : Int := (↑(List.length g) : Int)
 cond (!(t == u)) (
 some (.bool false, [])) (
 q1 (e, c, h, i, j, k, m, o, p, f, d, q, r, a, g, b, 0))) (
 cond (c == 14) (
 cond (decide (0 ≤ b)) (
 let v : Int := (↑(List.length d) : Int)
 cond (decide (b < v)) (
 let w : Int := (↑(List.length a) : Int)
 cond (w == 1) (
 chk (decide (0 ≤ b) && decide (b < ↑(List.length d))) (
 let x : Int := List.getD d (Int.toNat b) (aC (.num .i64))
 chk (decide ((0 : Int) < ↑(List.length a))) (
 let y : Int := (List.getD a (Int.toNat 0) (aC .aval)).n
 let z : Bs := (List.getD a (Int.toNat 0) (aC .aval)).s
 let aa : List aB := (List.getD a (Int.toNat 0) (aC .aval)).l
 let ab : Bss := (List.getD a (Int.toNat 0) (aC .aval)).keys
 let ac : Int := (List.getD a (Int.toNat 0) (aC .aval)).branch
 aH (eJ e x y z aa ab ac) (fun (r6 : Bool) =>
 some (.bool r6, []))))) (
 some (.bool false, []))) (
 some (.bool false, []))) (
 some (.bool false, []))) (
 q0 (e, c, h, i, j, k, m, o, p, f, d, q, r, a, g, b, 0))))
def yN (N : Nat) (a : List aA) (b : Int) (c : Bs) (d : Bss) (e : Int) (f : Bss) (g : Bool) (h : Bs) (i : Int) (j : List aM) (k : List Int) (l : Int) (m : Bs) (n : List aB) (o : Bss) (p : Int) : Ro := pE N a b c d e f g h i j k l m n o p (fun z => aQ N (kE N) z) (fun z => aQ N (si N) z)
def ar8 (N : Nat) : List (Nat × (St → Ro)) := ba cP N yM (fin jm) ++ []
theorem an2 (N : Nat) (a : List aA) (c : Int) (d : Bs) (e : Bss) (f : Int) (g : Bss) (h : Bool) (i : Bs) (j : Int) (k : List aM) (l : List Int) (m : Int) (n : Bs) (o : List aB) (p : Bss) (q : Int) : aW cP N 122 jm yM [.agg [.sl .atype (.may false) a], .agg [.int .i64 c, .str d, .sl .str (.may false) e, .int .i64 f, .sl .str (.may false) g, .bool h, .str i, .int .i64 j, .sl .afield (.may false) k, .sl (.num .i64) (.may false) l], .agg [.int .u64 m, .str n, .sl .aval (.may false) o, .sl .str (.may false) p, .int .i64 q]] [] = yN N a c d e f g h i j k l m n o p q :=
 (bL (ar8 N) (by kernel_rfl) rfl (fun C => pE N a c d e f g h i j k l m n o p q (fun z => C 1000001 (mi z)) (fun z => C 1000000 (dN z))) (fun C => by kernel_rfl)).trans (Eq.trans (b := pE N a c d e f g h i j k l m n o p q (fun z => bg N (xv N) (mi z)) (fun z => bg N (sh N) (dN z))) (by kernel_rfl) (congr (congrArg (pE N a c d e f g h i j k l m n o p q) (funext fun z => bc (mi) (xv N) (kE N) (amg N) N z)) (funext fun z => bc (dN) (sh N) (si N) (ami N) N z)))
theorem an3 (N : Nat) (a : List aA) (b : Int) (c : Bs) (d : Bss) (e : Int) (f : Bss) (g : Bool) (i : Bs) (j : Int) (k : List aM) (l : List Int) (m : Int) (n : Bs) (o : List aB) (p : Bss) (q : Int) (h : Tot (yN N a b c d e f g i j k l m n o p q) (fun z => ∃ (s : Bool) (rest : List aK), z.1.dimR = .bool s ∧ z.2 = rest ∧ dg a b c d e f g i j k l m n o p q (s))) : ∃ r, qQ a b c d e f g i j k l m n o p q r := by
 obtain ⟨⟨v, hp⟩, hz, s, rest, e1, e2, hq⟩ := h
 simp only at e1 e2
 subst e2
 exact ⟨(s), aI.dimR (ap0.pure (an2 N a b c d e f g i j k l m n o p q) hz) e1, hq⟩
noncomputable def th : aN := tab (P := Try.prog) [] [] [] [ai4]
def adp : IR := Sq (Rs [Mv 5 0, Pp (.lens 6 5), Bc 7 .gtr 6 0] (Cn 7 .skip (.exit 0))) (.block 1 (Rs [Mv 9 0, Ca 10 79 [9], Mv 8 10, Ex_ 11 0 8, Ex_ 12 1 8, Mv 3 11, Mv 4 12] (Sq (Rs [Mv 13 4, Bc 14 .eql 13 0] (Cn 14 (Rs [Mb 2 false] .ret) .skip)) (Rg [Mv 15 0, Mv 16 4, Pp (.subs 17 15 (some 16) none), Mv 0 17]))))
def adq : IR := Rs [Mb 2 true] .ret
def aaF : IR := Rs [Mb 2 false] (Sq (.block 0 (.loop [0, 1000000] 0 adp)) adq)
def vD : List RV := [.t 2]
theorem ar9 : FnC Try.prog th [] 0 aiT Try.f46 aaF vD := fnC (by kernel_rfl) Try.func46 (by kernel_rfl) (by kernel_rfl) (by decide)
def ap1 (R : IR → (Ex → St → Ro) → St → Ro) (a : St → Ro) : Ex → St → Ro := (bz a [0, 1000000] 0 (aR 0 (bp (R adq) (fin vD))))
abbrev pF : Type := (Bs)
def no (x : pF) : St := { env := (.str x :: (U 17 [])), hp := [] }
def yO (N : Nat) : (St → Ro) → St → Ro := fun a s => run th N adp (ap1 (run th N) a) s
def tT (N : Nat) (a : pF → Ro) (x : pF) : Ro :=
 let b : Bs := x
 let d : Int := (↑(List.length b) : Int)
 cond (decide (0 < d)) (
 aH (l9 b) (fun c =>
 cond (c.2 == 0) (
 some (.bool false, [])) (
 chk (decide (0 ≤ c.2) && decide (c.2 ≤ (↑(List.length b) : Int))) (
 let e : Bs := (List.drop (Int.toNat c.2) (List.take (List.length b) b))
 a (e))))) (
 some (.bool true, []))
theorem an4 (N : Nat) : ∀ (a : St → Ro) (x : pF), yO N a (no x) = tT N (fun y => a (no y)) x := by
 intro a x
 kernel_rfl
def rc (N : Nat) (a : Bs) (b : pF → Ro) : Ro :=
 b (a)
def aaG (N : Nat) (a : Bs) : Ro := rc N a (fun z => aQ N (tT N) z)
def atT (N : Nat) : List (Nat × (St → Ro)) := ba th N aaF (fin vD) ++ []
theorem ap2 (N : Nat) (a : Bs) : aW th N 18 vD aaF [.str a] [] = aaG N a :=
 (bL (atT N) (by kernel_rfl) rfl (fun C => rc N a (fun z => C 1000000 (no z))) (fun C => by kernel_rfl)).trans (Eq.trans (b := rc N a (fun z => bg N (yO N) (no z))) (by kernel_rfl) (congrArg (rc N a) (funext fun z => bc (no) (yO N) (tT N) (an4 N) N z)))
theorem ap3 (N : Nat) (a : Bs) (h : Tot (aaG N a) (fun z => ∃ (b : Bool) (rest : List aK), z.1.dimR = .bool b ∧ z.2 = rest ∧ xb a (b))) : ∃ r, oU a r := by
 obtain ⟨⟨v, hp⟩, hz, b, rest, e1, e2, hq⟩ := h
 simp only at e1 e2
 subst e2
 exact ⟨(b), aI.dimR (ar9.pure (ap2 N a) hz) e1, hq⟩
end Go.Proofs.Ytdpajabhmmmjoaa
end
