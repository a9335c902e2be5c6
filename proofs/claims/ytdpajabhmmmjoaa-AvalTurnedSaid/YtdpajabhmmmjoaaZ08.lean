import Derived.KernelRfl
import Derived.Test.YtdpajabhmmmjoaaZ02
import Derived.Test.YtdpajabhmmmjoaaZ06
import Derived.Test.YtdpajabhmmmjoaaZ07
noncomputable section
namespace Go.Proofs.Ytdpajabhmmmjoaa
open Go.AM
set_option autoImplicit false
set_option linter.unusedVariables false
set_option maxRecDepth 100000
noncomputable def afY : aO := tab (P := Try.prog) [] [] [] [ajl, arE, arG]
def aea : IR := Rs [Mb 0 false] (Rs [Pp (.bld 5 [vI 0, vS, fu .str true, vI 0, fu .str true, .bool false, vS, vI 0, fu .afield true, fu (.num .i64) true] [(0, 1, kI 3)]), Pp (.bld 6 [vI 0, vS, fu .str true, vI 0, fu .str true, .bool false, vS, vI 0, fu .afield true, fu (.num .i64) true] [(0, 1, kI 12)]), Pp (.bsl 7 .atype [5, 6] true), Pp (.bld 8 [nl .atype] [(0, 1, 7)]), Pp (.alr 1 1), Fz 1 1 8] (Rs [Pp (.bld 9 [vU 0, vS, fu .aval true, fu .str true, vI 0] [(0, 1, kU 5)]), Pp (.bsl 10 .aval [9] true), Pp (.bld 11 [vU 0, vS, nl .aval, nl .str, vI 0] [(2, 1, 10)]), Pp (.alr 2 5), Fz 2 5 11] (Rs [Ld 13 5 true 2, Ca 14 22 [13], Mv 12 14, Ex_ 15 0 12, Ex_ 16 1 12, Mv 3 15, Mv 4 16] (Rs [Ld 17 1 true 1, Ld 18 5 true 2, Ca 19 21 [17, kI 1, 18], Mv 20 19, Gt 20 (.lde 21 1 true 1), Gt 20 (.lde 22 5 true 2), Gt 20 (.call 23 21 [21, kI 0, 22]), Gt 20 (.un 24 .not 23), Pa 25 20 24, Mv 26 25, Gt 26 (.lde 27 5 true 2), Gt 26 (.lde 28 5 true 2), Gt 26 (.call 29 24 [27, 28]), Pa 30 26 29, Mv 31 30, Gt 31 (.lde 32 5 true 2), Gt 31 (.bld 33 [vU 0, vS, fu .aval true, fu .str true, vI 0] []), Gt 31 (.call 34 24 [32, 33]), Gt 31 (.un 35 .not 34), Pa 36 31 35, Mv 37 36, Gt 37 (.mov 38 3), Gt 37 (.bin 39 .eql 38 (kI 1)), Pa 40 37 39, Mv 41 40, Gt 41 (.mov 42 4), Gt 41 (.bin 43 .eql 42 (kI 2)), Pa 44 41 43, Mv 0 44] .ret))))
def aeb : List RV := [.t 0]
theorem anz : FnC Try.prog afY [] 0 afe Try.f19 aea aeb := fnC (by kernel_rfl) Try.func19 (by kernel_rfl) (by kernel_rfl) (by decide)
def aec (N : Nat)   : Ro :=
 aG (yE ⟨0, ([] : Bs), ([⟨5, ([] : Bs), ([] : List aB), ([] : Bss), 0⟩] : List aB), ([] : Bss), 0⟩) (fun a =>
 aG (oj ([⟨3, ([] : Bs), ([] : Bss), 0, ([] : Bss), false, ([] : Bs), 0, ([] : List aM), ([] : List Int)⟩, ⟨12, ([] : Bs), ([] : Bss), 0, ([] : Bss), false, ([] : Bs), 0, ([] : List aM), ([] : List Int)⟩] : List aA) 1 ⟨0, ([] : Bs), ([⟨5, ([] : Bs), ([] : List aB), ([] : Bss), 0⟩] : List aB), ([] : Bss), 0⟩) (fun (b : Bool) =>
 cond b (
 aG (oj ([⟨3, ([] : Bs), ([] : Bss), 0, ([] : Bss), false, ([] : Bs), 0, ([] : List aM), ([] : List Int)⟩, ⟨12, ([] : Bs), ([] : Bss), 0, ([] : Bss), false, ([] : Bs), 0, ([] : List aM), ([] : List Int)⟩] : List aA) 0 ⟨0, ([] : Bs), ([⟨5, ([] : Bs), ([] : List aB), ([] : Bss), 0⟩] : List aB), ([] : Bss), 0⟩) (fun (c : Bool) =>
 cond (!c) (
 aG (uB ⟨0, ([] : Bs), ([⟨5, ([] : Bs), ([] : List aB), ([] : Bss), 0⟩] : List aB), ([] : Bss), 0⟩ ⟨0, ([] : Bs), ([⟨5, ([] : Bs), ([] : List aB), ([] : Bss), 0⟩] : List aB), ([] : Bss), 0⟩) (fun (d : Bool) =>
 cond d (
 aG (uB ⟨0, ([] : Bs), ([⟨5, ([] : Bs), ([] : List aB), ([] : Bss), 0⟩] : List aB), ([] : Bss), 0⟩ ⟨0, ([] : Bs), ([] : List aB), ([] : Bss), 0⟩) (fun (e : Bool) =>
 cond (!e) (
 cond (a.1 == 1) (
 some (.bool (a.2 == 2), [])) (
 some (.bool false, []))) (
 some (.bool false, [])))) (
 some (.bool false, [])))) (
 some (.bool false, [])))) (
 some (.bool false, []))))
def yp (N : Nat)  : Ro := aec N
theorem alX (N : Nat)  : bc afY N 45 aeb aea [] [] = yp N  := by kernel_rfl
theorem alY (N : Nat) (h : Tot (yp N ) (fun z => ∃ (a : Bool) (rest : List aL), z.1.dimR = .bool a ∧ z.2 = rest ∧ vv  (a))) : ∃ r, qW  r := by
 obtain ⟨⟨v, hp⟩, hz, a, rest, e1, e2, hq⟩ := h
 simp only at e1 e2
 subst e2
 exact ⟨(a), aI.dimR (anz.pure (alX N ) hz) e1, hq⟩
noncomputable def ct : aO := tab (P := Try.prog) [] [] [] [ad9]
def oC : IR := Cn 30 (Rs [Mv 31 1, Pp (.bin 32 .quo 31 (.c (.int .u8 3))), Pp (.cvi 33 .i64 32), Fa 34 2 7, Lo 35 34, Pp (.lnw 36 35), Bi 37 .rem 33 36, Mv 8 37] (Sq (.gh (.opn (.cell 1 2)) (.ghp (.cls (.cell 1 2)) (.reg [Fa 38 2 7, Fo [1] [] (.ld 39 1 false false 38), Mv 40 8, Fa 41 2 7, Fo [1] [] (.ld 42 1 false false 41), Mv 43 8, Pp (.ixw 44 .aval 42 43), Fo [2] [] (.ldw 45 5 true 44), Mv 46 1, Pp (.bin 47 .quo 46 (.c (.int .u8 3))), Mv 48 2, Ca 49 27 [45, 47, 48], Pp (.ixw 50 .aval 39 40), Fo [] [2] (.stw none 5 50 49)] [[], [0], [], [], [3], [], [3, 4, 5], rg 3 6, [], [8], [], rg 3 10, rg 0 11, rg 0 12]))) (Sq (.gh (.fz (.cell 1 3)) (.gh (.fz (.cell 1 2)) (Rg [Pp (.ld 51 5 true false 7), Sv 5 6 51]))) .ret))) .skip
def aav : IR := Sq (Rs [Mv 58 9, Mv 59 10, Bi 60 .lss 58 59] (Cn 60 .skip (.exit 1))) (Sq (.block 2 (.gh (.opn (.cell 1 3)) (.ghp (.cls (.cell 1 3)) (.reg [Fa 65 3 7, Fo [1] [] (.ld 66 1 false false 65), Mv 67 9, Fa 68 3 7, Fo [1] [] (.ld 69 1 false false 68), Mv 70 10, Fa 71 3 7, Fo [1] [] (.ld 72 1 false false 71), Mv 73 10, Pp (.ixw 74 .str 72 73), Fo [2] [] (.ldw 75 1 false 74), Fa 76 3 7, Fo [1] [] (.ld 77 1 false false 76), Mv 78 9, Pp (.ixw 79 .str 77 78), Fo [2] [] (.ldw 80 1 false 79), Pp (.ixw 81 .str 66 67), Fo [] [2] (.stw none 1 81 75), Pp (.ixw 82 .str 69 70), Fo [] [2] (.stw none 1 82 80)] [[], [0], [], [], [3], [], [], [6], [], [6, 7, 8], rg 6 9, [], [11], [], [11, 12, 13], rg 11 14, [0, 1, 2] ++ rg 6 15, [0, 1, 2] ++ rg 6 16, rg 0 17, rg 0 18])))) (Rg [Mv 61 9, Bc 62 .add 61 1, Mv 63 10, Bc 64 .sub 63 1, Mv 9 62, Mv 10 64]))
def zk : IR := Sq (.gh (.fz (.cell 1 3)) (.gh (.fz (.cell 1 2)) (Rg [Pp (.ld 127 5 true false 7), Sv 5 6 127]))) .ret
def nJ : IR := Sq (Rs [Mv 52 2, Pp (.bin 53 .rem 52 (kU 7))] (.block 0 (Rs [Pp (.bin 84 .eql 53 (kU 0)), Mv 83 84] (Cn 83 (Rg [Mv 85 2, Pp (.bin 86 .quo 85 (kU 7)), Fa 87 0 7, Sv 1 87 86]) (Rs [Pp (.bin 89 .eql 53 (kU 1)), Mv 88 89] (Cn 88 (Rg [Fa 90 1 7, Lo 91 90, Pp (.bin 92 .add 91 (kS [255])), Fa 93 1 7, Sv 1 93 92]) (Rs [Pp (.bin 95 .eql 53 (kU 2)), Mv 94 95] (Cn 94 (Rg [Fa 96 2 7, Pp (.ld 97 1 false true 96), Pp (.bld 98 [vU 0, vS, fu .aval true, fu .str true, vI 0] []), Pp (.bsl 99 .aval [98] true), Pp (.apu 100 .aval (.tk 97) 99), Fa 101 2 7, Sk 1 101 100]) (Rs [Pp (.bin 103 .eql 53 (kU 3)), Mv 102 103] (Cn 102 (Rg [Fa 104 3 7, Pp (.ld 105 1 false true 104), Pp (.bsl 106 .str [kS [97]] true), Pp (.apu 107 .str (.tk 105) 106), Fa 108 3 7, Sk 1 108 107]) (Rs [Pp (.bin 110 .eql 53 (kU 4)), Mv 109 110] (Cn 109 (Rg [Mv 111 2, Pp (.bin 112 .quo 111 (kU 7)), Pp (.bin 113 .rem 112 (kU 5)), Pp (.cvi 114 .i64 113), Bc 115 .sub 114 1, Fa 116 4 7, Sv 1 116 115]) (Rs [Pp (.bin 118 .eql 53 (kU 5)), Mv 117 118] (Cn 117 (Rs [Fa 119 2 7, Lo 120 119, Pp (.lnw 121 120), Bc 122 .gtr 121 0] (Cn 122 (.gh (.fz (.cell 1 2)) (Rg [Fa 123 2 7, Lo 124 123, Pp (.subl 125 .aval 124 (some (kI 1)) none), Fa 126 2 7, Sk 1 126 125])) .skip)) (Sq (.reg [Fa 54 3 7, Fo [1] [] (.ld 55 1 false false 54), Pp (.lnw 56 55), Bc 57 .sub 56 1, Mi 9 0, Mv 10 57] [[], [0], [0, 1], [0, 1, 2], [], rg 0 4]) (.block 1 (.loop [6, 7, 9, 10, 1000001] 2 aav))))))))))))))))) zk
def tc : IR := .cut [2, 6, 7, 1000002] 2 nJ
def xk : IR := Rs [Bx 3 0, Pp (.new 6 [vU 0, vS, nl .aval, nl .str, vI 0])] (Rs [Ld 11 5 true 3, Pp (.new 7 [vU 0, vS, .ul .aval ([] : List aB), .ul .str ([] : Bss), vI 0]), Sv 5 7 11] (Sq (.reg [Pp (.blu 12 .aval), Fa 13 2 3, Lq 14 13, Pp (.apu 15 .aval (.tk 12) 14), Pp (.blu 16 .str), Fa 17 3 3, Lq 18 17, Pp (.apu 19 .str (.tk 16) 18), Fa 20 2 7, Fo [] [1] (.st none 1 20 (.tk 15)), Fa 21 3 7, Fo [] [1] (.st none 1 21 (.tk 19))] [[], [], [1], [0, 1, 2], [], [], [5], rg 0 6, rg 0 3, rg 0 8, rg 0 9, rg 0 10]) (Sq (Rs [Fa 22 2 7, Lo 23 22, Pp (.lnw 24 23), Bc 25 .gtr 24 0, Mv 26 25, Gt 26 (.mov 27 1), Gt 26 (.bin 28 .rem 27 (.c (.int .u8 3))), Gt 26 (.bin 29 .gtr 28 (.c (.int .u8 0))), Pa 30 26 29] (.cut [1, 2, 6, 7, 30, 1000000] 2 oC)) tc)))
def eH : List RV := [.cell 6 5 true]
theorem alZ : FnC Try.prog ct [] 0 ad8 Try.f27 xk eH := fnC (by kernel_rfl) Try.func27 (by kernel_rfl) (by kernel_rfl) (by decide)
abbrev mA : Type := (Int × Int × Bool × Int × Bs × List aB × Bss × Int × Int × Bs × List aB × Bss × Int)
def lw : mA → St := fun (d, e, f, g, h, i, j, k, l, m, a, b, c) => { env := (.undef :: .int .u8 d :: .int .u64 e :: (U 3 (.ptr 0 0 :: .ptr 1 0 :: (U 22 (.bool f :: (U 97 [])))))), hp := [some [.int .u64 g, .str h, .sl .aval .own i, .sl .str .own j, .int .i64 k], some [.int .u64 l, .str m, .ul .aval a, .ul .str b, .int .i64 c]] }
def vw (R : IR → (Ex → St → Ro) → St → Ro) : Ex → St → Ro := (bx (R tc) (fin eH))
abbrev mB : Type := (Int × Int × Bs × List aB × Bss × Int × Int × Bs × List aB × Bss × Int)
def iD : mB → St := fun (b, c, d, e, f, g, h, i, j, k, a) => { env := (.undef :: .undef :: .int .u64 b :: (U 3 (.ptr 0 0 :: .ptr 1 0 :: (U 120 [])))), hp := [some [.int .u64 c, .str d, .sl .aval .own e, .sl .str .own f, .int .i64 g], some [.int .u64 h, .str i, .ul .aval j, .ul .str k, .int .i64 a]] }
def akj (R : IR → (Ex → St → Ro) → St → Ro) (a : St → Ro) : Ex → St → Ro := (bM a [6, 7, 9, 10, 1000001] 2 (aT 1 (aT 0 (bx (R zk) (fin eH)))))
abbrev mC : Type := (Int × Int × Int × Bs × List aB × Bss × Int × Int × Bs × List aB × Bss × Int)
def iE : mC → St := fun (c, d, e, f, g, h, i, j, k, l, a, b) => { env := (U 6 (.ptr 0 0 :: .ptr 1 0 :: .undef :: .int .i64 c :: .int .i64 d :: (U 117 []))), hp := [some [.int .u64 e, .str f, .sl .aval .own g, .sl .str .own h, .int .i64 i], some [.int .u64 j, .str k, .ul .aval l, .ul .str a, .int .i64 b]] }
def qq (N : Nat) : (St → Ro) → St → Ro := fun a s => run ct N aav (akj (run ct N) a) s
def mD (N : Nat) (h : mC → Ro) : mC → Ro := fun (g, b, i, j, k, l, m, c, d, e, a, f) =>
 cond (decide (g < b)) (
 chk (decide (0 < List.length a)) (
 chk ((decide (0 ≤ b) && decide (b < ↑(List.length a)))) (
 chk (decide ((Int.toNat b) < List.length a)) (
 let p : Bs := List.getD a (Int.toNat b) (aC .str)
 chk ((decide (0 ≤ g) && decide (g < ↑(List.length a)))) (
 chk (decide ((Int.toNat g) < List.length a)) (
 let q : Bs := List.getD a (Int.toNat g) (aC .str)
 chk ((decide (0 ≤ g) && decide (g < ↑(List.length a)))) (
 chk (decide ((Int.toNat g) < List.length a)) (
 let n : Bss := (List.set a (Int.toNat g) p)
 chk ((decide (0 ≤ b) && decide (b < ↑(List.length a)))) (
 chk (decide ((Int.toNat b) < List.length n)) (
 let o : Bss := (List.set n (Int.toNat b) q)
 chk (Nat.beq (List.length a) (List.length o)) (
 let r : Int := (IntKind.wrap .i64 (g + 1))
 let s : Int := (IntKind.wrap .i64 (b - 1))
 h (r, s, i, j, k, l, m, c, d, e, o, f)))))))))))) (
 some (.agg [.int .u64 c, .str d, .sl .aval (.may false) e, .sl .str (.may false) a, .int .i64 f], [some [.int .u64 c, .str d, .sl .aval (.may false) e, .sl .str (.may false) a, .int .i64 f], some [.int .u64 c, .str d, .sl .aval .own e, .sl .str .own a, .int .i64 f]]))
theorem aiH (N : Nat) : ∀ (a : St → Ro) (x : mC), qq N a (iE x) = mD N (fun y => a (iE y)) x := by
 intro a x
 kernel_rfl
def qr (N : Nat) : St → Ro := fun s => run ct N nJ (fin eH) s
def oD (N : Nat) (w : mC → Ro) : mB → Ro := fun (f, m, n, o, p, q, d, c, a, b, e) =>
 cond ((Int.tmod f 7) == 0) (
 let g : Int := (IntKind.wrap .u64 (Int.tdiv f 7))
 some (.agg [.int .u64 g, .str c, .sl .aval (.may false) a, .sl .str (.may false) b, .int .i64 e], [some [.int .u64 g, .str c, .sl .aval (.may false) a, .sl .str (.may false) b, .int .i64 e], some [.int .u64 g, .str c, .sl .aval .own a, .sl .str .own b, .int .i64 e]])) (
 cond ((Int.tmod f 7) == 1) (
 chk (decide (List.length c + List.length ([255] : Bs) ≤ 9223372036854775807)) (
 let h : Bs := (c ++ ([255] : Bs))
 some (.agg [.int .u64 d, .str h, .sl .aval (.may false) a, .sl .str (.may false) b, .int .i64 e], [some [.int .u64 d, .str h, .sl .aval (.may false) a, .sl .str (.may false) b, .int .i64 e], some [.int .u64 d, .str h, .sl .aval .own a, .sl .str .own b, .int .i64 e]]))) (
 cond ((Int.tmod f 7) == 2) (
 chk (decide ((List.length a + List.length ([⟨0, ([] : Bs), ([] : List aB), ([] : Bss), 0⟩] : List aB)) * 80 ≤ 140737488355328)) (
 let i : List aB := (a ++ ([⟨0, ([] : Bs), ([] : List aB), ([] : Bss), 0⟩] : List aB))
 some (.agg [.int .u64 d, .str c, .sl .aval (.may false) i, .sl .str (.may false) b, .int .i64 e], [some [.int .u64 d, .str c, .sl .aval (.may false) i, .sl .str (.may false) b, .int .i64 e], some [.int .u64 d, .str c, .sl .aval .own i, .sl .str .own b, .int .i64 e]]))) (
 cond ((Int.tmod f 7) == 3) (
 chk (decide ((List.length b + List.length ([([97] : Bs)] : Bss)) * 16 ≤ 140737488355328)) (
 let j : Bss := (b ++ ([([97] : Bs)] : Bss))
 some (.agg [.int .u64 d, .str c, .sl .aval (.may false) a, .sl .str (.may false) j, .int .i64 e], [some [.int .u64 d, .str c, .sl .aval (.may false) a, .sl .str (.may false) j, .int .i64 e], some [.int .u64 d, .str c, .sl .aval .own a, .sl .str .own j, .int .i64 e]]))) (
 cond ((Int.tmod f 7) == 4) (
 let r : Int := (IntKind.wrap .u64 (Int.tdiv f 7))
 let s : Int := (IntKind.wrap .i64 (Int.tmod r 5))
 let k : Int := (IntKind.wrap .i64 (s - 1))
 some (.agg [.int .u64 d, .str c, .sl .aval (.may false) a, .sl .str (.may false) b, .int .i64 k], [some [.int .u64 d, .str c, .sl .aval (.may false) a, .sl .str (.may false) b, .int .i64 k], some [.int .u64 d, .str c, .sl .aval .own a, .sl .str .own b, .int .i64 k]])) (
 cond ((Int.tmod f 7) == 5) (
 let t : Int := (↑(List.length a) : Int)
 cond (decide (0 < t)) (
 chk ((decide (0 ≤ 1) && decide (1 ≤ (↑(List.length a) : Int)))) (
 let l : List aB := (List.drop (Int.toNat 1) (List.take (List.length a) a))
 some (.agg [.int .u64 d, .str c, .sl .aval (.may false) l, .sl .str (.may false) b, .int .i64 e], [some [.int .u64 d, .str c, .sl .aval (.may false) l, .sl .str (.may false) b, .int .i64 e], some [.int .u64 d, .str c, .sl .aval (.may false) l, .sl .str .own b, .int .i64 e]]))) (
 some (.agg [.int .u64 d, .str c, .sl .aval (.may false) a, .sl .str (.may false) b, .int .i64 e], [some [.int .u64 d, .str c, .sl .aval (.may false) a, .sl .str (.may false) b, .int .i64 e], some [.int .u64 d, .str c, .sl .aval .own a, .sl .str .own b, .int .i64 e]]))) (
 let u : Int := (↑(List.length b) : Int)
 let v : Int := (IntKind.wrap .i64 (u - 1))
 w (0, v, m, n, o, p, q, d, c, a, b, e)))))))
def mE (N : Nat) (x : mB) : Ro := oD N (fun z => aS N (mD N) z) x
def abv (N : Nat) : List (Nat × (St → Ro)) := (ba ct N nJ (fin eH) ++ [])
theorem aiI (N : Nat) : ∀ (x : mB), qr N (iD x) = mE N x := by
 intro x
 have hX : ∀ C : Nat → St → Ro, bT C ct N nJ (fin eH) (iD x) = oD N (fun z => C 1000001 (iE z)) x := by
  intro C
  kernel_rfl
 have h : qr N (iD x) = oD N (fun z => bo N (qq N) (iE z)) x := (cp (C := dM (abv N)) (bR (aX (l := (abv N)) (by kernel_rfl))) rfl _).trans ((hX _).trans (by kernel_rfl))
 have e2 : (fun z => bo N (qq N) (iE z)) = (fun z => aS N (mD N) z) := funext fun z => bj (iE) (qq N) (mD N) (aiH N) N z
 rw [h, e2]
 rfl
def vx (N : Nat) : St → Ro := fun s => run ct N oC (vw (run ct N)) s
def oE (N : Nat) (q : mB → Ro) : mA → Ro := fun (n, o, m, h, i, j, k, l, b, c, a, d, e) =>
 cond m (
 let r : Int := (IntKind.wrap .u8 (Int.tdiv n 3))
 let p : Int := (↑(List.length a) : Int)
 chk ((!(p == 0))) (
 let g : Int := (Int.tmod (IntKind.wrap .i64 r) p)
 chk (decide (0 < List.length a)) (
 chk ((decide (0 ≤ g) && decide (g < ↑(List.length a)))) (
 chk (decide ((Int.toNat g) < List.length a)) (
 let s : aB := (List.getD a (Int.toNat g) (aC .aval))
 let t : Int := (IntKind.wrap .u8 (Int.tdiv n 3))
 aG (jJ (reA s) t o) (fun (u : aB) =>
 chk ((decide (0 ≤ g) && decide (g < ↑(List.length a)))) (
 chk (decide ((Int.toNat g) < List.length a)) (
 let f : List aB := (List.set a (Int.toNat g) (reA u))
 chk (Nat.beq (List.length a) (List.length f)) (
 some (.agg [.int .u64 b, .str c, .sl .aval (.may false) f, .sl .str (.may false) d, .int .i64 e], [some [.int .u64 b, .str c, .sl .aval (.may false) f, .sl .str (.may false) d, .int .i64 e], some [.int .u64 b, .str c, .sl .aval .own f, .sl .str .own d, .int .i64 e], none, none])))))))))) (
 q (o, h, i, j, k, l, b, c, a, d, e))
def qt (N : Nat) (x : mA) : Ro := oE N (fun z => mE N z) x
def vy (N : Nat) : List (Nat × (St → Ro)) := (ba ct N oC (vw (run ct N)) ++ (ba ct N tc (fin eH) ++ []))
theorem aiJ (N : Nat) : ∀ (x : mA), vx N (lw x) = qt N x := by
 intro x
 have hX : ∀ C : Nat → St → Ro, bT C ct N oC (vw (bT C ct N)) (lw x) = oE N (fun z => C 1000002 (iD z)) x := by
  intro C
  kernel_rfl
 have h : vx N (lw x) = oE N (fun z => qr N (iD z)) x := (cp (C := dM (vy N)) (bR (aX (l := (vy N)) (by kernel_rfl))) (eF (bR (dl (aX (l := (vy N)) (by kernel_rfl)))) rfl) _).trans ((hX _).trans (by kernel_rfl))
 have e1 : (fun z => qr N (iD z)) = (fun z => mE N z) := funext fun z => aiI N z
 rw [h, e1]
 rfl
def nK (N : Nat) (a : aB) (b d : Int) (e : mA → Ro) : Ro :=
 chk (decide ((List.length ([] : List aB) + List.length a.l) * 80 ≤ 140737488355328)) (
 let c : List aB := (([] : List aB) ++ a.l)
 chk (decide ((List.length ([] : Bss) + List.length a.keys) * 16 ≤ 140737488355328)) (
 let f : Bss := (([] : Bss) ++ a.keys)
 let g : Int := (↑(List.length c) : Int)
 cond (decide (0 < g)) (
 let h : Bool := decide (0 < (Int.tmod b 3))
 e (b, d, h, 0, ([] : Bs), ([] : List aB), ([] : Bss), 0, a.n, a.s, c, f, a.branch)) (
 e (b, d, false, 0, ([] : Bs), ([] : List aB), ([] : Bss), 0, a.n, a.s, c, f, a.branch))))
def xl (N : Nat) (a : aB) (b c : Int) : Ro := nK N a b c (fun z => qt N z)
def anA (N : Nat) : List (Nat × (St → Ro)) := ba ct N xk (fin eH) ++ []
theorem akk (N : Nat) (a : aB) (c d : Int) : bc ct N 128 eH xk [.agg (enc .aval a), .int .u8 c, .int .u64 d] [] = xl N a c d :=
 (bU (anA N) (by kernel_rfl) rfl (fun C => nK N a c d (fun z => C 1000000 (lw z))) (fun C => by kernel_rfl)).trans (Eq.trans (b := nK N a c d (fun z => vx N (lw z))) (by kernel_rfl) (congrArg (nK N a c d) (funext fun z => aiJ N z)))
theorem akl (N : Nat) (a : aB) (b c : Int) (h : Tot (xl N a b c) (fun z => ∃ (d : aB) (rest : List aL), z.1.dimR = .agg (enc .aval d) ∧ z.2 = rest ∧ iC a b c (d))) : ∃ r, jJ a b c r := by
 obtain ⟨⟨v, hp⟩, hz, d, rest, e1, e2, hq⟩ := h
 simp only at e1 e2
 subst e2
 exact ⟨(d), aI.dimR (alZ.pure (akk N a b c) hz) e1, hq⟩
noncomputable def zl : aO := tab (P := Try.prog) [arf] [ais, aat] [] [ahj, apk, ajl, ad9]
def xI : IR := Rs [Mb 8 false] (Sq (Rs [Ca 14 19 [], Un 15 14] (Cn 15 (Rs [Mb 8 false] .ret) .skip)) (Sq (Rs [Mv 16 0, Ll 17 16, Bc 18 .gtr 17 120, Mv 19 18, Gf 19 (.mov 20 1), Gf 19 (.lenl 21 20), Gf 19 (.bin 22 .gtr 21 (kI 60)), Po 23 19 22] (Cn 23 (Rs [Mb 8 true] .ret) .skip)) (Rs [Mv 25 0, Ca 26 14 [25], Ca 27 15 [26], Mv 24 27, Ex_ 28 0 24, Ex_ 29 1 24, Pp (.alr 9 1), Fz 9 1 28, Mv 10 29] (Sq (Rs [Mv 30 10, Un 31 30] (Cn 31 (Rs [Mb 8 true] .ret) .skip)) (Sq (.reg [Mv 33 1, Ca 34 14 [33], Ld 35 1 true 9, Fo [] [1] (.call 36 26 [34, 35, kI 0, kI 0]), Mv 32 36, Ex_ 37 0 32, Ex_ 38 1 32, Pp (.alr 11 5), Fz 11 5 37, Mv 12 38] [[], [0], [], [0, 1, 2], rg 0 3, rg 0 4, rg 0 4, [], rg 0 5 ++ [7], rg 0 8]) (Sq (Rs [Mv 39 12, Un 40 39] (Cn 40 (Rs [Mb 8 true] .ret) .skip)) (Rs [Ld 41 5 true 11, Mv 42 2, Mv 43 3, Ca 44 27 [41, 42, 43], Pp (.alr 13 5), Fz 13 5 44] (Sq (.reg [Ld 45 1 true 9, Ld 46 5 true 11, Ca 47 21 [45, kI 0, 46], Mv 48 47, Gt 48 (.lde 49 1 true 9), Gt 48 (.lde 50 5 true 13), Gt 48 (.call 51 21 [49, kI 0, 50]), Gt 48 (.lde 52 1 true 9), Gt 48 (.lde 53 5 true 13), Gt 48 (.call 54 18 [52, kI 0, 53]), Gt 48 (.beq 55 false 51 54), Pa 56 48 55, Mv 8 56] [[], [], [0, 1], [0, 1, 2], rg 0 3, rg 0 3, rg 0 5, rg 0 3, rg 0 3, rg 0 8, rg 0 9, rg 0 10, rg 0 11]) .ret))))))))
def xJ : List RV := [.t 8]
theorem agy : FnC Try.prog zl [14, 15, 26, 2000015, 2000026] 0 tb Try.f5 xI xJ := fnC (by kernel_rfl) Try.func5 (by kernel_rfl) (by kernel_rfl) (by decide)
def xK (N : Nat) (d e : Bs) (h i : Int)  : Ro :=
 aG (qW) (fun (j : Bool) =>
 cond (!j) (
 some (.bool false, [])) (
 let k : Int := (↑(List.length d) : Int)
 cond (decide (120 < k)) (
 some (.bool true, [])) (
 let m : Int := (↑(List.length e) : Int)
 cond (decide (60 < m)) (
 some (.bool true, [])) (
 aG (ra d) (fun f =>
 aG (lk f.1 f.2) (fun a =>
 cond (!a.2.1) (
 some (.bool true, [some [.sl .u8 (.may false) a.2.2.1, .int .i64 a.2.2.2]])) (
 aG (ra e) (fun g =>
 aG (cM g.1 g.2 a.1 0 0) (fun b =>
 cond (!b.2.1) (
 some (.bool true, [some [.sl .u8 (.may false) a.2.2.1, .int .i64 a.2.2.2], some [.sl .u8 (.may false) b.2.2.1, .int .i64 b.2.2.2]])) (
 aG (jJ (reA b.1) h i) (fun (c : aB) =>
 aG (oj a.1 0 (reA b.1)) (fun (o : Bool) =>
 cond o (
 aG (oj a.1 0 (reA c)) (fun (p : Bool) =>
 aG (eV a.1 0 c.n c.s c.l c.keys c.branch) (fun (q : Bool) =>
 some (.bool (p == q), [some [.sl .u8 (.may false) a.2.2.1, .int .i64 a.2.2.2], some [.sl .u8 (.may false) b.2.2.1, .int .i64 b.2.2.2]])))) (
 some (.bool false, [some [.sl .u8 (.may false) a.2.2.1, .int .i64 a.2.2.2], some [.sl .u8 (.may false) b.2.2.1, .int .i64 b.2.2.2]]))))))))))))))
def rC (N : Nat) (a b : Bs) (c d : Int) : Ro := xK N a b c d
theorem afb (N : Nat) (a b : Bs) (c d : Int) : bc zl N 57 xJ xI [.sl .u8 (.may false) a, .sl .u8 (.may false) b, .int .u8 c, .int .u64 d] [] = rC N a b c d := by kernel_rfl
theorem afc (N : Nat) (a b : Bs) (c d : Int) (h : Tot (rC N a b c d) (fun z => ∃ (e : Bool) (rest : List aL), z.1.dimR = .bool e ∧ z.2 = rest ∧ pK a b c d (e))) : ∃ r, zj a b c d r := by
 obtain ⟨⟨v, hp⟩, hz, e, rest, e1, e2, hq⟩ := h
 simp only at e1 e2
 subst e2
 exact ⟨(e), aI.dimR (agy.pure (afb N a b c d) hz) e1, hq⟩
end Go.Proofs.Ytdpajabhmmmjoaa
end
noncomputable section
namespace Go.Proofs.Ytdpajabhmmmjoaa
open Go.AM
set_option autoImplicit false
set_option linter.unusedVariables false
set_option linter.unusedSimpArgs false
set_option maxRecDepth 100000
theorem aqW : ∀ l : List (List UInt8), 10 * l.length ≤ fJ l
 | [] => by simp
 | k :: l => by have := aqW l; simp only [fJ, List.length_cons]; omega
theorem atw (d : aB) : ∀ (l : List aB) (i : Nat), i < l.length → wV (l.getD i d) ≤ wL l
 | [], i, h => by simp at h
 | v :: l, 0, h => by simp only [List.getD_cons_zero, wL]; omega
 | v :: l, i + 1, h => by have := atw d l i (by simpa using h); simp only [List.getD_cons_succ, wL]; omega
theorem ar0 (d w : aB) : ∀ (l : List aB) (i : Nat), i < l.length → wL (l.set i w) + wV (l.getD i d) = wL l + wV w
 | [], i, h => by simp at h
 | v :: l, 0, h => by simp only [List.set_cons_zero, List.getD_cons_zero, wL]; omega
 | v :: l, i + 1, h => by have := ar0 d w l i (by simpa using h); simp only [List.set_cons_succ, List.getD_cons_succ, wL]; omega
theorem ah9 (d w : List UInt8) : ∀ (l : List (List UInt8)) (i : Nat), i < l.length → fJ (l.set i w) + (l.getD i d).length = fJ l + w.length
 | [], i, h => by simp at h
 | v :: l, 0, h => by simp only [List.set_cons_zero, List.getD_cons_zero, fJ]; omega
 | v :: l, i + 1, h => by have := ah9 d w l i (by simpa using h); simp only [List.set_cons_succ, List.getD_cons_succ, fJ]; omega
theorem ar1 : ∀ (l : List aB) (i : Nat), wL (l.drop i) ≤ wL l
 | [], i => by simp
 | v :: l, 0 => by simp
 | v :: l, i + 1 => by have := ar1 l i; simp only [List.drop_succ_cons, wL]; omega
theorem al0 : ∀ (m : Nat) (v : aB) (how n : Int), 0 ≤ how ∧ how ≤ 255 → 0 ≤ n → how < m → wV v ≤ 10000000000000 → ∃ r, jJ v how n r
 | 0 => fun v how n h1 h2 h3 => by omega
 | m + 1 => by
   intro v how n hh hn hm hw
   obtain ⟨n0, s0, l0, ks0, b0⟩ := v
   have w1 := atu l0
   have w2 := aqW ks0
   have hw' : 40 + s0.length + fJ ks0 + wL l0 ≤ 10000000000000 := by simpa only [wV] using hw
   apply akl 100000000000000
   unfold xl nK
   simp only [aB.n, aB.s, aB.l, aB.keys, aB.branch, List.nil_append]
   have done : ∀ (x0 : Int) (x1 : List UInt8) (x2 : List aB) (x3 : List (List UInt8)) (x4 : Int), x1.length + fJ x3 + wL x2 ≤ s0.length + fJ ks0 + wL l0 + 100 → iC (.mk n0 s0 l0 ks0 b0) how n (.mk x0 x1 x2 x3 x4) := fun x0 x1 x2 x3 x4 h => by
    simp only [iC, wV]; omega
   have one : ∀ (c0 : Int) (c1 : List UInt8) (c2 : List aB) (c3 : List (List UInt8)) (c4 : Int), Tot (mE 100000000000000 (n, c0, c1, c2, c3, c4, n0, s0, l0, ks0, b0)) (fun z => ∃ (y0 : aB) (rest : List aL), z.1.dimR = .agg (enc .aval y0) ∧ z.2 = rest ∧ iC (.mk n0 s0 l0 ks0 b0) how n y0) := by
    intro c0 c1 c2 c3 c4
    unfold mE oD
    dsimp only
    refine aE (fun _ => aH ⟨.mk _ s0 l0 ks0 b0, _, rfl, rfl, done _ _ _ _ _ (by omega)⟩) (fun _ => aE (fun _ => vck (aH ⟨.mk n0 (s0 ++ [255]) l0 ks0 b0, _, rfl, rfl, done _ _ _ _ _ (by simp; omega)⟩)) (fun _ => aE (fun _ => vck (aH ⟨.mk n0 s0 (l0 ++ [.mk 0 [] [] [] 0]) ks0 b0, _, rfl, rfl, done _ _ _ _ _ ?_⟩)) (fun _ =>
     aE (fun _ => vck (aH ⟨.mk n0 s0 l0 (ks0 ++ [[97]]) b0, _, rfl, rfl, done _ _ _ _ _ ?_⟩)) (fun _ => aE (fun _ => aH ⟨.mk n0 s0 l0 ks0 _, _, rfl, rfl, done _ _ _ _ _ (by omega)⟩) (fun _ => aE (fun _ => aE (fun h => ?_) (fun _ => aH ⟨.mk n0 s0 l0 ks0 b0, _, rfl, rfl, done _ _ _ _ _ (by omega)⟩)) (fun _ => ?_))))))
    ·rw [abg]; simp [wL, wV, fJ]; omega
    ·rw [aeI]; simp [fJ]; omega
    ·have h := of_decide_eq_true h
     refine vck (aH ⟨.mk n0 s0 _ ks0 b0, _, rfl, rfl, done _ _ _ _ _ ?_⟩)
     have := ar1 (List.take l0.length l0) 1
     rw [List.take_length] at this ⊢
     have e : Int.toNat 1 = 1 := rfl
     rw [e]; omega
    ·refine bq (fun x => match x with | (i, k, c0, c1, c2, c3, c4, d0, d1, d2, d3, d4) => 0 ≤ i ∧ k ≤ (ks0.length : Int) - 1 ∧ -1 ≤ k ∧ i ≤ (ks0.length : Int) ∧ d1 = s0 ∧ d2 = l0 ∧ d3.length = ks0.length ∧ fJ d3 = fJ ks0)
      (fun x => (x.2.1 - x.1).toNat) ?_ _ _ ⟨by simp, ?_, ?_, by simp, rfl, rfl, rfl, rfl⟩ ?_
     ·rintro again ⟨i, k, c0, c1, c2, c3, c4, d0, d1, d2, d3, d4⟩ ⟨i1, i2, i3, i4, rfl, rfl, i5, i6⟩ ih
      dsimp only at ih
      unfold mD
      dsimp only
      refine aE (fun h => ?_) (fun h => aH ⟨.mk d0 d1 d2 d3 d4, _, rfl, rfl, done _ _ _ _ _ (by omega)⟩)
      have h := of_decide_eq_true h
      have e1 : IntKind.i64.wrap (i + 1) = i + 1 := aJ (i + 1) (by omega)
      have e2 : IntKind.i64.wrap (k - 1) = k - 1 := aJ (k - 1) (by omega)
      refine vck (vck (vck (vck (vck (vck (vck (vck (vck (vck ?_)))))))))
      refine ih (_, _, c0, c1, c2, c3, c4, d0, d1, d2, _, d4) ?_ (by simp only [e1, e2]; omega)
      simp only [e1, e2]
      have k1 := ah9 [] (d3.getD k.toNat []) d3 i.toNat (by omega)
      have k2 := ah9 [] (d3.getD i.toNat []) (d3.set i.toNat (d3.getD k.toNat [])) k.toNat (by simp; omega)
      rw [jE _ _ _ _ _ (show i.toNat ≠ k.toNat by omega)] at k2
      refine ⟨by omega, by omega, by omega, by omega, trivial, trivial, by simp; omega, ?_⟩
      have k3 : fJ ((d3.set i.toNat (d3.getD k.toNat [])).set k.toNat (d3.getD i.toNat [])) = fJ ks0 := by omega
      exact k3
     all_goals (try simp only)
     all_goals (rw [aJ _ (by omega)]; omega)
   have zero : ∀ (f : Bool), (f = true → 0 < l0.length ∧ 0 < how) → Tot (qt 100000000000000 (how, n, f, 0, [], [], [], 0, n0, s0, l0, ks0, b0)) (fun z => ∃ (y0 : aB) (rest : List aL), z.1.dimR = .agg (enc .aval y0) ∧ z.2 = rest ∧ iC (.mk n0 s0 l0 ks0 b0) how n y0) := by
    intro f hf
    unfold qt oE
    dsimp only
    refine aE (fun h => ?_) (fun h => one _ _ _ _ _)
    obtain ⟨f1, f2⟩ := hf h
    have e1 : Int.tdiv how 3 = how / 3 := Int.tdiv_eq_ediv_of_nonneg hh.1
    have e2 : IntKind.u8.wrap (how / 3) = how / 3 := aem _ (by omega)
    have e3 : IntKind.i64.wrap (how / 3) = how / 3 := aJ _ (by omega)
    have e4 : Int.tmod (how / 3) (l0.length : Int) = (how / 3) % (l0.length : Int) := Int.tmod_eq_emod_of_nonneg (by omega)
    rw [e1, e2, e3, e4]
    have m1 : 0 ≤ (how / 3) % (l0.length : Int) := Int.emod_nonneg _ (by omega)
    have m2 : (how / 3) % (l0.length : Int) < (l0.length : Int) := Int.emod_lt_of_pos _ (by omega)
    generalize (how / 3) % (l0.length : Int) = j at m1 m2
    have hj : j.toNat < l0.length := by omega
    refine aU (by rw [bf (by omega)]; rfl) (vck (vck (vck ?_)))
    rw [qv]
    have q1 := atw (aC .aval) l0 j.toNat hj
    refine aF (al0 m _ (how / 3) n (by omega) hn (by omega) (by omega)) ?_
    rintro (r : aB) ⟨-, hr⟩
    have hr : wV r ≤ wV (l0.getD j.toNat (aC .aval)) + 100 := hr
    have q2 := ar0 (aC .aval) r l0 j.toNat hj
    refine vck (vck (vck (aH ⟨.mk n0 s0 (l0.set j.toNat (reA r)) ks0 b0, _, rfl, rfl, done _ _ _ _ _ ?_⟩)))
    rw [qv]; omega
   refine vck (vck (aE (fun h => zero _ fun h' => ?_) (fun h => zero _ fun h' => by cases h')))
   have h := of_decide_eq_true h
   have h' := of_decide_eq_true h'
   have e4 : Int.tmod how 3 = how % 3 := Int.tmod_eq_emod_of_nonneg hh.1
   rw [e4] at h'
   exact ⟨by omega, by omega⟩
theorem asH (v : aB) (how n : Int) (h : 0 ≤ how ∧ how ≤ 255) (hn : 0 ≤ n) (hw : wV v ≤ 10000000000000) : ∃ r, jJ v how n r := al0 256 v how n h hn (by omega) hw
theorem acg (ts : List aA) (t : Int) (v : aB) : ∃ r, oj ts t v r := by
 obtain ⟨n, s, l, ks, b⟩ := v
 exact ⟨_, as3 ts t n s l ks b, rfl⟩
theorem an4 (v w : aB) : ∃ r, uB v w r := by
 obtain ⟨n, s, l, ks, b⟩ := v
 obtain ⟨n2, s2, l2, ks2, b2⟩ := w
 exact ⟨_, as6 n s l ks b n2 s2 l2 ks2 b2, rfl⟩
theorem atx (v : aB) : ∃ r, yE v r := by
 obtain ⟨n, s, l, ks, b⟩ := v
 exact ⟨_, as7 n s l ks b, rfl⟩
theorem aty : ∃ r, qW r := by
 apply alY 1
 unfold yp aec
 refine aF (atx _) ?_
 rintro _ ⟨-, rfl⟩
 refine aF (acg _ _ _) ?_
 rintro _ ⟨-, rfl⟩
 refine aE (fun _ => ?_) (fun h => absurd h (by decide))
 refine aF (acg _ _ _) ?_
 rintro _ ⟨-, rfl⟩
 refine aE (fun _ => ?_) (fun h => absurd h (by decide))
 refine aF (an4 _ _) ?_
 rintro _ ⟨-, rfl⟩
 refine aE (fun _ => ?_) (fun h => absurd h (by decide))
 refine aF (an4 _ _) ?_
 rintro _ ⟨-, rfl⟩
 refine aE (fun _ => ?_) (fun h => absurd h (by decide))
 refine aE (fun _ => ?_) (fun h => absurd h (by decide))
 exact aH ⟨_, _, rfl, rfl, by unfold vv; decide⟩
theorem anB (picks p : List UInt8) (how n : Int) (hh : 0 ≤ how ∧ how ≤ 255) (hn : 0 ≤ n) : ∃ r, zj picks p how n r := by
 apply afc 1
 unfold rC xK
 refine aF aty ?_
 rintro (r : Bool) ⟨-, hr⟩
 have hr : r = true := hr
 refine aE (fun h => by rw [hr] at h; cases h) (fun _ => ?_)
 refine aE (fun _ => aH ⟨_, _, rfl, rfl, rfl⟩) (fun h1 => ?_)
 have h1 := of_decide_eq_false h1
 refine aE (fun _ => aH ⟨_, _, rfl, rfl, rfl⟩) (fun h2 => ?_)
 have h2 := of_decide_eq_false h2
 refine aF (aqG _) ?_
 rintro _ ⟨-, rfl⟩
 refine aF (at1 _ _ ⟨by simp, by simp, by dsimp only; omega⟩) ?_
 rintro ⟨ts, is, a', n'⟩ ⟨-, g1, g2, g3⟩
 dsimp only at g1 g2 g3 ⊢
 refine aE (fun _ => aH ⟨_, _, rfl, rfl, rfl⟩) (fun his => ?_)
 simp only [bnl] at his
 have hs := g1 his
 refine aF (aqG _) ?_
 rintro _ ⟨-, rfl⟩
 refine aF (at9 ts hs _ _ 0 ⟨by simp, by simp, by dsimp only; omega⟩) ?_
 rintro ⟨v, is2, p', n2⟩ ⟨-, q1, q2, q3, q4⟩
 dsimp only at q1 q2 q3 q4 ⊢
 refine aE (fun _ => aH ⟨_, _, rfl, rfl, rfl⟩) (fun hy => ?_)
 simp only [bnl] at hy
 obtain ⟨q5, q6⟩ := q2 hy
 have hb : bW (6 - (0 : Int).toNat) ≤ 10000000000000 := by decide
 rw [qv]
 refine aF (asH v how n hh hn (by omega)) ?_
 rintro (w : aB) -
 refine aF (acg _ _ _) ?_
 rintro _ ⟨-, rfl⟩
 refine aE (fun _ => ?_) (fun h => absurd (q5.symm.trans h) (by decide))
 refine aF (acg _ _ _) ?_
 rintro _ ⟨-, rfl⟩
 refine aF (atp ts hs _ _ _ _ _ _) ?_
 rintro _ ⟨-, rfl⟩
 refine aH ⟨_, _, rfl, rfl, ?_⟩
 simp only [qv]
 have : (aB.mk w.n w.s w.l w.keys w.branch) = w := qv w
 rw [this]
 simp [pK]
theorem al1 (picks p : List UInt8) (how n : Int) : aI Try.prog tb [.sl .u8 (.may false) picks, .sl .u8 (.may false) p, .int .u8 how, .int .u64 n] (.bool true) := by
 refine aI.fits fun hf => ?_
 have r2 := auq (hf (.int .u8 how) (by simp))
 have r3 := atI (hf (.int .u64 n) (by simp))
 obtain ⟨r, h, rfl⟩ := anB picks p how n r2 r3.1
 exact h
end Go.Proofs.Ytdpajabhmmmjoaa
end
