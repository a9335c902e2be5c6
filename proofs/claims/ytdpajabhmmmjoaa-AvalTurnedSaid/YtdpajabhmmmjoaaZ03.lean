import Derived.Test.YtdpajabhmmmjoaaChecked
import Derived.KernelRfl
import Derived.ChangeArms
import Derived.ChangeSlices
import Derived.WideShapes
import Derived.WideKeyArgs
import Derived.Test.YtdpajabhmmmjoaaZ02
noncomputable section
namespace Go.Proofs.Ytdpajabhmmmjoaa
open Go.AM
set_option autoImplicit false
set_option linter.unusedVariables false
set_option maxRecDepth 100000
abbrev nM : FuncId := 21
abbrev q8 : FuncId := 24
abbrev tZ : FuncId := 22
abbrev ach : FuncId := 55
abbrev aci : FuncId := 52
abbrev oK : FuncId := 82
abbrev agN : FuncId := 49
abbrev acj : FuncId := 53
abbrev zp : FuncId := 50
abbrev zq : FuncId := 54
abbrev ack : FuncId := 51
abbrev t7 : FuncId := 150
abbrev uE : FuncId := 80
abbrev zr : FuncId := 121
abbrev aaP : FuncId := 163
abbrev afe : FuncId := 19
abbrev cF : FuncId := 81
abbrev b9 : FuncId := 57
abbrev jz : FuncId := 56
abbrev cV : FuncId := 122
def agO : Nat → List V → Option (Bool × V) := fun _ _ => none
def we : aO := (fw agO)
theorem ajC : cB we [] := (cC _ _)
theorem akF  : bw Try.prog we := by
 intro f vs hp v hp' h
 obtain ⟨h, -⟩ := de h
 simp [agO] at h
def aff : IR := Rs [Pp (.mov 4 (.c (.int .u8 0)))] (Rs [Mv 5 0, Mv 6 1, Bi 7 .shr 5 6, Pp (.bin 8 .and 7 (.c (.int .u32 63))), Pp (.bin 9 .or (.c (.int .u32 128)) 8), Pp (.cvi 10 .u8 9), Mv 4 10] .ret)
def afg : List RV := [.t 4]
theorem ama : (bE Try.prog [] 0 aff (Try.f163.body.getD .skip) && dF Try.prog afg Try.f163.results.toList) = true := by kernel_rfl
theorem akG : Try.f163.body = some (Try.f163.body.getD .skip) := by kernel_rfl
def afh (N : Nat) (b a : Int)  : Ro :=
 chk (decide (0 ≤ a)) (
 let c : Int := (cn .and .u32 (eS .u32 b a) 63)
 let d : Int := (IntKind.wrap .u8 (cn .or .u32 128 c))
 some (.int .u8 d, []))
def uF (N : Nat) (a b : Int) : Ro := afh N a b
theorem amb (N : Nat) (a b : Int) : bc we N 11 afg aff [.int .u32 a, .int .i64 b] [] = uF N a b := by kernel_rfl
theorem an5 (hΓ : bw Try.prog we) (N : Nat) (a b : Int) {v : V} {hp : List aL} (h : uF N a b = some (v, hp)) : aI Try.prog aaP [.int .u32 a, .int .i64 b] v := by
 have hc := ama
 simp only [Bool.and_eq_true] at hc
 exact ⟨hp, eI hΓ ajC Try.func163 akG hc.1 hc.2 (by decide) ((amb N a b).trans h)⟩
def aiT (N : Nat) : Nat → List V → Option (Bool × V) := fun f vs => match f, vs with
 | 150, [.int .u32 a] => some ((decide ((a : Int) = 65533) && decide (0 < N)), .str (xM a))
 | 163, [.int .u32 a, .int .i64 b] => some ((decide (0 ≤ (b : Int)) && decide ((b : Int) ≤ 32)), .int .u8 (iM a b))
 | _, _ => none
def yw (N : Nat) : aO := (fw (aiT N))
theorem akH (N : Nat) : cB (yw N) [] := (cC _ _)
theorem acW (N : Nat) (h_glyph_Put : ∀ (a : Int), (decide ((a : Int) = 65533) && decide (0 < N)) = true → aI Try.prog t7 [.int .u32 a] (.str (xM a))) (h_glyph_tail : ∀ (a : Int) (b : Int), (decide (0 ≤ (b : Int)) && decide ((b : Int) ≤ 32)) = true → aI Try.prog aaP [.int .u32 a, .int .i64 b] (.int .u8 (iM a b))) : bw Try.prog (yw N) := by
 intro f vs hp v hp' h0
 obtain ⟨h, he⟩ := de h0
 subst he
 unfold aiT at h
 split at h
 ·simp only [Option.some.injEq, Prod.mk.injEq] at h
  obtain ⟨hc, rfl⟩ := h
  exact ((h_glyph_Put _ hc).dim rfl).frame rfl rfl _
 ·simp only [Option.some.injEq, Prod.mk.injEq] at h
  obtain ⟨hc, rfl⟩ := h
  exact ((h_glyph_tail _ _ hc).dim rfl).frame rfl rfl _
 ·simp at h
def agP : IR := Rs [Ms 2 []] (Sq (.block 0 (Rs [Mv 4 0, Pp (.bin 5 .lss 4 (.c (.int .u32 128))), Mv 3 5] (Cn 3 (Rs [Mv 6 0, Pp (.cvi 7 .u8 6), Pp (.bsl 8 .u8 [7] false), Pp (.b2s 9 8), Mv 2 9] .ret) (Rs [Mv 11 0, Pp (.bin 12 .lss 11 (.c (.int .u32 2048))), Mv 10 12] (Cn 10 (Rs [Mv 13 0, Pp (.bin 14 .shr 13 (kU 6)), Pp (.bin 15 .or (.c (.int .u32 192)) 14), Pp (.cvi 16 .u8 15), Mv 17 0, Ca 18 163 [17, kI 0], Pp (.bsl 19 .u8 [16, 18] false), Pp (.b2s 20 19), Mv 2 20] .ret) (Rs [Mv 22 0, Pp (.bin 23 .geq 22 (.c (.int .u32 55296))), Mv 24 23, Gt 24 (.mov 25 0), Gt 24 (.bin 26 .lss 25 (.c (.int .u32 57344))), Pa 27 24 26, Mv 28 27, Gf 28 (.mov 29 0), Gf 28 (.bin 30 .gtr 29 (.c (.int .u32 1114111))), Po 31 28 30, Mv 21 31] (Cn 21 (Rs [Ca 32 150 [.c (.int .u32 65533)], Mv 2 32] .ret) (Rs [Mv 34 0, Pp (.bin 35 .lss 34 (.c (.int .u32 65536))), Mv 33 35] (Cn 33 (Rs [Mv 36 0, Pp (.bin 37 .shr 36 (kU 12)), Pp (.bin 38 .or (.c (.int .u32 224)) 37), Pp (.cvi 39 .u8 38), Mv 40 0, Ca 41 163 [40, kI 6], Mv 42 0, Ca 43 163 [42, kI 0], Pp (.bsl 44 .u8 [39, 41, 43] false), Pp (.b2s 45 44), Mv 2 45] .ret) .skip))))))))) (Rs [Mv 46 0, Pp (.bin 47 .shr 46 (kU 18)), Pp (.bin 48 .or (.c (.int .u32 240)) 47), Pp (.cvi 49 .u8 48), Mv 50 0, Ca 51 163 [50, kI 12], Mv 52 0, Ca 53 163 [52, kI 6], Mv 54 0, Ca 55 163 [54, kI 0], Pp (.bsl 56 .u8 [49, 51, 53, 55] false), Pp (.b2s 57 56), Mv 2 57] .ret))
def agQ : List RV := [.t 2]
theorem an6 : (bE Try.prog [] 0 agP (Try.f150.body.getD .skip) && dF Try.prog agQ Try.f150.results.toList) = true := by kernel_rfl
theorem amc : Try.f150.body = some (Try.f150.body.getD .skip) := by kernel_rfl
def agR (N : Nat) (a : Int)  : Ro :=
 cond (decide (a < 128)) (
 some (.str ([(UInt8.ofNat (Int.toNat (IntKind.wrap .u8 a)))] : Bs), [])) (
 cond (decide (a < 2048)) (
 let b : Int := (cn .or .u32 192 (eS .u32 a 6))
 chk ((decide (0 ≤ (0 : Int)) && decide ((0 : Int) ≤ 32))) (
 some (.str ([(UInt8.ofNat (Int.toNat (IntKind.wrap .u8 b))), (UInt8.ofNat (Int.toNat (iM a 0)))] : Bs), []))) (
 cond (decide (55296 ≤ a)) (
 cond (decide (a < 57344)) (
 chk ((decide ((65533 : Int) = 65533) && decide (0 < N))) (
 some (.str (xM 65533), []))) (
 cond (decide (1114111 < a)) (
 chk ((decide ((65533 : Int) = 65533) && decide (0 < N))) (
 some (.str (xM 65533), []))) (
 cond (decide (a < 65536)) (
 let c : Int := (cn .or .u32 224 (eS .u32 a 12))
 chk ((decide (0 ≤ (6 : Int)) && decide ((6 : Int) ≤ 32))) (
 chk ((decide (0 ≤ (0 : Int)) && decide ((0 : Int) ≤ 32))) (
 some (.str ([(UInt8.ofNat (Int.toNat (IntKind.wrap .u8 c))), (UInt8.ofNat (Int.toNat (iM a 6))), (UInt8.ofNat (Int.toNat (iM a 0)))] : Bs), [])))) (
 let d : Int := (cn .or .u32 240 (eS .u32 a 18))
 chk ((decide (0 ≤ (12 : Int)) && decide ((12 : Int) ≤ 32))) (
 chk ((decide (0 ≤ (6 : Int)) && decide ((6 : Int) ≤ 32))) (
 chk ((decide (0 ≤ (0 : Int)) && decide ((0 : Int) ≤ 32))) (
 some (.str ([(UInt8.ofNat (Int.toNat (IntKind.wrap .u8 d))), (UInt8.ofNat (Int.toNat (iM a 12))), (UInt8.ofNat (Int.toNat (iM a 6))), (UInt8.ofNat (Int.toNat (iM a 0)))] : Bs), [])))))))) (
 cond (decide (1114111 < a)) (
 chk ((decide ((65533 : Int) = 65533) && decide (0 < N))) (
 some (.str (xM 65533), []))) (
 cond (decide (a < 65536)) (
 let e : Int := (cn .or .u32 224 (eS .u32 a 12))
 chk ((decide (0 ≤ (6 : Int)) && decide ((6 : Int) ≤ 32))) (
 chk ((decide (0 ≤ (0 : Int)) && decide ((0 : Int) ≤ 32))) (
 some (.str ([(UInt8.ofNat (Int.toNat (IntKind.wrap .u8 e))), (UInt8.ofNat (Int.toNat (iM a 6))), (UInt8.ofNat (Int.toNat (iM a 0)))] : Bs), [])))) (
 let f : Int := (cn .or .u32 240 (eS .u32 a 18))
 chk ((decide (0 ≤ (12 : Int)) && decide ((12 : Int) ≤ 32))) (
 chk ((decide (0 ≤ (6 : Int)) && decide ((6 : Int) ≤ 32))) (
 chk ((decide (0 ≤ (0 : Int)) && decide ((0 : Int) ≤ 32))) (
 some (.str ([(UInt8.ofNat (Int.toNat (IntKind.wrap .u8 f))), (UInt8.ofNat (Int.toNat (iM a 12))), (UInt8.ofNat (Int.toNat (iM a 6))), (UInt8.ofNat (Int.toNat (iM a 0)))] : Bs), [])))))))))
def wg (N : Nat) (a : Int) : Ro := agR N a
theorem an7 (N : Nat) (a : Int) : bc (yw N) N 58 agQ agP [.int .u32 a] [] = wg N a := by kernel_rfl
theorem agS (N : Nat) (hΓ : bw Try.prog (yw N)) (a : Int) {v : V} {hp : List aL} (h : wg N a = some (v, hp)) : aI Try.prog t7 [.int .u32 a] v := by
 have hc := an6
 simp only [Bool.and_eq_true] at hc
 exact ⟨hp, eI hΓ (akH N) Try.func150 amc hc.1 hc.2 (by decide) ((an7 N a).trans h)⟩
def afi : Nat → List V → Option (Bool × V) := fun f vs => match f, vs with
 | 150, [.int .u32 a] => some (true, .str (xM a))
 | _, _ => none
def kW : aO := (fw afi)
theorem aii : cB kW [] := (cC _ _)
theorem ajD (h_glyph_Put : ∀ (a : Int), aI Try.prog t7 [.int .u32 a] (.str (xM a))) : bw Try.prog kW := by
 intro f vs hp v hp' h0
 obtain ⟨h, he⟩ := de h0
 subst he
 unfold afi at h
 split at h
 ·simp only [Option.some.injEq, Prod.mk.injEq] at h
  obtain ⟨hc, rfl⟩ := h
  exact ((h_glyph_Put _).dim rfl).frame rfl rfl _
 ·simp at h
def z3 : IR := Sq (Rs [Mv 42 5, Mv 43 3, Bi 44 .lss 42 43] (Cn 44 .skip (.exit 1))) (Sq (.block 2 (Rg [Mv 47 2, Pp (.bin 48 .shl 47 (kU 6)), Mv 49 0, Mv 50 5, Pp (.idx 51 49 50), Pp (.bin 52 .and 51 (.c (.int .u8 63))), Pp (.cvi 53 .u32 52), Bi 54 .or 48 53, Mv 2 54])) (Rg [Mv 45 5, Bc 46 .add 45 1, Mv 5 46]))
def z4 : IR := Sq (Sq (.reg [Mv 55 2, Ca 56 150 [55], Mv 57 0, Mv 58 3, Pp (.subs 59 57 none (some 58)), Bi 60 .neq 56 59] [[], [0], [], [], [2, 3], rg 0 4]) (Cn 60 (Rs [Pp (.mov 2 (.c (.int .u32 0))), Mi 3 0] .ret) .skip)) (Rs [Mv 61 2, Mv 62 3, Mv 2 61, Mv 3 62] .ret)
def xO : IR := Rs [Pp (.mov 2 (.c (.int .u32 0))), Mi 3 0] (Rs [Mv 6 0, Pp (.idx 7 6 (kI 0)), Mv 4 7] (Sq (.block 0 (Rs [Mv 9 4, Pp (.bin 10 .lss 9 (.c (.int .u8 128))), Mv 8 10] (Cn 8 (Rs [Mv 11 4, Pp (.cvi 12 .u32 11), Mv 2 12, Mi 3 1] .ret) (Rs [Mv 14 4, Pp (.bin 15 .shr 14 (kU 5)), Pp (.bin 16 .eql 15 (.c (.int .u8 6))), Mv 13 16] (Cn 13 (Rg [Mv 17 4, Pp (.bin 18 .and 17 (.c (.int .u8 31))), Pp (.cvi 19 .u32 18), Mv 2 19, Mi 3 2]) (Rs [Mv 21 4, Pp (.bin 22 .shr 21 (kU 4)), Pp (.bin 23 .eql 22 (.c (.int .u8 14))), Mv 20 23] (Cn 20 (Rg [Mv 24 4, Pp (.bin 25 .and 24 (.c (.int .u8 15))), Pp (.cvi 26 .u32 25), Mv 2 26, Mi 3 3]) (Rs [Mv 28 4, Pp (.bin 29 .shr 28 (kU 3)), Pp (.bin 30 .eql 29 (.c (.int .u8 30))), Mv 27 30] (Cn 27 (Rg [Mv 31 4, Pp (.bin 32 .and 31 (.c (.int .u8 7))), Pp (.cvi 33 .u32 32), Mv 2 33, Mi 3 4]) .skip))))))))) (Sq (Rs [Mv 34 3, Bc 35 .eql 34 0, Mv 36 35, Gf 36 (.mov 37 3), Gf 36 (.mov 38 0), Gf 36 (.lens 39 38), Gf 36 (.bin 40 .gtr 37 39), Po 41 36 40] (Cn 41 (Rs [Pp (.mov 2 (.c (.int .u32 0))), Mi 3 0] .ret) .skip)) (Sq (Rs [Mi 5 1] (.block 1 (.loop [0, 2, 3, 5, 1000000] 0 z3))) z4))))
def tf : List RV := [.t 2, .t 3]
theorem akI : (bE Try.prog [] 0 xO (Try.f121.body.getD .skip) && dF Try.prog tf Try.f121.results.toList) = true := by kernel_rfl
theorem ajE : Try.f121.body = some (Try.f121.body.getD .skip) := by kernel_rfl
def akJ (R : IR → (Ex → St → Ro) → St → Ro) (a : St → Ro) : Ex → St → Ro := (bM a [0, 2, 3, 5, 1000000] 0 (aT 1 (bx (R z4) (fin tf))))
abbrev nc : Type := (Bs × Int × Int × Int)
def ma : nc → St := fun (a, b, c, d) => { env := (.str a :: .undef :: .int .u32 b :: .int .i64 c :: .undef :: .int .i64 d :: (U 57 [])), hp := [] }
def wh (N : Nat) : (St → Ro) → St → Ro := fun a s => run kW N z3 (akJ (run kW N) a) s
def dN (N : Nat) (a : nc → Ro) : nc → Ro := fun (c, e, b, d) =>
 cond (decide (d < b)) (
 chk ((decide (0 ≤ d) && decide (d < ↑(List.length c)))) (
 let f : Int := (↑(UInt8.toNat (List.getD c (Int.toNat d) 0)) : Int)
 let g : Int := (IntKind.wrap .u32 (cn .and .u8 f 63))
 let h : Int := (cn .or .u32 (iJ .u32 e 6) g)
 let i : Int := (IntKind.wrap .i64 (d + 1))
 a (c, h, b, i))) (
 chk ((decide (0 ≤ b) && decide (b ≤ (↑(List.length c) : Int)))) (
 let j : Bs := (List.drop 0 (List.take (Int.toNat b) c))
 let k : Bool := (!decide ((xM e) = j))
 cond k (
 some (.tup [.int .u32 0, .int .i64 0], [])) (
 some (.tup [.int .u32 e, .int .i64 b], []))))
theorem ajF (N : Nat) : ∀ (a : St → Ro) (x : nc), wh N a (ma x) = dN N (fun y => a (ma y)) x := by
 intro a x
 kernel_rfl
def oL (N : Nat) (a : Bs) (c : nc → Ro) : Ro :=
 chk (decide ((0 : Int) < ↑(List.length a))) (
 let b : Int := (↑(UInt8.toNat (List.getD a (Int.toNat 0) 0)) : Int)
 cond (decide (b < 128)) (
 some (.tup [.int .u32 (IntKind.wrap .u32 b), .int .i64 1], [])) (
 cond ((eS .u8 b 5) == 6) (
 let i : Int := (IntKind.wrap .u32 (cn .and .u8 b 31))
 cond (2 == 0) (
 some (.tup [.int .u32 0, .int .i64 0], [])) (
 let j : Int := (↑(List.length a) : Int)
 cond (decide (j < 2)) (
 some (.tup [.int .u32 0, .int .i64 0], [])) (
 c (a, i, 2, 1)))) (
 cond ((eS .u8 b 4) == 14) (
 let d : Int := (IntKind.wrap .u32 (cn .and .u8 b 15))
 cond (3 == 0) (
 some (.tup [.int .u32 0, .int .i64 0], [])) (
 let e : Int := (↑(List.length a) : Int)
 cond (decide (e < 3)) (
 some (.tup [.int .u32 0, .int .i64 0], [])) (
 c (a, d, 3, 1)))) (
 cond ((eS .u8 b 3) == 30) (
 let f : Int := (IntKind.wrap .u32 (cn .and .u8 b 7))
 cond (4 == 0) (
 some (.tup [.int .u32 0, .int .i64 0], [])) (
 let g : Int := (↑(List.length a) : Int)
 cond (decide (g < 4)) (
 some (.tup [.int .u32 0, .int .i64 0], [])) (
 c (a, f, 4, 1)))) (
 cond (0 == 0) (
 some (.tup [.int .u32 0, .int .i64 0], [])) (
 let h : Int := (↑(List.length a) : Int)
 cond (decide (h < 0)) (
 some (.tup [.int .u32 0, .int .i64 0], [])) (
 c (a, 0, 0, 1))))))))
def tg (N : Nat) (a : Bs) : Ro := oL N a (fun z => aS N (dN N) z)
def an8 (N : Nat) : List (Nat × (St → Ro)) := ba kW N xO (fin tf) ++ []
theorem akK (N : Nat) (a : Bs) : bc kW N 63 tf xO [.str a] [] = tg N a :=
 (bU (an8 N) (by kernel_rfl) rfl (fun C => oL N a (fun z => C 1000000 (ma z))) (fun C => by kernel_rfl)).trans (Eq.trans (b := oL N a (fun z => bo N (wh N) (ma z))) (by kernel_rfl) (congrArg (oL N a) (funext fun z => bj (ma) (wh N) (dN N) (ajF N) N z)))
theorem amd (hΓ : bw Try.prog kW) (N : Nat) (a : Bs) {v : V} {hp : List aL} (h : tg N a = some (v, hp)) : aI Try.prog zr [.str a] v := by
 have hc := akI
 simp only [Bool.and_eq_true] at hc
 exact ⟨hp, eI hΓ aii Try.func121 ajE hc.1 hc.2 (by decide) ((akK N a).trans h)⟩
def afj : Nat → List V → Option (Bool × V) := fun f vs => match f, vs with
 | 121, [.str a] => some ((!decide (a = [])), .tup [.int .u32 ((eg a).1), .int .i64 ((eg a).2)])
 | _, _ => none
def kX : aO := (fw afj)
theorem aij : cB kX [] := (cC _ _)
theorem ajG (h_glyph_point : ∀ (a : Bs), (!decide (a = [])) = true → aI Try.prog zr [.str a] (.tup [.int .u32 ((eg a).1), .int .i64 ((eg a).2)])) : bw Try.prog kX := by
 intro f vs hp v hp' h0
 obtain ⟨h, he⟩ := de h0
 subst he
 unfold afj at h
 split at h
 ·simp only [Option.some.injEq, Prod.mk.injEq] at h
  obtain ⟨hc, rfl⟩ := h
  exact ((h_glyph_point _ hc).dim rfl).frame rfl rfl _
 ·simp at h
def aaQ : IR := Sq (Rs [Mv 5 0, Pp (.bin 6 .neq 5 (kS []))] (Cn 6 .skip (.exit 0))) (.block 1 (Rs [Mv 8 0, Ca 9 121 [8], Mv 7 9, Ex_ 10 0 7, Ex_ 11 1 7, Mv 3 10, Mv 4 11] (Sq (Rs [Mv 12 4, Bc 13 .eql 12 0] (Cn 13 (Rs [Mb 2 false] .ret) .skip)) (Rg [Mv 14 0, Mv 15 4, Pp (.subs 16 14 (some 15) none), Mv 0 16]))))
def aaR : IR := Rs [Mb 2 true] .ret
def xP : IR := Rs [Mb 2 false] (Sq (.block 0 (.loop [0, 1000000] 0 aaQ)) aaR)
def th : List RV := [.t 2]
theorem akL : (bE Try.prog [] 0 xP (Try.f80.body.getD .skip) && dF Try.prog th Try.f80.results.toList) = true := by kernel_rfl
theorem ajH : Try.f80.body = some (Try.f80.body.getD .skip) := by kernel_rfl
def akM (R : IR → (Ex → St → Ro) → St → Ro) (a : St → Ro) : Ex → St → Ro := (bM a [0, 1000000] 0 (aT 0 (bx (R aaR) (fin th))))
abbrev nd : Type := (Bs)
def mb (x : nd) : St := { env := (.str x :: (U 16 [])), hp := [] }
def wi (N : Nat) : (St → Ro) → St → Ro := fun a s => run kX N aaQ (akM (run kX N) a) s
def ne (N : Nat) (a : nd → Ro) (x : nd) : Ro :=
 let b : Bs := x
 let c : Bool := (!decide (b = ([] : Bs)))
 cond c (
 chk ((!decide (b = []))) (
 cond (((eg b).2) == 0) (
 some (.bool false, [])) (
 chk ((decide (0 ≤ ((eg b).2)) && decide (((eg b).2) ≤ (↑(List.length b) : Int)))) (
 let d : Bs := (List.drop (Int.toNat ((eg b).2)) (List.take (List.length b) b))
 a (d))))) (
 some (.bool true, []))
theorem ajI (N : Nat) : ∀ (a : St → Ro) (x : nd), wi N a (mb x) = ne N (fun y => a (mb y)) x := by
 intro a x
 kernel_rfl
def ti (N : Nat) (a : Bs) (b : nd → Ro) : Ro :=
 b (a)
def xQ (N : Nat) (a : Bs) : Ro := ti N a (fun z => aS N (ne N) z)
def an9 (N : Nat) : List (Nat × (St → Ro)) := ba kX N xP (fin th) ++ []
theorem akN (N : Nat) (a : Bs) : bc kX N 17 th xP [.str a] [] = xQ N a :=
 (bU (an9 N) (by kernel_rfl) rfl (fun C => ti N a (fun z => C 1000000 (mb z))) (fun C => by kernel_rfl)).trans (Eq.trans (b := ti N a (fun z => bo N (wi N) (mb z))) (by kernel_rfl) (congrArg (ti N a) (funext fun z => bj (mb) (wi N) (ne N) (ajI N) N z)))
theorem ame (hΓ : bw Try.prog kX) (N : Nat) (a : Bs) {v : V} {hp : List aL} (h : xQ N a = some (v, hp)) : aI Try.prog uE [.str a] v := by
 have hc := akL
 simp only [Bool.and_eq_true] at hc
 exact ⟨hp, eI hΓ aij Try.func80 ajH hc.1 hc.2 (by decide) ((akN N a).trans h)⟩
def anO : Nat → List V → Option (Bool × V) := fun _ _ => none
def abV : aO := (fw anO)
theorem aoa : cB abV [] := (cC _ _)
theorem apS  : bw Try.prog abV := by
 intro f vs hp v hp' h
 obtain ⟨h, -⟩ := de h
 simp [anO] at h
def akO : IR := Rs [Bx 2 0, Mb 4 false] (Rs [Mv 5 1, Bc 6 .geq 5 0, Mv 7 6, Gt 7 (.mov 8 1), Gt 7 (.fad 9 0 2), Gt 7 (.lde 10 1 false 9), Gt 7 (.lenl 11 10), Gt 7 (.bin 12 .lss 8 11), Pa 13 7 12, Mv 4 13] .ret)
def akP : List RV := [.t 4]
theorem aq6 : (bE Try.prog [] 0 akO (Try.f49.body.getD .skip) && dF Try.prog akP Try.f49.results.toList) = true := by kernel_rfl
theorem apT : Try.f49.body = some (Try.f49.body.getD .skip) := by kernel_rfl
def akQ (N : Nat) (a : List aA) (b : Int)  : Ro :=
 cond (decide (0 ≤ b)) (
 let c : Int := (↑(List.length a) : Int)
 some (.bool (decide (b < c)), [])) (
 some (.bool false, []))
def aaz (N : Nat) (a : List aA) (b : Int) : Ro := akQ N a b
theorem aq7 (N : Nat) (a : List aA) (b : Int) : bc abV N 14 akP akO [.agg [.sl .atype (.may false) a], .int .i64 b] [] = aaz N a b := by kernel_rfl
theorem asj (hΓ : bw Try.prog abV) (N : Nat) (a : List aA) (b : Int) {v : V} {hp : List aL} (h : aaz N a b = some (v, hp)) : aI Try.prog agN [.agg [.sl .atype (.may false) a], .int .i64 b] v := by
 have hc := aq6
 simp only [Bool.and_eq_true] at hc
 exact ⟨hp, eI hΓ aoa Try.func49 apT hc.1 hc.2 (by decide) ((aq7 N a b).trans h)⟩
def aiU : Nat → List V → Option (Bool × V) := fun _ _ => none
def yx : aO := (fw aiU)
theorem akR : cB yx [] := (cC _ _)
theorem amf  : bw Try.prog yx := by
 intro f vs hp v hp' h
 obtain ⟨h, -⟩ := de h
 simp [aiU] at h
def agT : IR := Rs [Bx 1 0, Mb 2 false] (Rs [Fa 3 0 1, Lq 4 3, Pp (.bin 5 .eql 4 (kU 0)), Mv 6 5, Gt 6 (.fad 7 1 1), Gt 6 (.lde 8 1 false 7), Gt 6 (.bin 9 .eql 8 (kS [])), Pa 10 6 9, Mv 11 10, Gt 11 (.fad 12 2 1), Gt 11 (.lde 13 1 false 12), Gt 11 (.lenl 14 13), Gt 11 (.bin 15 .eql 14 (kI 0)), Pa 16 11 15, Mv 17 16, Gt 17 (.fad 18 3 1), Gt 17 (.lde 19 1 false 18), Gt 17 (.lenl 20 19), Gt 17 (.bin 21 .eql 20 (kI 0)), Pa 22 17 21, Mv 23 22, Gt 23 (.fad 24 4 1), Gt 23 (.lde 25 1 false 24), Gt 23 (.bin 26 .eql 25 (kI 0)), Pa 27 23 26, Mv 2 27] .ret)
def agU : List RV := [.t 2]
theorem aob : (bE Try.prog [] 0 agT (Try.f55.body.getD .skip) && dF Try.prog agU Try.f55.results.toList) = true := by kernel_rfl
theorem amg : Try.f55.body = some (Try.f55.body.getD .skip) := by kernel_rfl
def agV (N : Nat) (a : Int) (b : Bs) (c : List aB) (d : Bss) (e : Int)  : Ro :=
 cond (a == 0) (
 let f : Bool := decide (b = ([] : Bs))
 cond f (
 let g : Int := (↑(List.length c) : Int)
 cond (g == 0) (
 let h : Int := (↑(List.length d) : Int)
 cond (h == 0) (
 some (.bool (e == 0), [])) (
 some (.bool false, []))) (
 some (.bool false, []))) (
 some (.bool false, []))) (
 some (.bool false, []))
def wj (N : Nat) (a : Int) (b : Bs) (c : List aB) (d : Bss) (e : Int) : Ro := agV N a b c d e
theorem aoc (N : Nat) (a : Int) (b : Bs) (c : List aB) (d : Bss) (e : Int) : bc yx N 28 agU agT [.agg [.int .u64 a, .str b, .sl .aval (.may false) c, .sl .str (.may false) d, .int .i64 e]] [] = wj N a b c d e := by kernel_rfl
theorem apU (hΓ : bw Try.prog yx) (N : Nat) (a : Int) (b : Bs) (c : List aB) (d : Bss) (e : Int) {v : V} {hp : List aL} (h : wj N a b c d e = some (v, hp)) : aI Try.prog ach [.agg [.int .u64 a, .str b, .sl .aval (.may false) c, .sl .str (.may false) d, .int .i64 e]] v := by
 have hc := aob
 simp only [Bool.and_eq_true] at hc
 exact ⟨hp, eI hΓ akR Try.func55 amg hc.1 hc.2 (by decide) ((aoc N a b c d e).trans h)⟩
def afk : Nat → List V → Option (Bool × V) := fun _ _ => none
def uG : aO := (fw afk)
theorem aik : cB uG [] := (cC _ _)
theorem ajJ  : bw Try.prog uG := by
 intro f vs hp v hp' h
 obtain ⟨h, -⟩ := de h
 simp [afk] at h
def acX : IR := Rs [Bx 2 0, Mb 4 false] (Sq (Rs [Fa 5 0 2, Lq 6 5] (.block 0 (Rs [Bc 8 .eql 6 2, Mv 7 8] (Cn 7 (Rs [Mv 9 1, Pp (.bin 10 .leq 9 (kU 1)), Mv 4 10] .ret) (Rs [Bc 12 .eql 6 3, Mv 11 12] (Cn 11 (Rs [Mv 13 1, Mv 14 1, Pp (.cvi 15 .u32 14), Pp (.cvi 16 .i32 15), Pp (.cvi 17 .i64 16), Pp (.cvi 18 .u64 17), Bi 19 .eql 13 18, Mv 4 19] .ret) (Rs [Bc 21 .eql 6 5, Mv 20 21] (Cn 20 (Rs [Mv 22 1, Pp (.bin 23 .shr 22 (kU 32)), Pp (.bin 24 .eql 23 (kU 0)), Mv 4 24] .ret) (Rs [Bc 26 .eql 6 10, Mv 25 26] (Cn 25 (Rs [Mv 27 1, Fa 28 4 2, Lq 29 28, Ll 30 29, Pp (.cvi 31 .u64 30), Bi 32 .lss 27 31, Mv 4 32] .ret) .skip)))))))))) (Rs [Mb 4 true] .ret))
def acY : List RV := [.t 4]
theorem akS : (bE Try.prog [] 0 acX (Try.f50.body.getD .skip) && dF Try.prog acY Try.f50.results.toList) = true := by kernel_rfl
theorem ajK : Try.f50.body = some (Try.f50.body.getD .skip) := by kernel_rfl
def acZ (N : Nat) (a : Int) (d : Bs) (e : Bss) (f : Int) (b : Bss) (g : Bool) (h : Bs) (i : Int) (j : List aM) (k : List Int) (c : Int)  : Ro :=
 cond (a == 2) (
 some (.bool (decide (c ≤ 1)), [])) (
 cond (a == 3) (
 let l : Int := (IntKind.wrap .i32 (IntKind.wrap .u32 c))
 let m : Int := (IntKind.wrap .u64 (IntKind.wrap .i64 l))
 some (.bool (c == m), [])) (
 cond (a == 5) (
 some (.bool ((eS .u64 c 32) == 0), [])) (
 cond (a == 10) (
 let n : Int := (↑(List.length b) : Int)
 let o : Bool := decide (c < (IntKind.wrap .u64 n))
 some (.bool o, [])) (
 some (.bool true, [])))))
def tj (N : Nat) (a : Int) (b : Bs) (c : Bss) (d : Int) (e : Bss) (f : Bool) (g : Bs) (h : Int) (i : List aM) (j : List Int) (k : Int) : Ro := acZ N a b c d e f g h i j k
theorem akT (N : Nat) (a : Int) (b : Bs) (c : Bss) (d : Int) (e : Bss) (f : Bool) (g : Bs) (h : Int) (i : List aM) (j : List Int) (k : Int) : bc uG N 33 acY acX [.agg [.int .i64 a, .str b, .sl .str (.may false) c, .int .i64 d, .sl .str (.may false) e, .bool f, .str g, .int .i64 h, .sl .afield (.may false) i, .sl (.num .i64) (.may false) j], .int .u64 k] [] = tj N a b c d e f g h i j k := by kernel_rfl
theorem amh (hΓ : bw Try.prog uG) (N : Nat) (a : Int) (b : Bs) (c : Bss) (d : Int) (e : Bss) (f : Bool) (g : Bs) (i : Int) (j : List aM) (k : List Int) (l : Int) {v : V} {hp : List aL} (h : tj N a b c d e f g i j k l = some (v, hp)) : aI Try.prog zp [.agg [.int .i64 a, .str b, .sl .str (.may false) c, .int .i64 d, .sl .str (.may false) e, .bool f, .str g, .int .i64 i, .sl .afield (.may false) j, .sl (.num .i64) (.may false) k], .int .u64 l] v := by
 have hc := akS
 simp only [Bool.and_eq_true] at hc
 exact ⟨hp, eI hΓ aik Try.func50 ajK hc.1 hc.2 (by decide) ((akT N a b c d e f g i j k l).trans h)⟩
def aiV : Nat → List V → Option (Bool × V) := fun f vs => match f, vs with
 | 80, [.str a] => some (true, .bool (dj a))
 | _, _ => none
def yy : aO := (fw aiV)
theorem akU : cB yy [] := (cC _ _)
theorem ami (h_glyph_Valid : ∀ (a : Bs), aI Try.prog uE [.str a] (.bool (dj a))) : bw Try.prog yy := by
 intro f vs hp v hp' h0
 obtain ⟨h, he⟩ := de h0
 subst he
 unfold aiV at h
 split at h
 ·simp only [Option.some.injEq, Prod.mk.injEq] at h
  obtain ⟨hc, rfl⟩ := h
  exact ((h_glyph_Valid _).dim rfl).frame rfl rfl _
 ·simp at h
def agW : IR := Rs [Bx 2 0, Mb 4 false] (Sq (Rs [Fa 5 0 2, Lq 6 5] (.block 0 (Rs [Bc 8 .eql 6 8, Mv 7 8] (Cn 7 (Rs [Mv 9 1, Ca 10 80 [9], Mv 4 10] .ret) (Rs [Bc 12 .eql 6 11, Mv 11 12] (Cn 11 (Rs [Mv 13 1, Pp (.lens 14 13), Fa 15 7 2, Lq 16 15, Bi 17 .eql 14 16, Mv 4 17] .ret) .skip)))))) (Rs [Mb 4 true] .ret))
def agX : List RV := [.t 4]
theorem aod : (bE Try.prog [] 0 agW (Try.f51.body.getD .skip) && dF Try.prog agX Try.f51.results.toList) = true := by kernel_rfl
theorem amj : Try.f51.body = some (Try.f51.body.getD .skip) := by kernel_rfl
def agY (N : Nat) (a : Int) (c : Bs) (d : Bss) (e : Int) (f : Bss) (g : Bool) (h : Bs) (b : Int) (i : List aM) (j : List Int) (k : Bs)  : Ro :=
 cond (a == 8) (
 some (.bool (dj k), [])) (
 cond (a == 11) (
 let l : Int := (↑(List.length k) : Int)
 some (.bool (l == b), [])) (
 some (.bool true, [])))
def wl (N : Nat) (a : Int) (b : Bs) (c : Bss) (d : Int) (e : Bss) (f : Bool) (g : Bs) (h : Int) (i : List aM) (j : List Int) (k : Bs) : Ro := agY N a b c d e f g h i j k
theorem aoe (N : Nat) (a : Int) (b : Bs) (c : Bss) (d : Int) (e : Bss) (f : Bool) (g : Bs) (h : Int) (i : List aM) (j : List Int) (k : Bs) : bc yy N 18 agX agW [.agg [.int .i64 a, .str b, .sl .str (.may false) c, .int .i64 d, .sl .str (.may false) e, .bool f, .str g, .int .i64 h, .sl .afield (.may false) i, .sl (.num .i64) (.may false) j], .str k] [] = wl N a b c d e f g h i j k := by kernel_rfl
theorem apV (hΓ : bw Try.prog yy) (N : Nat) (a : Int) (b : Bs) (c : Bss) (d : Int) (e : Bss) (f : Bool) (g : Bs) (i : Int) (j : List aM) (k : List Int) (l : Bs) {v : V} {hp : List aL} (h : wl N a b c d e f g i j k l = some (v, hp)) : aI Try.prog ack [.agg [.int .i64 a, .str b, .sl .str (.may false) c, .int .i64 d, .sl .str (.may false) e, .bool f, .str g, .int .i64 i, .sl .afield (.may false) j, .sl (.num .i64) (.may false) k], .str l] v := by
 have hc := aod
 simp only [Bool.and_eq_true] at hc
 exact ⟨hp, eI hΓ akU Try.func51 amj hc.1 hc.2 (by decide) ((aoe N a b c d e f g i j k l).trans h)⟩
def aiW : Nat → List V → Option (Bool × V) := fun f vs => match f, vs with
 | 80, [.str a] => some (true, .bool (dj a))
 | _, _ => none
def nN : aO := (fw aiW)
theorem akV : cB nN [] := (cC _ _)
theorem amk (h_glyph_Valid : ∀ (a : Bs), aI Try.prog uE [.str a] (.bool (dj a))) : bw Try.prog nN := by
 intro f vs hp v hp' h0
 obtain ⟨h, he⟩ := de h0
 subst he
 unfold aiW at h
 split at h
 ·simp only [Option.some.injEq, Prod.mk.injEq] at h
  obtain ⟨hc, rfl⟩ := h
  exact ((h_glyph_Valid _).dim rfl).frame rfl rfl _
 ·simp at h
def ac0 : IR := Rs [Bi 8 .lss 7 6] (Sq (Cn 8 .skip (.exit 0)) (Sq (.block 1 (Rs [Mv 9 7, Ix 10 .str 5 7, Lq 11 10, Mv 3 9, Mv 4 11] (Rs [Mv 12 4, Ca 13 80 [12], Un 14 13, Mv 15 14, Gf 15 (.mov 16 3), Gf 15 (.bin 17 .gtr 16 (kI 0)), Gf 15 (.mov 18 17), Gt 18 (.mov 19 0), Gt 18 (.mov 20 3), Gt 18 (.bin 21 .sub 20 (kI 1)), Gt 18 (.ixa 22 .str 19 21), Gt 18 (.lde 23 1 false 22), Gt 18 (.mov 24 4), Gt 18 (.bin 25 .geq 23 24), Gf 15 (.pick 26 18 25 (kB false)), Po 27 15 26] (Cn 27 (Rs [Mb 2 false] .ret) .skip)))) (Rg [Bc 28 .add 7 1, Mv 7 28])))
def ac1 : IR := Rs [Mb 2 true] .ret
def aaS : IR := Rs [Mb 2 false] (Sq (Rs [Mv 5 0, Ll 6 5, Mi 7 0] (.block 0 (.loop [0, 5, 6, 7, 1000000] 0 ac0))) ac1)
def wm : List RV := [.t 2]
theorem aof : (bE Try.prog [] 0 aaS (Try.f53.body.getD .skip) && dF Try.prog wm Try.f53.results.toList) = true := by kernel_rfl
theorem aml : Try.f53.body = some (Try.f53.body.getD .skip) := by kernel_rfl
def aog (R : IR → (Ex → St → Ro) → St → Ro) (a : St → Ro) : Ex → St → Ro := (bM a [0, 5, 6, 7, 1000000] 0 (aT 0 (bx (R ac1) (fin wm))))
abbrev qw : Type := (Bss × Bss × Int × Int)
def oM : qw → St := fun (a, b, c, d) => { env := (.sl .str (.may false) a :: (U 4 (.sl .str (.may false) b :: .int .i64 c :: .int .i64 d :: (U 21 [])))), hp := [] }
def zt (N : Nat) : (St → Ro) → St → Ro := fun a s => run nN N ac0 (aog (run nN N) a) s
def qz (N : Nat) (a : qw → Ro) : qw → Ro := fun (c, d, e, b) =>
 cond (decide (b < e)) (
 chk ((decide (0 ≤ b) && decide (b < ↑(List.length d)))) (
 let g : Bs := List.getD d (Int.toNat b) (aC .str)
 cond (!(dj g)) (
 some (.bool false, [])) (
 cond (decide (0 < b)) (
 let f : Int := (IntKind.wrap .i64 (b - 1))
 chk ((decide (0 ≤ f) && decide (f < ↑(List.length c)))) (
 let h : Bs := List.getD c (Int.toNat f) (aC .str)
 cond (!Op.bytesLess h g) (
 some (.bool false, [])) (
 let i : Int := (IntKind.wrap .i64 (b + 1))
 a (c, d, e, i)))) (
 let j : Int := (IntKind.wrap .i64 (b + 1))
 a (c, d, e, j))))) (
 some (.bool true, []))
theorem amm (N : Nat) : ∀ (a : St → Ro) (x : qw), zt N a (oM x) = qz N (fun y => a (oM y)) x := by
 intro a x
 kernel_rfl
def wo (N : Nat) (a : Bss) (b : qw → Ro) : Ro :=
 let c : Int := (↑(List.length a) : Int)
 b (a, a, c, 0)
def aaT (N : Nat) (a : Bss) : Ro := wo N a (fun z => aS N (qz N) z)
def aq8 (N : Nat) : List (Nat × (St → Ro)) := ba nN N aaS (fin wm) ++ []
theorem aoh (N : Nat) (a : Bss) : bc nN N 29 wm aaS [.sl .str (.may false) a] [] = aaT N a :=
 (bU (aq8 N) (by kernel_rfl) rfl (fun C => wo N a (fun z => C 1000000 (oM z))) (fun C => by kernel_rfl)).trans (Eq.trans (b := wo N a (fun z => bo N (zt N) (oM z))) (by kernel_rfl) (congrArg (wo N a) (funext fun z => bj (oM) (zt N) (qz N) (amm N) N z)))
theorem apW (hΓ : bw Try.prog nN) (N : Nat) (a : Bss) {v : V} {hp : List aL} (h : aaT N a = some (v, hp)) : aI Try.prog acj [.sl .str (.may false) a] v := by
 have hc := aof
 simp only [Bool.and_eq_true] at hc
 exact ⟨hp, eI hΓ akV Try.func53 aml hc.1 hc.2 (by decide) ((aoh N a).trans h)⟩
def aiX (N : Nat) : Nat → List V → Option (Bool × V) := fun f vs => match f, vs with
 | 81, [.sl .aval (.may _) c, .fn 82 [.ea [.sl .atype (.may false) a], .ea [.int .i64 b]]] => some (decide (1000000 ≤ N - szL c), .bool (!bO a b c))
 | _, _ => none
def yz (N : Nat) : aO := (fw (aiX N))
theorem akW (N : Nat) : cB (yz N) [] := (cC _ _)
theorem amn (N : Nat) (h_slices_ContainsFunc_api_AVal_api_AVal_aval_each_c1 : ∀ (c : List aB) (a : List aA) (b : Int), (decide (1000000 ≤ N - szL c)) = true → aI Try.prog cF [.sl .aval (.may false) c, .fn 82 [.ea [.sl .atype (.may false) a], .ea [.int .i64 b]]] (.bool (!bO a b c))) : bw Try.prog (yz N) := by
 intro f vs hp v hp' h0
 obtain ⟨h, he⟩ := de h0
 subst he
 unfold aiX at h
 split at h
 ·simp only [Option.some.injEq, Prod.mk.injEq] at h
  obtain ⟨hc, rfl⟩ := h
  exact ((h_slices_ContainsFunc_api_AVal_api_AVal_aval_each_c1 _ _ _ hc).dim rfl).frame rfl rfl _
 ·simp at h
def agZ : IR := Rs [Bx 3 0, Bx 4 1, Mb 6 false] (Rs [Mv 7 2, Pp (.mkf 8 82 [.t 3, .t 4]), Ca 9 81 [7, 8], Un 10 9, Mv 6 10] .ret)
def ag0 : List RV := [.t 6]
theorem aoi : (bE Try.prog [] 0 agZ (Try.f52.body.getD .skip) && dF Try.prog ag0 Try.f52.results.toList) = true := by kernel_rfl
theorem amo : Try.f52.body = some (Try.f52.body.getD .skip) := by kernel_rfl
def ag1 (N : Nat) (a : List aA) (c : Int) (b : List aB)  : Ro :=
 chk (decide (1000000 ≤ N - szL b)) (
 some (.bool (!(!bO a c b)), []))
def wq (N : Nat) (a : List aA) (b : Int) (c : List aB) : Ro := ag1 N a b c
theorem aoj (N : Nat) (a : List aA) (b : Int) (c : List aB) : bc (yz N) N 11 ag0 agZ [.agg [.sl .atype (.may false) a], .int .i64 b, .sl .aval (.may false) c] [] = wq N a b c := by kernel_rfl
theorem apX (N : Nat) (hΓ : bw Try.prog (yz N)) (a : List aA) (b : Int) (c : List aB) {v : V} {hp : List aL} (h : wq N a b c = some (v, hp)) : aI Try.prog aci [.agg [.sl .atype (.may false) a], .int .i64 b, .sl .aval (.may false) c] v := by
 have hc := aoi
 simp only [Bool.and_eq_true] at hc
 exact ⟨hp, eI hΓ (akW N) Try.func52 amo hc.1 hc.2 (by decide) ((aoj N a b c).trans h)⟩
def afl (N : Nat) : Nat → List V → Option (Bool × V) := fun f vs => match f, vs with
 | 21, [.agg [.sl .atype (.may _) b], .int .i64 h, .agg [.int .u64 c, .str d, .sl .aval (.may _) a, .sl .str (.may _) e, .int .i64 g]] => some (decide (1000000 ≤ N - (szL a + 1)), .bool (bu b h (.mk c d a e g)))
 | _, _ => none
def kY (N : Nat) : aO := (fw (afl N))
theorem ail (N : Nat) : cB (kY N) [] := (cC _ _)
theorem ajL (N : Nat) (h_aval_Fits : ∀ (b : List aA) (i : Int) (c : Int) (d : Bs) (a : List aB) (e : Bss) (g : Int), (decide (1000000 ≤ N - (szL a + 1))) = true → aI Try.prog nM [.agg [.sl .atype (.may false) b], .int .i64 i, .agg [.int .u64 c, .str d, .sl .aval (.may false) a, .sl .str (.may false) e, .int .i64 g]] (.bool (bu b i (.mk c d a e g)))) : bw Try.prog (kY N) := by
 intro f vs hp v hp' h0
 obtain ⟨h, he⟩ := de h0
 subst he
 unfold afl at h
 split at h
 ·simp only [Option.some.injEq, Prod.mk.injEq] at h
  obtain ⟨hc, rfl⟩ := h
  exact ((h_aval_Fits _ _ _ _ _ _ _ hc).dim rfl).frame rfl rfl _
 ·simp at h
def aaU : IR := Rs [Bi 19 .lss 18 17] (Sq (Cn 19 .skip (.exit 0)) (Sq (.block 1 (Rs [Mv 20 18, Ix 21 .afield 16 18, Ld 22 9 true 21, Pp (.alr 8 9), Mv 7 20, Fz 8 9 22] (Sq (.reg [Ld 23 1 true 3, Fa 24 2 8, Lq 25 24, Mv 26 2, Mv 27 7, Ix 28 .aval 26 27, Ld 29 5 true 28, Ca 30 21 [23, 25, 29], Un 31 30] [[], [], [1], [], [], [3, 4], [3, 4, 5], rg 0 6, rg 0 7]) (Cn 31 (Rs [Mb 6 false] .ret) .skip)))) (Rg [Bc 32 .add 18 1, Mv 18 32])))
def z5 : IR := Rs [Mb 6 true] .ret
def xR : IR := Rs [Bx 3 0, Bx 4 1, Mb 6 false] (Sq (Rs [Mv 9 2, Ll 10 9, Fa 11 8 4, Lq 12 11, Ll 13 12, Bi 14 .neq 10 13] (Cn 14 (Rs [Mb 6 false] .ret) .skip)) (Sq (Rs [Fa 15 8 4, Lq 16 15, Ll 17 16, Mi 18 0] (.block 0 (.loop [2, 3, 16, 17, 18, 1000000] 0 aaU))) z5))
def tl : List RV := [.t 6]
theorem akX : (bE Try.prog [] 0 xR (Try.f54.body.getD .skip) && dF Try.prog tl Try.f54.results.toList) = true := by kernel_rfl
theorem ajM : Try.f54.body = some (Try.f54.body.getD .skip) := by kernel_rfl
def akY (R : IR → (Ex → St → Ro) → St → Ro) (a : St → Ro) : Ex → St → Ro := (bM a [2, 3, 16, 17, 18, 1000000] 0 (aT 0 (bx (R z5) (fin tl))))
abbrev ng : Type := (List aB × List aA × List aM × Int × Int)
def mc : ng → St := fun (a, b, c, d, e) => { env := (.undef :: .undef :: .sl .aval (.may false) a :: .ea [.sl .atype (.may false) b] :: (U 12 (.sl .afield (.may false) c :: .int .i64 d :: .int .i64 e :: (U 14 [])))), hp := [] }
def ws (N : Nat) : (St → Ro) → St → Ro := fun a s => run (kY N) N aaU (akY (run (kY N) N) a) s
def rE (N : Nat) (b : ng → Ro) : ng → Ro := fun (d, c, e, f, a) =>
 cond (decide (a < f)) (
 chk ((decide (0 ≤ a) && decide (a < ↑(List.length e)))) (
 let p : Int := (List.getD e (Int.toNat a) (aC .afield)).typ
 chk ((decide (0 ≤ a) && decide (a < ↑(List.length d)))) (
 let h : Int := (List.getD d (Int.toNat a) (aC .aval)).n
 let i : Bs := (List.getD d (Int.toNat a) (aC .aval)).s
 let g : List aB := (List.getD d (Int.toNat a) (aC .aval)).l
 let j : Bss := (List.getD d (Int.toNat a) (aC .aval)).keys
 let k : Int := (List.getD d (Int.toNat a) (aC .aval)).branch
 chk (decide (1000000 ≤ N - (szL g + 1))) (
 let m : Bool := (bu c p (.mk h i g j k))
 cond (!m) (
 some (.bool false, [])) (
 let o : Int := (IntKind.wrap .i64 (a + 1))
 b (d, c, e, f, o)))))) (
 some (.bool true, []))
theorem ajN (N : Nat) : ∀ (a : St → Ro) (x : ng), ws N a (mc x) = rE N (fun y => a (mc y)) x := by
 intro a x
 kernel_rfl
def oN (N : Nat) (b : List aA) (c : Int) (d : Bs) (e : Bss) (f : Int) (g : Bss) (h : Bool) (i : Bs) (j : Int) (a : List aM) (k : List Int) (l : List aB) (m : ng → Ro) : Ro :=
 let n : Int := (↑(List.length l) : Int)
 let o : Int := (↑(List.length a) : Int)
 cond (!(n == o)) (
 some (.bool false, [])) (
 let p : Int := (↑(List.length a) : Int)
 m (l, b, a, p, 0))
def tm (N : Nat) (a : List aA) (b : Int) (c : Bs) (d : Bss) (e : Int) (f : Bss) (g : Bool) (h : Bs) (i : Int) (j : List aM) (k : List Int) (l : List aB) : Ro := oN N a b c d e f g h i j k l (fun z => aS N (rE N) z)
def aok (N : Nat) : List (Nat × (St → Ro)) := ba (kY N) N xR (fin tl) ++ []
theorem akZ (N : Nat) (a : List aA) (c : Int) (d : Bs) (e : Bss) (f : Int) (g : Bss) (h : Bool) (i : Bs) (j : Int) (k : List aM) (l : List Int) (m : List aB) : bc (kY N) N 33 tl xR [.agg [.sl .atype (.may false) a], .agg [.int .i64 c, .str d, .sl .str (.may false) e, .int .i64 f, .sl .str (.may false) g, .bool h, .str i, .int .i64 j, .sl .afield (.may false) k, .sl (.num .i64) (.may false) l], .sl .aval (.may false) m] [] = tm N a c d e f g h i j k l m :=
 (bU (aok N) (by kernel_rfl) rfl (fun C => oN N a c d e f g h i j k l m (fun z => C 1000000 (mc z))) (fun C => by kernel_rfl)).trans (Eq.trans (b := oN N a c d e f g h i j k l m (fun z => bo N (ws N) (mc z))) (by kernel_rfl) (congrArg (oN N a c d e f g h i j k l m) (funext fun z => bj (mc) (ws N) (rE N) (ajN N) N z)))
theorem amp (N : Nat) (hΓ : bw Try.prog (kY N)) (a : List aA) (b : Int) (c : Bs) (d : Bss) (e : Int) (f : Bss) (g : Bool) (i : Bs) (j : Int) (k : List aM) (l : List Int) (m : List aB) {v : V} {hp : List aL} (h : tm N a b c d e f g i j k l m = some (v, hp)) : aI Try.prog zq [.agg [.sl .atype (.may false) a], .agg [.int .i64 b, .str c, .sl .str (.may false) d, .int .i64 e, .sl .str (.may false) f, .bool g, .str i, .int .i64 j, .sl .afield (.may false) k, .sl (.num .i64) (.may false) l], .sl .aval (.may false) m] v := by
 have hc := akX
 simp only [Bool.and_eq_true] at hc
 exact ⟨hp, eI hΓ (ail N) Try.func54 ajM hc.1 hc.2 (by decide) ((akZ N a b c d e f g i j k l m).trans h)⟩
def ac2 (N : Nat) : Nat → List V → Option (Bool × V) := fun f vs => match f, vs with
 | 21, [.agg [.sl .atype (.may _) b], .int .i64 h, .agg [.int .u64 c, .str d, .sl .aval (.may _) a, .sl .str (.may _) e, .int .i64 g]] => some (decide (1000000 ≤ N - (szL a + 1)), .bool (bu b h (.mk c d a e g)))
 | _, _ => none
def tn (N : Nat) : aO := (fw (ac2 N))
theorem ag2 (N : Nat) : cB (tn N) [] := (cC _ _)
theorem aim (N : Nat) (h_aval_Fits : ∀ (b : List aA) (i : Int) (c : Int) (d : Bs) (a : List aB) (e : Bss) (g : Int), (decide (1000000 ≤ N - (szL a + 1))) = true → aI Try.prog nM [.agg [.sl .atype (.may false) b], .int .i64 i, .agg [.int .u64 c, .str d, .sl .aval (.may false) a, .sl .str (.may false) e, .int .i64 g]] (.bool (bu b i (.mk c d a e g)))) : bw Try.prog (tn N) := by
 intro f vs hp v hp' h0
 obtain ⟨h, he⟩ := de h0
 subst he
 unfold ac2 at h
 split at h
 ·simp only [Option.some.injEq, Prod.mk.injEq] at h
  obtain ⟨hc, rfl⟩ := h
  exact ((h_aval_Fits _ _ _ _ _ _ _ hc).dim rfl).frame rfl rfl _
 ·simp at h
def abW : IR := Rs [Bx 3 0, Mb 4 false] (Rs [Ld 5 1 true 1, Lq 6 2, Ld 7 5 true 3, Ca 8 21 [5, 6, 7], Un 9 8, Mv 4 9] .ret)
def abX : List RV := [.t 4]
theorem ajO : (bE Try.prog [] 0 abW (Try.f82.body.getD .skip) && dF Try.prog abX Try.f82.results.toList) = true := by kernel_rfl
theorem ain : Try.f82.body = some (Try.f82.body.getD .skip) := by kernel_rfl
def abY (N : Nat) (b : Int) (c : Bs) (a : List aB) (d : Bss) (e : Int) (pc0_0 : List aA) (pc1_0 : Int)  : Ro :=
 chk (decide (1000000 ≤ N - (szL a + 1))) (
 let f : Bool := (bu pc0_0 pc1_0 (.mk b c a d e))
 some (.bool (!f), []))
def rF (N : Nat) (a : Int) (b : Bs) (c : List aB) (d : Bss) (e : Int) (pc0_0 : List aA) (pc1_0 : Int) : Ro := abY N a b c d e pc0_0 pc1_0
theorem ajP (N : Nat) (a : Int) (b : Bs) (c : List aB) (d : Bss) (e : Int) (pc0_0 : List aA) (pc1_0 : Int) : bc (tn N) N 10 abX abW [.agg [.int .u64 a, .str b, .sl .aval (.may false) c, .sl .str (.may false) d, .int .i64 e], .ea [.sl .atype (.may false) pc0_0], .ea [.int .i64 pc1_0]] [] = rF N a b c d e pc0_0 pc1_0 := by kernel_rfl
theorem ak0 (N : Nat) (hΓ : bw Try.prog (tn N)) (a : Int) (b : Bs) (c : List aB) (d : Bss) (e : Int) (pc0_0 : List aA) (pc1_0 : Int) {v : V} {hp : List aL} (h : rF N a b c d e pc0_0 pc1_0 = some (v, hp)) : aI Try.prog oK [.agg [.int .u64 a, .str b, .sl .aval (.may false) c, .sl .str (.may false) d, .int .i64 e], .ea [.sl .atype (.may false) pc0_0], .ea [.int .i64 pc1_0]] v := by
 have hc := ajO
 simp only [Bool.and_eq_true] at hc
 exact ⟨hp, eI hΓ (ag2 N) Try.func82 ain hc.1 hc.2 (by decide) ((ajP N a b c d e pc0_0 pc1_0).trans h)⟩
def eh (N : Nat) : Nat → List V → Option (Bool × V) := fun f vs => match f, vs with
 | 122, [.sl .aval (.may _) c, .fn 82 [.ea [.sl .atype (.may false) a], .ea [.int .i64 b]]] => some (decide (1000000 ≤ N - szL c), .int .i64 (xN a b c 0))
 | _, _ => none
def bZ (N : Nat) : aO := (fw (eh N))
theorem jA (N : Nat) : cB (bZ N) [] := (cC _ _)
theorem jM (N : Nat) (h_slices_IndexFunc_api_AVal_api_AVal_aval_each_c1 : ∀ (c : List aB) (a : List aA) (b : Int), (decide (1000000 ≤ N - szL c)) = true → aI Try.prog cV [.sl .aval (.may false) c, .fn 82 [.ea [.sl .atype (.may false) a], .ea [.int .i64 b]]] (.int .i64 (xN a b c 0))) : bw Try.prog (bZ N) := by
 intro f vs hp v hp' h0
 obtain ⟨h, he⟩ := de h0
 subst he
 unfold eh at h
 split at h
 ·simp only [Option.some.injEq, Prod.mk.injEq] at h
  obtain ⟨hc, rfl⟩ := h
  exact ((h_slices_IndexFunc_api_AVal_api_AVal_aval_each_c1 _ _ _ hc).dim rfl).frame rfl rfl _
 ·simp at h
def eb : IR := Rs [Mb 4 false] (Rs [Mv 5 0, Mv 6 1, Ca 7 122 [5, 6], Bc 8 .geq 7 0, Mv 4 8] .ret)
def ee : List RV := [.t 4]
theorem km : (bE Try.prog [] 0 eb (Try.f81.body.getD .skip) && dF Try.prog ee Try.f81.results.toList) = true := by kernel_rfl
theorem jN : Try.f81.body = some (Try.f81.body.getD .skip) := by kernel_rfl
def ef (N : Nat) (c : List aB) (a : List aA) (b : Int)  : Ro :=
 chk (decide (1000000 ≤ N - szL c)) (
 let d : Int := (xN a b c 0)
 some (.bool (decide (0 ≤ d)), []))
def bX (N : Nat) (c : List aB) (a : List aA) (b : Int) : Ro := ef N c a b
theorem kn (N : Nat) (c : List aB) (a : List aA) (b : Int) : bc (bZ N) N 9 ee eb [.sl .aval (.may false) c, .fn 82 [.ea [.sl .atype (.may false) a], .ea [.int .i64 b]]] [] = bX N c a b := by kernel_rfl
theorem kv (N : Nat) (hΓ : bw Try.prog (bZ N)) (c : List aB) (a : List aA) (b : Int) {v : V} {hp : List aL} (h : bX N c a b = some (v, hp)) : aI Try.prog cF [.sl .aval (.may false) c, .fn 82 [.ea [.sl .atype (.may false) a], .ea [.int .i64 b]]] v := by
 have hc := km
 simp only [Bool.and_eq_true] at hc
 exact ⟨hp, eI hΓ (jA N) Try.func81 jN hc.1 hc.2 (by decide) ((kn N c a b).trans h)⟩
def eJ (N : Nat) : Nat → List V → Option (Bool × V) := fun f vs => match f, vs with
 | 82, [.agg [.int .u64 b, .str c, .sl .aval (.may _) a, .sl .str (.may _) d, .int .i64 e], .ea [.sl .atype (.may false) ac0_0], .ea [.int .i64 ac1_0]] => some (decide (1000000 ≤ N - (szL a + 1)), .bool (!bu ac0_0 ac1_0 (.mk b c a d e)))
 | _, _ => none
def bk (N : Nat) : aO := (fw (eJ N))
theorem kw (N : Nat) : cB (bk N) [] := (cC _ _)
theorem kZ (N : Nat) (h_aval_each_c1 : ∀ (b : Int) (c : Bs) (a : List aB) (d : Bss) (e : Int) (ac0_0 : List aA) (ac1_0 : Int), (decide (1000000 ≤ N - (szL a + 1))) = true → aI Try.prog oK [.agg [.int .u64 b, .str c, .sl .aval (.may false) a, .sl .str (.may false) d, .int .i64 e], .ea [.sl .atype (.may false) ac0_0], .ea [.int .i64 ac1_0]] (.bool (!bu ac0_0 ac1_0 (.mk b c a d e)))) : bw Try.prog (bk N) := by
 intro f vs hp v hp' h0
 obtain ⟨h, he⟩ := de h0
 subst he
 unfold eJ at h
 split at h
 ·simp only [Option.some.injEq, Prod.mk.injEq] at h
  obtain ⟨hc, rfl⟩ := h
  exact ((h_aval_each_c1 _ _ _ _ _ _ _ hc).dim rfl).frame rfl rfl _
 ·simp at h
def el : IR := Rs [Bi 9 .lss 8 7] (Sq (Cn 9 .skip (.exit 0)) (Sq (.block 1 (Rs [Mv 10 8, Mv 5 10] (Rs [Mv 11 1, Mv 12 0, Mv 13 5, Ix 14 .aval 12 13, Ld 15 5 true 14, Pp (.dcall (some 16) 82 (.t 11) [.t 15])] (Cn 16 (Rs [Mv 17 5, Mv 4 17] .ret) .skip)))) (Rg [Bc 18 .add 8 1, Mv 8 18])))
def en : IR := Rs [Mi 4 (-1)] .ret
def cO : IR := Rs [Mi 4 0] (Sq (Rs [Mv 6 0, Ll 7 6, Mi 8 0] (.block 0 (.loop [0, 1, 7, 8, 1000000] 0 el))) en)
def cg : List RV := [.t 4]
theorem lg : (bE Try.prog [] 0 cO (Try.f122.body.getD .skip) && dF Try.prog cg Try.f122.results.toList) = true := by kernel_rfl
theorem la : Try.f122.body = some (Try.f122.body.getD .skip) := by kernel_rfl
def lh (R : IR → (Ex → St → Ro) → St → Ro) (a : St → Ro) : Ex → St → Ro := (bM a [0, 1, 7, 8, 1000000] 0 (aT 0 (bx (R en) (fin cg))))
abbrev bK : Type := (List aB × List aA × Int × Int × Int)
def bH : bK → St := fun (a, b, c, d, e) => { env := (.sl .aval (.may false) a :: .fn 82 [.ea [.sl .atype (.may false) b], .ea [.int .i64 c]] :: (U 5 (.int .i64 d :: .int .i64 e :: (U 10 [])))), hp := [] }
def cK (N : Nat) : (St → Ro) → St → Ro := fun a s => run (bk N) N el (lh (run (bk N) N) a) s
def bL (N : Nat) (d : bK → Ro) : bK → Ro := fun (e, a, b, f, c) =>
 cond (decide (c < f)) (
 chk ((decide (0 ≤ c) && decide (c < ↑(List.length e)))) (
 let h : Int := (List.getD e (Int.toNat c) (aC .aval)).n
 let i : Bs := (List.getD e (Int.toNat c) (aC .aval)).s
 let g : List aB := (List.getD e (Int.toNat c) (aC .aval)).l
 let j : Bss := (List.getD e (Int.toNat c) (aC .aval)).keys
 let k : Int := (List.getD e (Int.toNat c) (aC .aval)).branch
 chk (decide (1000000 ≤ N - (szL g + 1))) (
 let m : Bool := (!bu a b (.mk h i g j k))
 cond m (
 some (.int .i64 c, [])) (
 let o : Int := (IntKind.wrap .i64 (c + 1))
 d (e, a, b, f, o))))) (
 some (.int .i64 (-1), []))
theorem lb (N : Nat) : ∀ (a : St → Ro) (x : bK), cK N a (bH x) = bL N (fun y => a (bH y)) x := by
 intro a x
 kernel_rfl
def ch (N : Nat) (c : List aB) (a : List aA) (b : Int) (d : bK → Ro) : Ro :=
 let e : Int := (↑(List.length c) : Int)
 d (c, a, b, e, 0)
def cP (N : Nat) (c : List aB) (a : List aA) (b : Int) : Ro := ch N c a b (fun z => aS N (bL N) z)
def lW (N : Nat) : List (Nat × (St → Ro)) := ba (bk N) N cO (fin cg) ++ []
theorem li (N : Nat) (d : List aB) (a : List aA) (c : Int) : bc (bk N) N 19 cg cO [.sl .aval (.may false) d, .fn 82 [.ea [.sl .atype (.may false) a], .ea [.int .i64 c]]] [] = cP N d a c :=
 (bU (lW N) (by kernel_rfl) rfl (fun C => ch N d a c (fun z => C 1000000 (bH z))) (fun C => by kernel_rfl)).trans (Eq.trans (b := ch N d a c (fun z => bo N (cK N) (bH z))) (by kernel_rfl) (congrArg (ch N d a c) (funext fun z => bj (bH) (cK N) (bL N) (lb N) N z)))
theorem lB (N : Nat) (hΓ : bw Try.prog (bk N)) (c : List aB) (a : List aA) (b : Int) {v : V} {hp : List aL} (h : cP N c a b = some (v, hp)) : aI Try.prog cV [.sl .aval (.may false) c, .fn 82 [.ea [.sl .atype (.may false) a], .ea [.int .i64 b]]] v := by
 have hc := lg
 simp only [Bool.and_eq_true] at hc
 exact ⟨hp, eI hΓ (kw N) Try.func122 la hc.1 hc.2 (by decide) ((li N c a b).trans h)⟩
def oO : Nat → List V → Option (Bool × V) := fun _ _ => none
def cq : aO := (fw oO)
theorem vi : cB cq [] := (cC _ _)
theorem vP  : bw Try.prog cq := by
 intro f vs hp v hp' h
 obtain ⟨h, -⟩ := de h
 simp [oO] at h
def mO : IR := Rs [Bi 14 .lss 13 12] (Sq (Cn 14 .skip (.exit 0)) (Sq (.block 1 (Rs [Mv 15 13, Mv 5 15] (Sq (.reg [Mv 16 0, Mv 17 5, Ix 18 .str 16 17, Lq 19 18, Mv 20 1, Mv 21 5, Ix 22 .str 20 21, Lq 23 22, Bi 24 .neq 19 23] [[], [], [0, 1], [0, 1, 2], [], [], [4, 5], [4, 5, 6], rg 0 7]) (Cn 24 (Rs [Mb 4 false] .ret) .skip)))) (Rg [Bc 25 .add 13 1, Mv 13 25])))
def md : IR := Rs [Mb 4 true] .ret
def iK : IR := Rs [Mb 4 false] (Sq (Rs [Mv 6 0, Ll 7 6, Mv 8 1, Ll 9 8, Bi 10 .neq 7 9] (Cn 10 (Rs [Mb 4 false] .ret) .skip)) (Sq (Rs [Mv 11 0, Ll 12 11, Mi 13 0] (.block 0 (.loop [0, 1, 12, 13, 1000000] 0 mO))) md))
def eQ : List RV := [.t 4]
theorem wt : (bE Try.prog [] 0 iK (Try.f56.body.getD .skip) && dF Try.prog eQ Try.f56.results.toList) = true := by kernel_rfl
theorem vQ : Try.f56.body = some (Try.f56.body.getD .skip) := by kernel_rfl
def wu (R : IR → (Ex → St → Ro) → St → Ro) (a : St → Ro) : Ex → St → Ro := (bM a [0, 1, 12, 13, 1000000] 0 (aT 0 (bx (R md) (fin eQ))))
abbrev dr : Type := (Bss × Bss × Int × Int)
def dk : dr → St := fun (a, b, c, d) => { env := (.sl .str (.may false) a :: .sl .str (.may false) b :: (U 10 (.int .i64 c :: .int .i64 d :: (U 12 [])))), hp := [] }
def gR (N : Nat) : (St → Ro) → St → Ro := fun a s => run cq N mO (wu (run cq N) a) s
def eG (N : Nat) (b : dr → Ro) : dr → Ro := fun (d, e, c, a) =>
 cond (decide (a < c)) (
 chk ((decide (0 ≤ a) && decide (a < ↑(List.length d)))) (
 let f : Bs := List.getD d (Int.toNat a) (aC .str)
 chk ((decide (0 ≤ a) && decide (a < ↑(List.length e)))) (
 let g : Bs := List.getD e (Int.toNat a) (aC .str)
 cond (!decide (f = g)) (
 some (.bool false, [])) (
 let h : Int := (IntKind.wrap .i64 (a + 1))
 b (d, e, c, h))))) (
 some (.bool true, []))
theorem vR (N : Nat) : ∀ (a : St → Ro) (x : dr), gR N a (dk x) = eG N (fun y => a (dk y)) x := by
 intro a x
 kernel_rfl
def dC (N : Nat) (a b : Bss) (c : dr → Ro) : Ro :=
 let d : Int := (↑(List.length a) : Int)
 let e : Int := (↑(List.length b) : Int)
 cond (!(d == e)) (
 some (.bool false, [])) (
 let f : Int := (↑(List.length a) : Int)
 c (a, b, f, 0))
def eR (N : Nat) (a b : Bss) : Ro := dC N a b (fun z => aS N (eG N) z)
def xS (N : Nat) : List (Nat × (St → Ro)) := ba cq N iK (fin eQ) ++ []
theorem wv (N : Nat) (a c : Bss) : bc cq N 26 eQ iK [.sl .str (.may false) a, .sl .str (.may false) c] [] = eR N a c :=
 (bU (xS N) (by kernel_rfl) rfl (fun C => dC N a c (fun z => C 1000000 (dk z))) (fun C => by kernel_rfl)).trans (Eq.trans (b := dC N a c (fun z => bo N (gR N) (dk z))) (by kernel_rfl) (congrArg (dC N a c) (funext fun z => bj (dk) (gR N) (eG N) (vR N) N z)))
theorem xm (hΓ : bw Try.prog cq) (N : Nat) (a b : Bss) {v : V} {hp : List aL} (h : eR N a b = some (v, hp)) : aI Try.prog jz [.sl .str (.may false) a, .sl .str (.may false) b] v := by
 have hc := wt
 simp only [Bool.and_eq_true] at hc
 exact ⟨hp, eI hΓ vi Try.func56 vQ hc.1 hc.2 (by decide) ((wv N a b).trans h)⟩
def aiY (N : Nat) : Nat → List V → Option (Bool × V) := fun f vs => match f, vs with
 | 56, [.sl .str (.may _) a, .sl .str (.may _) b] => some (true, .bool (decide (a = b)))
 | 57, [.sl .aval (.may _) a, .sl .aval (.may _) b, .fn 24 []] => some (decide (1000000 ≤ N - szL a), .bool (rD a b))
 | _, _ => none
def yA (N : Nat) : aO := (fw (aiY N))
theorem ak1 (N : Nat) : cB (yA N) [] := (cC _ _)
theorem amq (N : Nat) (h_slices_Equal_string_string : ∀ (a : Bss) (b : Bss), aI Try.prog jz [.sl .str (.may false) a, .sl .str (.may false) b] (.bool (decide (a = b)))) (h_slices_EqualFunc_api_AVal_api_AVal_api_AVal_api_AVal_aval_Same : ∀ (a : List aB) (b : List aB), (decide (1000000 ≤ N - szL a)) = true → aI Try.prog b9 [.sl .aval (.may false) a, .sl .aval (.may false) b, .fn 24 []] (.bool (rD a b))) : bw Try.prog (yA N) := by
 intro f vs hp v hp' h0
 obtain ⟨h, he⟩ := de h0
 subst he
 unfold aiY at h
 split at h
 ·simp only [Option.some.injEq, Prod.mk.injEq] at h
  obtain ⟨hc, rfl⟩ := h
  exact ((h_slices_Equal_string_string _ _).dim rfl).frame rfl rfl _
 ·simp only [Option.some.injEq, Prod.mk.injEq] at h
  obtain ⟨hc, rfl⟩ := h
  exact ((h_slices_EqualFunc_api_AVal_api_AVal_api_AVal_api_AVal_aval_Same _ _ hc).dim rfl).frame rfl rfl _
 ·simp at h
def ag3 : IR := Rs [Bx 2 0, Bx 3 1, Mb 4 false] (Rs [Fa 5 0 2, Lq 6 5, Fa 7 0 3, Lq 8 7, Bi 9 .eql 6 8, Mv 10 9, Gt 10 (.fad 11 1 2), Gt 10 (.lde 12 1 false 11), Gt 10 (.fad 13 1 3), Gt 10 (.lde 14 1 false 13), Gt 10 (.bin 15 .eql 12 14), Pa 16 10 15, Mv 17 16, Gt 17 (.fad 18 4 2), Gt 17 (.lde 19 1 false 18), Gt 17 (.fad 20 4 3), Gt 17 (.lde 21 1 false 20), Gt 17 (.bin 22 .eql 19 21), Pa 23 17 22, Mv 24 23, Gt 24 (.fad 25 3 2), Gt 24 (.lde 26 1 false 25), Gt 24 (.fad 27 3 3), Gt 24 (.lde 28 1 false 27), Gt 24 (.call 29 56 [26, 28]), Pa 30 24 29, Mv 31 30, Gt 31 (.fad 32 2 2), Gt 31 (.lde 33 1 false 32), Gt 31 (.fad 34 2 3), Gt 31 (.lde 35 1 false 34), Gt 31 (.call 36 57 [33, 35, .c (.fn 24 [])]), Pa 37 31 36, Mv 4 37] .ret)
def ag4 : List RV := [.t 4]
theorem aol : (bE Try.prog [] 0 ag3 (Try.f24.body.getD .skip) && dF Try.prog ag4 Try.f24.results.toList) = true := by kernel_rfl
theorem amr : Try.f24.body = some (Try.f24.body.getD .skip) := by kernel_rfl
def ag5 (N : Nat) (b : Int) (c : Bs) (a : List aB) (d : Bss) (e f : Int) (g : Bs) (h : List aB) (i : Bss) (j : Int)  : Ro :=
 cond (b == f) (
 cond (decide (c = g)) (
 cond (e == j) (
 cond (decide (d = i)) (
 chk (decide (1000000 ≤ N - szL a)) (
 some (.bool (rD a h), []))) (
 some (.bool false, []))) (
 some (.bool false, []))) (
 some (.bool false, []))) (
 some (.bool false, []))
def ww (N : Nat) (a : Int) (b : Bs) (c : List aB) (d : Bss) (e f : Int) (g : Bs) (h : List aB) (i : Bss) (j : Int) : Ro := ag5 N a b c d e f g h i j
theorem aom (N : Nat) (a : Int) (b : Bs) (c : List aB) (d : Bss) (e f : Int) (g : Bs) (h : List aB) (i : Bss) (j : Int) : bc (yA N) N 38 ag4 ag3 [.agg [.int .u64 a, .str b, .sl .aval (.may false) c, .sl .str (.may false) d, .int .i64 e], .agg [.int .u64 f, .str g, .sl .aval (.may false) h, .sl .str (.may false) i, .int .i64 j]] [] = ww N a b c d e f g h i j := by kernel_rfl
theorem apY (N : Nat) (hΓ : bw Try.prog (yA N)) (a : Int) (b : Bs) (c : List aB) (d : Bss) (e f : Int) (g : Bs) (i : List aB) (j : Bss) (k : Int) {v : V} {hp : List aL} (h : ww N a b c d e f g i j k = some (v, hp)) : aI Try.prog q8 [.agg [.int .u64 a, .str b, .sl .aval (.may false) c, .sl .str (.may false) d, .int .i64 e], .agg [.int .u64 f, .str g, .sl .aval (.may false) i, .sl .str (.may false) j, .int .i64 k]] v := by
 have hc := aol
 simp only [Bool.and_eq_true] at hc
 exact ⟨hp, eI hΓ (ak1 N) Try.func24 amr hc.1 hc.2 (by decide) ((aom N a b c d e f g i j k).trans h)⟩
def cZ (N : Nat) : Nat → List V → Option (Bool × V) := fun f vs => match f, vs with
 | 24, [.agg [.int .u64 b, .str c, .sl .aval (.may _) a, .sl .str (.may _) d, .int .i64 e], .agg [.int .u64 g, .str h, .sl .aval (.may _) i, .sl .str (.may _) j, .int .i64 k]] => some (decide (1000000 ≤ N - (szL a + 1)), .bool (yv (.mk b c a d e) (.mk g h i j k)))
 | _, _ => none
def aV (N : Nat) : aO := (fw (cZ N))
theorem fo (N : Nat) : cB (aV N) [] := (cC _ _)
theorem fB (N : Nat) (h_aval_Same : ∀ (b : Int) (c : Bs) (a : List aB) (d : Bss) (e : Int) (g : Int) (i : Bs) (j : List aB) (k : Bss) (l : Int), (decide (1000000 ≤ N - (szL a + 1))) = true → aI Try.prog q8 [.agg [.int .u64 b, .str c, .sl .aval (.may false) a, .sl .str (.may false) d, .int .i64 e], .agg [.int .u64 g, .str i, .sl .aval (.may false) j, .sl .str (.may false) k, .int .i64 l]] (.bool (yv (.mk b c a d e) (.mk g i j k l)))) : bw Try.prog (aV N) := by
 intro f vs hp v hp' h0
 obtain ⟨h, he⟩ := de h0
 subst he
 unfold cZ at h
 split at h
 ·simp only [Option.some.injEq, Prod.mk.injEq] at h
  obtain ⟨hc, rfl⟩ := h
  exact ((h_aval_Same _ _ _ _ _ _ _ _ _ _ hc).dim rfl).frame rfl rfl _
 ·simp at h
def cN : IR := Rs [Bi 18 .lss 17 16] (Sq (Cn 18 .skip (.exit 0)) (Sq (.block 1 (Rs [Mv 19 17, Ix 20 .aval 15 17, Ld 21 5 true 20, Pp (.alr 8 5), Mv 7 19, Fz 8 5 21] (Rs [Mv 22 1, Mv 23 7, Ix 24 .aval 22 23, Ld 25 5 true 24, Pp (.alr 9 5), Fz 9 5 25] (Rs [Mv 26 2, Ld 27 5 true 8, Ld 28 5 true 9, Pp (.dcall (some 29) 24 (.t 26) [.t 27, .t 28]), Un 30 29] (Cn 30 (Rs [Mb 6 false] .ret) .skip))))) (Rg [Bc 31 .add 17 1, Mv 17 31])))
def cL : IR := Rs [Mb 6 true] .ret
def b6 : IR := Rs [Mb 6 false] (Sq (Rs [Mv 10 0, Ll 11 10, Mv 12 1, Ll 13 12, Bi 14 .neq 11 13] (Cn 14 (Rs [Mb 6 false] .ret) .skip)) (Sq (Rs [Mv 15 0, Ll 16 15, Mi 17 0] (.block 0 (.loop [1, 2, 15, 16, 17, 1000000] 0 cN))) cL))
def bB : List RV := [.t 6]
theorem fK : (bE Try.prog [] 0 b6 (Try.f57.body.getD .skip) && dF Try.prog bB Try.f57.results.toList) = true := by kernel_rfl
theorem fC : Try.f57.body = some (Try.f57.body.getD .skip) := by kernel_rfl
def fL (R : IR → (Ex → St → Ro) → St → Ro) (a : St → Ro) : Ex → St → Ro := (bM a [1, 2, 15, 16, 17, 1000000] 0 (aT 0 (bx (R cL) (fin bB))))
abbrev bh : Type := (List aB × List aB × Int × Int)
def be : bh → St := fun (a, b, c, d) => { env := (.undef :: .sl .aval (.may false) a :: .fn 24 [] :: (U 12 (.sl .aval (.may false) b :: .int .i64 c :: .int .i64 d :: (U 14 [])))), hp := [] }
def bY (N : Nat) : (St → Ro) → St → Ro := fun a s => run (aV N) N cN (fL (run (aV N) N) a) s
def bz (N : Nat) (c : bh → Ro) : bh → Ro := fun (d, b, e, a) =>
 cond (decide (a < e)) (
 chk ((decide (0 ≤ a) && decide (a < ↑(List.length b)))) (
 let o : Int := (List.getD b (Int.toNat a) (aC .aval)).n
 let p : Bs := (List.getD b (Int.toNat a) (aC .aval)).s
 let m : List aB := (List.getD b (Int.toNat a) (aC .aval)).l
 let q : Bss := (List.getD b (Int.toNat a) (aC .aval)).keys
 let r : Int := (List.getD b (Int.toNat a) (aC .aval)).branch
 chk ((decide (0 ≤ a) && decide (a < ↑(List.length d)))) (
 let t : Int := (List.getD d (Int.toNat a) (aC .aval)).n
 let f : Bs := (List.getD d (Int.toNat a) (aC .aval)).s
 let g : List aB := (List.getD d (Int.toNat a) (aC .aval)).l
 let h : Bss := (List.getD d (Int.toNat a) (aC .aval)).keys
 let i : Int := (List.getD d (Int.toNat a) (aC .aval)).branch
 chk (decide (1000000 ≤ N - (szL m + 1))) (
 let j : Bool := (yv (.mk o p m q r) (.mk t f g h i))
 cond (!j) (
 some (.bool false, [])) (
 let k : Int := (IntKind.wrap .i64 (a + 1))
 c (d, b, e, k)))))) (
 some (.bool true, []))
theorem fD (N : Nat) : ∀ (a : St → Ro) (x : bh), bY N a (be x) = bz N (fun y => a (be y)) x := by
 intro a x
 kernel_rfl
def bm (N : Nat) (a b : List aB) (c : bh → Ro) : Ro :=
 let d : Int := (↑(List.length a) : Int)
 let e : Int := (↑(List.length b) : Int)
 cond (!(d == e)) (
 some (.bool false, [])) (
 let f : Int := (↑(List.length a) : Int)
 c (b, a, f, 0))
def bC (N : Nat) (a b : List aB) : Ro := bm N a b (fun z => aS N (bz N) z)
def gj (N : Nat) : List (Nat × (St → Ro)) := ba (aV N) N b6 (fin bB) ++ []
theorem fM (N : Nat) (a c : List aB) : bc (aV N) N 32 bB b6 [.sl .aval (.may false) a, .sl .aval (.may false) c, .fn 24 []] [] = bC N a c :=
 (bU (gj N) (by kernel_rfl) rfl (fun C => bm N a c (fun z => C 1000000 (be z))) (fun C => by kernel_rfl)).trans (Eq.trans (b := bm N a c (fun z => bo N (bY N) (be z))) (by kernel_rfl) (congrArg (bm N a c) (funext fun z => bj (be) (bY N) (bz N) (fD N) N z)))
theorem gi (N : Nat) (hΓ : bw Try.prog (aV N)) (a b : List aB) {v : V} {hp : List aL} (h : bC N a b = some (v, hp)) : aI Try.prog b9 [.sl .aval (.may false) a, .sl .aval (.may false) b, .fn 24 []] v := by
 have hc := fK
 simp only [Bool.and_eq_true] at hc
 exact ⟨hp, eI hΓ (fo N) Try.func57 fC hc.1 hc.2 (by decide) ((fM N a b).trans h)⟩
def aiZ (N : Nat) : Nat → List V → Option (Bool × V) := fun f vs => match f, vs with
 | 22, [.agg [.int .u64 b, .str c, .sl .aval (.may _) a, .sl .str (.may _) d, .int .i64 e]] => some (decide (1000000 ≤ N - (szL a + 1)), .tup [.int .i64 ((na (.mk b c a d e)).1), .int .i64 ((na (.mk b c a d e)).2)])
 | _, _ => none
def nO (N : Nat) : aO := (fw (aiZ N))
theorem ak2 (N : Nat) : cB (nO N) [] := (cC _ _)
theorem ams (N : Nat) (h_aval_Size : ∀ (b : Int) (c : Bs) (a : List aB) (d : Bss) (e : Int), (decide (1000000 ≤ N - (szL a + 1))) = true → aI Try.prog tZ [.agg [.int .u64 b, .str c, .sl .aval (.may false) a, .sl .str (.may false) d, .int .i64 e]] (.tup [.int .i64 ((na (.mk b c a d e)).1), .int .i64 ((na (.mk b c a d e)).2)])) : bw Try.prog (nO N) := by
 intro f vs hp v hp' h0
 obtain ⟨h, he⟩ := de h0
 subst he
 unfold aiZ at h
 split at h
 ·simp only [Option.some.injEq, Prod.mk.injEq] at h
  obtain ⟨hc, rfl⟩ := h
  exact ((h_aval_Size _ _ _ _ _ hc).dim rfl).frame rfl rfl _
 ·simp at h
def ac3 : IR := Rs [Bi 16 .lss 15 14] (Sq (Cn 16 .skip (.exit 0)) (Sq (.block 1 (Rs [Ix 17 .aval 13 15, Ld 18 5 true 17, Pp (.alr 5 5), Fz 5 5 18] (Rs [Ld 20 5 true 5, Ca 21 22 [20], Mv 19 21, Ex_ 22 0 19, Ex_ 23 1 19, Mv 6 22, Mv 7 23] (Rg [Mv 24 2, Mv 25 6, Bc 26 .add 25 1, Pp (.mx 27 false 24 26), Mv 28 3, Mv 29 7, Bi 30 .add 28 29, Mv 2 27, Mv 3 30])))) (Rg [Bc 31 .add 15 1, Mv 15 31])))
def ac4 : IR := Rs [Mv 32 2, Mv 33 3, Mv 2 32, Mv 3 33] .ret
def aaV : IR := Rs [Bx 1 0, Mi 2 0, Mi 3 0] (Rs [Fa 8 3 1, Lq 9 8, Ll 10 9, Pp (.mx 11 true 10 (kI 1)), Mv 2 11, Mi 3 1] (Sq (Rs [Fa 12 2 1, Lq 13 12, Ll 14 13, Mi 15 0] (.block 0 (.loop [2, 3, 13, 14, 15, 1000000] 0 ac3))) ac4))
def wz : List RV := [.t 2, .t 3]
theorem aon : (bE Try.prog [] 0 aaV (Try.f22.body.getD .skip) && dF Try.prog wz Try.f22.results.toList) = true := by kernel_rfl
theorem amt : Try.f22.body = some (Try.f22.body.getD .skip) := by kernel_rfl
def aoo (R : IR → (Ex → St → Ro) → St → Ro) (a : St → Ro) : Ex → St → Ro := (bM a [2, 3, 13, 14, 15, 1000000] 0 (aT 0 (bx (R ac4) (fin wz))))
abbrev qA : Type := (Int × Int × List aB × Int × Int)
def oP : qA → St := fun (a, b, c, d, e) => { env := (.undef :: .undef :: .int .i64 a :: .int .i64 b :: (U 9 (.sl .aval (.may false) c :: .int .i64 d :: .int .i64 e :: (U 18 [])))), hp := [] }
def zu (N : Nat) : (St → Ro) → St → Ro := fun a s => run (nO N) N ac3 (aoo (run (nO N) N) a) s
def uH (N : Nat) (c : qA → Ro) : qA → Ro := fun (f, m, b, d, a) =>
 cond (decide (a < d)) (
 chk ((decide (0 ≤ a) && decide (a < ↑(List.length b)))) (
 let o : Int := (List.getD b (Int.toNat a) (aC .aval)).n
 let p : Bs := (List.getD b (Int.toNat a) (aC .aval)).s
 let g : List aB := (List.getD b (Int.toNat a) (aC .aval)).l
 let q : Bss := (List.getD b (Int.toNat a) (aC .aval)).keys
 let r : Int := (List.getD b (Int.toNat a) (aC .aval)).branch
 chk (decide (1000000 ≤ N - (szL g + 1))) (
 let t : Int := (na (.mk o p g q r)).1
 let h : Int := (na (.mk o p g q r)).2
 let e : Int := (IntKind.wrap .i64 (t + 1))
 let i : Int := (if f < e then e else f)
 let j : Int := (IntKind.wrap .i64 (m + h))
 let k : Int := (IntKind.wrap .i64 (a + 1))
 c (i, j, b, d, k)))) (
 some (.tup [.int .i64 f, .int .i64 m], []))
theorem amu (N : Nat) : ∀ (a : St → Ro) (x : qA), zu N a (oP x) = uH N (fun y => a (oP y)) x := by
 intro a x
 kernel_rfl
def sm (N : Nat) (c : Int) (d : Bs) (a : List aB) (b : Bss) (e : Int) (g : qA → Ro) : Ro :=
 let f : Int := (↑(List.length b) : Int)
 let h : Int := (if 1 < f then 1 else f)
 let i : Int := (↑(List.length a) : Int)
 g (h, 1, a, i, 0)
def wA (N : Nat) (a : Int) (b : Bs) (c : List aB) (d : Bss) (e : Int) : Ro := sm N a b c d e (fun z => aS N (uH N) z)
def aq9 (N : Nat) : List (Nat × (St → Ro)) := ba (nO N) N aaV (fin wz) ++ []
theorem aop (N : Nat) (a : Int) (c : Bs) (d : List aB) (e : Bss) (f : Int) : bc (nO N) N 34 wz aaV [.agg [.int .u64 a, .str c, .sl .aval (.may false) d, .sl .str (.may false) e, .int .i64 f]] [] = wA N a c d e f :=
 (bU (aq9 N) (by kernel_rfl) rfl (fun C => sm N a c d e f (fun z => C 1000000 (oP z))) (fun C => by kernel_rfl)).trans (Eq.trans (b := sm N a c d e f (fun z => bo N (zu N) (oP z))) (by kernel_rfl) (congrArg (sm N a c d e f) (funext fun z => bj (oP) (zu N) (uH N) (amu N) N z)))
theorem apZ (N : Nat) (hΓ : bw Try.prog (nO N)) (a : Int) (b : Bs) (c : List aB) (d : Bss) (e : Int) {v : V} {hp : List aL} (h : wA N a b c d e = some (v, hp)) : aI Try.prog tZ [.agg [.int .u64 a, .str b, .sl .aval (.may false) c, .sl .str (.may false) d, .int .i64 e]] v := by
 have hc := aon
 simp only [Bool.and_eq_true] at hc
 exact ⟨hp, eI hΓ (ak2 N) Try.func22 amt hc.1 hc.2 (by decide) ((aop N a b c d e).trans h)⟩
end Go.Proofs.Ytdpajabhmmmjoaa
end
noncomputable section
namespace Go.Proofs.Ytdpajabhmmmjoaa
open Go.AM
set_option autoImplicit false
set_option linter.unusedSimpArgs false
set_option linter.unusedVariables false
theorem ajQ (N : Nat) (r k : Int) (hr : 0 ≤ r ∧ r ≤ 4294967295) (hk : 0 ≤ k ∧ k ≤ 32) : uF N r k = some (.int .u8 (iM r k), []) := by
 obtain ⟨p, rfl⟩ : ∃ p : Nat, r = (p : Int) := ⟨r.toNat, by omega⟩
 obtain ⟨j, rfl⟩ : ∃ j : Nat, k = (j : Int) := ⟨k.toNat, by omega⟩
 have e1 := vh .u32 p j (by show j ≤ 32; omega)
 have hle : p / 2 ^ j ≤ p := Nat.div_le_self _ _
 simp only [uF, afh, iM, Int.toNat_natCast, e1]
 generalize p / 2 ^ j = q at hle
 have e2 : cn .and .u32 (q : Int) 63 = ((q % 64 : Nat) : Int) := aus 6 (by omega) _ (by omega)
 have e3 : cn .or .u32 128 ((q % 64 : Nat) : Int) = 128 + ((q % 64 : Nat) : Int) := agM 6 128 _ (by omega) (by decide) (by omega) (by omega)
 simp (disch := omega) only [aZ, e2, e3]
 rfl
theorem abZ (N : Nat) (r : Int) (hr : 0 ≤ r ∧ r ≤ 4294967295) (hN : (r < 65536 ∧ (r < 55296 ∨ 57344 ≤ r)) ∨ 0 < N) : wg N r = some (.str (xM r), []) := by
 obtain ⟨p, rfl⟩ : ∃ p : Nat, r = (p : Int) := ⟨r.toNat, by omega⟩
 have s6 : eS .u32 (p : Int) 6 = ((p / 64 : Nat) : Int) := vh .u32 p 6 (by decide)
 have s12 : eS .u32 (p : Int) 12 = ((p / 4096 : Nat) : Int) := vh .u32 p 12 (by decide)
 have s18 : eS .u32 (p : Int) 18 = ((p / 262144 : Nat) : Int) := vh .u32 p 18 (by decide)
 have t0 : iM (p : Int) 0 = ((128 + p % 64 : Nat) : Int) := by simp [iM]
 have t6 : iM (p : Int) 6 = ((128 + p / 64 % 64 : Nat) : Int) := by simp [iM]
 have t12 : iM (p : Int) 12 = ((128 + p / 4096 % 64 : Nat) : Int) := by simp [iM]
 simp only [wg, agR, xM, Int.toNat_natCast, gly, s6, s12, s18, t0, t6, t12]
 by_cases h1 : p < 128
 ·simp (disch := omega) only [aZ, ]
 by_cases h2 : p < 2048
 ·have e : cn .or .u32 192 ((p / 64 : Nat) : Int) = ((192 + p / 64 : Nat) : Int) := (agM 6 192 _ (by omega) (by decide) (by omega) (by omega)).trans (by omega)
  simp (disch := omega) only [aZ, e]
 have hc : ∀ hi : 1114111 < p ∨ (55296 ≤ p ∧ p < 57344), 0 < N := by omega
 by_cases h3 : 1114111 < p
 ·have := hc (.inl h3)
  simp (disch := omega) only [aZ, ]
  rfl
 by_cases h4 : 55296 ≤ p ∧ p < 57344
 ·have := hc (.inr h4)
  simp (disch := omega) only [aZ, ]
  rfl
 by_cases h5 : p < 65536
 ·have e : cn .or .u32 224 ((p / 4096 : Nat) : Int) = ((224 + p / 4096 : Nat) : Int) := (agM 5 224 _ (by omega) (by decide) (by omega) (by omega)).trans (by omega)
  by_cases h6 : 55296 ≤ p <;> simp (disch := omega) only [aZ, e]
 ·have e : cn .or .u32 240 ((p / 262144 : Nat) : Int) = ((240 + p / 262144 : Nat) : Int) := (agM 4 240 _ (by omega) (by decide) (by omega) (by omega)).trans (by omega)
  simp (disch := omega) only [aZ, e]
end Go.Proofs.Ytdpajabhmmmjoaa
end
noncomputable section
namespace Go.Proofs.Ytdpajabhmmmjoaa
open Go.AM
set_option autoImplicit false
set_option linter.unusedSimpArgs false
set_option linter.unusedVariables false
theorem ak3 (k : Nat) (hk : k ≤ 8) (a : Nat) (ha : a < 256) : cn .and .u8 (a : Int) ((2 ^ k - 1 : Nat) : Int) = ((a % 2 ^ k : Nat) : Int) := by
 have h2 : 2 ^ k ≤ 2 ^ 8 := Nat.pow_le_pow_right (by omega) hk
 have h1 : 1 ≤ 2 ^ k := Nat.one_le_two_pow
 rw [apN .u8 rfl a (2 ^ k - 1) ha (by show 2 ^ k - 1 < 2 ^ 8; omega), Nat.and_two_pow_sub_one_eq_mod]
theorem ave (v c : Nat) (hv : v < 2 ^ 26) (hc : c < 64) : cn .or .u32 (iJ .u32 (v : Int) 6) (c : Int) = ((v * 64 + c : Nat) : Int) := by
 have e : iJ .u32 (v : Int) 6 = ((v * 64 : Nat) : Int) := by
  rw [show (6 : Int) = ((6 : Nat) : Int) by rfl, atH .u32 rfl v 6 (by decide)]
  show ((v * 64 % 2 ^ 32 : Nat) : Int) = _
  rw [Nat.mod_eq_of_lt (by omega)]
 rw [e, agM 6 ((v * 64 : Nat) : Int) c (by omega) (by omega) (by omega) (by omega)]
 omega
theorem q9 (N : Nat) (rec : (List UInt8 × Int × Int × Int) → Option (V × List aL)) (s : List UInt8) (v n i : Nat) (hv : v < 2 ^ 26) (hi : i < n) (hn : n ≤ s.length) (h4 : n ≤ 4) :
  dN N rec (s, (v : Int), (n : Int), (i : Int)) = rec (s, ((v * 64 + (s.getD i 0).toNat % 64 : Nat) : Int), (n : Int), ((i + 1 : Nat) : Int)) := by
 have hb : (s.getD i 0).toNat < 256 := UInt8.toNat_lt _
 have e1 : cn .and .u8 (((s.getD i 0).toNat : Nat) : Int) 63 = (((s.getD i 0).toNat % 64 : Nat) : Int) := ak3 6 (by omega) _ hb
 have e2 := ave v ((s.getD i 0).toNat % 64) hv (by omega)
 simp only [dN]
 simp (disch := omega) only [aZ, e1, e2]
 rfl
theorem ag6 (N : Nat) (rec : (List UInt8 × Int × Int × Int) → Option (V × List aL)) (s : List UInt8) (v n : Nat) (hn : n ≤ s.length) :
  dN N rec (s, (v : Int), (n : Int), (n : Int)) = if gly v = s.take n then some (.tup [.int .u32 v, .int .i64 n], []) else some (.tup [.int .u32 0, .int .i64 0], []) := by
 simp only [dN, xM]
 by_cases h : gly v = s.take n
 ·simp (disch := omega) only [aZ, h, decide_true]
 ·simp (disch := omega) only [aZ, h, decide_false]
theorem lC {α R : Type} (n : Nat) (B : (α → Option R) → α → Option R) (x : α) : aS (n + 1) B x = B (aS n B) x := rfl
theorem aut (M : Nat) (a b : UInt8) (t : List UInt8) (v : Nat) (hv : v < 32) :
  aS (M + 5) (dN (M + 5)) (a :: b :: t, (v : Int), ((2 : Nat) : Int), ((1 : Nat) : Int)) = some (.tup [.int .u32 (dq 2 v (a :: b :: t)).1, .int .i64 (dq 2 v (a :: b :: t)).2], []) := by
 rw [lC, q9 _ _ _ _ 2 1 (by omega) (by omega) (by simp) (by omega), lC, ag6 _ _ _ _ 2 (by simp)]
 simp only [dq, List.getD_cons_succ, List.getD_cons_zero]
 rw [if_neg (show ¬ (a :: b :: t).length < 2 by simp)]
 simp only [List.take_succ_cons, List.take_zero, List.tail_cons, List.foldl_cons, List.foldl_nil]
 by_cases h : gly (v * 64 + b.toNat % 64) = [a, b]
 ·simp only [h, if_true]
 ·simp only [h, if_false]; rfl
theorem auu (M : Nat) (a b c : UInt8) (t : List UInt8) (v : Nat) (hv : v < 32) :
  aS (M + 5) (dN (M + 5)) (a :: b :: c :: t, (v : Int), ((3 : Nat) : Int), ((1 : Nat) : Int)) = some (.tup [.int .u32 (dq 3 v (a :: b :: c :: t)).1, .int .i64 (dq 3 v (a :: b :: c :: t)).2], []) := by
 rw [lC, q9 _ _ _ _ 3 1 (by omega) (by omega) (by simp) (by omega), lC, q9 _ _ _ _ 3 2 (by omega) (by omega) (by simp) (by omega), lC, ag6 _ _ _ _ 3 (by simp)]
 simp only [dq, List.getD_cons_succ, List.getD_cons_zero]
 rw [if_neg (show ¬ (a :: b :: c :: t).length < 3 by simp)]
 simp only [List.take_succ_cons, List.take_zero, List.tail_cons, List.foldl_cons, List.foldl_nil]
 by_cases h : gly ((v * 64 + b.toNat % 64) * 64 + c.toNat % 64) = [a, b, c]
 ·simp only [h, if_true]
 ·simp only [h, if_false]; rfl
theorem auv (M : Nat) (a b c d : UInt8) (t : List UInt8) (v : Nat) (hv : v < 32) :
  aS (M + 5) (dN (M + 5)) (a :: b :: c :: d :: t, (v : Int), ((4 : Nat) : Int), ((1 : Nat) : Int)) = some (.tup [.int .u32 (dq 4 v (a :: b :: c :: d :: t)).1, .int .i64 (dq 4 v (a :: b :: c :: d :: t)).2], []) := by
 rw [lC, q9 _ _ _ _ 4 1 (by omega) (by omega) (by simp) (by omega), lC, q9 _ _ _ _ 4 2 (by omega) (by omega) (by simp) (by omega), lC, q9 _ _ _ _ 4 3 (by omega) (by omega) (by simp) (by omega), lC, ag6 _ _ _ _ 4 (by simp)]
 simp only [dq, List.getD_cons_succ, List.getD_cons_zero]
 rw [if_neg (show ¬ (a :: b :: c :: d :: t).length < 4 by simp)]
 simp only [List.take_succ_cons, List.take_zero, List.tail_cons, List.foldl_cons, List.foldl_nil]
 by_cases h : gly (((v * 64 + b.toNat % 64) * 64 + c.toNat % 64) * 64 + d.toNat % 64) = [a, b, c, d]
 ·simp only [h, if_true]
 ·simp only [h, if_false]; rfl
theorem aio (M : Nat) (s : List UInt8) (hs : s ≠ []) (hl : s.length ≤ 9223372036854775807) :
  tg (M + 5) s = some (.tup [.int .u32 (eg s).1, .int .i64 (eg s).2], []) := by
 obtain ⟨c, t, rfl⟩ := List.exists_cons_of_ne_nil hs
 have hc : c.toNat < 256 := UInt8.toNat_lt _
 have s5 : eS .u8 (c.toNat : Int) 5 = ((c.toNat / 32 : Nat) : Int) := vh .u8 c.toNat 5 (by decide)
 have s4 : eS .u8 (c.toNat : Int) 4 = ((c.toNat / 16 : Nat) : Int) := vh .u8 c.toNat 4 (by decide)
 have s3 : eS .u8 (c.toNat : Int) 3 = ((c.toNat / 8 : Nat) : Int) := vh .u8 c.toNat 3 (by decide)
 have a31 : cn .and .u8 (c.toNat : Int) 31 = ((c.toNat % 32 : Nat) : Int) := ak3 5 (by omega) _ hc
 have a15 : cn .and .u8 (c.toNat : Int) 15 = ((c.toNat % 16 : Nat) : Int) := ak3 4 (by omega) _ hc
 have a7 : cn .and .u8 (c.toNat : Int) 7 = ((c.toNat % 8 : Nat) : Int) := ak3 3 (by omega) _ hc
 rw [List.length_cons] at hl
 simp only [tg, oL, eg, fb, List.length_cons, Int.toNat_zero, List.getD_cons_zero, s5, s4, s3, a31, a15, a7]
 by_cases h1 : c.toNat < 128
 ·simp (disch := omega) only [aZ, ]
  rfl
 by_cases h2 : c.toNat / 32 = 6
 ·match t with
  | [] => simp (disch := omega) only [aZ, dq, List.length_cons, List.length_nil]; rfl
  | b :: t =>
    rw [List.length_cons] at hl
    simp (disch := omega) only [aZ, h2, List.length_cons]
    exact aut M c b t _ (by omega)
 by_cases h3 : c.toNat / 16 = 14
 ·match t with
  | [] => simp (disch := omega) only [aZ, dq, List.length_cons, List.length_nil]; rfl
  | [b] => simp (disch := omega) only [aZ, dq, List.length_cons, List.length_nil]; rfl
  | b :: d :: t =>
    rw [List.length_cons, List.length_cons] at hl
    simp (disch := omega) only [aZ, h3, List.length_cons]
    exact auu M c b d t _ (by omega)
 by_cases h4 : c.toNat / 8 = 30
 ·match t with
  | [] => simp (disch := omega) only [aZ, dq, List.length_cons, List.length_nil]; rfl
  | [b] => simp (disch := omega) only [aZ, dq, List.length_cons, List.length_nil]; rfl
  | [b, d] => simp (disch := omega) only [aZ, dq, List.length_cons, List.length_nil]; rfl
  | b :: d :: e :: t =>
    rw [List.length_cons, List.length_cons, List.length_cons] at hl
    simp (disch := omega) only [aZ, h4, List.length_cons]
    exact auv M c b d e t _ (by omega)
 ·simp (disch := omega) only [aZ, ]
  rfl
end Go.Proofs.Ytdpajabhmmmjoaa
end
noncomputable section
namespace Go.Proofs.Ytdpajabhmmmjoaa
open Go.AM
set_option autoImplicit false
set_option linter.unusedVariables false
set_option maxRecDepth 100000
def ai0 (N : Nat) : Nat → List V → Option (Bool × V) := fun f vs => match f, vs with
 | 21, [.agg [.sl .atype (.may _) a], .int .i64 g, .agg [.int .u64 l, .str m, .sl .aval (.may _) h, .sl .str (.may _) n, .int .i64 o]] => some (decide (1000000 ≤ N - (szL h + 1)), .bool (bu a g (.mk l m h n o)))
 | 49, [.agg [.sl .atype (.may _) a], .int .i64 g] => some (true, .bool (isT a g))
 | 50, [.agg [.int .i64 a, .str c, .sl .str (.may _) d, .int .i64 e, .sl .str (.may _) b, .bool p, .str q, .int .i64 i, .sl .afield (.may _) r, .sl (.num .i64) (.may _) s], .int .u64 g] => some (true, .bool (re a b g))
 | 51, [.agg [.int .i64 a, .str c, .sl .str (.may _) d, .int .i64 e, .sl .str (.may _) b, .bool p, .str q, .int .i64 i, .sl .afield (.may _) r, .sl (.num .i64) (.may _) s], .str g] => some (true, .bool (wd a i g))
 | 52, [.agg [.sl .atype (.may _) a], .int .i64 g, .sl .aval (.may _) k] => some (decide (1000000 ≤ N - szL k), .bool (bO a g k))
 | 53, [.sl .str (.may _) a0] => some (true, .bool (eP a0))
 | 54, [.agg [.sl .atype (.may _) a], .agg [.int .i64 t, .str u, .sl .str (.may _) v, .int .i64 w, .sl .str (.may _) x, .bool y, .str z, .int .i64 aa, .sl .afield (.may _) j, .sl (.num .i64) (.may _) ab], .sl .aval (.may _) k] => some (decide (1000000 ≤ N - szL k), .bool (decide (List.length k = List.length j) && lA a j k))
 | 55, [.agg [.int .u64 a, .str c, .sl .aval (.may _) d, .sl .str (.may _) e, .int .i64 b]] => some (true, .bool (ca a c d e b))
 | _, _ => none
def bb (N : Nat) : aO := (fw (ai0 N))
theorem ak4 (N : Nat) : cB (bb N) [] := (cC _ _)
theorem amv (N : Nat) (h_aval_Fits : ∀ (a : List aA) (g : Int) (p : Int) (q : Bs) (j : List aB) (r : Bss) (s : Int), (decide (1000000 ≤ N - (szL j + 1))) = true → aI Try.prog nM [.agg [.sl .atype (.may false) a], .int .i64 g, .agg [.int .u64 p, .str q, .sl .aval (.may false) j, .sl .str (.may false) r, .int .i64 s]] (.bool (bu a g (.mk p q j r s)))) (h_aval_is : ∀ (a : List aA) (g : Int), aI Try.prog agN [.agg [.sl .atype (.may false) a], .int .i64 g] (.bool (isT a g))) (h_aval_number : ∀ (a : Int) (c : Bs) (d : Bss) (e : Int) (b : Bss) (k : Bool) (l : Bs) (i : Int) (m : List aM) (n : List Int) (g : Int), aI Try.prog zp [.agg [.int .i64 a, .str c, .sl .str (.may false) d, .int .i64 e, .sl .str (.may false) b, .bool k, .str l, .int .i64 i, .sl .afield (.may false) m, .sl (.num .i64) (.may false) n], .int .u64 g] (.bool (re a b g))) (h_aval_text : ∀ (a : Int) (c : Bs) (d : Bss) (e : Int) (b : Bss) (k : Bool) (l : Bs) (i : Int) (m : List aM) (n : List Int) (g : Bs), aI Try.prog ack [.agg [.int .i64 a, .str c, .sl .str (.may false) d, .int .i64 e, .sl .str (.may false) b, .bool k, .str l, .int .i64 i, .sl .afield (.may false) m, .sl (.num .i64) (.may false) n], .str g] (.bool (wd a i g))) (h_aval_each : ∀ (a : List aA) (g : Int) (t : List aB), (decide (1000000 ≤ N - szL t)) = true → aI Try.prog aci [.agg [.sl .atype (.may false) a], .int .i64 g, .sl .aval (.may false) t] (.bool (bO a g t))) (h_aval_keys : ∀ (a0 : Bss), aI Try.prog acj [.sl .str (.may false) a0] (.bool (eP a0))) (h_aval_record : ∀ (a : List aA) (u : Int) (w : Bs) (x : Bss) (y : Int) (z : Bss) (aa : Bool) (ab : Bs) (ac : Int) (o : List aM) (ad : List Int) (t : List aB), (decide (1000000 ≤ N - szL t)) = true → aI Try.prog zq [.agg [.sl .atype (.may false) a], .agg [.int .i64 u, .str w, .sl .str (.may false) x, .int .i64 y, .sl .str (.may false) z, .bool aa, .str ab, .int .i64 ac, .sl .afield (.may false) o, .sl (.num .i64) (.may false) ad], .sl .aval (.may false) t] (.bool (decide (List.length t = List.length o) && lA a o t))) (h_aval_bare : ∀ (a : Int) (c : Bs) (d : List aB) (e : Bss) (b : Int), aI Try.prog ach [.agg [.int .u64 a, .str c, .sl .aval (.may false) d, .sl .str (.may false) e, .int .i64 b]] (.bool (ca a c d e b))) : bw Try.prog (bb N) := by
 intro f vs hp v hp' h0
 obtain ⟨h, he⟩ := de h0
 subst he
 unfold ai0 at h
 split at h
 ·simp only [Option.some.injEq, Prod.mk.injEq] at h
  obtain ⟨hc, rfl⟩ := h
  exact ((h_aval_Fits _ _ _ _ _ _ _ hc).dim rfl).frame rfl rfl _
 ·simp only [Option.some.injEq, Prod.mk.injEq] at h
  obtain ⟨hc, rfl⟩ := h
  exact ((h_aval_is _ _).dim rfl).frame rfl rfl _
 ·simp only [Option.some.injEq, Prod.mk.injEq] at h
  obtain ⟨hc, rfl⟩ := h
  exact ((h_aval_number _ _ _ _ _ _ _ _ _ _ _).dim rfl).frame rfl rfl _
 ·simp only [Option.some.injEq, Prod.mk.injEq] at h
  obtain ⟨hc, rfl⟩ := h
  exact ((h_aval_text _ _ _ _ _ _ _ _ _ _ _).dim rfl).frame rfl rfl _
 ·simp only [Option.some.injEq, Prod.mk.injEq] at h
  obtain ⟨hc, rfl⟩ := h
  exact ((h_aval_each _ _ _ hc).dim rfl).frame rfl rfl _
 ·simp only [Option.some.injEq, Prod.mk.injEq] at h
  obtain ⟨hc, rfl⟩ := h
  exact ((h_aval_keys _).dim rfl).frame rfl rfl _
 ·simp only [Option.some.injEq, Prod.mk.injEq] at h
  obtain ⟨hc, rfl⟩ := h
  exact ((h_aval_record _ _ _ _ _ _ _ _ _ _ _ _ hc).dim rfl).frame rfl rfl _
 ·simp only [Option.some.injEq, Prod.mk.injEq] at h
  obtain ⟨hc, rfl⟩ := h
  exact ((h_aval_bare _ _ _ _ _).dim rfl).frame rfl rfl _
 ·simp at h
def tp : IR := Rg [Fa 76 2 8, Pp (.st none 1 76 (.c (nl .aval))), Fa 77 3 8, Pp (.st none 1 77 (.c (nl .str)))]
def rG : IR := Rg [Fa 119 2 8, Pp (.st none 1 119 (.c (nl .aval))), Fa 120 4 8, Pp (.st none 1 120 (kI 0))]
def rH : IR := Cn 36 (Rg [Ld 40 10 true 7, Fa 41 1 5, Lq 42 41, Ca 43 51 [40, 42], Mv 9 43, Fa 44 1 8, Pp (.st none 1 44 (kS []))]) (Rs [Bc 46 .eql 21 12, Mv 45 46] (Cn 45 (Rg [Ld 47 1 true 3, Fa 48 3 7, Lq 49 48, Fa 50 2 5, Lq 51 50, Ca 52 52 [47, 49, 51], Mv 9 52, Fa 53 2 8, Pp (.st none 1 53 (.c (nl .aval)))]) (Rs [Bc 55 .eql 21 13, Mv 54 55] (Cn 54 (Rs [Fa 56 3 5, Lq 57 56, Ll 58 57, Fa 59 2 5, Lq 60 59, Ll 61 60, Bi 62 .eql 58 61, Mv 63 62, Gt 63 (.fad 64 3 5), Gt 63 (.lde 65 1 false 64), Gt 63 (.call 66 53 [65]), Pa 67 63 66, Mv 68 67, Gt 68 (.lde 69 1 true 3), Gt 68 (.fad 70 3 7), Gt 68 (.lde 71 1 false 70), Gt 68 (.fad 72 2 5), Gt 68 (.lde 73 1 false 72), Gt 68 (.call 74 52 [69, 71, 73]), Pa 75 68 74, Mv 9 75] (.cut [8, 9, 1000000] 1 tp)) (Rs [Bc 79 .eql 21 9, Mv 78 79] (Cn 78 (Rg [Ld 80 1 true 3, Ld 81 10 true 7, Fa 82 2 5, Lq 83 82, Ca 84 54 [80, 81, 83], Mv 9 84, Fa 85 2 8, Pp (.st none 1 85 (.c (nl .aval)))]) (Rs [Bc 87 .eql 21 14, Mv 86 87] (Cn 86 (Sq (.reg [Fa 88 4 5, Lq 89 88, Bc 90 .geq 89 0, Mv 91 90, Gt 91 (.fad 92 4 5), Gt 91 (.lde 93 1 false 92), Gt 91 (.fad 94 9 7), Gt 91 (.lde 95 1 false 94), Gt 91 (.lenl 96 95), Gt 91 (.bin 97 .lss 93 96), Pa 98 91 97, Mv 99 98, Gt 99 (.fad 100 2 5), Gt 99 (.lde 101 1 false 100), Gt 99 (.lenl 102 101), Gt 99 (.bin 103 .eql 102 (kI 1)), Pa 104 99 103, Mv 105 104, Gt 105 (.lde 106 1 true 3), Gt 105 (.fad 107 9 7), Gt 105 (.lde 108 1 false 107), Gt 105 (.fad 109 4 5), Gt 105 (.lde 110 1 false 109), Gt 105 (.ixa 111 (.num .i64) 108 110), Gt 105 (.lde 112 1 false 111), Gt 105 (.fad 113 2 5), Gt 105 (.lde 114 1 false 113), Gt 105 (.ixa 115 .aval 114 (kI 0)), Gt 105 (.lde 116 5 true 115), Gt 105 (.call 117 21 [106, 112, 116]), Pa 118 105 117, Mv 9 118] [[], [0], [0, 1], [0, 1, 2], rg 0 3, rg 0 4, rg 0 3, [0, 1, 2, 3, 6], [0, 1, 2, 3, 6, 7], rg 0 8, rg 0 9, rg 0 10, rg 0 11, rg 0 12, rg 0 13, rg 0 14, rg 0 15, rg 0 16, rg 0 17, rg 0 17, rg 0 17 ++ [19], rg 0 17, rg 0 17 ++ [21], rg 0 17 ++ rg 19 22, rg 0 17 ++ rg 19 23, rg 0 17, rg 0 17 ++ [25], rg 0 17 ++ [25, 26], rg 0 17 ++ [25, 26, 27], rg 0 28, rg 0 29, rg 0 30]) (.cut [8, 9, 1000001] 1 rG)) .skip))))))))
def rI : IR := Cn 24 (Rg [Ld 31 10 true 7, Fa 32 0 5, Lq 33 32, Ca 34 50 [31, 33], Mv 9 34, Fa 35 0 8, Pp (.st none 1 35 (kU 0))]) (Sq (Rs [Bc 37 .eql 21 7, Mv 36 37] (Cn 36 .skip (Rs [Bc 38 .eql 21 8, Mv 36 38] (Cn 36 .skip (Rg [Bc 39 .eql 21 11, Mv 36 39]))))) (.cut [3, 5, 7, 8, 9, 21, 36, 1000002] 1 rH))
def gS : IR := Rs [Mv 121 9, Mv 122 121, Gt 122 (.ld 123 5 true false 8), Gt 122 (.call 124 55 [123]), Pa 125 122 124, Mv 6 125] .ret
def kA : IR := .cut [8, 9, 1000004] 1 gS
def aaW : IR := Rs [Bx 3 0, Bx 5 2, Mb 6 false] (Sq (Rs [Ld 10 1 true 3, Mv 11 1, Ca 12 49 [10, 11], Un 13 12] (Cn 13 (Rs [Mb 6 false] .ret) .skip)) (Sq (.reg [Fa 14 0 3, Lq 15 14, Mv 16 1, Ix 17 .atype 15 16, Ld 18 10 true 17, Ld 19 5 true 5, Pp (.alr 7 10), Pp (.new 8 [vU 0, vS, nl .aval, nl .str, vI 0]), Fz 7 10 18, Fo [] [0] (.st none 5 8 19)] [[], [0], [], [0, 1, 2], rg 0 3, [], [], [], rg 0 4 ++ [6, 7], rg 0 8]) (Rs [Mb 9 false] (Sq (Rs [Fa 20 0 7, Lq 21 20] (.block 0 (Rs [Bc 23 .eql 21 1, Mv 22 23] (Cn 22 (Rg [Mb 9 true]) (Sq (Rs [Bc 25 .eql 21 2, Mv 24 25] (Cn 24 .skip (Rs [Bc 26 .eql 21 3, Mv 24 26] (Cn 24 .skip (Rs [Bc 27 .eql 21 4, Mv 24 27] (Cn 24 .skip (Rs [Bc 28 .eql 21 5, Mv 24 28] (Cn 24 .skip (Rs [Bc 29 .eql 21 6, Mv 24 29] (Cn 24 .skip (Rg [Bc 30 .eql 21 10, Mv 24 30]))))))))))) (.cut [3, 5, 7, 8, 9, 21, 24, 1000003] 1 rI)))))) kA))))
def du : List RV := [.t 6]
theorem aoq : (bE Try.prog [] 0 aaW (Try.f21.body.getD .skip) && dF Try.prog du Try.f21.results.toList) = true := by kernel_rfl
theorem amw : Try.f21.body = some (Try.f21.body.getD .skip) := by kernel_rfl
abbrev uI : Type := (Bool × Int × Bs × List aB × Bss × Int)
def xT : uI → St := fun (a, b, c, d, e, f) => { env := (U 8 (.ptr 0 0 :: .bool a :: (U 116 []))), hp := [some [.int .u64 b, .str c, .sl .aval (.may false) d, .sl .str (.may false) e, .int .i64 f]] }
def afm (N : Nat) : St → Ro := fun s => run (bb N) N gS (fin du) s
def zv (N : Nat) : uI → Ro := fun (g, a, b, c, d, e) =>
 cond g (
 let f : Bool := (ca a b c d e)
 some (.bool f, [some [.int .u64 a, .str b, .sl .aval (.may false) c, .sl .str (.may false) d, .int .i64 e]])) (
 some (.bool false, [some [.int .u64 a, .str b, .sl .aval (.may false) c, .sl .str (.may false) d, .int .i64 e]]))
theorem amx (N : Nat) : ∀ (x : uI), afm N (xT x) = zv N x := by
 intro x
 kernel_rfl
abbrev qB : Type := (List aA × Int × Bs × List aB × Bss × Int × Int × Bs × Bss × Int × Bss × Bool × Bs × Int × List aM × List Int × Bool × Int × Bool × Int × Bs × List aB × Bss × Int)
def oQ : qB → St := fun (o, p, q, r, s, t, u, v, w, x, a, b, c, d, e, f, g, h, i, j, k, l, m, n) => { env := (U 3 (.ea [.sl .atype (.may false) o] :: .undef :: .ea [.int .u64 p, .str q, .sl .aval (.may false) r, .sl .str (.may false) s, .int .i64 t] :: .undef :: .ea [.int .i64 u, .str v, .sl .str (.may false) w, .int .i64 x, .sl .str (.may false) a, .bool b, .str c, .int .i64 d, .sl .afield (.may false) e, .sl (.num .i64) (.may false) f] :: .ptr 0 0 :: .bool g :: (U 11 (.int .i64 h :: .undef :: .undef :: .bool i :: (U 101 []))))), hp := [some [.int .u64 j, .str k, .sl .aval (.may false) l, .sl .str (.may false) m, .int .i64 n]] }
def dD (R : IR → (Ex → St → Ro) → St → Ro) : Ex → St → Ro := (aT 0 (bx (R kA) (fin du)))
abbrev uJ : Type := (Bool × Int × Bs × List aB × Bss × Int)
def tq : uJ → St := fun (a, b, c, d, e, f) => { env := (U 8 (.ptr 0 0 :: .bool a :: (U 116 []))), hp := [some [.int .u64 b, .str c, .sl .aval (.may false) d, .sl .str (.may false) e, .int .i64 f]] }
def zw (N : Nat) : St → Ro := fun s => run (bb N) N gS (fin du) s
def uK (N : Nat) : uJ → Ro := fun (g, a, b, c, d, e) =>
 cond g (
 let f : Bool := (ca a b c d e)
 some (.bool f, [some [.int .u64 a, .str b, .sl .aval (.may false) c, .sl .str (.may false) d, .int .i64 e]])) (
 some (.bool false, [some [.int .u64 a, .str b, .sl .aval (.may false) c, .sl .str (.may false) d, .int .i64 e]]))
theorem amy (N : Nat) : ∀ (x : uJ), zw N (tq x) = uK N x := by
 intro x
 kernel_rfl
abbrev qC : Type := (List aA × Int × Bs × List aB × Bss × Int × Int × Bs × Bss × Int × Bss × Bool × Bs × Int × List aM × List Int × Bool × Int × Bool × Int × Bs × List aB × Bss × Int)
def lX : qC → St := fun (o, p, q, r, s, t, u, v, w, x, a, b, c, d, e, f, g, h, i, j, k, l, m, n) => { env := (U 3 (.ea [.sl .atype (.may false) o] :: .undef :: .ea [.int .u64 p, .str q, .sl .aval (.may false) r, .sl .str (.may false) s, .int .i64 t] :: .undef :: .ea [.int .i64 u, .str v, .sl .str (.may false) w, .int .i64 x, .sl .str (.may false) a, .bool b, .str c, .int .i64 d, .sl .afield (.may false) e, .sl (.num .i64) (.may false) f] :: .ptr 0 0 :: .bool g :: (U 11 (.int .i64 h :: (U 14 (.bool i :: (U 89 []))))))), hp := [some [.int .u64 j, .str k, .sl .aval (.may false) l, .sl .str (.may false) m, .int .i64 n]] }
abbrev uL : Type := (Bool × Int × Bs × List aB × Bss × Int)
def tr : uL → St := fun (a, b, c, d, e, f) => { env := (U 8 (.ptr 0 0 :: .bool a :: (U 116 []))), hp := [some [.int .u64 b, .str c, .sl .aval (.may false) d, .sl .str (.may false) e, .int .i64 f]] }
def zx (N : Nat) : St → Ro := fun s => run (bb N) N gS (fin du) s
def uM (N : Nat) : uL → Ro := fun (g, a, b, c, d, e) =>
 cond g (
 let f : Bool := (ca a b c d e)
 some (.bool f, [some [.int .u64 a, .str b, .sl .aval (.may false) c, .sl .str (.may false) d, .int .i64 e]])) (
 some (.bool false, [some [.int .u64 a, .str b, .sl .aval (.may false) c, .sl .str (.may false) d, .int .i64 e]]))
theorem amz (N : Nat) : ∀ (x : uL), zx N (tr x) = uM N x := by
 intro x
 kernel_rfl
abbrev uN : Type := (Bool × Int × Bs × List aB × Bss × Int)
def tt : uN → St := fun (a, b, c, d, e, f) => { env := (U 8 (.ptr 0 0 :: .bool a :: (U 116 []))), hp := [some [.int .u64 b, .str c, .sl .aval .own d, .sl .str (.may false) e, .int .i64 f]] }
def zy (N : Nat) : St → Ro := fun s => run (bb N) N gS (fin du) s
def uO (N : Nat) : uN → Ro := fun (g, a, b, c, d, e) =>
 cond g (
 let f : Bool := (ca a b c d e)
 some (.bool f, [some [.int .u64 a, .str b, .sl .aval .own c, .sl .str (.may false) d, .int .i64 e]])) (
 some (.bool false, [some [.int .u64 a, .str b, .sl .aval .own c, .sl .str (.may false) d, .int .i64 e]]))
theorem amA (N : Nat) : ∀ (x : uN), zy N (tt x) = uO N x := by
 intro x
 kernel_rfl
abbrev qD : Type := (Bool × Int × Bs × List aB × Bss × Int)
def lY : qD → St := fun (a, b, c, d, e, f) => { env := (U 8 (.ptr 0 0 :: .bool a :: (U 116 []))), hp := [some [.int .u64 b, .str c, .sl .aval (.may false) d, .sl .str (.may false) e, .int .i64 f]] }
abbrev uP : Type := (Bool × Int × Bs × List aB × Bss × Int)
def tu : uP → St := fun (a, b, c, d, e, f) => { env := (U 8 (.ptr 0 0 :: .bool a :: (U 116 []))), hp := [some [.int .u64 b, .str c, .sl .aval .own d, .sl .str .own e, .int .i64 f]] }
def zz (N : Nat) : St → Ro := fun s => run (bb N) N gS (fin du) s
def zA (N : Nat) : uP → Ro := fun (g, a, b, c, d, e) =>
 cond g (
 let f : Bool := (ca a b c d e)
 some (.bool f, [some [.int .u64 a, .str b, .sl .aval .own c, .sl .str .own d, .int .i64 e]])) (
 some (.bool false, [some [.int .u64 a, .str b, .sl .aval .own c, .sl .str .own d, .int .i64 e]]))
theorem amB (N : Nat) : ∀ (x : uP), zz N (tu x) = zA N x := by
 intro x
 kernel_rfl
def uQ (N : Nat) : St → Ro := fun s => run (bb N) N tp (dD (run (bb N) N)) s
def xU (N : Nat) (d : uP → Ro) : qD → Ro := fun (e, a, b, _, _, c) =>
 d (e, a, b, ([] : List aB), ([] : Bss), c)
def uR (N : Nat) (x : qD) : Ro := xU N (fun z => zA N z) x
def zB (N : Nat) : List (Nat × (St → Ro)) := (ba (bb N) N tp (dD (run (bb N) N)) ++ (ba (bb N) N kA (fin du) ++ []))
theorem amC (N : Nat) : ∀ (x : qD), uQ N (lY x) = uR N x := by
 intro x
 have hX : ∀ C : Nat → St → Ro, bT C (bb N) N tp (dD (bT C (bb N) N)) (lY x) = xU N (fun z => C 1000004 (tu z)) x := by
  intro C
  kernel_rfl
 have h : uQ N (lY x) = xU N (fun z => zz N (tu z)) x := (cp (C := dM (zB N)) (bR (aX (l := (zB N)) (by kernel_rfl))) (cD (eF (bR (dl (aX (l := (zB N)) (by kernel_rfl)))) rfl)) _).trans ((hX _).trans (by kernel_rfl))
 have e7 : (fun z => zz N (tu z)) = (fun z => zA N z) := funext fun z => amB N z
 rw [h, e7]
 rfl
abbrev qE : Type := (Bool × Int × Bs × List aB × Bss × Int)
def lZ : qE → St := fun (a, b, c, d, e, f) => { env := (U 8 (.ptr 0 0 :: .bool a :: (U 116 []))), hp := [some [.int .u64 b, .str c, .sl .aval (.may false) d, .sl .str (.may false) e, .int .i64 f]] }
abbrev uS : Type := (Bool × Int × Bs × List aB × Bss × Int)
def tv : uS → St := fun (a, b, c, d, e, f) => { env := (U 8 (.ptr 0 0 :: .bool a :: (U 116 []))), hp := [some [.int .u64 b, .str c, .sl .aval .own d, .sl .str (.may false) e, .int .i64 f]] }
def zC (N : Nat) : St → Ro := fun s => run (bb N) N gS (fin du) s
def zD (N : Nat) : uS → Ro := fun (g, a, b, c, d, e) =>
 cond g (
 let f : Bool := (ca a b c d e)
 some (.bool f, [some [.int .u64 a, .str b, .sl .aval .own c, .sl .str (.may false) d, .int .i64 e]])) (
 some (.bool false, [some [.int .u64 a, .str b, .sl .aval .own c, .sl .str (.may false) d, .int .i64 e]]))
theorem amD (N : Nat) : ∀ (x : uS), zC N (tv x) = zD N x := by
 intro x
 kernel_rfl
def uT (N : Nat) : St → Ro := fun s => run (bb N) N rG (dD (run (bb N) N)) s
def xV (N : Nat) (d : uS → Ro) : qE → Ro := fun (e, a, b, _, c, _) =>
 d (e, a, b, ([] : List aB), c, 0)
def uU (N : Nat) (x : qE) : Ro := xV N (fun z => zD N z) x
def zE (N : Nat) : List (Nat × (St → Ro)) := (ba (bb N) N rG (dD (run (bb N) N)) ++ (ba (bb N) N kA (fin du) ++ []))
theorem amE (N : Nat) : ∀ (x : qE), uT N (lZ x) = uU N x := by
 intro x
 have hX : ∀ C : Nat → St → Ro, bT C (bb N) N rG (dD (bT C (bb N) N)) (lZ x) = xV N (fun z => C 1000004 (tv z)) x := by
  intro C
  kernel_rfl
 have h : uT N (lZ x) = xV N (fun z => zC N (tv z)) x := (cp (C := dM (zE N)) (bR (aX (l := (zE N)) (by kernel_rfl))) (cD (eF (bR (dl (aX (l := (zE N)) (by kernel_rfl)))) rfl)) _).trans ((hX _).trans (by kernel_rfl))
 have e9 : (fun z => zC N (tv z)) = (fun z => zD N z) := funext fun z => amD N z
 rw [h, e9]
 rfl
def uV (N : Nat) : St → Ro := fun s => run (bb N) N rH (dD (run (bb N) N)) s
def oR (N : Nat) (q4 : uL → Ro) (q5 : uN → Ro) (v : qD → Ro) (u : qE → Ro) : qC → Ro := fun (h, _, p, a, k, g, q, _, _, m, _, _, _, r, o, i, v9, j, w, b, e, f, c, d) =>
 cond w (
 q4 ((wd q r p), b, ([] : Bs), f, c, d)) (
 cond (j == 12) (
 chk (decide (1000000 ≤ N - szL a)) (
 q5 ((bO h m a), b, e, ([] : List aB), c, d))) (
 cond (j == 13) (
 let x : Int := (↑(List.length k) : Int)
 let y : Int := (↑(List.length a) : Int)
 cond (x == y) (
 cond (eP k) (
 chk (decide (1000000 ≤ N - szL a)) (
 v ((bO h m a), b, e, f, c, d))) (
 v (false, b, e, f, c, d))) (
 v (false, b, e, f, c, d))) (
 cond (j == 9) (
 chk (decide (1000000 ≤ N - szL a)) (
 let z : Bool := (decide (List.length a = List.length o) && lA h o a)
 q5 (z, b, e, ([] : List aB), c, d))) (
 cond (j == 14) (
 cond (decide (0 ≤ g)) (
 let aa : Int := (↑(List.length i) : Int)
 cond (decide (g < aa)) (
 let ab : Int := (↑(List.length a) : Int)
 cond (ab == 1) (
 chk ((decide (0 ≤ g) && decide (g < ↑(List.length i)))) (
 let ac : Int := List.getD i (Int.toNat g) (aC (.num .i64))
 chk (decide ((0 : Int) < ↑(List.length a))) (
 let ad : Int := (List.getD a (Int.toNat 0) (aC .aval)).n
 let ae : Bs := (List.getD a (Int.toNat 0) (aC .aval)).s
 let t : List aB := (List.getD a (Int.toNat 0) (aC .aval)).l
 let af : Bss := (List.getD a (Int.toNat 0) (aC .aval)).keys
 let ag : Int := (List.getD a (Int.toNat 0) (aC .aval)).branch
 chk (decide (1000000 ≤ N - (szL t + 1))) (
 let ah : Bool := (bu h ac (.mk ad ae t af ag))
 u (ah, b, e, f, c, d))))) (
 u (false, b, e, f, c, d))) (
 u (false, b, e, f, c, d))) (
 u (false, b, e, f, c, d))) (
 q4 (v9, b, e, f, c, d))))))
def qF (N : Nat) (x : qC) : Ro := oR N (fun z => uM N z) (fun z => uO N z) (fun z => uR N z) (fun z => uU N z) x
def zF (N : Nat) : List (Nat × (St → Ro)) := (ba (bb N) N rH (dD (run (bb N) N)) ++ (ba (bb N) N kA (fin du) ++ []))
theorem amF (N : Nat) : ∀ (x : qC), uV N (lX x) = qF N x := by
 intro x
 have hX : ∀ C : Nat → St → Ro, bT C (bb N) N rH (dD (bT C (bb N) N)) (lX x) = oR N (fun z => C 1000004 (tr z)) (fun z => C 1000004 (tt z)) (fun z => C 1000000 (lY z)) (fun z => C 1000001 (lZ z)) x := by
  intro C
  kernel_rfl
 have h : uV N (lX x) = oR N (fun z => zx N (tr z)) (fun z => zy N (tt z)) (fun z => uQ N (lY z)) (fun z => uT N (lZ z)) x := (cp (C := dM (zF N)) (bR (aX (l := (zF N)) (by kernel_rfl))) (cD (eF (bR (dl (aX (l := (zF N)) (by kernel_rfl)))) rfl)) _).trans ((hX _).trans (by kernel_rfl))
 have e4 : (fun z => zx N (tr z)) = (fun z => uM N z) := funext fun z => amz N z
 have e5 : (fun z => zy N (tt z)) = (fun z => uO N z) := funext fun z => amA N z
 have e6 : (fun z => uQ N (lY z)) = (fun z => uR N z) := funext fun z => amC N z
 have e8 : (fun z => uT N (lZ z)) = (fun z => uU N z) := funext fun z => amE N z
 rw [h, e4, e5, e6, e8]
 rfl
def zG (N : Nat) : St → Ro := fun s => run (bb N) N rI (dD (run (bb N) N)) s
def oS (N : Nat) (z : uJ → Ro) (w : qC → Ro) : qB → Ro := fun (i, b, j, k, l, m, c, n, o, p, d, q, r, s, t, u, x, a, y, v, e, f, g, h) =>
 cond y (
 z ((re c d b), 0, e, f, g, h)) (
 cond (a == 7) (
 w (i, b, j, k, l, m, c, n, o, p, d, q, r, s, t, u, x, a, (a == 7), v, e, f, g, h)) (
 cond (a == 8) (
 w (i, b, j, k, l, m, c, n, o, p, d, q, r, s, t, u, x, a, (a == 8), v, e, f, g, h)) (
 w (i, b, j, k, l, m, c, n, o, p, d, q, r, s, t, u, x, a, (a == 11), v, e, f, g, h))))
def uW (N : Nat) (x : qB) : Ro := oS N (fun z => uK N z) (fun z => qF N z) x
def zH (N : Nat) : List (Nat × (St → Ro)) := (ba (bb N) N rI (dD (run (bb N) N)) ++ (ba (bb N) N kA (fin du) ++ []))
theorem amG (N : Nat) : ∀ (x : qB), zG N (oQ x) = uW N x := by
 intro x
 have hX : ∀ C : Nat → St → Ro, bT C (bb N) N rI (dD (bT C (bb N) N)) (oQ x) = oS N (fun z => C 1000004 (tq z)) (fun z => C 1000002 (lX z)) x := by
  intro C
  kernel_rfl
 have h : zG N (oQ x) = oS N (fun z => zw N (tq z)) (fun z => uV N (lX z)) x := (cp (C := dM (zH N)) (bR (aX (l := (zH N)) (by kernel_rfl))) (cD (eF (bR (dl (aX (l := (zH N)) (by kernel_rfl)))) rfl)) _).trans ((hX _).trans (by kernel_rfl))
 have e2 : (fun z => zw N (tq z)) = (fun z => uK N z) := funext fun z => amy N z
 have e3 : (fun z => uV N (lX z)) = (fun z => qF N z) := funext fun z => amF N z
 rw [h, e2, e3]
 rfl
def sn (N : Nat) (a : List aA) (h b : Int) (c : Bs) (d : List aB) (e : Bss) (f : Int) (s : uI → Ro) (j : qB → Ro) : Ro :=
 cond (!(isT a h)) (
 some (.bool false, [])) (
 chk ((decide (0 ≤ h) && decide (h < ↑(List.length a)))) (
 let g : Int := (List.getD a (Int.toNat h) (aC .atype)).kind
 let k : Bs := (List.getD a (Int.toNat h) (aC .atype)).name
 let l : Bss := (List.getD a (Int.toNat h) (aC .atype)).aliases
 let m : Int := (List.getD a (Int.toNat h) (aC .atype)).items
 let n : Bss := (List.getD a (Int.toNat h) (aC .atype)).syms
 let o : Bool := (List.getD a (Int.toNat h) (aC .atype)).hasdef
 let p : Bs := (List.getD a (Int.toNat h) (aC .atype)).df
 let q : Int := (List.getD a (Int.toNat h) (aC .atype)).size
 let r : List aM := (List.getD a (Int.toNat h) (aC .atype)).fields
 let i : List Int := (List.getD a (Int.toNat h) (aC .atype)).branches
 cond (g == 1) (
 s (true, b, c, d, e, f)) (
 cond (g == 2) (
 j (a, b, c, d, e, f, g, k, l, m, n, o, p, q, r, i, false, g, (g == 2), b, c, d, e, f)) (
 cond (g == 3) (
 j (a, b, c, d, e, f, g, k, l, m, n, o, p, q, r, i, false, g, (g == 3), b, c, d, e, f)) (
 cond (g == 4) (
 j (a, b, c, d, e, f, g, k, l, m, n, o, p, q, r, i, false, g, (g == 4), b, c, d, e, f)) (
 cond (g == 5) (
 j (a, b, c, d, e, f, g, k, l, m, n, o, p, q, r, i, false, g, (g == 5), b, c, d, e, f)) (
 cond (g == 6) (
 j (a, b, c, d, e, f, g, k, l, m, n, o, p, q, r, i, false, g, (g == 6), b, c, d, e, f)) (
 j (a, b, c, d, e, f, g, k, l, m, n, o, p, q, r, i, false, g, (g == 10), b, c, d, e, f)))))))))
def wB (N : Nat) (a : List aA) (g b : Int) (c : Bs) (d : List aB) (e : Bss) (f : Int) : Ro := sn N a g b c d e f (fun z => zv N z) (fun z => uW N z)
def ara (N : Nat) : List (Nat × (St → Ro)) := ba (bb N) N aaW (fin du) ++ []
theorem aor (N : Nat) (a : List aA) (h c : Int) (d : Bs) (e : List aB) (f : Bss) (g : Int) : bc (bb N) N 126 du aaW [.agg [.sl .atype (.may false) a], .int .i64 h, .agg [.int .u64 c, .str d, .sl .aval (.may false) e, .sl .str (.may false) f, .int .i64 g]] [] = wB N a h c d e f g :=
 (bU (ara N) (by kernel_rfl) rfl (fun C => sn N a h c d e f g (fun z => C 1000004 (xT z)) (fun z => C 1000003 (oQ z))) (fun C => by kernel_rfl)).trans (Eq.trans (b := sn N a h c d e f g (fun z => afm N (xT z)) (fun z => zG N (oQ z))) (by kernel_rfl) (congr (congrArg (sn N a h c d e f g) (funext fun z => amx N z)) (funext fun z => amG N z)))
theorem ap0 (N : Nat) (hΓ : bw Try.prog (bb N)) (a : List aA) (g b : Int) (c : Bs) (d : List aB) (e : Bss) (f : Int) {v : V} {hp : List aL} (h : wB N a g b c d e f = some (v, hp)) : aI Try.prog nM [.agg [.sl .atype (.may false) a], .int .i64 g, .agg [.int .u64 b, .str c, .sl .aval (.may false) d, .sl .str (.may false) e, .int .i64 f]] v := by
 have hc := aoq
 simp only [Bool.and_eq_true] at hc
 exact ⟨hp, eI hΓ (ak4 N) Try.func21 amw hc.1 hc.2 (by decide) ((aor N a g b c d e f).trans h)⟩
end Go.Proofs.Ytdpajabhmmmjoaa
end
noncomputable section
namespace Go.Proofs.Ytdpajabhmmmjoaa
open Go.AM
set_option autoImplicit false
set_option linter.unusedSimpArgs false
set_option linter.unusedVariables false
theorem aip (N : Nat) (s : List UInt8) (hs : s.length ≤ 9223372036854775807) (hN : s.length < N) : xQ N s = some (.bool (dj s), []) := by
 show aS N (ne N) s = _
 refine m0 (fun x : List UInt8 => x.length ≤ 9223372036854775807) (fun x => x.length) (fun x => (V.bool (dj x), ([] : List aL))) ?_ N s hs hN
 rintro rec x hx hrec
 match x with
 | [] => rfl
 | c :: t =>
   have hle := apR (c :: t)
   have hg : (eg (c :: t)).2 = ((fb (c :: t)).2 : Int) := rfl
   have h0 : decide (c :: t = []) = false := by simp
   have hcl : (c :: t).length = t.length + 1 := rfl
   have hx' : (c :: t).length ≤ 9223372036854775807 := hx
   simp only [ne, aiS]
   generalize (eg (c :: t)).2 = p at hg
   by_cases hp : (fb (c :: t)).2 = 0
   ·rw [if_pos hp]
    simp (disch := omega) only [aZ, h0]
   ·rw [if_neg hp]
    have e : p.toNat = (fb (c :: t)).2 := by omega
    simp (disch := omega) only [aZ, h0, e]
    exact hrec ((c :: t).drop (fb (c :: t)).2) (by simp only [List.length_drop]; omega) (by simp only [List.length_drop]; omega)
theorem aB.eta (v : aB) : aB.mk v.n v.s v.l v.keys v.branch = v := by cases v; rfl
theorem gl {α : Type} (l : List α) (i : Nat) (d : α) (h : i < l.length) : l.drop i = l.getD i d :: l.drop (i + 1) := by
 rw [List.drop_eq_getElem_cons h, List.getD_eq_getElem?_getD, List.getElem?_eq_getElem h]
 rfl
theorem ap1 : ∀ (l : List aB) (i : Nat), szL (l.drop i) ≤ szL l
 | [], i => by simp
 | v :: l, 0 => by simp
 | v :: l, i + 1 => by
   have := ap1 l i
   simp only [List.drop_succ_cons, szL]
   omega
theorem ac5 (l : List aB) (i : Nat) (h : i < l.length) : szV (l.getD i (aC .aval)) ≤ szL l := by
 have h1 := ap1 l i
 rw [gl l i (aC .aval) h, szL] at h1
 omega
theorem yK (v : aB) : szV v = szL v.l + 1 := by cases v; rfl
theorem aos (N : Nat) (ts : List aA) (t : Int) : aaz N ts t = some (.bool (isT ts t), []) := by
 simp only [aaz, akQ, isT]
 by_cases h : 0 ≤ t
 ·simp (disch := omega) only [aZ, ]
 ·simp (disch := omega) only [aZ, ]
theorem ak5 (N : Nat) (n : Int) (s : List UInt8) (l : List aB) (ks : List (List UInt8)) (b : Int) : wj N n s l ks b = some (.bool (ca n s l ks b), []) := by
 simp only [wj, agV, ca]
 cases n == 0 <;> cases decide (s = ([] : List UInt8)) <;> cases (l.length : Int) == 0 <;> cases (ks.length : Int) == 0 <;> rfl
theorem aiq (N : Nat) (a0 : Int) (a1 : List UInt8) (a2 : List (List UInt8)) (a3 : Int) (a4 : List (List UInt8)) (a5 : Bool) (a6 : List UInt8) (a7 : Int) (a8 : List aM) (a9 : List Int) (n : Int) :
  tj N a0 a1 a2 a3 a4 a5 a6 a7 a8 a9 n = some (.bool (re a0 a4 n), []) := by
 simp only [tj, acZ, re]
 cases a0 == 2 <;> cases a0 == 3 <;> cases a0 == 5 <;> cases a0 == 10 <;> rfl
theorem ak6 (N : Nat) (a0 : Int) (a1 : List UInt8) (a2 : List (List UInt8)) (a3 : Int) (a4 : List (List UInt8)) (a5 : Bool) (a6 : List UInt8) (a7 : Int) (a8 : List aM) (a9 : List Int) (s : List UInt8) :
  wl N a0 a1 a2 a3 a4 a5 a6 a7 a8 a9 s = some (.bool (wd a0 a7 s), []) := by
 simp only [wl, agY, wd]
 cases a0 == 8 <;> cases a0 == 11 <;> rfl
def nP (l : List (List UInt8)) (i : Nat) : Bool := match i with | 0 => eP l | i + 1 => pR (l.getD i []) (l.drop (i + 1))
theorem ag7 (l : List (List UInt8)) : nP l l.length = true := by
 unfold nP
 split
 ·rename_i h
  rw [List.length_eq_zero_iff.1 h]; rfl
 ·rename_i i h
  rw [show l.drop (i + 1) = [] from List.drop_eq_nil_of_le (by omega)]
  rfl
theorem afn (l : List (List UInt8)) (i : Nat) (h : i < l.length) :
  nP l i = (dj (l.getD i []) && ((decide (i = 0) || Op.bytesLess (l.getD (i - 1) []) (l.getD i [])) && nP l (i + 1))) := by
 cases i with
 | zero =>
   have := gl l 0 [] h
   rw [List.drop_zero] at this
   simp only [nP]
   conv => lhs; rw [this]
   simp [eP]
 | succ i =>
   simp only [nP]
   rw [gl l (i + 1) [] h]
   simp [pR]
theorem ak7 (N : Nat) (l : List (List UInt8)) (hl : l.length ≤ 9223372036854775807) (hN : l.length < N) : aaT N l = some (.bool (eP l), []) := by
 show aS N (qz N) (l, l, (l.length : Int), 0) = some (.bool (nP l 0), [])
 refine m0 (fun x : List (List UInt8) × List (List UInt8) × Int × Int => l = x.1 ∧ l = x.2.1 ∧ x.2.2.1 = (l.length : Int) ∧ ∃ i : Nat, x.2.2.2 = (i : Int) ∧ i ≤ l.length) (fun x => l.length - x.2.2.2.toNat)
  (fun x => (V.bool (nP l x.2.2.2.toNat), ([] : List aL))) ?_ N _ ⟨rfl, rfl, rfl, 0, rfl, by omega⟩ (by simp; omega)
 rintro rec ⟨x1, x2, x3, x4⟩ ⟨e1, e2, e3, i, e4, hi⟩ hrec
 simp only at e1 e2 e3 e4
 subst e1 e2 e3 e4
 simp only [qz, Int.toNat_natCast]
 rcases Nat.lt_or_ge i l.length with hlt | hge
 ·rw [afn l i hlt]
  have hr := hrec (l, l, (l.length : Int), ((i + 1 : Nat) : Int)) ⟨rfl, rfl, rfl, i + 1, rfl, by omega⟩ (by simp only [Int.toNat_natCast]; omega)
  simp only [Int.toNat_natCast] at hr
  have e5 : IntKind.wrap .i64 ((i : Int) + 1) = ((i + 1 : Nat) : Int) := by rw [aJ _ (by omega)]; rfl
  show cond _ _ _ = _
  simp only [aC]
  cases hv : dj (l.getD i [])
  ·simp (disch := omega) only [aZ, ]
  ·rcases Nat.eq_zero_or_pos i with h0 | h0
   ·subst h0
    simp (disch := omega) only [aZ, e5, hr, decide_true]
   ·have e6 : IntKind.wrap .i64 ((i : Int) - 1) = ((i - 1 : Nat) : Int) := by rw [aJ _ (by omega)]; omega
    cases hb : Op.bytesLess (l.getD (i - 1) []) (l.getD i [])
    ·simp (disch := omega) only [aZ, e6, hb]
    ·simp (disch := omega) only [aZ, e5, e6, hb, hr]
 ·have : i = l.length := by omega
  subst this
  rw [ag7]
  simp (disch := omega) only [aZ, ]
theorem anP (ts : List aA) (t : Int) : ∀ (l : List aB) (i : Nat), (0 ≤ xN ts t l i) ↔ bO ts t l = false
 | [], i => by simp [xN, bO]
 | v :: l, i => by
   have := anP ts t l (i + 1)
   simp only [xN, bO]
   cases h : bu ts t v <;> simp [h, this]
theorem ak8 (N : Nat) (ts : List aA) (t : Int) (l : List aB) (h : szL l + 1000000 ≤ N) : wq N ts t l = some (.bool (bO ts t l), []) := by
 simp only [wq, ag1]
 simp (disch := omega) only [aZ, Bool.not_not]
theorem atS (N : Nat) (ts : List aA) (t : Int) (l : List aB) (h : szL l + 1000000 ≤ N) : bX N l ts t = some (.bool (!bO ts t l), []) := by
 simp only [bX, ef]
 have := anP ts t l 0
 cases hb : bO ts t l
 ·rw [hb] at this
  have := this.2 rfl
  simp (disch := omega) only [aZ, ]
 ·rw [hb] at this
  have : ¬ 0 ≤ xN ts t l 0 := fun h => by simpa using this.1 h
  simp (disch := omega) only [aZ, ]
theorem arb (N : Nat) (ts : List aA) (t n : Int) (s : List UInt8) (l : List aB) (ks : List (List UInt8)) (b : Int) (h : szL l + 1 + 1000000 ≤ N) :
  rF N n s l ks b ts t = some (.bool (!bu ts t (.mk n s l ks b)), []) := by
 simp only [rF, abY]
 simp (disch := omega) only [aZ, ]
theorem atT (N : Nat) (ts : List aA) (t : Int) (l : List aB) (hl : l.length ≤ 9223372036854775807) (h : szL l + 1000000 ≤ N) (hN : l.length < N) :
  cP N l ts t = some (.int .i64 (xN ts t l 0), []) := by
 show aS N (bL N) (l, ts, t, (l.length : Int), 0) = _
 refine m0 (fun x : List aB × List aA × Int × Int × Int => l = x.1 ∧ ts = x.2.1 ∧ t = x.2.2.1 ∧ x.2.2.2.1 = (l.length : Int) ∧ ∃ i : Nat, x.2.2.2.2 = (i : Int) ∧ i ≤ l.length) (fun x => l.length - x.2.2.2.2.toNat)
  (fun x => (V.int .i64 (xN ts t (l.drop x.2.2.2.2.toNat) x.2.2.2.2.toNat), ([] : List aL))) ?_ N _ ⟨rfl, rfl, rfl, rfl, 0, rfl, by omega⟩ (by simp; omega)
 rintro rec ⟨x1, x2, x3, x4, x5⟩ ⟨e1, e2, e3, e4, i, e5, hi⟩ hrec
 simp only at e1 e2 e3 e4 e5
 subst e1 e2 e3 e4 e5
 simp only [bL, Int.toNat_natCast]
 rcases Nat.lt_or_ge i l.length with hlt | hge
 ·have hr := hrec (l, ts, t, (l.length : Int), ((i + 1 : Nat) : Int)) ⟨rfl, rfl, rfl, rfl, i + 1, rfl, by omega⟩ (by simp only [Int.toNat_natCast]; omega)
  simp only [Int.toNat_natCast] at hr
  have e6 : IntKind.wrap .i64 ((i : Int) + 1) = ((i + 1 : Nat) : Int) := by rw [aJ _ (by omega)]; rfl
  have hz := ac5 l i hlt
  rw [yK] at hz
  rw [gl l i (aC .aval) hlt, xN]
  simp only [aB.eta]
  cases hv : bu ts t (l.getD i (aC .aval))
  ·simp (disch := omega) only [aZ, hv, Bool.false_eq_true]
  ·simp (disch := omega) only [aZ, hv, e6, hr]
 ·have : i = l.length := by omega
  subst this
  rw [List.drop_length, xN]
  simp (disch := omega) only [aZ, ]
theorem ap2 (N : Nat) (ts : List aA) (a0 : Int) (a1 : List UInt8) (a2 : List (List UInt8)) (a3 : Int) (a4 : List (List UInt8)) (a5 : Bool) (a6 : List UInt8) (a7 : Int) (fs : List aM) (a9 : List Int) (l : List aB)
  (hl : fs.length ≤ 9223372036854775807) (h : szL l + 1000000 ≤ N) (hN : l.length < N) :
  tm N ts a0 a1 a2 a3 a4 a5 a6 a7 fs a9 l = some (.bool (decide (List.length l = List.length fs) && lA ts fs l), []) := by
 simp only [tm, oN]
 by_cases he : l.length = fs.length
 rotate_left
 ·have e1 : decide (l.length = fs.length) = false := decide_eq_false he
  simp (disch := omega) only [aZ, e1]
 have e1 : decide (l.length = fs.length) = true := decide_eq_true he
 simp (disch := omega) only [aZ, e1]
 refine m0 (fun x : List aB × List aA × List aM × Int × Int => l = x.1 ∧ ts = x.2.1 ∧ fs = x.2.2.1 ∧ x.2.2.2.1 = (fs.length : Int) ∧ ∃ i : Nat, x.2.2.2.2 = (i : Int) ∧ i ≤ fs.length) (fun x => fs.length - x.2.2.2.2.toNat)
  (fun x => (V.bool (lA ts (fs.drop x.2.2.2.2.toNat) (l.drop x.2.2.2.2.toNat)), ([] : List aL))) ?_ N _ ⟨rfl, rfl, rfl, rfl, 0, rfl, by omega⟩ (by simp; omega)
 rintro rec ⟨x1, x2, x3, x4, x5⟩ ⟨e1, e2, e3, e4, i, e5, hi⟩ hrec
 simp only at e1 e2 e3 e4 e5
 subst e1 e2 e3 e4 e5
 simp only [rE, Int.toNat_natCast]
 rcases Nat.lt_or_ge i fs.length with hlt | hge
 ·have hr := hrec (l, ts, fs, (fs.length : Int), ((i + 1 : Nat) : Int)) ⟨rfl, rfl, rfl, rfl, i + 1, rfl, by omega⟩ (by simp only [Int.toNat_natCast]; omega)
  simp only [Int.toNat_natCast] at hr
  have e6 : IntKind.wrap .i64 ((i : Int) + 1) = ((i + 1 : Nat) : Int) := by rw [aJ _ (by omega)]; rfl
  have hlt' : i < l.length := by omega
  have hz := ac5 l i hlt'
  rw [yK] at hz
  rw [gl l i (aC .aval) hlt', gl fs i (aC .afield) hlt, lA]
  simp only [aB.eta, List.headD_cons, List.tail_cons]
  cases hv : bu ts (fs.getD i (aC .afield)).typ (l.getD i (aC .aval))
  ·simp (disch := omega) only [aZ, hv]
  ·simp (disch := omega) only [aZ, hv, e6, hr]
 ·have : i = fs.length := by omega
  subst this
  rw [List.drop_length, ← he, List.drop_length, lA]
  simp (disch := omega) only [aZ, ]
def ap3 (a b : List (List UInt8)) : Bool := decide (a = b)
theorem asZ (a b : List (List UInt8)) (i : Nat) (h : i < a.length) (h' : i < b.length) : ap3 (a.drop i) (b.drop i) = (decide (a.getD i (aC .str) = b.getD i (aC .str)) && ap3 (a.drop (i + 1)) (b.drop (i + 1))) := by
 unfold ap3
 rw [← Bool.decide_and, decide_eq_decide, gl a i (aC .str) h, gl b i (aC .str) h', List.cons.injEq]
theorem arc (N : Nat) (a b : List (List UInt8)) (hl : a.length ≤ 9223372036854775807) (hN : a.length < N) : eR N a b = some (.bool (decide (a = b)), []) := by
 simp only [eR, dC]
 by_cases he : a.length = b.length
 rotate_left
 ·have e1 : decide (a = b) = false := decide_eq_false (fun h => he (by rw [h]))
  simp (disch := omega) only [aZ, e1]
 simp (disch := omega) only [aZ, ]
 refine m0 (fun x : List (List UInt8) × List (List UInt8) × Int × Int => a = x.1 ∧ b = x.2.1 ∧ x.2.2.1 = (a.length : Int) ∧ ∃ i : Nat, x.2.2.2 = (i : Int) ∧ i ≤ a.length) (fun x => a.length - x.2.2.2.toNat)
  (fun x => (V.bool (ap3 (a.drop x.2.2.2.toNat) (b.drop x.2.2.2.toNat)), ([] : List aL))) ?_ N _ ⟨rfl, rfl, rfl, 0, rfl, by omega⟩ (by simp; omega)
 rintro rec ⟨x1, x2, x3, x4⟩ ⟨e1, e2, e3, i, e4, hi⟩ hrec
 simp only at e1 e2 e3 e4
 subst e1 e2 e3 e4
 simp only [eG, Int.toNat_natCast]
 rcases Nat.lt_or_ge i a.length with hlt | hge
 ·have hr := hrec (a, b, (a.length : Int), ((i + 1 : Nat) : Int)) ⟨rfl, rfl, rfl, i + 1, rfl, by omega⟩ (by simp only [Int.toNat_natCast]; omega)
  simp only [Int.toNat_natCast] at hr
  have e6 : IntKind.wrap .i64 ((i : Int) + 1) = ((i + 1 : Nat) : Int) := by rw [aJ _ (by omega)]; rfl
  rw [asZ a b i hlt (by omega)]
  by_cases hv : a.getD i (aC .str) = b.getD i (aC .str)
  ·have e8 : decide (a.getD i (aC .str) = b.getD i (aC .str)) = true := decide_eq_true hv
   simp (disch := omega) only [aZ, e8, e6, hr]
  ·have e8 : decide (a.getD i (aC .str) = b.getD i (aC .str)) = false := decide_eq_false hv
   simp (disch := omega) only [aZ, e8]
 ·have : i = a.length := by omega
  subst this
  have e9 : ap3 (a.drop a.length) (b.drop a.length) = true := by rw [List.drop_length, he, List.drop_length]; rfl
  rw [e9]
  simp (disch := omega) only [aZ, ]
theorem anQ : ∀ (l m : List aB), l.length ≠ m.length → rD l m = false
 | [], m, h => by
   have : ¬ m.length = 0 := fun e => h (by simp [e])
   simp only [rD, decide_eq_false this]
 | v :: l, [], h => by simp [rD]
 | v :: l, w :: m, h => by
   simp only [rD, List.tail_cons, anQ l m (by simpa using h), Bool.and_false]
theorem ak9 (N : Nat) (a b : List aB) (hl : a.length ≤ 9223372036854775807) (h : szL a + 1000000 ≤ N) (hN : a.length < N) :
  bC N a b = some (.bool (rD a b), []) := by
 simp only [bC, bm]
 by_cases he : a.length = b.length
 rotate_left
 ·rw [anQ a b he]
  simp (disch := omega) only [aZ, ]
 simp (disch := omega) only [aZ, ]
 refine m0 (fun x : List aB × List aB × Int × Int => b = x.1 ∧ a = x.2.1 ∧ x.2.2.1 = (a.length : Int) ∧ ∃ i : Nat, x.2.2.2 = (i : Int) ∧ i ≤ a.length) (fun x => a.length - x.2.2.2.toNat)
  (fun x => (V.bool (rD (a.drop x.2.2.2.toNat) (b.drop x.2.2.2.toNat)), ([] : List aL))) ?_ N _ ⟨rfl, rfl, rfl, 0, rfl, by omega⟩ (by simp; omega)
 rintro rec ⟨x1, x2, x3, x4⟩ ⟨e1, e2, e3, i, e4, hi⟩ hrec
 simp only at e1 e2 e3 e4
 subst e1 e2 e3 e4
 simp only [bz, Int.toNat_natCast]
 rcases Nat.lt_or_ge i a.length with hlt | hge
 ·have hr := hrec (b, a, (a.length : Int), ((i + 1 : Nat) : Int)) ⟨rfl, rfl, rfl, i + 1, rfl, by omega⟩ (by simp only [Int.toNat_natCast]; omega)
  simp only [Int.toNat_natCast] at hr
  have e6 : IntKind.wrap .i64 ((i : Int) + 1) = ((i + 1 : Nat) : Int) := by rw [aJ _ (by omega)]; rfl
  have hz := ac5 a i hlt
  rw [yK] at hz
  rw [gl a i (aC .aval) hlt, gl b i (aC .aval) (by omega), rD]
  simp only [aB.eta, List.headD_cons, List.tail_cons]
  have e9 : decide (0 < (b.getD i (aC .aval) :: b.drop (i + 1)).length) = true := by simp
  cases hv : yv (a.getD i (aC .aval)) (b.getD i (aC .aval))
  ·simp (disch := omega) only [aZ, hv, e9]
  ·simp (disch := omega) only [aZ, hv, e6, hr, e9]
 ·have : i = a.length := by omega
  subst this
  rw [List.drop_length, he, List.drop_length, rD]
  simp (disch := omega) only [aZ, List.length_nil, decide_true]
theorem ask (N : Nat) (n : Int) (s : List UInt8) (l : List aB) (ks : List (List UInt8)) (b n2 : Int) (s2 : List UInt8) (l2 : List aB) (ks2 : List (List UInt8)) (b2 : Int) (h : szL l + 1000000 ≤ N) :
  ww N n s l ks b n2 s2 l2 ks2 b2 = some (.bool (yv (.mk n s l ks b) (.mk n2 s2 l2 ks2 b2)), []) := by
 simp only [ww, ag5, yv, aB.n, aB.s, aB.l, aB.keys, aB.branch]
 by_cases h1 : n = n2
 rotate_left
 ·simp (disch := omega) only [aZ, ]
 by_cases h2 : s = s2
 rotate_left
 ·simp (disch := omega) only [aZ, decide_eq_false h2]
  simp [h2]
 by_cases h3 : b = b2
 rotate_left
 ·simp (disch := omega) only [aZ, decide_eq_true h2]
 by_cases h4 : ks = ks2
 ·simp (disch := omega) only [aZ, decide_eq_true h2, decide_eq_true h4]
  simp [h2, h4]
 ·simp (disch := omega) only [aZ, decide_eq_true h2, decide_eq_false h4]
  simp [h4]
theorem asl (N : Nat) (n : Int) (s : List UInt8) (l : List aB) (ks : List (List UInt8)) (b : Int) (hl : l.length ≤ 9223372036854775807) (h : szL l + 1000000 ≤ N) (hN : l.length < N) :
  wA N n s l ks b = some (.tup [.int .i64 (na (.mk n s l ks b)).1, .int .i64 (na (.mk n s l ks b)).2], []) := by
 simp only [wA, sm, na]
 refine m0 (fun x : Int × Int × List aB × Int × Int => l = x.2.2.1 ∧ x.2.2.2.1 = (l.length : Int) ∧ ∃ i : Nat, x.2.2.2.2 = (i : Int) ∧ i ≤ l.length) (fun x => l.length - x.2.2.2.2.toNat)
  (fun x => (V.tup [.int .i64 (aid (l.drop x.2.2.2.2.toNat) x.1 x.2.1).1, .int .i64 (aid (l.drop x.2.2.2.2.toNat) x.1 x.2.1).2], ([] : List aL))) ?_ N _ ⟨rfl, rfl, 0, rfl, by omega⟩ (by simp; omega)
 rintro rec ⟨x1, x2, x3, x4, x5⟩ ⟨e3, e4, i, e5, hi⟩ hrec
 simp only at e3 e4 e5
 subst e3 e4 e5
 simp only [uH, Int.toNat_natCast]
 rcases Nat.lt_or_ge i l.length with hlt | hge
 ·have e6 : IntKind.wrap .i64 ((i : Int) + 1) = ((i + 1 : Nat) : Int) := by rw [aJ _ (by omega)]; rfl
  have hz := ac5 l i hlt
  rw [yK] at hz
  rw [gl l i (aC .aval) hlt, aid]
  simp only [aB.eta]
  have e10 : decide ((i : Int) < (l.length : Int)) = true := decide_eq_true (by omega)
  have e11 : (decide ((0 : Int) ≤ (i : Int)) && decide ((i : Int) < (l.length : Int))) = true := by rw [e10]; simp
  have e12 : decide (1000000 ≤ N - (szL (l.getD i (aC .aval)).l + 1)) = true := decide_eq_true (by omega)
  simp only [e10, e11, e12, akz, cond_true, e6]
  exact hrec (_, _, l, (l.length : Int), ((i + 1 : Nat) : Int)) ⟨rfl, rfl, i + 1, rfl, by omega⟩ (by simp only [Int.toNat_natCast]; omega)
 ·have : i = l.length := by omega
  subst this
  rw [List.drop_length, aid]
  simp (disch := omega) only [aZ, ]
end Go.Proofs.Ytdpajabhmmmjoaa
end
noncomputable section
namespace Go.Proofs.Ytdpajabhmmmjoaa
open Go.AM
set_option autoImplicit false
set_option linter.unusedSimpArgs false
set_option linter.unusedVariables false
set_option maxRecDepth 100000
theorem avo (N : Nat) (v : Bool) (n : Int) (s : List UInt8) (l : List aB) (ks : List (List UInt8)) (b : Int) : (zv N (v, n, s, l, ks, b)).map (·.1) = some (.bool (v && ca n s l ks b)) := by
 cases v <;> rfl
theorem avp (N : Nat) (v : Bool) (n : Int) (s : List UInt8) (l : List aB) (ks : List (List UInt8)) (b : Int) : (uK N (v, n, s, l, ks, b)).map (·.1) = some (.bool (v && ca n s l ks b)) := by
 cases v <;> rfl
theorem aud (N : Nat) (v : Bool) (n : Int) (s : List UInt8) (l : List aB) (ks : List (List UInt8)) (b : Int) : (uM N (v, n, s, l, ks, b)).map (·.1) = some (.bool (v && ca n s l ks b)) := by
 cases v <;> rfl
theorem aue (N : Nat) (v : Bool) (n : Int) (s : List UInt8) (l : List aB) (ks : List (List UInt8)) (b : Int) : (uO N (v, n, s, l, ks, b)).map (·.1) = some (.bool (v && ca n s l ks b)) := by
 cases v <;> rfl
theorem avq (N : Nat) (v : Bool) (n : Int) (s : List UInt8) (l : List aB) (ks : List (List UInt8)) (b : Int) : (uR N (v, n, s, l, ks, b)).map (·.1) = some (.bool (v && ca n s [] [] b)) := by
 cases v <;> rfl
theorem ala (N : Nat) (v : Bool) (n : Int) (s : List UInt8) (l : List aB) (ks : List (List UInt8)) (b : Int) : (uU N (v, n, s, l, ks, b)).map (·.1) = some (.bool (v && ca n s [] ks 0)) := by
 cases v <;> rfl
theorem asm (N : Nat) (ts : List aA) (t n : Int) (s : List UInt8) (l : List aB) (ks : List (List UInt8)) (b : Int) (h : szL l + 1000000 ≤ N) :
  (wB N ts t n s l ks b).map (·.1) = some (.bool (bu ts t (.mk n s l ks b))) := by
 simp only [wB, sn, bu]
 by_cases ht : isT ts t = true
 rotate_left
 ·simp only [Bool.not_eq_true] at ht
  simp only [ht, Bool.not_false, cond_true, Bool.false_and, Option.map_some]
 have ht' := ht
 simp only [isT, Bool.and_eq_true, decide_eq_true_eq] at ht'
 have e0 : (decide (0 ≤ t) && decide (t < (ts.length : Int))) = true := ht
 simp only [ht, e0, Bool.not_true, cond_false, akz, Bool.true_and]
 generalize ts.getD t.toNat (aC .atype) = k
 have c1 : decide (1000000 ≤ N - szL l) = true := decide_eq_true (by omega)
 by_cases h1 : k.kind = 1
 ·simp (disch := omega) only [aZ, h1, avo]
 have h1' : (k.kind == 1) = false := by simpa using h1
 simp only [h1', cond_false]
 by_cases hn : k.kind = 2 ∨ k.kind = 3 ∨ k.kind = 4 ∨ k.kind = 5 ∨ k.kind = 6 ∨ k.kind = 10
 ·rcases hn with e | e | e | e | e | e <;>
   (simp only [e]
    simp (disch := omega) only [aZ, uW, oS, avp])
 have d2 : (k.kind == 2) = false := by simp; omega
 have d3 : (k.kind == 3) = false := by simp; omega
 have d4 : (k.kind == 4) = false := by simp; omega
 have d5 : (k.kind == 5) = false := by simp; omega
 have d6 : (k.kind == 6) = false := by simp; omega
 have d10 : (k.kind == 10) = false := by simp; omega
 simp only [d2, d3, d4, d5, d6, d10, cond_false, uW, oS, Bool.or_false, Bool.false_or]
 by_cases hx : k.kind = 7 ∨ k.kind = 8 ∨ k.kind = 11
 ·rcases hx with e | e | e <;>
   (simp only [e]
    simp (disch := omega) only [aZ, qF, oR, aud])
 have d7 : (k.kind == 7) = false := by simp; omega
 have d8 : (k.kind == 8) = false := by simp; omega
 have d11 : (k.kind == 11) = false := by simp; omega
 simp only [d7, d8, d11, cond_false, qF, oR, Bool.or_false, Bool.false_or]
 by_cases h12 : k.kind = 12
 ·simp only [h12]
  simp (disch := omega) only [aZ, c1, aue]
 have d12 : (k.kind == 12) = false := by simp; omega
 simp only [d12, cond_false]
 by_cases h13 : k.kind = 13
 ·simp only [h13]
  simp (disch := omega) only [aZ, c1]
  cases (ks.length : Int) == (l.length : Int) <;> cases eP ks <;> simp only [cond_true, cond_false, avq, Bool.false_and, Bool.true_and]
 have d13 : (k.kind == 13) = false := by simp; omega
 simp only [d13, cond_false]
 by_cases h9 : k.kind = 9
 ·simp only [h9]
  simp (disch := omega) only [aZ, c1, aue]
 have d9 : (k.kind == 9) = false := by simp; omega
 simp only [d9, cond_false]
 by_cases h14 : k.kind = 14
 ·simp only [h14]
  simp (disch := omega) only [aZ, ]
  by_cases b0 : 0 ≤ b
  rotate_left
  ·simp (disch := omega) only [aZ, ala]
  by_cases b1 : b < (k.branches.length : Int)
  rotate_left
  ·simp (disch := omega) only [aZ, ala]
  match l, h, c1 with
  | [], h, c1 =>
    have e1 : ((List.length ([] : List aB) : Int) == 1) = false := rfl
    have e2 : decide (0 ≤ b) = true := decide_eq_true b0
    have e3 : decide (b < (k.branches.length : Int)) = true := decide_eq_true b1
    simp only [e1, e2, e3, cond_true, cond_false, ala, Bool.false_and, Bool.and_false, Bool.true_and]
  | [v], h, c1 =>
    have hz : szV v = szL v.l + 1 := yK v
    simp only [szL] at h
    have e1 : (decide ((0 : Int) ≤ b) && decide (b < (k.branches.length : Int))) = true := by simp [b0, b1]
    have e2 : decide (1000000 ≤ N - (szL v.l + 1)) = true := decide_eq_true (by omega)
    have e3 : ([v] : List aB).getD (Int.toNat 0) (aC .aval) = v := rfl
    simp only [e1, e3, aB.eta, akz, e2]
    simp (disch := omega) only [aZ, ala, List.length_singleton, bO]
    rfl
  | v :: w :: l, h, c1 =>
    have e1 : (((v :: w :: l).length : Int) == 1) = false := by simp; omega
    simp (disch := omega) only [aZ, ala, e1]
 have d14 : (k.kind == 14) = false := by simp; omega
 simp only [d14, cond_false, aud, Bool.false_and]
theorem ab0 (a0 a1 : Int) (hc : (decide (0 ≤ (a1 : Int)) && decide ((a1 : Int) ≤ 32)) = true) : aI Try.prog aaP [.int .u32 a0, .int .i64 a1] (.int .u8 (iM a0 a1)) := by
 refine aI.fits fun hf => ?_
 have r0 := apO (hf (.int .u32 a0) (by simp))
 have hc1 : 0 ≤ a1 ∧ a1 ≤ 32 := by simpa using hc
 exact an5 akF 1000 a0 a1 (ajQ 1000 a0 a1 r0 hc1)
theorem afZ : aI Try.prog t7 [.int .u32 65533] (.str (xM 65533)) :=
 agS 0 (acW 0 (by intro a0 h; simp at h) ab0) 65533 (abZ 0 65533 (by omega) (.inl (by omega)))
theorem amH (a0 : Int) : aI Try.prog t7 [.int .u32 a0] (.str (xM a0)) := by
 refine aI.fits fun hf => ?_
 have r0 := apO (hf (.int .u32 a0) (by simp))
 refine agS 1 (acW 1 (fun b h => ?_) ab0) a0 (abZ 1 a0 r0 (.inr (by omega)))
 have hb : b = 65533 := by simpa using h
 subst hb
 exact afZ
theorem ajR (a0 : List UInt8) (hc : (!decide (a0 = [])) = true) : aI Try.prog zr [.str a0] (.tup [.int .u32 ((eg a0).1), .int .i64 ((eg a0).2)]) := by
 refine aI.fits fun hf => ?_
 have r0 := apP (hf (.str a0) (by simp))
 have hc1 : a0 ≠ [] := by simpa using hc
 exact amd (ajD amH) 1000 a0 (aio 995 a0 hc1 r0)
theorem aaX (a0 : List UInt8) : aI Try.prog uE [.str a0] (.bool (dj a0)) := by
 refine aI.fits fun hf => ?_
 have r0 := apP (hf (.str a0) (by simp))
 exact ame (ajG ajR) (a0.length + 1) a0 (aip (a0.length + 1) a0 r0 (by omega))
theorem auw (ts : List aA) (t : Int) : aI Try.prog agN [.agg [.sl .atype (.may false) ts], .int .i64 t] (.bool (isT ts t)) :=
 asj apS 0 _ _ (aos 0 ts t)
theorem as0 (n : Int) (s : List UInt8) (l : List aB) (ks : List (List UInt8)) (b : Int) : aI Try.prog ach [.agg [.int .u64 n, .str s, .sl .aval (.may false) l, .sl .str (.may false) ks, .int .i64 b]] (.bool (ca n s l ks b)) :=
 apU amf 0 _ _ _ _ _ (ak5 0 n s l ks b)
theorem ard (a0 : Int) (a1 : List UInt8) (a2 : List (List UInt8)) (a3 : Int) (a4 : List (List UInt8)) (a5 : Bool) (a6 : List UInt8) (a7 : Int) (a8 : List aM) (a9 : List Int) (n : Int) :
  aI Try.prog zp [.agg [.int .i64 a0, .str a1, .sl .str (.may false) a2, .int .i64 a3, .sl .str (.may false) a4, .bool a5, .str a6, .int .i64 a7, .sl .afield (.may false) a8, .sl (.num .i64) (.may false) a9], .int .u64 n] (.bool (re a0 a4 n)) :=
 amh ajJ 0 _ _ _ _ _ _ _ _ _ _ _ (aiq 0 a0 a1 a2 a3 a4 a5 a6 a7 a8 a9 n)
theorem as1 (a0 : Int) (a1 : List UInt8) (a2 : List (List UInt8)) (a3 : Int) (a4 : List (List UInt8)) (a5 : Bool) (a6 : List UInt8) (a7 : Int) (a8 : List aM) (a9 : List Int) (s : List UInt8) :
  aI Try.prog ack [.agg [.int .i64 a0, .str a1, .sl .str (.may false) a2, .int .i64 a3, .sl .str (.may false) a4, .bool a5, .str a6, .int .i64 a7, .sl .afield (.may false) a8, .sl (.num .i64) (.may false) a9], .str s] (.bool (wd a0 a7 s)) :=
 apV (ami aaX) 0 _ _ _ _ _ _ _ _ _ _ _ (ak6 0 a0 a1 a2 a3 a4 a5 a6 a7 a8 a9 s)
theorem as2 (l : List (List UInt8)) : aI Try.prog acj [.sl .str (.may false) l] (.bool (eP l)) := by
 refine aI.fits fun hf => ?_
 have r0 := aic (hf (.sl .str (.may false) l) (by simp))
 exact apW (amk aaX) (l.length + 1) l (ak7 _ l r0 (by omega))
def ap4 (n : Nat) : Prop := ∀ (ts : List aA) (t m : Int) (s : List UInt8) (l : List aB) (ks : List (List UInt8)) (b : Int), szL l + 1 ≤ n →
 aI Try.prog nM [.agg [.sl .atype (.may false) ts], .int .i64 t, .agg [.int .u64 m, .str s, .sl .aval (.may false) l, .sl .str (.may false) ks, .int .i64 b]] (.bool (bu ts t (.mk m s l ks b)))
def avf (n : Nat) : Prop := ∀ (ts : List aA) (t : Int) (l : List aB), szL l ≤ n → aI Try.prog aci [.agg [.sl .atype (.may false) ts], .int .i64 t, .sl .aval (.may false) l] (.bool (bO ts t l))
def avr (n : Nat) : Prop := ∀ (ts : List aA) (a0 : Int) (a1 : List UInt8) (a2 : List (List UInt8)) (a3 : Int) (a4 : List (List UInt8)) (a5 : Bool) (a6 : List UInt8) (a7 : Int) (a8 : List aM) (a9 : List Int) (l : List aB), szL l ≤ n →
 aI Try.prog zq [.agg [.sl .atype (.may false) ts], .agg [.int .i64 a0, .str a1, .sl .str (.may false) a2, .int .i64 a3, .sl .str (.may false) a4, .bool a5, .str a6, .int .i64 a7, .sl .afield (.may false) a8, .sl (.num .i64) (.may false) a9], .sl .aval (.may false) l] (.bool (decide (List.length l = List.length a8) && lA ts a8 l))
theorem ac6 : ∀ l : List aB, l.length ≤ szL l
 | [] => by simp
 | v :: l => by simp only [List.length_cons, szL]; have := yK v; have := ac6 l; omega
theorem aux (n : Nat) (hF : ap4 n) : avf n := by
 have h1 : ∀ (m : Int) (s : List UInt8) (l : List aB) (ks : List (List UInt8)) (b : Int) (ts : List aA) (t : Int), szL l + 1 ≤ n →
   aI Try.prog oK [.agg [.int .u64 m, .str s, .sl .aval (.may false) l, .sl .str (.may false) ks, .int .i64 b], .ea [.sl .atype (.may false) ts], .ea [.int .i64 t]] (.bool (!bu ts t (.mk m s l ks b))) := by
  intro m s l ks b ts t hs
  refine ak0 (n + 1000000) (aim _ ?_) m s l ks b ts t (arb _ ts t m s l ks b (by omega))
  intro ts t m s l ks b hd
  have := of_decide_eq_true hd
  exact hF ts t m s l ks b (by omega)
 have h2 : ∀ (l : List aB) (ts : List aA) (t : Int), szL l ≤ n → aI Try.prog cV [.sl .aval (.may false) l, .fn oK [.ea [.sl .atype (.may false) ts], .ea [.int .i64 t]]] (.int .i64 (xN ts t l 0)) := by
  intro l ts t hs
  refine aI.fits fun hf => ?_
  have r0 := aic (hf (.sl .aval (.may false) l) (by simp))
  have hlen : l.length ≤ szL l := ac6 l
  refine lB (n + 1000000) (kZ _ ?_) l ts t (atT _ ts t l r0 (by omega) (by omega))
  intro m s l ks b ts t hd
  have := of_decide_eq_true hd
  exact h1 m s l ks b ts t (by omega)
 have h3 : ∀ (l : List aB) (ts : List aA) (t : Int), szL l ≤ n → aI Try.prog cF [.sl .aval (.may false) l, .fn oK [.ea [.sl .atype (.may false) ts], .ea [.int .i64 t]]] (.bool (!bO ts t l)) := by
  intro l ts t hs
  refine kv (n + 1000000) (jM _ ?_) l ts t (atS _ ts t l (by omega))
  intro l ts t hd
  have := of_decide_eq_true hd
  exact h2 l ts t (by omega)
 intro ts t l hs
 refine apX (n + 1000000) (amn _ ?_) ts t l (ak8 _ ts t l (by omega))
 intro l ts t hd
 have := of_decide_eq_true hd
 exact h3 l ts t (by omega)
theorem avg (n : Nat) (hF : ap4 n) : avr n := by
 intro ts a0 a1 a2 a3 a4 a5 a6 a7 a8 a9 l hs
 refine aI.fits fun hf => ?_
 have r0 := hf (.agg [.int .i64 a0, .str a1, .sl .str (.may false) a2, .int .i64 a3, .sl .str (.may false) a4, .bool a5, .str a6, .int .i64 a7, .sl .afield (.may false) a8, .sl (.num .i64) (.may false) a9]) (by simp)
 have r1 : a8.length ≤ 9223372036854775807 := r0 (.sl .afield (.may false) a8) (by simp)
 have hlen : l.length ≤ szL l := ac6 l
 refine amp (n + 1000000) (ajL _ ?_) ts a0 a1 a2 a3 a4 a5 a6 a7 a8 a9 l (ap2 _ ts a0 a1 a2 a3 a4 a5 a6 a7 a8 a9 l r1 (by omega) (by omega))
 intro ts t m s l ks b hd
 have := of_decide_eq_true hd
 exact hF ts t m s l ks b (by omega)
theorem arT : ∀ n, ap4 n
 | 0 => fun ts t m s l ks b h => by omega
 | n + 1 => by
   have hF := arT n
   intro ts t m s l ks b hs
   obtain ⟨hp, h⟩ := avc (asm (n + 1000000) ts t m s l ks b (by omega))
   refine ap0 (n + 1000000) (amv _ ?_ auw ard as1 ?_ as2 ?_ as0) ts t m s l ks b h
   ·intro ts t m s l ks b hd
    have := of_decide_eq_true hd
    exact hF ts t m s l ks b (by omega)
   ·intro ts t l hd
    have := of_decide_eq_true hd
    exact aux n hF ts t l (by omega)
   ·intro ts a0 a1 a2 a3 a4 a5 a6 a7 a8 a9 l hd
    have := of_decide_eq_true hd
    exact avg n hF ts a0 a1 a2 a3 a4 a5 a6 a7 a8 a9 l (by omega)
theorem as3 (ts : List aA) (t m : Int) (s : List UInt8) (l : List aB) (ks : List (List UInt8)) (b : Int) :
  aI Try.prog nM [.agg [.sl .atype (.may false) ts], .int .i64 t, .agg [.int .u64 m, .str s, .sl .aval (.may false) l, .sl .str (.may false) ks, .int .i64 b]] (.bool (bu ts t (.mk m s l ks b))) :=
 arT (szL l + 1) ts t m s l ks b (Nat.le_refl _)
theorem asn (a b : List (List UInt8)) : aI Try.prog jz [.sl .str (.may false) a, .sl .str (.may false) b] (.bool (decide (a = b))) := by
 refine aI.fits fun hf => ?_
 have r0 := aic (hf (.sl .str (.may false) a) (by simp))
 exact xm vP (a.length + 1) a b (arc _ a b r0 (by omega))
def as4 (n : Nat) : Prop := ∀ (m : Int) (s : List UInt8) (l : List aB) (ks : List (List UInt8)) (b m2 : Int) (s2 : List UInt8) (l2 : List aB) (ks2 : List (List UInt8)) (b2 : Int), szL l + 1 ≤ n →
 aI Try.prog q8 [.agg [.int .u64 m, .str s, .sl .aval (.may false) l, .sl .str (.may false) ks, .int .i64 b], .agg [.int .u64 m2, .str s2, .sl .aval (.may false) l2, .sl .str (.may false) ks2, .int .i64 b2]] (.bool (yv (.mk m s l ks b) (.mk m2 s2 l2 ks2 b2)))
theorem as5 (n : Nat) (hS : as4 n) (a b : List aB) (hs : szL a ≤ n) :
  aI Try.prog b9 [.sl .aval (.may false) a, .sl .aval (.may false) b, .fn q8 []] (.bool (rD a b)) := by
 refine aI.fits fun hf => ?_
 have r0 := aic (hf (.sl .aval (.may false) a) (by simp))
 have hlen : a.length ≤ szL a := ac6 a
 refine gi (n + 1000000) (fB _ ?_) a b (ak9 _ a b r0 (by omega) (by omega))
 intro m s l ks b m2 s2 l2 ks2 b2 hd
 have := of_decide_eq_true hd
 exact hS m s l ks b m2 s2 l2 ks2 b2 (by omega)
theorem arU : ∀ n, as4 n
 | 0 => fun m s l ks b m2 s2 l2 ks2 b2 h => by omega
 | n + 1 => by
   have hS := arU n
   intro m s l ks b m2 s2 l2 ks2 b2 hs
   refine apY (n + 1000000) (amq _ asn ?_) m s l ks b m2 s2 l2 ks2 b2 (ask _ m s l ks b m2 s2 l2 ks2 b2 (by omega))
   intro a b hd
   have := of_decide_eq_true hd
   exact as5 n hS a b (by omega)
theorem as6 (m : Int) (s : List UInt8) (l : List aB) (ks : List (List UInt8)) (b m2 : Int) (s2 : List UInt8) (l2 : List aB) (ks2 : List (List UInt8)) (b2 : Int) :
  aI Try.prog q8 [.agg [.int .u64 m, .str s, .sl .aval (.may false) l, .sl .str (.may false) ks, .int .i64 b], .agg [.int .u64 m2, .str s2, .sl .aval (.may false) l2, .sl .str (.may false) ks2, .int .i64 b2]] (.bool (yv (.mk m s l ks b) (.mk m2 s2 l2 ks2 b2))) :=
 arU (szL l + 1) m s l ks b m2 s2 l2 ks2 b2 (Nat.le_refl _)
def avh (n : Nat) : Prop := ∀ (m : Int) (s : List UInt8) (l : List aB) (ks : List (List UInt8)) (b : Int), szL l + 1 ≤ n →
 aI Try.prog tZ [.agg [.int .u64 m, .str s, .sl .aval (.may false) l, .sl .str (.may false) ks, .int .i64 b]] (.tup [.int .i64 (na (.mk m s l ks b)).1, .int .i64 (na (.mk m s l ks b)).2])
theorem arV : ∀ n, avh n
 | 0 => fun m s l ks b h => by omega
 | n + 1 => by
   have hS := arV n
   intro m s l ks b hs
   refine aI.fits fun hf => ?_
   have r0 : l.length ≤ 9223372036854775807 := hf (.agg [.int .u64 m, .str s, .sl .aval (.may false) l, .sl .str (.may false) ks, .int .i64 b]) (by simp) (.sl .aval (.may false) l) (by simp)
   have hlen : l.length ≤ szL l := ac6 l
   refine apZ (n + 1000000) (ams _ ?_) m s l ks b (asl _ m s l ks b r0 (by omega) (by omega))
   intro m s l ks b hd
   have := of_decide_eq_true hd
   exact hS m s l ks b (by omega)
theorem as7 (m : Int) (s : List UInt8) (l : List aB) (ks : List (List UInt8)) (b : Int) :
  aI Try.prog tZ [.agg [.int .u64 m, .str s, .sl .aval (.may false) l, .sl .str (.may false) ks, .int .i64 b]] (.tup [.int .i64 (na (.mk m s l ks b)).1, .int .i64 (na (.mk m s l ks b)).2]) :=
 arV (szL l + 1) m s l ks b (Nat.le_refl _)
end Go.Proofs.Ytdpajabhmmmjoaa
end
noncomputable section
namespace Go.Proofs.Ytdpajabhmmmjoaa
open Go.ChangeShapes Go.WideShapes Go.AM
set_option autoImplicit false
set_option linter.unusedVariables false
set_option maxRecDepth 100000
theorem arW {α : Type} {p : Nat → α → Prop} : ∀ n, (∀ i, i < n → ∃ x, p i x) → ∃ l : List α, l.length = n ∧ ∀ i x, l[i]? = some x → p i x
 | 0, _ => ⟨[], rfl, by simp⟩
 | n + 1, h => by
   obtain ⟨l, h1, h2⟩ := arW n fun i hi => h i (by omega)
   obtain ⟨x, hx⟩ := h n (by omega)
   refine ⟨l ++ [x], by simp [h1], fun i y hy => ?_⟩
   rcases Nat.lt_or_ge i l.length with hi | hi
   ·rw [List.getElem?_append_left hi] at hy
    exact h2 i y hy
   ·rw [List.getElem?_append_right hi] at hy
    have h3 : i = n := by
     have := (List.getElem?_eq_some_iff.1 hy).1
     simp at this
     omega
    subst h3
    have : x = y := by simpa [h1] using hy
    exact this ▸ hx
section
variable {H : Type} {enc : TypeId × Value → H} {w : World} {base : Nat} {held : Bool}
theorem auy (k : EK) {t e : TypeId} (ht : Try.prog.underlying t = some (.slice e)) (hc : Try.prog.cellsOf e = k.sz) {n : Nat} {cs : List Value} {x : DataW H × List MemPlace}
  (elem : ∀ m, m + 1 = n → ∀ es y, DataW.trod enc Try.prog w base (fun _ => true) held m e es = some y → ∃ x : Ty k, ∀ (j : Nat) v u, (AM.enc k x)[j]? = some v → es[j]? = some u → VRel (oG w).I id 0 w v u)
  (h : DataW.trod enc Try.prog w base (fun _ => true) held n t cs = some x) : ∃ (xs : List (Ty k)) (cv : Value), cs = [cv] ∧ VRel (oG w).I id 0 w (.sl k (.may false) xs) cv := by
 have hk0 : 0 < k.sz := by cases k <;> simp [EK.sz]
 rcases DataW.trod_slice ht h with ⟨rfl, -⟩ | ⟨a, len, cap, elems, rest, m, rfl, rfl, -, hb, hl, hm, hlen, hel, hsp, -⟩
 ·exact ⟨[], _, rfl, .sln _ _⟩
 obtain ⟨hrl, hr⟩ := hsp rfl
 rw [hc] at hel hr
 by_cases h0 : cap = 0
 ·subst h0
  obtain rfl : len = 0 := by omega
  exact ⟨[], _, rfl, .sle _ _ a (by simp)⟩
 have first : ∃ es y, w.cells? base (a.add (0 * k.sz)) k.sz = some es ∧ DataW.trod enc Try.prog w base (fun _ => true) held m e es = some y := by
  by_cases hl0 : len = 0
  ·have h1 := hr 0 (by omega)
   rw [hl0] at h1
   have h2 : 0 < rest.length := by omega
   rw [List.getElem?_eq_getElem h2, Option.bind_eq_some_iff] at h1
   obtain ⟨es, h3, h4⟩ := h1
   exact ⟨es, _, h3, h4⟩
  ·have h1 := hel 0 (by omega)
   have h2 : 0 < elems.length := by omega
   rw [List.getElem?_eq_getElem h2, Option.bind_eq_some_iff] at h1
   obtain ⟨es, h3, h4⟩ := h1
   exact ⟨es, _, h3, h4⟩
 have hspot : a.spot = none := by
  obtain ⟨es, y, h1, -⟩ := first
  obtain ⟨h2, h3, h4⟩ := World.cells?_some h1
  have h5 := h4 0 hk0
  rw [List.getElem?_eq_getElem (by omega)] at h5
  simp only [Nat.zero_mul, Addr.add, if_true, World.cell?] at h5
  split at h5
  ·cases hs : a.spot with
   | none => rfl
   | some s => simp [hs] at h5
  ·cases h5
 obtain ⟨b, off, spot⟩ := a
 simp only at hspot
 subst hspot
 obtain ⟨xs, hxl, hxs⟩ := arW (α := Ty k) (p := fun i x => ∀ j v, (AM.enc k x)[j]? = some v → ∃ u, w.cell? ⟨b, off + i * k.sz + j, none⟩ = some u ∧ VRel (oG w).I id 0 w v u) len (by
  intro i hi
  have h1 := hel i hi
  rw [List.getElem?_eq_getElem (by omega), Option.bind_eq_some_iff] at h1
  obtain ⟨es, h2, h3⟩ := h1
  obtain ⟨x, hx⟩ := elem m rfl es _ h3
  obtain ⟨h4, h5, h6⟩ := World.cells?_some h2
  refine ⟨x, fun j v hv => ?_⟩
  have hj : j < k.sz := by
   have := (List.getElem?_eq_some_iff.1 hv).1
   rwa [co] at this
  have h7 := h6 j hj
  rw [List.getElem?_eq_getElem (by omega), add_plain, add_plain] at h7
  exact ⟨_, h7, hx j v _ hv (List.getElem?_eq_getElem (by omega))⟩)
 refine ⟨xs, _, rfl, .sl k (.may false) xs b off len cap hxl (by omega) (by unfold maxLen at hm; unfold eD; exact hm) (by simp) (fun i j => (w.cell? ⟨b, off + i * k.sz + j, none⟩).getD undef) ?_ ?_ ?_⟩
 ·intro i x j h1 h2
  obtain ⟨u, h3, -⟩ := hxs i x h1 j _ (List.getElem?_eq_getElem h2)
  show (w.cell? _).isSome = true
  rw [h3]; rfl
 ·intro i x j h1 h2
  obtain ⟨u, h3, -⟩ := hxs i x h1 j _ (List.getElem?_eq_getElem h2)
  rw [h3]; rfl
 ·intro i x j v h1 h2
  obtain ⟨u, h3, h4⟩ := hxs i x h1 j v h2
  rw [h3]; exact h4
theorem aso {n : Nat} {cs : List Value} {x : DataW H × List MemPlace} (h : DataW.trod enc Try.prog w base (fun _ => true) held n 22 cs = some x) :
  ∃ (xs : List UInt8) (cv : Value), cs = [cv] ∧ VRel (oG w).I id 0 w (.sl .u8 (.may false) xs) cv :=
 auy .u8 Try.underlying22 (by kernel_rfl) (fun m hm es y hy => by
  obtain ⟨c, rfl, -, hw⟩ := DataW.trod_int Try.underlying5 hy
  have hr : 0 ≤ c ∧ c ≤ 255 := by simpa [Lit.wf, IntKind.min, IntKind.max, IntKind.signed, IntKind.bits] using hw
  refine ⟨UInt8.ofNat c.toNat, fun j v u h1 h2 => ?_⟩
  obtain rfl : j = 0 := by
   have := (List.getElem?_eq_some_iff.1 h2).1
   simpa using this
  simp only [AM.enc, List.getElem?_cons_zero, Option.some.injEq] at h1 h2
  subst h1 h2
  have : ((UInt8.ofNat c.toNat).toNat : Int) = c := by
   rw [UInt8.toNat_ofNat']
   omega
  rw [this]
  exact .int _ _ (by simpa [Lit.wf] using hw)) h
theorem alb {r : Reach} {b0 : Nat} {v : Value} {d : DataW H} {p : List MemPlace} (hv : Value.okWide Try.prog w r b0 22 v) (h : DataW.Trod enc Try.prog w base (fun _ => true) held 22 v d p) :
  ∃ xs : List UInt8, VRel (oG w).I id 0 w (.sl .u8 (.may false) xs) v := by
 obtain ⟨a, len, cap, rfl⟩ := okWide_slice Try.underlying22 hv
 obtain ⟨fuel, hf⟩ := h
 obtain ⟨xs, cv, e, hr⟩ := aso hf
 have e : [Value.slice a len cap] = [cv] := e
 cases e
 exact ⟨xs, hr⟩
end
end Go.Proofs.Ytdpajabhmmmjoaa
end
noncomputable section
namespace Go.Proofs.Ytdpajabhmmmjoaa
open Go.AM
set_option autoImplicit false
set_option linter.unusedVariables false
inductive bi : aD → Prop where
 | mk (k n : Int) (s : List UInt8) (l : List aD) (names : List (List UInt8)) (h1 : s.length ≤ 100) (h2 : l.length ≤ 8) (h3 : names.length ≤ l.length)
   (h4 : ∀ x ∈ names, x.length ≤ 100) (h5 : k = 6 → names.length = l.length) (h6 : ∀ c ∈ l, bi c) : bi (.mk k n s l names)
structure je (m : Nat) (t : aA) : Prop where
 items : 0 ≤ t.items ∧ t.items < m
 fields : ∀ f ∈ t.fields, 0 ≤ f.typ ∧ f.typ < m ∧ bi f.df
 nf : t.fields.length ≤ 8
 branches : ∀ b ∈ t.branches, 0 ≤ b ∧ b < (m : Int)
 nb : t.branches.length ≤ 100
 ns : t.syms.length ≤ 100
 size : 0 ≤ t.size ∧ t.size ≤ 5000
 done : t.kind = 14 → t.branches ≠ []
 kind : 1 ≤ t.kind ∧ t.kind ≤ 14
 enum : t.kind = 10 → t.syms ≠ []
def fx (ts : List aA) : Prop := (0 < ts.length ∧ ts.length ≤ 60) ∧ ∀ t ∈ ts, je ts.length t
structure bN (ts : List aA) (e : Int) (ts' : List aA) (e' : Int) : Prop where
 len : ts.length ≤ ts'.length
 cap : ts'.length ≤ 60
 err : e' = 0 → e = 0
 old : e' = 0 → ∀ i, i < ts.length → ts'[i]? = ts[i]?
 new : e' = 0 → ∀ (i : Nat) t, ts.length ≤ i → ts'[i]? = some t → je ts'.length t
def fp (l : List UInt8) (n : Int) : Prop := 0 ≤ n ∧ n ≤ l.length ∧ l.length ≤ 1000
def nQ : List (List UInt8) → List aD → List UInt8 → Option aD
 | x :: ns, c :: l, name => if x = name then some c else nQ ns l name
 | _, _, _ => none
def sq : Nat → Nat
 | 0 => 1
 | k + 1 => 1 + 4 * sq k
def cw (l : List (List UInt8)) : Prop := ∀ x ∈ l, x.length ≤ 100
def xn (l : List UInt8) (n m : Int) (r : Int × List UInt8 × Int) : Prop := 0 ≤ r.1 ∧ r.1 < m ∧ r.2.1 = l ∧ fp l r.2.2
def wC (l : List UInt8) (n : Int) (r : Bool × List UInt8 × Int) : Prop := r.2.1 = l ∧ r.2.2 = n
def ac7 (l : List UInt8) (r : List UInt8 × Int) : Prop := r = (l, 0)
def ac8 (s : List UInt8) (r : Int × Int × List UInt8 × List aD × List (List UInt8)) : Prop := r = (4, 0, s, [], [])
def ab1 (f0 : Bool) (names : List (List UInt8)) (f1 : Bool) (l : List aD) (r : Int × Int × List UInt8 × Bool × List aD × Bool × List (List UInt8)) : Prop := r = (6, 0, [], f1, l, f0, names)
def zI (o : Option aD) : Int × Int × List UInt8 × List aD × List (List UInt8) × Bool := match o with
 | some c => (c.kind, c.n, c.s, c.l, c.names, true)
 | none => (0, 0, [], [], [], false)
def uX (k n : Int) (s : List UInt8) (l : List aD) (names : List (List UInt8)) (name : List UInt8) (r : Int × Int × List UInt8 × List aD × List (List UInt8) × Bool) : Prop := r = zI (nQ names l name)
def cG (k n : Int) (s : List UInt8) (l : List aD) (names : List (List UInt8)) (name : List UInt8) (r : Int × Int × List UInt8 × List aD × List (List UInt8) × Bool) : Prop := r = zI (if k = 6 then nQ names l name else none)
def auf (a : List UInt8) (r : Int × Int × List UInt8 × List aD × List (List UInt8) × List UInt8 × Int) : Prop :=
 bi (.mk r.1 r.2.1 r.2.2.1 r.2.2.2.1 r.2.2.2.2.1) ∧ r.2.2.2.2.2.1 = a ∧ fp a r.2.2.2.2.2.2
def asp (k : Nat) (a : List UInt8) (ns : List (List UInt8)) (r : Int × Int × List UInt8 × List aD × List (List UInt8) × List UInt8 × Int × List (List UInt8)) : Prop :=
 bi (.mk r.1 r.2.1 r.2.2.1 r.2.2.2.1 r.2.2.2.2.1) ∧ r.2.2.2.2.2.1 = a ∧ fp a r.2.2.2.2.2.2.1 ∧ cw r.2.2.2.2.2.2.2 ∧ r.2.2.2.2.2.2.2.length ≤ ns.length + sq k
def eZ (a : List UInt8) (n : Int) (ns : List (List UInt8)) (deep : Int) (r : Int × Int × List UInt8 × List aD × List (List UInt8) × List UInt8 × Int × List (List UInt8)) : Prop := asp (5 - deep.toNat) a ns r
def vC (a : List UInt8) (n : Int) (ns : List (List UInt8)) (deep : Int) (r : Int × Int × List UInt8 × List aD × List (List UInt8) × List UInt8 × Int × List (List UInt8)) : Prop := asp (5 - deep.toNat) a ns r
def t9 (a : List UInt8) (n : Int) (ns : List (List UInt8)) (name : List UInt8) (deep : Int) (r : Int × Int × List UInt8 × List aD × List (List UInt8) × List UInt8 × Int × List (List UInt8)) : Prop :=
 asp (5 - deep.toNat) a ns r ∧ r.2.2.2.2.2.2.2.length + 1 ≤ ns.length + sq (5 - deep.toNat)
def fc (a : List UInt8) (n c0 c1 : Int) (c2 : List UInt8) (c3 : List aD) (c4 : List (List UInt8)) (r : Int × Int × List UInt8 × List aD × List (List UInt8) × List UInt8 × Int) : Prop := auf a r
def ua (a : List UInt8) (n : Int) (r : Int × Int × List UInt8 × List aD × List (List UInt8) × List UInt8 × Int) : Prop := auf a r
def kC (ts : List aA) (e c : Int) (r : Int × List aA × Int) : Prop := r = (0, ts, if e = 0 then c else e)
def lD (ts : List aA) (e a0 : Int) (a1 : List UInt8) (a2 : List (List UInt8)) (a3 : Int) (a4 : List (List UInt8)) (a5 : Bool) (a6 : List UInt8) (a7 : Int) (a8 : List aM) (a9 : List Int) (r : Int × List aA × Int) : Prop :=
 r = if 60 ≤ ts.length then (0, ts, if e = 0 then 3 else e) else ((ts.length : Int), ts ++ [⟨a0, a1, a2, a3, a4, a5, a6, a7, a8, a9⟩], e)
def vD (ts : List aA) (e : Int) (s : List UInt8) (r : Int × Bool × List aA × Int) : Prop := r.2.2 = (ts, e) ∧ (r.2.1 = true → 0 ≤ r.1 ∧ r.1 < ts.length)
def oT (ts : List aA) (e : Int) (s space : List UInt8) (r : Int × List aA × Int) : Prop := bN ts e r.2.1 r.2.2 ∧ (r.2.2 = 0 → 0 ≤ r.1 ∧ r.1 < r.2.1.length)
def eK (ts : List aA) (e c0 c1 : Int) (c2 : List UInt8) (c3 : List aD) (c4 : List (List UInt8)) (space : List UInt8) (deep : Int) (r : Int × List aA × Int) : Prop := bN ts e r.2.1 r.2.2 ∧ (r.2.2 = 0 → 0 ≤ r.1 ∧ r.1 < r.2.1.length)
def ub (ts : List aA) (e c0 c1 : Int) (c2 : List UInt8) (c3 : List aD) (c4 : List (List UInt8)) (space : List UInt8) (deep : Int) (r : Int × List aA × Int) : Prop := bN ts e r.2.1 r.2.2 ∧ (r.2.2 = 0 → 0 ≤ r.1 ∧ r.1 < r.2.1.length)
def fN (ts : List aA) (e c0 c1 : Int) (c2 : List UInt8) (c3 : List aD) (c4 : List (List UInt8)) (k : Int) (space : List UInt8) (deep : Int) (r : Int × List aA × Int) : Prop := bN ts e r.2.1 r.2.2 ∧ (r.2.2 = 0 → 0 ≤ r.1 ∧ r.1 < r.2.1.length)
def vE (ts : List aA) (e c0 c1 : Int) (c2 : List UInt8) (c3 : List aD) (c4 : List (List UInt8)) (name : List UInt8) (must : Bool) (r : List UInt8 × List aA × Int) : Prop := r.1.length ≤ 100 ∧ r.2.1 = ts ∧ (r.2.2 = 0 → e = 0)
def uc (ts : List aA) (e : Int) (name space : List UInt8) (r : List UInt8 × List aA × Int) : Prop := r.1.length ≤ name.length + space.length + 1 ∧ r.2.1 = ts ∧ (r.2.2 = 0 → e = 0)
def nR (ts : List aA) (e c0 c1 : Int) (c2 : List UInt8) (c3 : List aD) (c4 : List (List UInt8)) (name : List UInt8) (r : List (List UInt8) × Bool × List aA × Int) : Prop := r.1.length ≤ 100 ∧ cw r.1 ∧ r.2.2.1 = ts ∧ (r.2.2.2 = 0 → e = 0)
def dG (ts : List aA) (e c0 c1 : Int) (c2 : List UInt8) (c3 : List aD) (c4 : List (List UInt8)) (at_ : Int) (r : List aA × Int) : Prop :=
 (r.2 = 0 → e = 0) ∧ (r.2 ≠ 0 → r.1 = ts) ∧ (r.2 = 0 → ∃ l h d, l ≠ [] ∧ l.length ≤ 100 ∧ ∃ t, ts[at_.toNat]? = some t ∧ r.1 = ts.set at_.toNat { t with syms := l, hasdef := h, df := d })
def dP (ts : List aA) (e c0 c1 : Int) (c2 : List UInt8) (c3 : List aD) (c4 : List (List UInt8)) (at_ : Int) (space : List UInt8) (deep : Int) (r : List aA × Int) : Prop :=
 ∃ ts2, bN ts e ts2 r.2 ∧ (r.1 = ts2 ∨ ∃ l : List aM, l.length ≤ 8 ∧ (∀ f ∈ l, 0 ≤ f.typ ∧ f.typ < ts2.length ∧ bi f.df) ∧ ∃ t, ts2[at_.toNat]? = some t ∧ r.1 = ts2.set at_.toNat { t with fields := l })
def alc : List (List UInt8) := [[110, 117, 108, 108], [98, 111, 111, 108, 101, 97, 110], [105, 110, 116], [108, 111, 110, 103], [102, 108, 111, 97, 116], [100, 111, 117, 98, 108, 101], [98, 121, 116, 101, 115], [115, 116, 114, 105, 110, 103], [114, 101, 99, 111, 114, 100], [101, 110, 117, 109], [102, 105, 120, 101, 100], [97, 114, 114, 97, 121], [109, 97, 112], [117, 110, 105, 111, 110]]
def ab2 (s : List UInt8) (r : Int) : Prop := 0 ≤ r ∧ r ≤ 14 ∧ (r = 14 → s = [117, 110, 105, 111, 110]) ∧ (r = 0 → ∀ i < 14, alc.getD i [] ≠ s) ∧ (r = 10 → s = [101, 110, 117, 109])
def lj (s r : List UInt8) : Prop := r.length ≤ s.length
def tw (a b r : List UInt8) : Prop := r.length ≤ a.length + b.length + 1
def wD (c0 c1 : Int) (c2 : List UInt8) (c3 : List aD) (c4 : List (List UInt8)) (r : List aA × Int) : Prop := r.2 = 0 → fx r.1
def wE (a : List UInt8) (n : Int) (r : List aA × Bool × List UInt8 × Int) : Prop := (r.2.1 = true → fx r.1) ∧ r.2.2.1 = a ∧ fp a r.2.2.2
def aaY (ts : List aA) (kind items : Int) (fields : List aM) (branches : List Int) (l : List aB) (ks : List (List UInt8)) (b : Int) : Bool :=
 cond (kind == 9) (decide (l.length = fields.length) && lA ts fields l) (
 cond (kind == 13) (((ks.length : Int) == (l.length : Int)) && (eP ks && bO ts items l)) (
 cond (kind == 14) (decide (0 ≤ b) && (decide (b < (branches.length : Int)) && (((l.length : Int) == 1) && bO ts (branches.getD b.toNat 0) l))) (
 bO ts items l)))
def rJ (ts : List aA) (t n : Int) (s : List UInt8) (l : List aB) (ks : List (List UInt8)) (b : Int) (r : Bool) : Prop := r = bu ts t (.mk n s l ks b)
def dw (ts : List aA) (k0 : Int) (k1 : List UInt8) (k2 : List (List UInt8)) (k3 : Int) (k4 : List (List UInt8)) (k5 : Bool) (k6 : List UInt8) (k7 : Int) (k8 : List aM) (k9 : List Int) (n : Int) (s : List UInt8) (l : List aB) (ks : List (List UInt8)) (b : Int) (r : Bool) : Prop := r = aaY ts k0 k3 k8 k9 l ks b
def wF (s : List UInt8) (r : Bool) : Prop := r = dj s
def uY (ts : List aA) (t : Int) (r : Bool) : Prop := r = isT ts t
def atU (n : Int) (s : List UInt8) (l : List aB) (ks : List (List UInt8)) (b : Int) (key : List UInt8) (w : aB) (r : Int × List UInt8 × List aB × List (List UInt8) × Int) : Prop :=
 r.1 = n ∧ r.2.1 = s ∧ r.2.2.2.2 = b ∧ wL r.2.2.1 ≤ wL l + wV w ∧ fJ r.2.2.2.1 ≤ fJ ks + (key.length + 10) ∧ (eP ks = true → dj key = true → eP r.2.2.2.1 = true) ∧
 ∀ ts t, bO ts t l = true → bu ts t w = true → bO ts t r.2.2.1 = true
def ab3 (s : List UInt8) (r : Int × Int) : Prop := r = eg s
def ab4 (s : List UInt8) (r : Int × Int) : Prop := r = eg s
def ac9 (n : Int) (s : List UInt8) (l : List aB) (ks : List (List UInt8)) (b : Int) (key : List UInt8) (w0 : Int) (w1 : List UInt8) (w2 : List aB) (w3 : List (List UInt8)) (w4 : Int) (r : Int × List UInt8 × List aB × List (List UInt8) × Int) : Prop :=
 r.2.2.2.1.length = r.2.2.1.length ∧ r.2.2.1.length ≤ l.length + 1 ∧ atU n s l ks b key (.mk w0 w1 w2 w3 w4) r
def cI (ts : List aA) (all t c0 c1 : Int) (c2 : List UInt8) (c3 : List aD) (c4 : List (List UInt8)) (deep : Int) (r : Int × List UInt8 × List aB × List (List UInt8) × Int × Int × List aA × Int) : Prop := r.2.2.2.2.2.2.1 = ts
def tF (ts : List aA) (all k0 : Int) (k1 : List UInt8) (k2 : List (List UInt8)) (k3 : Int) (k4 : List (List UInt8)) (k5 : Bool) (k6 : List UInt8) (k7 : Int) (k8 : List aM) (k9 : List Int) (c0 c1 : Int) (c2 : List UInt8) (c3 : List aD) (c4 : List (List UInt8)) (deep : Int) (r : Int × List UInt8 × List aB × List (List UInt8) × Int × Int × List aA × Int) : Prop := r.2.2.2.2.2.2.1 = ts
def ss (ts : List aA) (all k0 : Int) (k1 : List UInt8) (k2 : List (List UInt8)) (k3 : Int) (k4 : List (List UInt8)) (k5 : Bool) (k6 : List UInt8) (k7 : Int) (k8 : List aM) (k9 : List Int) (c0 c1 : Int) (c2 : List UInt8) (c3 : List aD) (c4 : List (List UInt8)) (deep : Int) (r : Int × List UInt8 × List aB × List (List UInt8) × Int × Int × List aA × Int) : Prop := r.2.2.2.2.2.2.1 = ts
end Go.Proofs.Ytdpajabhmmmjoaa
end
noncomputable section
namespace Go.Proofs.Ytdpajabhmmmjoaa
open Go.AM
set_option autoImplicit false
set_option linter.unusedSimpArgs false
theorem aes : ∀ (a b : List UInt8), (Op.bytesLess a b || decide (a = b)) = !Op.bytesLess b a
 | [], [] => by simp [Op.bytesLess]
 | [], b :: y => by simp [Op.bytesLess]
 | a :: x, [] => by simp [Op.bytesLess]
 | a :: x, b :: y => by
   have ih := aes x y
   simp only [Op.bytesLess]
   by_cases h1 : a < b
   ·have h2 : ¬ b < a := fun h => absurd (UInt8.lt_trans h1 h) (UInt8.lt_irrefl a)
    have h3 : ¬ b = a := fun h => by subst h; exact UInt8.lt_irrefl _ h1
    simp [h1, h2, h3]
   ·by_cases h2 : b < a
    ·have h3 : ¬ a = b := fun h => by subst h; exact UInt8.lt_irrefl _ h2
     simp [h1, h2, h3]
    ·have h3 : a = b := by
      have := UInt8.le_antisymm (UInt8.not_lt.1 h2) (UInt8.not_lt.1 h1)
      exact this
     subst h3
     simp only [h1, decide_false, Bool.false_or, beq_self_eq_true, Bool.true_and, List.cons.injEq, true_and]
     exact ih
end Go.Proofs.Ytdpajabhmmmjoaa
end
noncomputable section
namespace Go.Proofs.Ytdpajabhmmmjoaa
open Go.AM
set_option autoImplicit false
set_option linter.unusedVariables false
set_option maxRecDepth 100000
abbrev z6 : FuncId := 15
abbrev wG : FuncId := 119
abbrev aaZ : FuncId := 60
abbrev z7 : FuncId := 59
abbrev xo : FuncId := 40
abbrev z8 : FuncId := 117
abbrev xp : FuncId := 73
abbrev yL : FuncId := 146
abbrev z9 : FuncId := 116
abbrev yM : FuncId := 110
abbrev wH : FuncId := 144
abbrev yN : FuncId := 138
abbrev xq : FuncId := 114
abbrev vF : FuncId := 145
abbrev yO : FuncId := 111
abbrev xr : FuncId := 143
abbrev yP : FuncId := 72
abbrev xt : FuncId := 112
abbrev xu : FuncId := 141
abbrev yQ : FuncId := 140
abbrev wI : FuncId := 148
abbrev vG : FuncId := 149
abbrev wJ : FuncId := 120
abbrev ai1 : FuncId := 14
abbrev ald : FuncId := 87
abbrev ag8 : FuncId := 118
abbrev ai2 : FuncId := 86
abbrev afo : FuncId := 133
abbrev ag9 : FuncId := 132
abbrev aha : FuncId := 162
abbrev ahb : FuncId := 46
abbrev ai3 : FuncId := 154
abbrev ahc : FuncId := 79
abbrev afp : FuncId := 41
abbrev ahd : FuncId := 39
abbrev ale : FuncId := 45
abbrev ai4 : FuncId := 61
abbrev ai5 : FuncId := 139
abbrev afq : FuncId := 74
abbrev ahe : FuncId := 158
abbrev ada : FuncId := 142
abbrev ahf : FuncId := 115
abbrev ai6 : FuncId := 147
abbrev ahg : FuncId := 18
abbrev afr : FuncId := 47
abbrev alf : FuncId := 113
abbrev ai7 : FuncId := 161
abbrev ahh : FuncId := 165
abbrev afs : FuncId := 164
abbrev ai8 : FuncId := 159
abbrev ahi : FuncId := 160
abbrev are := Bs × Int
noncomputable def ra (a : Bs) (r : are) : Prop := uD Try.prog ai1 [.sl .u8 (.may false) a] [.sl .u8 (.may false) r.1, .int .i64 r.2] ∧ ac7 a r
noncomputable def arf : aer Try.prog := ⟨14, fun us => match us with
 | [.sl .u8 (.may _) a] => let r := pick (ra a); some (can (ra a), [.sl .u8 (.may false) r.1, .int .i64 r.2])
 | _ => none, by
 intro _ _ h; split at h; exact aur h fun h => h.1.dim rfl; cases h⟩
abbrev air := List aA × Bool × Bs × Int
noncomputable def lk (a : Bs) (b : Int) (r : air) : Prop := bl Try.prog z6 [.ptr 0 0] [[.sl .u8 (.may false) a, .int .i64 b]] (.tup [.agg [.sl .atype (.may false) r.1], .bool r.2.1]) [[.sl .u8 (.may false) r.2.2.1, .int .i64 r.2.2.2]] ∧ wE a b r
noncomputable def ais : fI Try.prog := ⟨15, fun us css => match us, css with
 | [.ptr 0 0], [[.sl .u8 (.may false) a, .int .i64 b]] => let r := pick (lk a b); some (can (lk a b), .tup [.agg [.sl .atype (.may false) r.1], .bool r.2.1], [[.sl .u8 (.may false) r.2.2.1, .int .i64 r.2.2.2]])
 | _, _ => none, by
 intro _ _ _ _ h; split at h; exact dB h fun h => h.1.dim rfl; cases h⟩
abbrev ap5 := Bool
noncomputable def eV (a : List aA) (g b : Int) (c : Bs) (d : List aB) (e : Bss) (f : Int) (r : ap5) : Prop := aI Try.prog ahg [.agg [.sl .atype (.may false) a], .int .i64 g, .agg [.int .u64 b, .str c, .sl .aval (.may false) d, .sl .str (.may false) e, .int .i64 f]] (.bool r) ∧ rJ a g b c d e f r
noncomputable def ahj : dm Try.prog := ⟨18, fun us => match us with
 | [.agg [.sl .atype (.may _) a], .int .i64 g, .agg [.int .u64 b, .str c, .sl .aval (.may _) d, .sl .str (.may _) e, .int .i64 f]] => let r := pick (eV a g b c d e f); some (can (eV a g b c d e f), .bool r)
 | _ => none, by
 intro _ _ h; split at h; exact bV h (fun h => h.1.dim rfl) rfl rfl; cases h⟩
abbrev ap6 := List aA × Int
noncomputable def su (a b : Int) (c : Bs) (d : List aD) (e : Bss) (r : ap6) : Prop := aI Try.prog ahd [.agg [.int .i64 a, .int .i64 b, .str c, .sl .jnode (.may false) d, .sl .str (.may false) e]] (.tup [.agg [.sl .atype (.may false) r.1], .int .i64 r.2]) ∧ wD a b c d e r
noncomputable def ap7 : dm Try.prog := ⟨39, fun us => match us with
 | [.agg [.int .i64 a, .int .i64 b, .str c, .sl .jnode (.may _) d, .sl .str (.may _) e]] => let r := pick (su a b c d e); some (can (su a b c d e), .tup [.agg [.sl .atype (.may false) r.1], .int .i64 r.2])
 | _ => none, by
 intro _ _ h; split at h; exact bV h (fun h => h.1.dim rfl) rfl rfl; cases h⟩
abbrev af0 := Int × Int × Bs × List aD × Bss × Bs × Int
noncomputable def jf (a : Bs) (b : Int) (r : af0) : Prop := bl Try.prog xo [.ptr 0 0] [[.sl .u8 (.may false) a, .int .i64 b]] (.agg [.int .i64 r.1, .int .i64 r.2.1, .str r.2.2.1, .sl .jnode (.may false) r.2.2.2.1, .sl .str (.may false) r.2.2.2.2.1]) [[.sl .u8 (.may false) r.2.2.2.2.2.1, .int .i64 r.2.2.2.2.2.2]] ∧ ua a b r
noncomputable def af1 : fI Try.prog := ⟨40, fun us css => match us, css with
 | [.ptr 0 0], [[.sl .u8 (.may false) a, .int .i64 b]] => let r := pick (jf a b); some (can (jf a b), .agg [.int .i64 r.1, .int .i64 r.2.1, .str r.2.2.1, .sl .jnode (.may false) r.2.2.2.1, .sl .str (.may false) r.2.2.2.2.1], [[.sl .u8 (.may false) r.2.2.2.2.2.1, .int .i64 r.2.2.2.2.2.2]])
 | _, _ => none, by
 intro _ _ _ _ h; split at h; exact dB h fun h => h.1.dim rfl; cases h⟩
abbrev aot := Int × Int × Int
noncomputable def qG (a : List aA) (r : aot) : Prop := aI Try.prog afp [.agg [.sl .atype (.may false) a]] (.tup [.int .i64 r.1, .int .i64 r.2.1, .int .i64 r.2.2])
noncomputable def aou : dm Try.prog := ⟨41, fun us => match us with
 | [.agg [.sl .atype (.may _) a]] => let r := pick (qG a); some (can (qG a), .tup [.int .i64 r.1, .int .i64 r.2.1, .int .i64 r.2.2])
 | _ => none, by
 intro _ _ h; split at h; exact bV h (fun h => h.dim rfl) rfl rfl; cases h⟩
abbrev asq := Bool
noncomputable def nh (a : List aA) (b : Int) (r : asq) : Prop := aI Try.prog ale [.agg [.sl .atype (.may false) a], .int .i64 b] (.bool r) ∧ uY a b r
noncomputable def aet : dm Try.prog := ⟨45, fun us => match us with
 | [.agg [.sl .atype (.may _) a], .int .i64 b] => let r := pick (nh a b); some (can (nh a b), .bool r)
 | _ => none, by
 intro _ _ h; split at h; exact bV h (fun h => h.1.dim rfl) rfl rfl; cases h⟩
abbrev ap8 := Bool
noncomputable def me (a : Bs) (r : ap8) : Prop := aI Try.prog ahb [.str a] (.bool r) ∧ wF a r
noncomputable def ahk : dm Try.prog := ⟨46, fun us => match us with
 | [.str a] => let r := pick (me a); some (can (me a), .bool r)
 | _ => none, by
 intro _ _ h; split at h; exact bV h (fun h => h.1.dim rfl) rfl rfl; cases h⟩
abbrev aov := Bool
noncomputable def mV (a : List aA) (b : Int) (c : Bs) (d : Bss) (e : Int) (f : Bss) (g : Bool) (h : Bs) (i : Int) (j : List aM) (k : List Int) (l : Int) (m : Bs) (n : List aB) (o : Bss) (p : Int) (r : aov) : Prop := aI Try.prog afr [.agg [.sl .atype (.may false) a], .agg [.int .i64 b, .str c, .sl .str (.may false) d, .int .i64 e, .sl .str (.may false) f, .bool g, .str h, .int .i64 i, .sl .afield (.may false) j, .sl (.num .i64) (.may false) k], .agg [.int .u64 l, .str m, .sl .aval (.may false) n, .sl .str (.may false) o, .int .i64 p]] (.bool r) ∧ dw a b c d e f g h i j k l m n o p r
noncomputable def aow : dm Try.prog := ⟨47, fun us => match us with
 | [.agg [.sl .atype (.may _) a], .agg [.int .i64 b, .str c, .sl .str (.may _) d, .int .i64 e, .sl .str (.may _) f, .bool g, .str i, .int .i64 j, .sl .afield (.may _) k, .sl (.num .i64) (.may _) l], .agg [.int .u64 m, .str n, .sl .aval (.may _) o, .sl .str (.may _) p, .int .i64 q]] => let r := pick (mV a b c d e f g i j k l m n o p q); some (can (mV a b c d e f g i j k l m n o p q), .bool r)
 | _ => none, by
 intro _ _ h; split at h; exact bV h (fun h => h.1.dim rfl) rfl rfl; cases h⟩
abbrev ait := Bool × Bs × Int
noncomputable def iA (a : Bs) (b : Int) (r : ait) : Prop := bl Try.prog z7 [.ptr 0 0] [[.sl .u8 (.may false) a, .int .i64 b]] (.bool r.1) [[.sl .u8 (.may false) r.2.1, .int .i64 r.2.2]] ∧ wC a b r
noncomputable def aaa : fI Try.prog := ⟨59, fun us css => match us, css with
 | [.ptr 0 0], [[.sl .u8 (.may false) a, .int .i64 b]] => let r := pick (iA a b); some (can (iA a b), .bool r.1, [[.sl .u8 (.may false) r.2.1, .int .i64 r.2.2]])
 | _, _ => none, by
 intro _ _ _ _ h; split at h; exact dB h fun h => h.1.dim rfl; cases h⟩
abbrev ajS := Int × Bs × Int
noncomputable def aQ (a : Bs) (b c : Int) (r : ajS) : Prop := bl Try.prog aaZ [.ptr 0 0, .int .i64 c] [[.sl .u8 (.may false) a, .int .i64 b]] (.int .i64 r.1) [[.sl .u8 (.may false) r.2.1, .int .i64 r.2.2]] ∧ xn a b c r
noncomputable def mf : fI Try.prog := ⟨60, fun us css => match us, css with
 | [.ptr 0 0, .int .i64 c], [[.sl .u8 (.may false) a, .int .i64 b]] => let r := pick (aQ a b c); some (can (aQ a b c), .int .i64 r.1, [[.sl .u8 (.may false) r.2.1, .int .i64 r.2.2]])
 | _, _ => none, by
 intro _ _ _ _ h; split at h; exact dB h fun h => h.1.dim rfl; cases h⟩
abbrev arg := Int × Bs × List aB × Bss × Int
noncomputable def jO (a : Int) (b : Bs) (c : List aB) (d : Bss) (e : Int) (k : Bs) (f : Int) (g : Bs) (h : List aB) (i : Bss) (j : Int) (r : arg) : Prop := aI Try.prog ai4 [.agg [.int .u64 a, .str b, .sl .aval (.may false) c, .sl .str (.may false) d, .int .i64 e], .str k, .agg [.int .u64 f, .str g, .sl .aval (.may false) h, .sl .str (.may false) i, .int .i64 j]] (.agg [.int .u64 r.1, .str r.2.1, .sl .aval (.may false) r.2.2.1, .sl .str (.may false) r.2.2.2.1, .int .i64 r.2.2.2.2]) ∧ ac9 a b c d e k f g h i j r
noncomputable def ai9 : dm Try.prog := ⟨61, fun us => match us with
 | [.agg [.int .u64 a, .str b, .sl .aval (.may _) c, .sl .str (.may _) d, .int .i64 e], .str l, .agg [.int .u64 f, .str g, .sl .aval (.may _) i, .sl .str (.may _) j, .int .i64 k]] => let r := pick (jO a b c d e l f g i j k); some (can (jO a b c d e l f g i j k), .agg [.int .u64 r.1, .str r.2.1, .sl .aval (.may false) r.2.2.1, .sl .str (.may false) r.2.2.2.1, .int .i64 r.2.2.2.2])
 | _ => none, by
 intro _ _ h; split at h; exact bV h (fun h => h.1.dim rfl) rfl rfl; cases h⟩
abbrev ahl := Int × List aA × Int
noncomputable def cz (a : List aA) (b c d : Int) (e : Bs) (f : List aD) (g : Bss) (h : Bs) (i : Int) (r : ahl) : Prop := bl Try.prog yP [.ptr 0 0, .agg [.int .i64 c, .int .i64 d, .str e, .sl .jnode (.may false) f, .sl .str (.may false) g], .str h, .int .i64 i] [[.ul .atype a, .int .i64 b]] (.int .i64 r.1) [[.ul .atype r.2.1, .int .i64 r.2.2]] ∧ eK a b c d e f g h i r
noncomputable def ni : fI Try.prog := ⟨72, fun us css => match us, css with
 | [.ptr 0 0, .agg [.int .i64 a, .int .i64 b, .str c, .sl .jnode (.may _) d, .sl .str (.may _) e], .str i, .int .i64 j], [[.ul .atype f, .int .i64 g]] => let r := pick (cz f g a b c d e i j); some (can (cz f g a b c d e i j), .int .i64 r.1, [[.ul .atype r.2.1, .int .i64 r.2.2]])
 | _, _ => none, by
 intro _ _ _ _ h; split at h; exact dB h fun h => h.1.dim rfl; cases h⟩
abbrev af2 := Int × Int × Bs × List aD × Bss × Bs × Int × Bss
noncomputable def fF (a : Bs) (b : Int) (c : Bss) (d : Bs) (e : Int) (r : af2) : Prop := bl Try.prog xp [.ptr 0 0, .str d, .int .i64 e, .ptr 1 0] [[.sl .u8 (.may false) a, .int .i64 b], [.sl .str .own c]] (.agg [.int .i64 r.1, .int .i64 r.2.1, .str r.2.2.1, .sl .jnode (.may false) r.2.2.2.1, .sl .str (.may false) r.2.2.2.2.1]) [[.sl .u8 (.may false) r.2.2.2.2.2.1, .int .i64 r.2.2.2.2.2.2.1], [.sl .str .own r.2.2.2.2.2.2.2]] ∧ t9 a b c d e r
noncomputable def xv : fI Try.prog := ⟨73, fun us css => match us, css with
 | [.ptr 0 0, .str d, .int .i64 e, .ptr 1 0], [[.sl .u8 (.may false) a, .int .i64 b], [.sl .str .own c]] => let r := pick (fF a b c d e); some (can (fF a b c d e), .agg [.int .i64 r.1, .int .i64 r.2.1, .str r.2.2.1, .sl .jnode (.may false) r.2.2.2.1, .sl .str (.may false) r.2.2.2.2.1], [[.sl .u8 (.may false) r.2.2.2.2.2.1, .int .i64 r.2.2.2.2.2.2.1], [.sl .str .own r.2.2.2.2.2.2.2]])
 | _, _ => none, by
 intro _ _ _ _ h; split at h; exact dB h fun h => h.1.dim rfl; cases h⟩
abbrev aox := Int × Bs × List aB × Bss × Int × Int
noncomputable def qH (a : List aA) (g b c : Int) (d : Bs) (e : List aD) (f : Bss) (r : aox) : Prop := aI Try.prog afq [.agg [.sl .atype (.may false) a], .int .i64 g, .agg [.int .i64 b, .int .i64 c, .str d, .sl .jnode (.may false) e, .sl .str (.may false) f]] (.tup [.agg [.int .u64 r.1, .str r.2.1, .sl .aval (.may false) r.2.2.1, .sl .str (.may false) r.2.2.2.1, .int .i64 r.2.2.2.2.1], .int .i64 r.2.2.2.2.2])
noncomputable def aoy : dm Try.prog := ⟨74, fun us => match us with
 | [.agg [.sl .atype (.may _) a], .int .i64 g, .agg [.int .i64 b, .int .i64 c, .str d, .sl .jnode (.may _) e, .sl .str (.may _) f]] => let r := pick (qH a g b c d e f); some (can (qH a g b c d e f), .tup [.agg [.int .u64 r.1, .str r.2.1, .sl .aval (.may false) r.2.2.1, .sl .str (.may false) r.2.2.2.1, .int .i64 r.2.2.2.2.1], .int .i64 r.2.2.2.2.2])
 | _ => none, by
 intro _ _ h; split at h; exact bV h (fun h => h.dim rfl) rfl rfl; cases h⟩
abbrev ap9 := Int × Int
noncomputable def mg (a : Bs) (r : ap9) : Prop := aI Try.prog ahc [.str a] (.tup [.int .u32 r.1, .int .i64 r.2]) ∧ ab4 a r
noncomputable def ahm : dm Try.prog := ⟨79, fun us => match us with
 | [.str a] => let r := pick (mg a); some (can (mg a), .tup [.int .u32 r.1, .int .i64 r.2])
 | _ => none, by
 intro _ _ h; split at h; exact bV h (fun h => h.1.dim rfl) rfl rfl; cases h⟩
abbrev arh := Int × Int × Bs × List aD × Bss
noncomputable def bJ (a : Bs) (r : arh) : Prop := aI Try.prog ai2 [.str a] (.agg [.int .i64 r.1, .int .i64 r.2.1, .str r.2.2.1, .sl .jnode (.may false) r.2.2.2.1, .sl .str (.may false) r.2.2.2.2]) ∧ ac8 a r
noncomputable def yB : dm Try.prog := ⟨86, fun us => match us with
 | [.str a] => let r := pick (bJ a); some (can (bJ a), .agg [.int .i64 r.1, .int .i64 r.2.1, .str r.2.2.1, .sl .jnode (.may false) r.2.2.2.1, .sl .str (.may false) r.2.2.2.2])
 | _ => none, by
 intro _ _ h; split at h; exact bV h (fun h => h.1.dim rfl) rfl rfl; cases h⟩
abbrev asr := Int × Int × Bs × List aD × Bss × Bool
noncomputable def tx (a b : Int) (c : Bs) (d : List aD) (e : Bss) (f : Bs) (r : asr) : Prop := aI Try.prog ald [.agg [.int .i64 a, .int .i64 b, .str c, .sl .jnode (.may false) d, .sl .str (.may false) e], .str f] (.tup [.agg [.int .i64 r.1, .int .i64 r.2.1, .str r.2.2.1, .sl .jnode (.may false) r.2.2.2.1, .sl .str (.may false) r.2.2.2.2.1], .bool r.2.2.2.2.2]) ∧ uX a b c d e f r
noncomputable def ass : dm Try.prog := ⟨87, fun us => match us with
 | [.agg [.int .i64 a, .int .i64 b, .str c, .sl .jnode (.may _) d, .sl .str (.may _) e], .str f] => let r := pick (tx a b c d e f); some (can (tx a b c d e f), .tup [.agg [.int .i64 r.1, .int .i64 r.2.1, .str r.2.2.1, .sl .jnode (.may false) r.2.2.2.1, .sl .str (.may false) r.2.2.2.2.1], .bool r.2.2.2.2.2])
 | _ => none, by
 intro _ _ h; split at h; exact bV h (fun h => h.1.dim rfl) rfl rfl; cases h⟩
abbrev ahn := Int × List aA × Int
noncomputable def aK (a : List aA) (b c : Int) (r : ahn) : Prop := bl Try.prog yM [.ptr 0 0, .int .i64 c] [[.ul .atype a, .int .i64 b]] (.int .i64 r.1) [[.ul .atype r.2.1, .int .i64 r.2.2]] ∧ kC a b c r
noncomputable def cS : fI Try.prog := ⟨110, fun us css => match us, css with
 | [.ptr 0 0, .int .i64 c], [[.ul .atype a, .int .i64 b]] => let r := pick (aK a b c); some (can (aK a b c), .int .i64 r.1, [[.ul .atype r.2.1, .int .i64 r.2.2]])
 | _, _ => none, by
 intro _ _ _ _ h; split at h; exact dB h fun h => h.1.dim rfl; cases h⟩
abbrev aho := Int × List aA × Int
noncomputable def gm (a : List aA) (b : Int) (c d : Bs) (r : aho) : Prop := bl Try.prog yO [.ptr 0 0, .str c, .str d] [[.ul .atype a, .int .i64 b]] (.int .i64 r.1) [[.ul .atype r.2.1, .int .i64 r.2.2]] ∧ oT a b c d r
noncomputable def ahp : fI Try.prog := ⟨111, fun us css => match us, css with
 | [.ptr 0 0, .str c, .str d], [[.ul .atype a, .int .i64 b]] => let r := pick (gm a b c d); some (can (gm a b c d), .int .i64 r.1, [[.ul .atype r.2.1, .int .i64 r.2.2]])
 | _, _ => none, by
 intro _ _ _ _ h; split at h; exact dB h fun h => h.1.dim rfl; cases h⟩
abbrev af3 := Int × List aA × Int
noncomputable def jg (a : List aA) (b c d : Int) (e : Bs) (f : List aD) (g : Bss) (h : Bs) (i : Int) (r : af3) : Prop := bl Try.prog xt [.ptr 0 0, .agg [.int .i64 c, .int .i64 d, .str e, .sl .jnode (.may false) f, .sl .str (.may false) g], .str h, .int .i64 i] [[.ul .atype a, .int .i64 b]] (.int .i64 r.1) [[.ul .atype r.2.1, .int .i64 r.2.2]] ∧ ub a b c d e f g h i r
noncomputable def af4 : fI Try.prog := ⟨112, fun us css => match us, css with
 | [.ptr 0 0, .agg [.int .i64 a, .int .i64 b, .str c, .sl .jnode (.may _) d, .sl .str (.may _) e], .str i, .int .i64 j], [[.ul .atype f, .int .i64 g]] => let r := pick (jg f g a b c d e i j); some (can (jg f g a b c d e i j), .int .i64 r.1, [[.ul .atype r.2.1, .int .i64 r.2.2]])
 | _, _ => none, by
 intro _ _ _ _ h; split at h; exact dB h fun h => h.1.dim rfl; cases h⟩
abbrev ast := Int × Int × Bs × List aD × Bss × Bool
noncomputable def db (a b : Int) (c : Bs) (d : List aD) (e : Bss) (f : Bs) (r : ast) : Prop := aI Try.prog alf [.agg [.int .i64 a, .int .i64 b, .str c, .sl .jnode (.may false) d, .sl .str (.may false) e], .str f] (.tup [.agg [.int .i64 r.1, .int .i64 r.2.1, .str r.2.2.1, .sl .jnode (.may false) r.2.2.2.1, .sl .str (.may false) r.2.2.2.2.1], .bool r.2.2.2.2.2]) ∧ cG a b c d e f r
noncomputable def pS : dm Try.prog := ⟨113, fun us => match us with
 | [.agg [.int .i64 a, .int .i64 b, .str c, .sl .jnode (.may _) d, .sl .str (.may _) e], .str f] => let r := pick (db a b c d e f); some (can (db a b c d e f), .tup [.agg [.int .i64 r.1, .int .i64 r.2.1, .str r.2.2.1, .sl .jnode (.may false) r.2.2.2.1, .sl .str (.may false) r.2.2.2.2.1], .bool r.2.2.2.2.2])
 | _ => none, by
 intro _ _ h; split at h; exact bV h (fun h => h.1.dim rfl) rfl rfl; cases h⟩
abbrev af5 := Int × List aA × Int
noncomputable def jh (a : List aA) (b c d : Int) (e : Bs) (f : List aD) (g : Bss) (h : Int) (i : Bs) (j : Int) (r : af5) : Prop := bl Try.prog xq [.ptr 0 0, .agg [.int .i64 c, .int .i64 d, .str e, .sl .jnode (.may false) f, .sl .str (.may false) g], .int .i64 h, .str i, .int .i64 j] [[.ul .atype a, .int .i64 b]] (.int .i64 r.1) [[.ul .atype r.2.1, .int .i64 r.2.2]] ∧ fN a b c d e f g h i j r
noncomputable def af6 : fI Try.prog := ⟨114, fun us css => match us, css with
 | [.ptr 0 0, .agg [.int .i64 a, .int .i64 b, .str c, .sl .jnode (.may _) d, .sl .str (.may _) e], .int .i64 i, .str j, .int .i64 k], [[.ul .atype f, .int .i64 g]] => let r := pick (jh f g a b c d e i j k); some (can (jh f g a b c d e i j k), .int .i64 r.1, [[.ul .atype r.2.1, .int .i64 r.2.2]])
 | _, _ => none, by
 intro _ _ _ _ h; split at h; exact dB h fun h => h.1.dim rfl; cases h⟩
abbrev aqa := Int
noncomputable def mh (a : Bs) (r : aqa) : Prop := aI Try.prog ahf [.str a] (.int .i64 r) ∧ ab2 a r
noncomputable def ahq : dm Try.prog := ⟨115, fun us => match us with
 | [.str a] => let r := pick (mh a); some (can (mh a), .int .i64 r)
 | _ => none, by
 intro _ _ h; split at h; exact bV h (fun h => h.1.dim rfl) rfl rfl; cases h⟩
abbrev aiu := Int × List aA × Int
noncomputable def eB (a : List aA) (b c : Int) (d : Bs) (e : Bss) (f : Int) (g : Bss) (h : Bool) (i : Bs) (j : Int) (k : List aM) (l : List Int) (r : aiu) : Prop := bl Try.prog z9 [.ptr 0 0, .agg [.int .i64 c, .str d, .sl .str (.may false) e, .int .i64 f, .sl .str (.may false) g, .bool h, .str i, .int .i64 j, .sl .afield (.may false) k, .sl (.num .i64) (.may false) l]] [[.ul .atype a, .int .i64 b]] (.int .i64 r.1) [[.ul .atype r.2.1, .int .i64 r.2.2]] ∧ lD a b c d e f g h i j k l r
noncomputable def ol : fI Try.prog := ⟨116, fun us css => match us, css with
 | [.ptr 0 0, .agg [.int .i64 a, .str b, .sl .str (.may _) c, .int .i64 d, .sl .str (.may _) e, .bool f, .str g, .int .i64 i, .sl .afield (.may _) j, .sl (.num .i64) (.may _) k]], [[.ul .atype l, .int .i64 m]] => let r := pick (eB l m a b c d e f g i j k); some (can (eB l m a b c d e f g i j k), .int .i64 r.1, [[.ul .atype r.2.1, .int .i64 r.2.2]])
 | _, _ => none, by
 intro _ _ _ _ h; split at h; exact dB h fun h => h.1.dim rfl; cases h⟩
abbrev aiv := Int × Int × Bs × List aD × Bss × Bs × Int × Bss
noncomputable def dh (a : Bs) (b : Int) (c : Bss) (d : Int) (r : aiv) : Prop := bl Try.prog z8 [.ptr 0 0, .int .i64 d, .ptr 1 0] [[.sl .u8 (.may false) a, .int .i64 b], [.sl .str .own c]] (.agg [.int .i64 r.1, .int .i64 r.2.1, .str r.2.2.1, .sl .jnode (.may false) r.2.2.2.1, .sl .str (.may false) r.2.2.2.2.1]) [[.sl .u8 (.may false) r.2.2.2.2.2.1, .int .i64 r.2.2.2.2.2.2.1], [.sl .str .own r.2.2.2.2.2.2.2]] ∧ eZ a b c d r
noncomputable def tN : fI Try.prog := ⟨117, fun us css => match us, css with
 | [.ptr 0 0, .int .i64 d, .ptr 1 0], [[.sl .u8 (.may false) a, .int .i64 b], [.sl .str .own c]] => let r := pick (dh a b c d); some (can (dh a b c d), .agg [.int .i64 r.1, .int .i64 r.2.1, .str r.2.2.1, .sl .jnode (.may false) r.2.2.2.1, .sl .str (.may false) r.2.2.2.2.1], [[.sl .u8 (.may false) r.2.2.2.2.2.1, .int .i64 r.2.2.2.2.2.2.1], [.sl .str .own r.2.2.2.2.2.2.2]])
 | _, _ => none, by
 intro _ _ _ _ h; split at h; exact dB h fun h => h.1.dim rfl; cases h⟩
abbrev aqb := Int × Int × Bs × Bool × List aD × Bool × Bss
noncomputable def eW (a : Bool) (c : Bss) (b : Bool) (d : List aD) (r : aqb) : Prop := aI Try.prog ag8 [.sl .str (.may a) c, .sl .jnode (.may b) d] (.agg [.int .i64 r.1, .int .i64 r.2.1, .str r.2.2.1, .sl .jnode (.may r.2.2.2.1) r.2.2.2.2.1, .sl .str (.may r.2.2.2.2.2.1) r.2.2.2.2.2.2]) ∧ ab1 a c b d r
noncomputable def ahr : dm Try.prog := ⟨118, fun us => match us with
 | [.sl .str (.may a) c, .sl .jnode (.may b) d] => let r := pick (eW a c b d); some (can (eW a c b d), .agg [.int .i64 r.1, .int .i64 r.2.1, .str r.2.2.1, .sl .jnode (.may r.2.2.2.1) r.2.2.2.2.1, .sl .str (.may r.2.2.2.2.2.1) r.2.2.2.2.2.2])
 | _ => none, by
 intro _ _ h; split at h; exact bV h (fun h => h.1) rfl rfl; cases h⟩
abbrev aeu := Int × Int × Bs × List aD × Bss × Bs × Int
noncomputable def gT (a : Bs) (b c d : Int) (e : Bs) (f : List aD) (g : Bss) (r : aeu) : Prop := bl Try.prog wG [.ptr 0 0, .agg [.int .i64 c, .int .i64 d, .str e, .sl .jnode (.may false) f, .sl .str (.may false) g]] [[.sl .u8 (.may false) a, .int .i64 b]] (.agg [.int .i64 r.1, .int .i64 r.2.1, .str r.2.2.1, .sl .jnode (.may false) r.2.2.2.1, .sl .str (.may false) r.2.2.2.2.1]) [[.sl .u8 (.may false) r.2.2.2.2.2.1, .int .i64 r.2.2.2.2.2.2]] ∧ fc a b c d e f g r
noncomputable def aev : fI Try.prog := ⟨119, fun us css => match us, css with
 | [.ptr 0 0, .agg [.int .i64 a, .int .i64 b, .str c, .sl .jnode (.may _) d, .sl .str (.may _) e]], [[.sl .u8 (.may false) f, .int .i64 g]] => let r := pick (gT f g a b c d e); some (can (gT f g a b c d e), .agg [.int .i64 r.1, .int .i64 r.2.1, .str r.2.2.1, .sl .jnode (.may false) r.2.2.2.1, .sl .str (.may false) r.2.2.2.2.1], [[.sl .u8 (.may false) r.2.2.2.2.2.1, .int .i64 r.2.2.2.2.2.2]])
 | _, _ => none, by
 intro _ _ _ _ h; split at h; exact dB h fun h => h.1.dim rfl; cases h⟩
abbrev aew := Int × Bs × List aB × Bss × Int × Int × List aA × Int
noncomputable def cm (a : List aA) (b h c d : Int) (e : Bs) (f : List aD) (g : Bss) (i : Int) (r : aew) : Prop := bl Try.prog wJ [.ptr 0 0, .int .i64 h, .agg [.int .i64 c, .int .i64 d, .str e, .sl .jnode (.may false) f, .sl .str (.may false) g], .int .i64 i] [[.sl .atype (.may false) a, .int .i64 b]] (.tup [.agg [.int .u64 r.1, .str r.2.1, .sl .aval (.may false) r.2.2.1, .sl .str (.may false) r.2.2.2.1, .int .i64 r.2.2.2.2.1], .int .i64 r.2.2.2.2.2.1]) [[.sl .atype (.may false) r.2.2.2.2.2.2.1, .int .i64 r.2.2.2.2.2.2.2]] ∧ cI a b h c d e f g i r
noncomputable def lE : fI Try.prog := ⟨120, fun us css => match us, css with
 | [.ptr 0 0, .int .i64 i, .agg [.int .i64 a, .int .i64 b, .str c, .sl .jnode (.may _) d, .sl .str (.may _) e], .int .i64 j], [[.sl .atype (.may false) f, .int .i64 g]] => let r := pick (cm f g i a b c d e j); some (can (cm f g i a b c d e j), .tup [.agg [.int .u64 r.1, .str r.2.1, .sl .aval (.may false) r.2.2.1, .sl .str (.may false) r.2.2.2.1, .int .i64 r.2.2.2.2.1], .int .i64 r.2.2.2.2.2.1], [[.sl .atype (.may false) r.2.2.2.2.2.2.1, .int .i64 r.2.2.2.2.2.2.2]])
 | _, _ => none, by
 intro _ _ _ _ h; split at h; exact dB h fun h => h.1.dim rfl; cases h⟩
abbrev aqc := Int
noncomputable def sv (a : Int) (r : aqc) : Prop := aI Try.prog ag9 [.int .i64 a] (.int .u32 r)
noncomputable def aqd : dm Try.prog := ⟨132, fun us => match us with
 | [.int .i64 a] => let r := pick (sv a); some (can (sv a), .int .u32 r)
 | _ => none, by
 intro _ _ h; split at h; exact bV h (fun h => h.dim rfl) rfl rfl; cases h⟩
abbrev aoz := Int
noncomputable def mW (a : Int) (r : aoz) : Prop := aI Try.prog afo [.int .i64 a] (.int .u64 r)
noncomputable def aoA : dm Try.prog := ⟨133, fun us => match us with
 | [.int .i64 a] => let r := pick (mW a); some (can (mW a), .int .u64 r)
 | _ => none, by
 intro _ _ h; split at h; exact bV h (fun h => h.dim rfl) rfl rfl; cases h⟩
abbrev ahs := Int × Bool × List aA × Int
noncomputable def cT (a : List aA) (b : Int) (c : Bs) (r : ahs) : Prop := bl Try.prog yN [.ptr 0 0, .str c] [[.ul .atype a, .int .i64 b]] (.tup [.int .i64 r.1, .bool r.2.1]) [[.ul .atype r.2.2.1, .int .i64 r.2.2.2]] ∧ vD a b c r
noncomputable def yR : fI Try.prog := ⟨138, fun us css => match us, css with
 | [.ptr 0 0, .str c], [[.ul .atype a, .int .i64 b]] => let r := pick (cT a b c); some (can (cT a b c), .tup [.int .i64 r.1, .bool r.2.1], [[.ul .atype r.2.2.1, .int .i64 r.2.2.2]])
 | _, _ => none, by
 intro _ _ _ _ h; split at h; exact dB h fun h => h.1.dim rfl; cases h⟩
abbrev ari := Bs
noncomputable def rc (a : List aA) (b : Int) (r : ari) : Prop := aI Try.prog ai5 [.agg [.sl .atype (.may false) a], .int .i64 b] (.str r)
noncomputable def arj : dm Try.prog := ⟨139, fun us => match us with
 | [.agg [.sl .atype (.may _) a], .int .i64 b] => let r := pick (rc a b); some (can (rc a b), .str r)
 | _ => none, by
 intro _ _ h; split at h; exact bV h (fun h => h.dim rfl) rfl rfl; cases h⟩
abbrev aht := Bs × List aA × Int
noncomputable def dO (a : List aA) (b c d : Int) (e : Bs) (f : List aD) (g : Bss) (h : Bs) (i : Bool) (r : aht) : Prop := bl Try.prog yQ [.ptr 0 0, .agg [.int .i64 c, .int .i64 d, .str e, .sl .jnode (.may false) f, .sl .str (.may false) g], .str h, .bool i] [[.ul .atype a, .int .i64 b]] (.str r.1) [[.ul .atype r.2.1, .int .i64 r.2.2]] ∧ vE a b c d e f g h i r
noncomputable def sA : fI Try.prog := ⟨140, fun us css => match us, css with
 | [.ptr 0 0, .agg [.int .i64 a, .int .i64 b, .str c, .sl .jnode (.may _) d, .sl .str (.may _) e], .str i, .bool j], [[.ul .atype f, .int .i64 g]] => let r := pick (dO f g a b c d e i j); some (can (dO f g a b c d e i j), .str r.1, [[.ul .atype r.2.1, .int .i64 r.2.2]])
 | _, _ => none, by
 intro _ _ _ _ h; split at h; exact dB h fun h => h.1.dim rfl; cases h⟩
abbrev af7 := Bs × List aA × Int
noncomputable def fG (a : List aA) (b : Int) (c d : Bs) (r : af7) : Prop := bl Try.prog xu [.ptr 0 0, .str c, .str d] [[.ul .atype a, .int .i64 b]] (.str r.1) [[.ul .atype r.2.1, .int .i64 r.2.2]] ∧ uc a b c d r
noncomputable def af8 : fI Try.prog := ⟨141, fun us css => match us, css with
 | [.ptr 0 0, .str c, .str d], [[.ul .atype a, .int .i64 b]] => let r := pick (fG a b c d); some (can (fG a b c d), .str r.1, [[.ul .atype r.2.1, .int .i64 r.2.2]])
 | _, _ => none, by
 intro _ _ _ _ h; split at h; exact dB h fun h => h.1.dim rfl; cases h⟩
abbrev amI := Bs
noncomputable def oU (a : Bs) (r : amI) : Prop := aI Try.prog ada [.str a] (.str r) ∧ lj a r
noncomputable def amJ : dm Try.prog := ⟨142, fun us => match us with
 | [.str a] => let r := pick (oU a); some (can (oU a), .str r)
 | _ => none, by
 intro _ _ h; split at h; exact bV h (fun h => h.1.dim rfl) rfl rfl; cases h⟩
abbrev af9 := Bss × Bool × List aA × Int
noncomputable def dc (a : List aA) (b c d : Int) (e : Bs) (f : List aD) (g : Bss) (h : Bs) (r : af9) : Prop := bl Try.prog xr [.ptr 0 0, .agg [.int .i64 c, .int .i64 d, .str e, .sl .jnode (.may false) f, .sl .str (.may false) g], .str h] [[.ul .atype a, .int .i64 b]] (.tup [.sl .str (.may false) r.1, .bool r.2.1]) [[.ul .atype r.2.2.1, .int .i64 r.2.2.2]] ∧ nR a b c d e f g h r
noncomputable def rf : fI Try.prog := ⟨143, fun us css => match us, css with
 | [.ptr 0 0, .agg [.int .i64 a, .int .i64 b, .str c, .sl .jnode (.may _) d, .sl .str (.may _) e], .str i], [[.ul .atype f, .int .i64 g]] => let r := pick (dc f g a b c d e i); some (can (dc f g a b c d e i), .tup [.sl .str (.may false) r.1, .bool r.2.1], [[.ul .atype r.2.2.1, .int .i64 r.2.2.2]])
 | _, _ => none, by
 intro _ _ _ _ h; split at h; exact dB h fun h => h.1.dim rfl; cases h⟩
abbrev aex := List aA × Int
noncomputable def gU (a : List aA) (b c d : Int) (e : Bs) (f : List aD) (g : Bss) (h : Int) (i : Bs) (j : Int) (r : aex) : Prop := bl Try.prog wH [.ptr 0 0, .agg [.int .i64 c, .int .i64 d, .str e, .sl .jnode (.may false) f, .sl .str (.may false) g], .int .i64 h, .str i, .int .i64 j] [[.ul .atype a, .int .i64 b]] (.tup []) [[.ul .atype r.1, .int .i64 r.2]] ∧ dP a b c d e f g h i j r
noncomputable def aey : fI Try.prog := ⟨144, fun us css => match us, css with
 | [.ptr 0 0, .agg [.int .i64 a, .int .i64 b, .str c, .sl .jnode (.may _) d, .sl .str (.may _) e], .int .i64 i, .str j, .int .i64 k], [[.ul .atype f, .int .i64 g]] => let r := pick (gU f g a b c d e i j k); some (can (gU f g a b c d e i j k), .tup [], [[.ul .atype r.1, .int .i64 r.2]])
 | _, _ => none, by
 intro _ _ _ _ h; split at h; exact dB h fun h => h.1.dim rfl; cases h⟩
abbrev adb := List aA × Int
noncomputable def gn (a : List aA) (b c d : Int) (e : Bs) (f : List aD) (g : Bss) (h : Int) (r : adb) : Prop := bl Try.prog vF [.ptr 0 0, .agg [.int .i64 c, .int .i64 d, .str e, .sl .jnode (.may false) f, .sl .str (.may false) g], .int .i64 h] [[.ul .atype a, .int .i64 b]] (.tup []) [[.ul .atype r.1, .int .i64 r.2]] ∧ dG a b c d e f g h r
noncomputable def adc : fI Try.prog := ⟨145, fun us css => match us, css with
 | [.ptr 0 0, .agg [.int .i64 a, .int .i64 b, .str c, .sl .jnode (.may _) d, .sl .str (.may _) e], .int .i64 i], [[.ul .atype f, .int .i64 g]] => let r := pick (gn f g a b c d e i); some (can (gn f g a b c d e i), .tup [], [[.ul .atype r.1, .int .i64 r.2]])
 | _, _ => none, by
 intro _ _ _ _ h; split at h; exact dB h fun h => h.1.dim rfl; cases h⟩
abbrev ahu := Int × Int × Bs × List aD × Bss × Bs × Int × Bss
noncomputable def ko (a : Bs) (b : Int) (c : Bss) (d : Int) (r : ahu) : Prop := bl Try.prog yL [.ptr 0 0, .int .i64 d, .ptr 1 0] [[.sl .u8 (.may false) a, .int .i64 b], [.sl .str .own c]] (.agg [.int .i64 r.1, .int .i64 r.2.1, .str r.2.2.1, .sl .jnode (.may false) r.2.2.2.1, .sl .str (.may false) r.2.2.2.2.1]) [[.sl .u8 (.may false) r.2.2.2.2.2.1, .int .i64 r.2.2.2.2.2.2.1], [.sl .str .own r.2.2.2.2.2.2.2]] ∧ vC a b c d r
noncomputable def ahv : fI Try.prog := ⟨146, fun us css => match us, css with
 | [.ptr 0 0, .int .i64 d, .ptr 1 0], [[.sl .u8 (.may false) a, .int .i64 b], [.sl .str .own c]] => let r := pick (ko a b c d); some (can (ko a b c d), .agg [.int .i64 r.1, .int .i64 r.2.1, .str r.2.2.1, .sl .jnode (.may false) r.2.2.2.1, .sl .str (.may false) r.2.2.2.2.1], [[.sl .u8 (.may false) r.2.2.2.2.2.1, .int .i64 r.2.2.2.2.2.2.1], [.sl .str .own r.2.2.2.2.2.2.2]])
 | _, _ => none, by
 intro _ _ _ _ h; split at h; exact dB h fun h => h.1.dim rfl; cases h⟩
abbrev ark := Bs × Bool
noncomputable def ud (a : Bs) (r : ark) : Prop := aI Try.prog ai6 [.str a] (.tup [.str r.1, .bool r.2])
noncomputable def arl : dm Try.prog := ⟨147, fun us => match us with
 | [.str a] => let r := pick (ud a); some (can (ud a), .tup [.str r.1, .bool r.2])
 | _ => none, by
 intro _ _ h; split at h; exact bV h (fun h => h.dim rfl) rfl rfl; cases h⟩
abbrev aez := Int × Bs × List aB × Bss × Int × Int × List aA × Int
noncomputable def gV (a : List aA) (b c : Int) (d : Bs) (e : Bss) (f : Int) (g : Bss) (h : Bool) (i : Bs) (j : Int) (k : List aM) (l : List Int) (m n : Int) (o : Bs) (p : List aD) (q : Bss) (s : Int) (r : aez) : Prop := bl Try.prog wI [.ptr 0 0, .agg [.int .i64 c, .str d, .sl .str (.may false) e, .int .i64 f, .sl .str (.may false) g, .bool h, .str i, .int .i64 j, .sl .afield (.may false) k, .sl (.num .i64) (.may false) l], .agg [.int .i64 m, .int .i64 n, .str o, .sl .jnode (.may false) p, .sl .str (.may false) q], .int .i64 s] [[.sl .atype (.may false) a, .int .i64 b]] (.tup [.agg [.int .u64 r.1, .str r.2.1, .sl .aval (.may false) r.2.2.1, .sl .str (.may false) r.2.2.2.1, .int .i64 r.2.2.2.2.1], .int .i64 r.2.2.2.2.2.1]) [[.sl .atype (.may false) r.2.2.2.2.2.2.1, .int .i64 r.2.2.2.2.2.2.2]] ∧ tF a b c d e f g h i j k l m n o p q s r
noncomputable def aeA : fI Try.prog := ⟨148, fun us css => match us, css with
 | [.ptr 0 0, .agg [.int .i64 a, .str b, .sl .str (.may _) c, .int .i64 d, .sl .str (.may _) e, .bool f, .str g, .int .i64 i, .sl .afield (.may _) j, .sl (.num .i64) (.may _) k], .agg [.int .i64 l, .int .i64 m, .str n, .sl .jnode (.may _) o, .sl .str (.may _) p], .int .i64 t], [[.sl .atype (.may false) q, .int .i64 s]] => let r := pick (gV q s a b c d e f g i j k l m n o p t); some (can (gV q s a b c d e f g i j k l m n o p t), .tup [.agg [.int .u64 r.1, .str r.2.1, .sl .aval (.may false) r.2.2.1, .sl .str (.may false) r.2.2.2.1, .int .i64 r.2.2.2.2.1], .int .i64 r.2.2.2.2.2.1], [[.sl .atype (.may false) r.2.2.2.2.2.2.1, .int .i64 r.2.2.2.2.2.2.2]])
 | _, _ => none, by
 intro _ _ _ _ h; split at h; exact dB h fun h => h.1.dim rfl; cases h⟩
abbrev ade := Int × Bs × List aB × Bss × Int × Int × List aA × Int
noncomputable def gp (a : List aA) (b c : Int) (d : Bs) (e : Bss) (f : Int) (g : Bss) (h : Bool) (i : Bs) (j : Int) (k : List aM) (l : List Int) (m n : Int) (o : Bs) (p : List aD) (q : Bss) (s : Int) (r : ade) : Prop := bl Try.prog vG [.ptr 0 0, .agg [.int .i64 c, .str d, .sl .str (.may false) e, .int .i64 f, .sl .str (.may false) g, .bool h, .str i, .int .i64 j, .sl .afield (.may false) k, .sl (.num .i64) (.may false) l], .agg [.int .i64 m, .int .i64 n, .str o, .sl .jnode (.may false) p, .sl .str (.may false) q], .int .i64 s] [[.sl .atype (.may false) a, .int .i64 b]] (.tup [.agg [.int .u64 r.1, .str r.2.1, .sl .aval (.may false) r.2.2.1, .sl .str (.may false) r.2.2.2.1, .int .i64 r.2.2.2.2.1], .int .i64 r.2.2.2.2.2.1]) [[.sl .atype (.may false) r.2.2.2.2.2.2.1, .int .i64 r.2.2.2.2.2.2.2]] ∧ ss a b c d e f g h i j k l m n o p q s r
noncomputable def adf : fI Try.prog := ⟨149, fun us css => match us, css with
 | [.ptr 0 0, .agg [.int .i64 a, .str b, .sl .str (.may _) c, .int .i64 d, .sl .str (.may _) e, .bool f, .str g, .int .i64 i, .sl .afield (.may _) j, .sl (.num .i64) (.may _) k], .agg [.int .i64 l, .int .i64 m, .str n, .sl .jnode (.may _) o, .sl .str (.may _) p], .int .i64 t], [[.sl .atype (.may false) q, .int .i64 s]] => let r := pick (gp q s a b c d e f g i j k l m n o p t); some (can (gp q s a b c d e f g i j k l m n o p t), .tup [.agg [.int .u64 r.1, .str r.2.1, .sl .aval (.may false) r.2.2.1, .sl .str (.may false) r.2.2.2.1, .int .i64 r.2.2.2.2.1], .int .i64 r.2.2.2.2.2.1], [[.sl .atype (.may false) r.2.2.2.2.2.2.1, .int .i64 r.2.2.2.2.2.2.2]])
 | _, _ => none, by
 intro _ _ _ _ h; split at h; exact dB h fun h => h.1.dim rfl; cases h⟩
abbrev arm := Int
noncomputable def lV (a b c : Int) (r : arm) : Prop := aI Try.prog ai3 [.int .u64 a, .int .i64 b, .int .i64 c] (.int .u64 r)
noncomputable def aja : dm Try.prog := ⟨154, fun us => match us with
 | [.int .u64 a, .int .i64 b, .int .i64 c] => let r := pick (lV a b c); some (can (lV a b c), .int .u64 r)
 | _ => none, by
 intro _ _ h; split at h; exact bV h (fun h => h.dim rfl) rfl rfl; cases h⟩
abbrev aqe := Bs
noncomputable def sB (a : Int) (r : aqe) : Prop := aI Try.prog ahe [.int .i64 a] (.str r)
noncomputable def aqf : dm Try.prog := ⟨158, fun us => match us with
 | [.int .i64 a] => let r := pick (sB a); some (can (sB a), .str r)
 | _ => none, by
 intro _ _ h; split at h; exact bV h (fun h => h.dim rfl) rfl rfl; cases h⟩
abbrev arn := Bs
noncomputable def uf (a b : Bs) (r : arn) : Prop := aI Try.prog ai8 [.str a, .str b] (.str r) ∧ tw a b r
noncomputable def aro : dm Try.prog := ⟨159, fun us => match us with
 | [.str a, .str b] => let r := pick (uf a b); some (can (uf a b), .str r)
 | _ => none, by
 intro _ _ h; split at h; exact bV h (fun h => h.1.dim rfl) rfl rfl; cases h⟩
abbrev aqg := Bool
noncomputable def sC (a : Bs) (r : aqg) : Prop := aI Try.prog ahi [.str a] (.bool r)
noncomputable def aqh : dm Try.prog := ⟨160, fun us => match us with
 | [.str a] => let r := pick (sC a); some (can (sC a), .bool r)
 | _ => none, by
 intro _ _ h; split at h; exact bV h (fun h => h.dim rfl) rfl rfl; cases h⟩
abbrev arp := Bool
noncomputable def jP (a : Bs) (r : arp) : Prop := aI Try.prog ai7 [.str a] (.bool r)
noncomputable def acl : dm Try.prog := ⟨161, fun us => match us with
 | [.str a] => let r := pick (jP a); some (can (jP a), .bool r)
 | _ => none, by
 intro _ _ h; split at h; exact bV h (fun h => h.dim rfl) rfl rfl; cases h⟩
abbrev aqi := Int × Int
noncomputable def sD (a : Bs) (r : aqi) : Prop := aI Try.prog aha [.str a] (.tup [.int .u32 r.1, .int .i64 r.2]) ∧ ab3 a r
noncomputable def aqj : dm Try.prog := ⟨162, fun us => match us with
 | [.str a] => let r := pick (sD a); some (can (sD a), .tup [.int .u32 r.1, .int .i64 r.2])
 | _ => none, by
 intro _ _ h; split at h; exact bV h (fun h => h.1.dim rfl) rfl rfl; cases h⟩
abbrev aoB := Bool
noncomputable def qI (a : Int) (r : aoB) : Prop := aI Try.prog afs [.int .u8 a] (.bool r)
noncomputable def aoC : dm Try.prog := ⟨164, fun us => match us with
 | [.int .u8 a] => let r := pick (qI a); some (can (qI a), .bool r)
 | _ => none, by
 intro _ _ h; split at h; exact bV h (fun h => h.dim rfl) rfl rfl; cases h⟩
abbrev aqk := Bool
noncomputable def sE (a : Int) (r : aqk) : Prop := aI Try.prog ahh [.int .u8 a] (.bool r)
noncomputable def aql : dm Try.prog := ⟨165, fun us => match us with
 | [.int .u8 a] => let r := pick (sE a); some (can (sE a), .bool r)
 | _ => none, by
 intro _ _ h; split at h; exact bV h (fun h => h.dim rfl) rfl rfl; cases h⟩
end Go.Proofs.Ytdpajabhmmmjoaa
end
