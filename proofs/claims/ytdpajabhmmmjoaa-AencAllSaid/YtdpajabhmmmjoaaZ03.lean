import Derived.Test.YtdpajabhmmmjoaaChecked
import Derived.KernelRfl
import Derived.ChangeArms
import Derived.ChangeSlices
import Derived.WideShapes
import Derived.WideKeyArgs
import Derived.Test.YtdpajabhmmmjoaaZ02
noncomputable section
namespace Go.Proofs.Ytdpajabhmmmjoaa
open Go.AM
set_option autoImplicit false
set_option linter.unusedVariables false
set_option maxRecDepth 100000
abbrev nN : FuncId := 21
abbrev adG : FuncId := 55
abbrev adH : FuncId := 52
abbrev oM : FuncId := 82
abbrev aiy : FuncId := 49
abbrev adI : FuncId := 53
abbrev z6 : FuncId := 50
abbrev z7 : FuncId := 54
abbrev adJ : FuncId := 51
abbrev uE : FuncId := 150
abbrev u7 : FuncId := 80
abbrev z8 : FuncId := 121
abbrev abK : FuncId := 163
abbrev cr : FuncId := 81
abbrev cM : FuncId := 122
def aiz : Nat → List V → Option (Bool × V) := fun _ _ => none
def wQ : aN := (iw aiz)
theorem alR : cO wQ [] := (dn _ _)
theorem am6  : bK Try.prog wQ := by
 intro f vs hp v hp' h
 obtain ⟨h, -⟩ := eh h
 simp [aiz] at h
def agS : IR := Rs [Pp (.mov 4 (.c (.int .u8 0)))] (Rs [Mv 5 0, Mv 6 1, Bi 7 .shr 5 6, Pp (.bin 8 .and 7 (.c (.int .u32 63))), Pp (.bin 9 .or (.c (.int .u32 128)) 8), Pp (.cvi 10 .u8 9), Mv 4 10] .ret)
def agT : List RV := [.t 4]
theorem aoU : (bJ Try.prog [] 0 agS (Try.f163.body.getD .skip) && eI Try.prog agT Try.f163.results.toList) = true := by kernel_rfl
theorem am7 : Try.f163.body = some (Try.f163.body.getD .skip) := by kernel_rfl
def agU (N : Nat) (b a : Int) : Ro :=
 chk (decide (0 ≤ a)) (
 let c : Int := (bH .and .u32 (cJ .u32 b a) 63)
 let d : Int := (IntKind.wrap .u8 (bH .or .u32 128 c))
 some (.int .u8 d, []))
def u9 (N : Nat) (a b : Int) : Ro := agU N a b
theorem aoV (N : Nat) (a b : Int) : aW wQ N 11 agT agS [.int .u32 a, .int .i64 b] [] = u9 N a b := by kernel_rfl
theorem aq7 (hΓ : bK Try.prog wQ) (N : Nat) (a b : Int) {v : V} {hp : List aK} (h : u9 N a b = some (v, hp)) : aI Try.prog abK [.int .u32 a, .int .i64 b] v := by
 have hc := aoU
 simp only [Bool.and_eq_true] at hc
 exact ⟨hp, ig hΓ alR Try.func163 am7 hc.1 hc.2 (by decide) ((aoV N a b).trans h)⟩
def ak0 (N : Nat) : Nat → List V → Option (Bool × V) := fun f vs => match f, vs with
 | 150, [.int .u32 a] => some ((decide ((a : Int) = 65533) && decide (0 < N)), .str (yq a))
 | 163, [.int .u32 a, .int .i64 b] => some ((decide (0 ≤ (b : Int)) && decide ((b : Int) ≤ 32)), .int .u8 (ix a b))
 | _, _ => none
def ze (N : Nat) : aN := (iw (ak0 N))
theorem am8 (N : Nat) : cO (ze N) [] := (dn _ _)
theorem aeq (N : Nat) (h_glyph_Put : ∀ (a : Int), (decide ((a : Int) = 65533) && decide (0 < N)) = true → aI Try.prog uE [.int .u32 a] (.str (yq a))) (h_glyph_tail : ∀ (a : Int) (b : Int), (decide (0 ≤ (b : Int)) && decide ((b : Int) ≤ 32)) = true → aI Try.prog abK [.int .u32 a, .int .i64 b] (.int .u8 (ix a b))) : bK Try.prog (ze N) := by
 intro f vs hp v hp' h0
 obtain ⟨h, he⟩ := eh h0
 subst he
 unfold ak0 at h
 split at h
 ·simp only [Option.some.injEq, Prod.mk.injEq] at h
  obtain ⟨hc, rfl⟩ := h
  exact ((h_glyph_Put _ hc).dim rfl).frame rfl rfl _
 ·simp only [Option.some.injEq, Prod.mk.injEq] at h
  obtain ⟨hc, rfl⟩ := h
  exact ((h_glyph_tail _ _ hc).dim rfl).frame rfl rfl _
 ·simp at h
def aiA : IR := Rs [Ms 2 []] (Sq (.block 0 (Rs [Mv 4 0, Pp (.bin 5 .lss 4 (.c (.int .u32 128))), Mv 3 5] (Cn 3 (Rs [Mv 6 0, Pp (.cvi 7 .u8 6), Pp (.bsl 8 .u8 [7] false), Pp (.b2s 9 8), Mv 2 9] .ret) (Rs [Mv 11 0, Pp (.bin 12 .lss 11 (.c (.int .u32 2048))), Mv 10 12] (Cn 10 (Rs [Mv 13 0, Pp (.bin 14 .shr 13 (kU 6)), Pp (.bin 15 .or (.c (.int .u32 192)) 14), Pp (.cvi 16 .u8 15), Mv 17 0, Ca 18 163 [17, kI 0], Pp (.bsl 19 .u8 [16, 18] false), Pp (.b2s 20 19), Mv 2 20] .ret) (Rs [Mv 22 0, Pp (.bin 23 .geq 22 (.c (.int .u32 55296))), Mv 24 23, Gt 24 (.mov 25 0), Gt 24 (.bin 26 .lss 25 (.c (.int .u32 57344))), Pa 27 24 26, Mv 28 27, Gf 28 (.mov 29 0), Gf 28 (.bin 30 .gtr 29 (.c (.int .u32 1114111))), Po 31 28 30, Mv 21 31] (Cn 21 (Rs [Ca 32 150 [.c (.int .u32 65533)], Mv 2 32] .ret) (Rs [Mv 34 0, Pp (.bin 35 .lss 34 (.c (.int .u32 65536))), Mv 33 35] (Cn 33 (Rs [Mv 36 0, Pp (.bin 37 .shr 36 (kU 12)), Pp (.bin 38 .or (.c (.int .u32 224)) 37), Pp (.cvi 39 .u8 38), Mv 40 0, Ca 41 163 [40, kI 6], Mv 42 0, Ca 43 163 [42, kI 0], Pp (.bsl 44 .u8 [39, 41, 43] false), Pp (.b2s 45 44), Mv 2 45] .ret) .skip))))))))) (Rs [Mv 46 0, Pp (.bin 47 .shr 46 (kU 18)), Pp (.bin 48 .or (.c (.int .u32 240)) 47), Pp (.cvi 49 .u8 48), Mv 50 0, Ca 51 163 [50, kI 12], Mv 52 0, Ca 53 163 [52, kI 6], Mv 54 0, Ca 55 163 [54, kI 0], Pp (.bsl 56 .u8 [49, 51, 53, 55] false), Pp (.b2s 57 56), Mv 2 57] .ret))
def aiB : List RV := [.t 2]
theorem aq8 : (bJ Try.prog [] 0 aiA (Try.f150.body.getD .skip) && eI Try.prog aiB Try.f150.results.toList) = true := by kernel_rfl
theorem aoW : Try.f150.body = some (Try.f150.body.getD .skip) := by kernel_rfl
def aiC (N : Nat) (a : Int) : Ro :=
 cond (decide (a < 128)) (
 some (.str ([(UInt8.ofNat (Int.toNat (IntKind.wrap .u8 a)))] : Bs), [])) (
 cond (decide (a < 2048)) (
 let b : Int := (bH .or .u32 192 (cJ .u32 a 6))
 chk (decide (0 ≤ (0 : Int)) && decide ((0 : Int) ≤ 32)) (
 some (.str ([(UInt8.ofNat (Int.toNat (IntKind.wrap .u8 b))), (UInt8.ofNat (Int.toNat (ix a 0)))] : Bs), []))) (
 cond (decide (55296 ≤ a)) (
 cond (decide (a < 57344)) (
 chk (decide ((65533 : Int) = 65533) && decide (0 < N)) (
 some (.str (yq 65533), []))) (
 cond (decide (1114111 < a)) (
 chk (decide ((65533 : Int) = 65533) && decide (0 < N)) (
 some (.str (yq 65533), []))) (
 cond (decide (a < 65536)) (
 let c : Int := (bH .or .u32 224 (cJ .u32 a 12))
 chk (decide (0 ≤ (6 : Int)) && decide ((6 : Int) ≤ 32)) (
 chk (decide (0 ≤ (0 : Int)) && decide ((0 : Int) ≤ 32)) (
 some (.str ([(UInt8.ofNat (Int.toNat (IntKind.wrap .u8 c))), (UInt8.ofNat (Int.toNat (ix a 6))), (UInt8.ofNat (Int.toNat (ix a 0)))] : Bs), [])))) (
 let d : Int := (bH .or .u32 240 (cJ .u32 a 18))
 chk (decide (0 ≤ (12 : Int)) && decide ((12 : Int) ≤ 32)) (
 chk (decide (0 ≤ (6 : Int)) && decide ((6 : Int) ≤ 32)) (
 chk (decide (0 ≤ (0 : Int)) && decide ((0 : Int) ≤ 32)) (
 some (.str ([(UInt8.ofNat (Int.toNat (IntKind.wrap .u8 d))), (UInt8.ofNat (Int.toNat (ix a 12))), (UInt8.ofNat (Int.toNat (ix a 6))), (UInt8.ofNat (Int.toNat (ix a 0)))] : Bs), [])))))))) (
 cond (decide (1114111 < a)) (
 chk (decide ((65533 : Int) = 65533) && decide (0 < N)) (
 some (.str (yq 65533), []))) (
 cond (decide (a < 65536)) (
 let e : Int := (bH .or .u32 224 (cJ .u32 a 12))
 chk (decide (0 ≤ (6 : Int)) && decide ((6 : Int) ≤ 32)) (
 chk (decide (0 ≤ (0 : Int)) && decide ((0 : Int) ≤ 32)) (
 some (.str ([(UInt8.ofNat (Int.toNat (IntKind.wrap .u8 e))), (UInt8.ofNat (Int.toNat (ix a 6))), (UInt8.ofNat (Int.toNat (ix a 0)))] : Bs), [])))) (
 let f : Int := (bH .or .u32 240 (cJ .u32 a 18))
 chk (decide (0 ≤ (12 : Int)) && decide ((12 : Int) ≤ 32)) (
 chk (decide (0 ≤ (6 : Int)) && decide ((6 : Int) ≤ 32)) (
 chk (decide (0 ≤ (0 : Int)) && decide ((0 : Int) ≤ 32)) (
 some (.str ([(UInt8.ofNat (Int.toNat (IntKind.wrap .u8 f))), (UInt8.ofNat (Int.toNat (ix a 12))), (UInt8.ofNat (Int.toNat (ix a 6))), (UInt8.ofNat (Int.toNat (ix a 0)))] : Bs), [])))))))))
def wR (N : Nat) (a : Int) : Ro := aiC N a
theorem aq9 (N : Nat) (a : Int) : aW (ze N) N 58 aiB aiA [.int .u32 a] [] = wR N a := by kernel_rfl
theorem aiD (N : Nat) (hΓ : bK Try.prog (ze N)) (a : Int) {v : V} {hp : List aK} (h : wR N a = some (v, hp)) : aI Try.prog uE [.int .u32 a] v := by
 have hc := aq8
 simp only [Bool.and_eq_true] at hc
 exact ⟨hp, ig hΓ (am8 N) Try.func150 aoW hc.1 hc.2 (by decide) ((aq9 N a).trans h)⟩
def agV : Nat → List V → Option (Bool × V) := fun f vs => match f, vs with
 | 150, [.int .u32 a] => some (true, .str (yq a))
 | _, _ => none
def kG : aN := (iw agV)
theorem aki : cO kG [] := (dn _ _)
theorem alS (h_glyph_Put : ∀ (a : Int), aI Try.prog uE [.int .u32 a] (.str (yq a))) : bK Try.prog kG := by
 intro f vs hp v hp' h0
 obtain ⟨h, he⟩ := eh h0
 subst he
 unfold agV at h
 split at h
 ·simp only [Option.some.injEq, Prod.mk.injEq] at h
  obtain ⟨hc, rfl⟩ := h
  exact ((h_glyph_Put _).dim rfl).frame rfl rfl _
 ·simp at h
def aaQ : IR := Sq (Rs [Mv 42 5, Mv 43 3, Bi 44 .lss 42 43] (Cn 44 .skip (.exit 1))) (Sq (.block 2 (Rg [Mv 47 2, Pp (.bin 48 .shl 47 (kU 6)), Mv 49 0, Mv 50 5, Pp (.idx 51 49 50), Pp (.bin 52 .and 51 (.c (.int .u8 63))), Pp (.cvi 53 .u32 52), Bi 54 .or 48 53, Mv 2 54])) (Rg [Mv 45 5, Bc 46 .add 45 1, Mv 5 46]))
def aaR : IR := Sq (Sq (.reg [Mv 55 2, Ca 56 150 [55], Mv 57 0, Mv 58 3, Pp (.subs 59 57 none (some 58)), Bi 60 .neq 56 59] [[], [0], [], [], [2, 3], rg 0 4]) (Cn 60 (Rs [Pp (.mov 2 (.c (.int .u32 0))), Mi 3 0] .ret) .skip)) (Rs [Mv 61 2, Mv 62 3, Mv 2 61, Mv 3 62] .ret)
def yt : IR := Rs [Pp (.mov 2 (.c (.int .u32 0))), Mi 3 0] (Rs [Mv 6 0, Pp (.idx 7 6 (kI 0)), Mv 4 7] (Sq (.block 0 (Rs [Mv 9 4, Pp (.bin 10 .lss 9 (.c (.int .u8 128))), Mv 8 10] (Cn 8 (Rs [Mv 11 4, Pp (.cvi 12 .u32 11), Mv 2 12, Mi 3 1] .ret) (Rs [Mv 14 4, Pp (.bin 15 .shr 14 (kU 5)), Pp (.bin 16 .eql 15 (.c (.int .u8 6))), Mv 13 16] (Cn 13 (Rg [Mv 17 4, Pp (.bin 18 .and 17 (.c (.int .u8 31))), Pp (.cvi 19 .u32 18), Mv 2 19, Mi 3 2]) (Rs [Mv 21 4, Pp (.bin 22 .shr 21 (kU 4)), Pp (.bin 23 .eql 22 (.c (.int .u8 14))), Mv 20 23] (Cn 20 (Rg [Mv 24 4, Pp (.bin 25 .and 24 (.c (.int .u8 15))), Pp (.cvi 26 .u32 25), Mv 2 26, Mi 3 3]) (Rs [Mv 28 4, Pp (.bin 29 .shr 28 (kU 3)), Pp (.bin 30 .eql 29 (.c (.int .u8 30))), Mv 27 30] (Cn 27 (Rg [Mv 31 4, Pp (.bin 32 .and 31 (.c (.int .u8 7))), Pp (.cvi 33 .u32 32), Mv 2 33, Mi 3 4]) .skip))))))))) (Sq (Rs [Mv 34 3, Bc 35 .eql 34 0, Mv 36 35, Gf 36 (.mov 37 3), Gf 36 (.mov 38 0), Gf 36 (.lens 39 38), Gf 36 (.bin 40 .gtr 37 39), Po 41 36 40] (Cn 41 (Rs [Pp (.mov 2 (.c (.int .u32 0))), Mi 3 0] .ret) .skip)) (Sq (Rs [Mi 5 1] (.block 1 (.loop [0, 2, 3, 5, 1000000] 0 aaQ))) aaR))))
def tx : List RV := [.t 2, .t 3]
theorem am9 : (bJ Try.prog [] 0 yt (Try.f121.body.getD .skip) && eI Try.prog tx Try.f121.results.toList) = true := by kernel_rfl
theorem alT : Try.f121.body = some (Try.f121.body.getD .skip) := by kernel_rfl
def ana (R : IR → (Ex → St → Ro) → St → Ro) (a : St → Ro) : Ex → St → Ro := (bz a [0, 2, 3, 5, 1000000] 0 (aR 1 (bp (R aaR) (fin tx))))
abbrev mV : Type := (Bs × Int × Int × Int)
def lY : mV → St := fun (a, b, c, d) => { env := (.str a :: .undef :: .int .u32 b :: .int .i64 c :: .undef :: .int .i64 d :: (U 57 [])), hp := [] }
def wS (N : Nat) : (St → Ro) → St → Ro := fun a s => run kG N aaQ (ana (run kG N) a) s
def dB (N : Nat) (a : mV → Ro) : mV → Ro := fun (c, e, b, d) =>
 cond (decide (d < b)) (
 chk (decide (0 ≤ d) && decide (d < ↑(List.length c))) (
 let f : Int := (↑(UInt8.toNat (List.getD c (Int.toNat d) 0)) : Int)
 let g : Int := (IntKind.wrap .u32 (bH .and .u8 f 63))
 let h : Int := (bH .or .u32 (fo .u32 e 6) g)
 let i : Int := (IntKind.wrap .i64 (d + 1))
 a (c, h, b, i))) (
 chk (decide (0 ≤ b) && decide (b ≤ (↑(List.length c) : Int))) (
 let j : Bs := (List.drop 0 (List.take (Int.toNat b) c))
 let k : Bool := (!decide ((yq e) = j))
 cond k (
 some (.tup [.int .u32 0, .int .i64 0], [])) (
 some (.tup [.int .u32 e, .int .i64 b], []))))
theorem alU (N : Nat) : ∀ (a : St → Ro) (x : mV), wS N a (lY x) = dB N (fun y => a (lY y)) x := by
 intro a x
 kernel_rfl
def oN (N : Nat) (a : Bs) (c : mV → Ro) : Ro :=
 chk (decide ((0 : Int) < ↑(List.length a))) (
 let b : Int := (↑(UInt8.toNat (List.getD a (Int.toNat 0) 0)) : Int)
 cond (decide (b < 128)) (
 some (.tup [.int .u32 (IntKind.wrap .u32 b), .int .i64 1], [])) (
 cond ((cJ .u8 b 5) == 6) (
 let i : Int := (IntKind.wrap .u32 (bH .and .u8 b 31))
 cond (2 == 0) (
 some (.tup [.int .u32 0, .int .i64 0], [])) (
 let j : Int := (↑(List.length a) : Int)
 cond (decide (j < 2)) (
 some (.tup [.int .u32 0, .int .i64 0], [])) (
 c (a, i, 2, 1)))) (
 cond ((cJ .u8 b 4) == 14) (
 let d : Int := (IntKind.wrap .u32 (bH .and .u8 b 15))
 cond (3 == 0) (
 some (.tup [.int .u32 0, .int .i64 0], [])) (
 let e : Int := (↑(List.length a) : Int)
 cond (decide (e < 3)) (
 some (.tup [.int .u32 0, .int .i64 0], [])) (
 c (a, d, 3, 1)))) (
 cond ((cJ .u8 b 3) == 30) (
 let f : Int := (IntKind.wrap .u32 (bH .and .u8 b 7))
 cond (4 == 0) (
 some (.tup [.int .u32 0, .int .i64 0], [])) (
 let g : Int := (↑(List.length a) : Int)
 cond (decide (g < 4)) (
 some (.tup [.int .u32 0, .int .i64 0], [])) (
 c (a, f, 4, 1)))) (
 cond (0 == 0) (
 some (.tup [.int .u32 0, .int .i64 0], [])) (
 let h : Int := (↑(List.length a) : Int)
 cond (decide (h < 0)) (
 some (.tup [.int .u32 0, .int .i64 0], [])) (
 c (a, 0, 0, 1))))))))
def tz (N : Nat) (a : Bs) : Ro := oN N a (fun z => aQ N (dB N) z)
def ara (N : Nat) : List (Nat × (St → Ro)) := ba kG N yt (fin tx) ++ []
theorem anb (N : Nat) (a : Bs) : aW kG N 63 tx yt [.str a] [] = tz N a :=
 (bL (ara N) (by kernel_rfl) rfl (fun C => oN N a (fun z => C 1000000 (lY z))) (fun C => by kernel_rfl)).trans (Eq.trans (b := oN N a (fun z => bg N (wS N) (lY z))) (by kernel_rfl) (congrArg (oN N a) (funext fun z => bc (lY) (wS N) (dB N) (alU N) N z)))
theorem aoX (hΓ : bK Try.prog kG) (N : Nat) (a : Bs) {v : V} {hp : List aK} (h : tz N a = some (v, hp)) : aI Try.prog z8 [.str a] v := by
 have hc := am9
 simp only [Bool.and_eq_true] at hc
 exact ⟨hp, ig hΓ aki Try.func121 alT hc.1 hc.2 (by decide) ((anb N a).trans h)⟩
def agW : Nat → List V → Option (Bool × V) := fun f vs => match f, vs with
 | 121, [.str a] => some ((!decide (a = [])), .tup [.int .u32 ((dS a).1), .int .i64 ((dS a).2)])
 | _, _ => none
def kH : aN := (iw agW)
theorem akj : cO kH [] := (dn _ _)
theorem alV (h_glyph_point : ∀ (a : Bs), (!decide (a = [])) = true → aI Try.prog z8 [.str a] (.tup [.int .u32 ((dS a).1), .int .i64 ((dS a).2)])) : bK Try.prog kH := by
 intro f vs hp v hp' h0
 obtain ⟨h, he⟩ := eh h0
 subst he
 unfold agW at h
 split at h
 ·simp only [Option.some.injEq, Prod.mk.injEq] at h
  obtain ⟨hc, rfl⟩ := h
  exact ((h_glyph_point _ hc).dim rfl).frame rfl rfl _
 ·simp at h
def abL : IR := Sq (Rs [Mv 5 0, Pp (.bin 6 .neq 5 (kS []))] (Cn 6 .skip (.exit 0))) (.block 1 (Rs [Mv 8 0, Ca 9 121 [8], Mv 7 9, Ex_ 10 0 7, Ex_ 11 1 7, Mv 3 10, Mv 4 11] (Sq (Rs [Mv 12 4, Bc 13 .eql 12 0] (Cn 13 (Rs [Mb 2 false] .ret) .skip)) (Rg [Mv 14 0, Mv 15 4, Pp (.subs 16 14 (some 15) none), Mv 0 16]))))
def abM : IR := Rs [Mb 2 true] .ret
def yu : IR := Rs [Mb 2 false] (Sq (.block 0 (.loop [0, 1000000] 0 abL)) abM)
def tA : List RV := [.t 2]
theorem anc : (bJ Try.prog [] 0 yu (Try.f80.body.getD .skip) && eI Try.prog tA Try.f80.results.toList) = true := by kernel_rfl
theorem alW : Try.f80.body = some (Try.f80.body.getD .skip) := by kernel_rfl
def ane (R : IR → (Ex → St → Ro) → St → Ro) (a : St → Ro) : Ex → St → Ro := (bz a [0, 1000000] 0 (aR 0 (bp (R abM) (fin tA))))
abbrev mW : Type := (Bs)
def lZ (x : mW) : St := { env := (.str x :: (U 16 [])), hp := [] }
def wT (N : Nat) : (St → Ro) → St → Ro := fun a s => run kH N abL (ane (run kH N) a) s
def mX (N : Nat) (a : mW → Ro) (x : mW) : Ro :=
 let b : Bs := x
 let c : Bool := (!decide (b = ([] : Bs)))
 cond c (
 chk (!decide (b = [])) (
 cond (((dS b).2) == 0) (
 some (.bool false, [])) (
 chk (decide (0 ≤ ((dS b).2)) && decide (((dS b).2) ≤ (↑(List.length b) : Int))) (
 let d : Bs := (List.drop (Int.toNat ((dS b).2)) (List.take (List.length b) b))
 a (d))))) (
 some (.bool true, []))
theorem alX (N : Nat) : ∀ (a : St → Ro) (x : mW), wT N a (lZ x) = mX N (fun y => a (lZ y)) x := by
 intro a x
 kernel_rfl
def tB (N : Nat) (a : Bs) (b : mW → Ro) : Ro :=
 b (a)
def yv (N : Nat) (a : Bs) : Ro := tB N a (fun z => aQ N (mX N) z)
def arb (N : Nat) : List (Nat × (St → Ro)) := ba kH N yu (fin tA) ++ []
theorem anf (N : Nat) (a : Bs) : aW kH N 17 tA yu [.str a] [] = yv N a :=
 (bL (arb N) (by kernel_rfl) rfl (fun C => tB N a (fun z => C 1000000 (lZ z))) (fun C => by kernel_rfl)).trans (Eq.trans (b := tB N a (fun z => bg N (wT N) (lZ z))) (by kernel_rfl) (congrArg (tB N a) (funext fun z => bc (lZ) (wT N) (mX N) (alX N) N z)))
theorem aoY (hΓ : bK Try.prog kH) (N : Nat) (a : Bs) {v : V} {hp : List aK} (h : yv N a = some (v, hp)) : aI Try.prog u7 [.str a] v := by
 have hc := anc
 simp only [Bool.and_eq_true] at hc
 exact ⟨hp, ig hΓ akj Try.func80 alW hc.1 hc.2 (by decide) ((anf N a).trans h)⟩
def aqJ : Nat → List V → Option (Bool × V) := fun _ _ => none
def ac6 : aN := (iw aqJ)
theorem arc : cO ac6 [] := (dn _ _)
theorem asY  : bK Try.prog ac6 := by
 intro f vs hp v hp' h
 obtain ⟨h, -⟩ := eh h
 simp [aqJ] at h
def ang : IR := Rs [Bx 2 0, Mb 4 false] (Rs [Mv 5 1, Bc 6 .geq 5 0, Mv 7 6, Gt 7 (.mov 8 1), Gt 7 (.fad 9 0 2), Gt 7 (.lde 10 1 false 9), Gt 7 (.lenl 11 10), Gt 7 (.bin 12 .lss 8 11), Pa 13 7 12, Mv 4 13] .ret)
def anh : List RV := [.t 4]
theorem auv : (bJ Try.prog [] 0 ang (Try.f49.body.getD .skip) && eI Try.prog anh Try.f49.results.toList) = true := by kernel_rfl
theorem asZ : Try.f49.body = some (Try.f49.body.getD .skip) := by kernel_rfl
def ani (N : Nat) (a : List aA) (b : Int) : Ro :=
 cond (decide (0 ≤ b)) (
 let c : Int := (↑(List.length a) : Int)
 some (.bool (decide (b < c)), [])) (
 some (.bool false, []))
def abp (N : Nat) (a : List aA) (b : Int) : Ro := ani N a b
theorem auw (N : Nat) (a : List aA) (b : Int) : aW ac6 N 14 anh ang [.agg [.sl .atype (.may false) a], .int .i64 b] [] = abp N a b := by kernel_rfl
theorem avR (hΓ : bK Try.prog ac6) (N : Nat) (a : List aA) (b : Int) {v : V} {hp : List aK} (h : abp N a b = some (v, hp)) : aI Try.prog aiy [.agg [.sl .atype (.may false) a], .int .i64 b] v := by
 have hc := auv
 simp only [Bool.and_eq_true] at hc
 exact ⟨hp, ig hΓ arc Try.func49 asZ hc.1 hc.2 (by decide) ((auw N a b).trans h)⟩
def ak1 : Nat → List V → Option (Bool × V) := fun _ _ => none
def zf : aN := (iw ak1)
theorem anj : cO zf [] := (dn _ _)
theorem aoZ  : bK Try.prog zf := by
 intro f vs hp v hp' h
 obtain ⟨h, -⟩ := eh h
 simp [ak1] at h
def aiE : IR := Rs [Bx 1 0, Mb 2 false] (Rs [Fa 3 0 1, Lq 4 3, Pp (.bin 5 .eql 4 (kU 0)), Mv 6 5, Gt 6 (.fad 7 1 1), Gt 6 (.lde 8 1 false 7), Gt 6 (.bin 9 .eql 8 (kS [])), Pa 10 6 9, Mv 11 10, Gt 11 (.fad 12 2 1), Gt 11 (.lde 13 1 false 12), Gt 11 (.lenl 14 13), Gt 11 (.bin 15 .eql 14 (kI 0)), Pa 16 11 15, Mv 17 16, Gt 17 (.fad 18 3 1), Gt 17 (.lde 19 1 false 18), Gt 17 (.lenl 20 19), Gt 17 (.bin 21 .eql 20 (kI 0)), Pa 22 17 21, Mv 23 22, Gt 23 (.fad 24 4 1), Gt 23 (.lde 25 1 false 24), Gt 23 (.bin 26 .eql 25 (kI 0)), Pa 27 23 26, Mv 2 27] .ret)
def aiF : List RV := [.t 2]
theorem ard : (bJ Try.prog [] 0 aiE (Try.f55.body.getD .skip) && eI Try.prog aiF Try.f55.results.toList) = true := by kernel_rfl
theorem ao0 : Try.f55.body = some (Try.f55.body.getD .skip) := by kernel_rfl
def aiG (N : Nat) (a : Int) (b : Bs) (c : List aB) (d : Bss) (e : Int) : Ro :=
 cond (a == 0) (
 let f : Bool := decide (b = ([] : Bs))
 cond f (
 let g : Int := (↑(List.length c) : Int)
 cond (g == 0) (
 let h : Int := (↑(List.length d) : Int)
 cond (h == 0) (
 some (.bool (e == 0), [])) (
 some (.bool false, []))) (
 some (.bool false, []))) (
 some (.bool false, []))) (
 some (.bool false, []))
def wU (N : Nat) (a : Int) (b : Bs) (c : List aB) (d : Bss) (e : Int) : Ro := aiG N a b c d e
theorem are (N : Nat) (a : Int) (b : Bs) (c : List aB) (d : Bss) (e : Int) : aW zf N 28 aiF aiE [.agg [.int .u64 a, .str b, .sl .aval (.may false) c, .sl .str (.may false) d, .int .i64 e]] [] = wU N a b c d e := by kernel_rfl
theorem as0 (hΓ : bK Try.prog zf) (N : Nat) (a : Int) (b : Bs) (c : List aB) (d : Bss) (e : Int) {v : V} {hp : List aK} (h : wU N a b c d e = some (v, hp)) : aI Try.prog adG [.agg [.int .u64 a, .str b, .sl .aval (.may false) c, .sl .str (.may false) d, .int .i64 e]] v := by
 have hc := ard
 simp only [Bool.and_eq_true] at hc
 exact ⟨hp, ig hΓ anj Try.func55 ao0 hc.1 hc.2 (by decide) ((are N a b c d e).trans h)⟩
def agX : Nat → List V → Option (Bool × V) := fun _ _ => none
def va : aN := (iw agX)
theorem akk : cO va [] := (dn _ _)
theorem alY  : bK Try.prog va := by
 intro f vs hp v hp' h
 obtain ⟨h, -⟩ := eh h
 simp [agX] at h
def aer : IR := Rs [Bx 2 0, Mb 4 false] (Sq (Rs [Fa 5 0 2, Lq 6 5] (.block 0 (Rs [Bc 8 .eql 6 2, Mv 7 8] (Cn 7 (Rs [Mv 9 1, Pp (.bin 10 .leq 9 (kU 1)), Mv 4 10] .ret) (Rs [Bc 12 .eql 6 3, Mv 11 12] (Cn 11 (Rs [Mv 13 1, Mv 14 1, Pp (.cvi 15 .u32 14), Pp (.cvi 16 .i32 15), Pp (.cvi 17 .i64 16), Pp (.cvi 18 .u64 17), Bi 19 .eql 13 18, Mv 4 19] .ret) (Rs [Bc 21 .eql 6 5, Mv 20 21] (Cn 20 (Rs [Mv 22 1, Pp (.bin 23 .shr 22 (kU 32)), Pp (.bin 24 .eql 23 (kU 0)), Mv 4 24] .ret) (Rs [Bc 26 .eql 6 10, Mv 25 26] (Cn 25 (Rs [Mv 27 1, Fa 28 4 2, Lq 29 28, Ll 30 29, Pp (.cvi 31 .u64 30), Bi 32 .lss 27 31, Mv 4 32] .ret) .skip)))))))))) (Rs [Mb 4 true] .ret))
def aes : List RV := [.t 4]
theorem ank : (bJ Try.prog [] 0 aer (Try.f50.body.getD .skip) && eI Try.prog aes Try.f50.results.toList) = true := by kernel_rfl
theorem alZ : Try.f50.body = some (Try.f50.body.getD .skip) := by kernel_rfl
def aet (N : Nat) (a : Int) (d : Bs) (e : Bss) (f : Int) (b : Bss) (g : Bool) (h : Bs) (i : Int) (j : List aM) (k : List Int) (c : Int) : Ro :=
 cond (a == 2) (
 some (.bool (decide (c ≤ 1)), [])) (
 cond (a == 3) (
 let l : Int := (IntKind.wrap .i32 (IntKind.wrap .u32 c))
 let m : Int := (IntKind.wrap .u64 (IntKind.wrap .i64 l))
 some (.bool (c == m), [])) (
 cond (a == 5) (
 some (.bool ((cJ .u64 c 32) == 0), [])) (
 cond (a == 10) (
 let n : Int := (↑(List.length b) : Int)
 let o : Bool := decide (c < (IntKind.wrap .u64 n))
 some (.bool o, [])) (
 some (.bool true, [])))))
def tC (N : Nat) (a : Int) (b : Bs) (c : Bss) (d : Int) (e : Bss) (f : Bool) (g : Bs) (h : Int) (i : List aM) (j : List Int) (k : Int) : Ro := aet N a b c d e f g h i j k
theorem anl (N : Nat) (a : Int) (b : Bs) (c : Bss) (d : Int) (e : Bss) (f : Bool) (g : Bs) (h : Int) (i : List aM) (j : List Int) (k : Int) : aW va N 33 aes aer [.agg [.int .i64 a, .str b, .sl .str (.may false) c, .int .i64 d, .sl .str (.may false) e, .bool f, .str g, .int .i64 h, .sl .afield (.may false) i, .sl (.num .i64) (.may false) j], .int .u64 k] [] = tC N a b c d e f g h i j k := by kernel_rfl
theorem ao1 (hΓ : bK Try.prog va) (N : Nat) (a : Int) (b : Bs) (c : Bss) (d : Int) (e : Bss) (f : Bool) (g : Bs) (i : Int) (j : List aM) (k : List Int) (l : Int) {v : V} {hp : List aK} (h : tC N a b c d e f g i j k l = some (v, hp)) : aI Try.prog z6 [.agg [.int .i64 a, .str b, .sl .str (.may false) c, .int .i64 d, .sl .str (.may false) e, .bool f, .str g, .int .i64 i, .sl .afield (.may false) j, .sl (.num .i64) (.may false) k], .int .u64 l] v := by
 have hc := ank
 simp only [Bool.and_eq_true] at hc
 exact ⟨hp, ig hΓ akk Try.func50 alZ hc.1 hc.2 (by decide) ((anl N a b c d e f g i j k l).trans h)⟩
def ak2 : Nat → List V → Option (Bool × V) := fun f vs => match f, vs with
 | 80, [.str a] => some (true, .bool (cZ a))
 | _, _ => none
def zg : aN := (iw ak2)
theorem anm : cO zg [] := (dn _ _)
theorem ao2 (h_glyph_Valid : ∀ (a : Bs), aI Try.prog u7 [.str a] (.bool (cZ a))) : bK Try.prog zg := by
 intro f vs hp v hp' h0
 obtain ⟨h, he⟩ := eh h0
 subst he
 unfold ak2 at h
 split at h
 ·simp only [Option.some.injEq, Prod.mk.injEq] at h
  obtain ⟨hc, rfl⟩ := h
  exact ((h_glyph_Valid _).dim rfl).frame rfl rfl _
 ·simp at h
def aiH : IR := Rs [Bx 2 0, Mb 4 false] (Sq (Rs [Fa 5 0 2, Lq 6 5] (.block 0 (Rs [Bc 8 .eql 6 8, Mv 7 8] (Cn 7 (Rs [Mv 9 1, Ca 10 80 [9], Mv 4 10] .ret) (Rs [Bc 12 .eql 6 11, Mv 11 12] (Cn 11 (Rs [Mv 13 1, Pp (.lens 14 13), Fa 15 7 2, Lq 16 15, Bi 17 .eql 14 16, Mv 4 17] .ret) .skip)))))) (Rs [Mb 4 true] .ret))
def aiI : List RV := [.t 4]
theorem arf : (bJ Try.prog [] 0 aiH (Try.f51.body.getD .skip) && eI Try.prog aiI Try.f51.results.toList) = true := by kernel_rfl
theorem ao3 : Try.f51.body = some (Try.f51.body.getD .skip) := by kernel_rfl
def aiJ (N : Nat) (a : Int) (c : Bs) (d : Bss) (e : Int) (f : Bss) (g : Bool) (h : Bs) (b : Int) (i : List aM) (j : List Int) (k : Bs) : Ro :=
 cond (a == 8) (
 some (.bool (cZ k), [])) (
 cond (a == 11) (
 let l : Int := (↑(List.length k) : Int)
 some (.bool (l == b), [])) (
 some (.bool true, [])))
def wW (N : Nat) (a : Int) (b : Bs) (c : Bss) (d : Int) (e : Bss) (f : Bool) (g : Bs) (h : Int) (i : List aM) (j : List Int) (k : Bs) : Ro := aiJ N a b c d e f g h i j k
theorem arg (N : Nat) (a : Int) (b : Bs) (c : Bss) (d : Int) (e : Bss) (f : Bool) (g : Bs) (h : Int) (i : List aM) (j : List Int) (k : Bs) : aW zg N 18 aiI aiH [.agg [.int .i64 a, .str b, .sl .str (.may false) c, .int .i64 d, .sl .str (.may false) e, .bool f, .str g, .int .i64 h, .sl .afield (.may false) i, .sl (.num .i64) (.may false) j], .str k] [] = wW N a b c d e f g h i j k := by kernel_rfl
theorem as1 (hΓ : bK Try.prog zg) (N : Nat) (a : Int) (b : Bs) (c : Bss) (d : Int) (e : Bss) (f : Bool) (g : Bs) (i : Int) (j : List aM) (k : List Int) (l : Bs) {v : V} {hp : List aK} (h : wW N a b c d e f g i j k l = some (v, hp)) : aI Try.prog adJ [.agg [.int .i64 a, .str b, .sl .str (.may false) c, .int .i64 d, .sl .str (.may false) e, .bool f, .str g, .int .i64 i, .sl .afield (.may false) j, .sl (.num .i64) (.may false) k], .str l] v := by
 have hc := arf
 simp only [Bool.and_eq_true] at hc
 exact ⟨hp, ig hΓ anm Try.func51 ao3 hc.1 hc.2 (by decide) ((arg N a b c d e f g i j k l).trans h)⟩
def ak3 : Nat → List V → Option (Bool × V) := fun f vs => match f, vs with
 | 80, [.str a] => some (true, .bool (cZ a))
 | _, _ => none
def nO : aN := (iw ak3)
theorem ann : cO nO [] := (dn _ _)
theorem ao4 (h_glyph_Valid : ∀ (a : Bs), aI Try.prog u7 [.str a] (.bool (cZ a))) : bK Try.prog nO := by
 intro f vs hp v hp' h0
 obtain ⟨h, he⟩ := eh h0
 subst he
 unfold ak3 at h
 split at h
 ·simp only [Option.some.injEq, Prod.mk.injEq] at h
  obtain ⟨hc, rfl⟩ := h
  exact ((h_glyph_Valid _).dim rfl).frame rfl rfl _
 ·simp at h
def aeu : IR := Rs [Bi 8 .lss 7 6] (Sq (Cn 8 .skip (.exit 0)) (Sq (.block 1 (Rs [Mv 9 7, Ix 10 .str 5 7, Lq 11 10, Mv 3 9, Mv 4 11] (Rs [Mv 12 4, Ca 13 80 [12], Un 14 13, Mv 15 14, Gf 15 (.mov 16 3), Gf 15 (.bin 17 .gtr 16 (kI 0)), Gf 15 (.mov 18 17), Gt 18 (.mov 19 0), Gt 18 (.mov 20 3), Gt 18 (.bin 21 .sub 20 (kI 1)), Gt 18 (.ixa 22 .str 19 21), Gt 18 (.lde 23 1 false 22), Gt 18 (.mov 24 4), Gt 18 (.bin 25 .geq 23 24), Gf 15 (.pick 26 18 25 (kB false)), Po 27 15 26] (Cn 27 (Rs [Mb 2 false] .ret) .skip)))) (Rg [Bc 28 .add 7 1, Mv 7 28])))
def aev : IR := Rs [Mb 2 true] .ret
def abN : IR := Rs [Mb 2 false] (Sq (Rs [Mv 5 0, Ll 6 5, Mi 7 0] (.block 0 (.loop [0, 5, 6, 7, 1000000] 0 aeu))) aev)
def wX : List RV := [.t 2]
theorem arh : (bJ Try.prog [] 0 abN (Try.f53.body.getD .skip) && eI Try.prog wX Try.f53.results.toList) = true := by kernel_rfl
theorem ao5 : Try.f53.body = some (Try.f53.body.getD .skip) := by kernel_rfl
def ari (R : IR → (Ex → St → Ro) → St → Ro) (a : St → Ro) : Ex → St → Ro := (bz a [0, 5, 6, 7, 1000000] 0 (aR 0 (bp (R aev) (fin wX))))
abbrev qI : Type := (Bss × Bss × Int × Int)
def oO : qI → St := fun (a, b, c, d) => { env := (.sl .str (.may false) a :: (U 4 (.sl .str (.may false) b :: .int .i64 c :: .int .i64 d :: (U 21 [])))), hp := [] }
def z9 (N : Nat) : (St → Ro) → St → Ro := fun a s => run nO N aeu (ari (run nO N) a) s
def qJ (N : Nat) (a : qI → Ro) : qI → Ro := fun (c, d, e, b) =>
 cond (decide (b < e)) (
 chk (decide (0 ≤ b) && decide (b < ↑(List.length d))) (
 let g : Bs := List.getD d (Int.toNat b) (aC .str)
 cond (!(cZ g)) (
 some (.bool false, [])) (
 cond (decide (0 < b)) (
 let f : Int := (IntKind.wrap .i64 (b - 1))
 chk (decide (0 ≤ f) && decide (f < ↑(List.length c))) (
 let h : Bs := List.getD c (Int.toNat f) (aC .str)
 cond (!Op.bytesLess h g) (
 some (.bool false, [])) (
 let i : Int := (IntKind.wrap .i64 (b + 1))
 a (c, d, e, i)))) (
 let j : Int := (IntKind.wrap .i64 (b + 1))
 a (c, d, e, j))))) (
 some (.bool true, []))
theorem ao6 (N : Nat) : ∀ (a : St → Ro) (x : qI), z9 N a (oO x) = qJ N (fun y => a (oO y)) x := by
 intro a x
 kernel_rfl
def wY (N : Nat) (a : Bss) (b : qI → Ro) : Ro :=
 let c : Int := (↑(List.length a) : Int)
 b (a, a, c, 0)
def abO (N : Nat) (a : Bss) : Ro := wY N a (fun z => aQ N (qJ N) z)
def aux (N : Nat) : List (Nat × (St → Ro)) := ba nO N abN (fin wX) ++ []
theorem arj (N : Nat) (a : Bss) : aW nO N 29 wX abN [.sl .str (.may false) a] [] = abO N a :=
 (bL (aux N) (by kernel_rfl) rfl (fun C => wY N a (fun z => C 1000000 (oO z))) (fun C => by kernel_rfl)).trans (Eq.trans (b := wY N a (fun z => bg N (z9 N) (oO z))) (by kernel_rfl) (congrArg (wY N a) (funext fun z => bc (oO) (z9 N) (qJ N) (ao6 N) N z)))
theorem as2 (hΓ : bK Try.prog nO) (N : Nat) (a : Bss) {v : V} {hp : List aK} (h : abO N a = some (v, hp)) : aI Try.prog adI [.sl .str (.may false) a] v := by
 have hc := arh
 simp only [Bool.and_eq_true] at hc
 exact ⟨hp, ig hΓ ann Try.func53 ao5 hc.1 hc.2 (by decide) ((arj N a).trans h)⟩
def ak4 (N : Nat) : Nat → List V → Option (Bool × V) := fun f vs => match f, vs with
 | 81, [.sl .aval (.may _) c, .fn 82 [.ea [.sl .atype (.may false) a], .ea [.int .i64 b]]] => some (decide (1000000 ≤ N - szL c), .bool (!br a b c))
 | _, _ => none
def zh (N : Nat) : aN := (iw (ak4 N))
theorem ano (N : Nat) : cO (zh N) [] := (dn _ _)
theorem ao7 (N : Nat) (h_slices_ContainsFunc_api_AVal_api_AVal_aval_each_c1 : ∀ (c : List aB) (a : List aA) (b : Int), (decide (1000000 ≤ N - szL c)) = true → aI Try.prog cr [.sl .aval (.may false) c, .fn 82 [.ea [.sl .atype (.may false) a], .ea [.int .i64 b]]] (.bool (!br a b c))) : bK Try.prog (zh N) := by
 intro f vs hp v hp' h0
 obtain ⟨h, he⟩ := eh h0
 subst he
 unfold ak4 at h
 split at h
 ·simp only [Option.some.injEq, Prod.mk.injEq] at h
  obtain ⟨hc, rfl⟩ := h
  exact ((h_slices_ContainsFunc_api_AVal_api_AVal_aval_each_c1 _ _ _ hc).dim rfl).frame rfl rfl _
 ·simp at h
def aiK : IR := Rs [Bx 3 0, Bx 4 1, Mb 6 false] (Rs [Mv 7 2, Pp (.mkf 8 82 [.t 3, .t 4]), Ca 9 81 [7, 8], Un 10 9, Mv 6 10] .ret)
def aiL : List RV := [.t 6]
theorem ark : (bJ Try.prog [] 0 aiK (Try.f52.body.getD .skip) && eI Try.prog aiL Try.f52.results.toList) = true := by kernel_rfl
theorem ao8 : Try.f52.body = some (Try.f52.body.getD .skip) := by kernel_rfl
def aiM (N : Nat) (a : List aA) (c : Int) (b : List aB) : Ro :=
 chk (decide (1000000 ≤ N - szL b)) (
 some (.bool (!(!br a c b)), []))
def wZ (N : Nat) (a : List aA) (b : Int) (c : List aB) : Ro := aiM N a b c
theorem arl (N : Nat) (a : List aA) (b : Int) (c : List aB) : aW (zh N) N 11 aiL aiK [.agg [.sl .atype (.may false) a], .int .i64 b, .sl .aval (.may false) c] [] = wZ N a b c := by kernel_rfl
theorem as3 (N : Nat) (hΓ : bK Try.prog (zh N)) (a : List aA) (b : Int) (c : List aB) {v : V} {hp : List aK} (h : wZ N a b c = some (v, hp)) : aI Try.prog adH [.agg [.sl .atype (.may false) a], .int .i64 b, .sl .aval (.may false) c] v := by
 have hc := ark
 simp only [Bool.and_eq_true] at hc
 exact ⟨hp, ig hΓ (ano N) Try.func52 ao8 hc.1 hc.2 (by decide) ((arl N a b c).trans h)⟩
def agY (N : Nat) : Nat → List V → Option (Bool × V) := fun f vs => match f, vs with
 | 21, [.agg [.sl .atype (.may _) b], .int .i64 h, .agg [.int .u64 c, .str d, .sl .aval (.may _) a, .sl .str (.may _) e, .int .i64 g]] => some (decide (1000000 ≤ N - (szL a + 1)), .bool (aZ b h (.mk c d a e g)))
 | _, _ => none
def kJ (N : Nat) : aN := (iw (agY N))
theorem akl (N : Nat) : cO (kJ N) [] := (dn _ _)
theorem al0 (N : Nat) (h_aval_Fits : ∀ (b : List aA) (i : Int) (c : Int) (d : Bs) (a : List aB) (e : Bss) (g : Int), (decide (1000000 ≤ N - (szL a + 1))) = true → aI Try.prog nN [.agg [.sl .atype (.may false) b], .int .i64 i, .agg [.int .u64 c, .str d, .sl .aval (.may false) a, .sl .str (.may false) e, .int .i64 g]] (.bool (aZ b i (.mk c d a e g)))) : bK Try.prog (kJ N) := by
 intro f vs hp v hp' h0
 obtain ⟨h, he⟩ := eh h0
 subst he
 unfold agY at h
 split at h
 ·simp only [Option.some.injEq, Prod.mk.injEq] at h
  obtain ⟨hc, rfl⟩ := h
  exact ((h_aval_Fits _ _ _ _ _ _ _ hc).dim rfl).frame rfl rfl _
 ·simp at h
def abP : IR := Rs [Bi 19 .lss 18 17] (Sq (Cn 19 .skip (.exit 0)) (Sq (.block 1 (Rs [Mv 20 18, Ix 21 .afield 16 18, Ld 22 9 true 21, Pp (.alr 8 9), Mv 7 20, Fz 8 9 22] (Sq (.reg [Ld 23 1 true 3, Fa 24 2 8, Lq 25 24, Mv 26 2, Mv 27 7, Ix 28 .aval 26 27, Ld 29 5 true 28, Ca 30 21 [23, 25, 29], Un 31 30] [[], [], [1], [], [], [3, 4], [3, 4, 5], rg 0 6, rg 0 7]) (Cn 31 (Rs [Mb 6 false] .ret) .skip)))) (Rg [Bc 32 .add 18 1, Mv 18 32])))
def aaS : IR := Rs [Mb 6 true] .ret
def yw : IR := Rs [Bx 3 0, Bx 4 1, Mb 6 false] (Sq (Rs [Mv 9 2, Ll 10 9, Fa 11 8 4, Lq 12 11, Ll 13 12, Bi 14 .neq 10 13] (Cn 14 (Rs [Mb 6 false] .ret) .skip)) (Sq (Rs [Fa 15 8 4, Lq 16 15, Ll 17 16, Mi 18 0] (.block 0 (.loop [2, 3, 16, 17, 18, 1000000] 0 abP))) aaS))
def tD : List RV := [.t 6]
theorem anp : (bJ Try.prog [] 0 yw (Try.f54.body.getD .skip) && eI Try.prog tD Try.f54.results.toList) = true := by kernel_rfl
theorem al1 : Try.f54.body = some (Try.f54.body.getD .skip) := by kernel_rfl
def anq (R : IR → (Ex → St → Ro) → St → Ro) (a : St → Ro) : Ex → St → Ro := (bz a [2, 3, 16, 17, 18, 1000000] 0 (aR 0 (bp (R aaS) (fin tD))))
abbrev mY : Type := (List aB × List aA × List aM × Int × Int)
def l7 : mY → St := fun (a, b, c, d, e) => { env := (.undef :: .undef :: .sl .aval (.may false) a :: .ea [.sl .atype (.may false) b] :: (U 12 (.sl .afield (.may false) c :: .int .i64 d :: .int .i64 e :: (U 14 [])))), hp := [] }
def w5 (N : Nat) : (St → Ro) → St → Ro := fun a s => run (kJ N) N abP (anq (run (kJ N) N) a) s
def rN (N : Nat) (b : mY → Ro) : mY → Ro := fun (d, c, e, f, a) =>
 cond (decide (a < f)) (
 chk (decide (0 ≤ a) && decide (a < ↑(List.length e))) (
 let p : Int := (List.getD e (Int.toNat a) (aC .afield)).typ
 chk (decide (0 ≤ a) && decide (a < ↑(List.length d))) (
 let h : Int := (List.getD d (Int.toNat a) (aC .aval)).n
 let i : Bs := (List.getD d (Int.toNat a) (aC .aval)).s
 let g : List aB := (List.getD d (Int.toNat a) (aC .aval)).l
 let j : Bss := (List.getD d (Int.toNat a) (aC .aval)).keys
 let k : Int := (List.getD d (Int.toNat a) (aC .aval)).branch
 chk (decide (1000000 ≤ N - (szL g + 1))) (
 let m : Bool := (aZ c p (.mk h i g j k))
 cond (!m) (
 some (.bool false, [])) (
 let o : Int := (IntKind.wrap .i64 (a + 1))
 b (d, c, e, f, o)))))) (
 some (.bool true, []))
theorem al3 (N : Nat) : ∀ (a : St → Ro) (x : mY), w5 N a (l7 x) = rN N (fun y => a (l7 y)) x := by
 intro a x
 kernel_rfl
def oP (N : Nat) (b : List aA) (c : Int) (d : Bs) (e : Bss) (f : Int) (g : Bss) (h : Bool) (i : Bs) (j : Int) (a : List aM) (k : List Int) (l : List aB) (m : mY → Ro) : Ro :=
 let n : Int := (↑(List.length l) : Int)
 let o : Int := (↑(List.length a) : Int)
 cond (!(n == o)) (
 some (.bool false, [])) (
 let p : Int := (↑(List.length a) : Int)
 m (l, b, a, p, 0))
def tE (N : Nat) (a : List aA) (b : Int) (c : Bs) (d : Bss) (e : Int) (f : Bss) (g : Bool) (h : Bs) (i : Int) (j : List aM) (k : List Int) (l : List aB) : Ro := oP N a b c d e f g h i j k l (fun z => aQ N (rN N) z)
def arm (N : Nat) : List (Nat × (St → Ro)) := ba (kJ N) N yw (fin tD) ++ []
theorem anr (N : Nat) (a : List aA) (c : Int) (d : Bs) (e : Bss) (f : Int) (g : Bss) (h : Bool) (i : Bs) (j : Int) (k : List aM) (l : List Int) (m : List aB) : aW (kJ N) N 33 tD yw [.agg [.sl .atype (.may false) a], .agg [.int .i64 c, .str d, .sl .str (.may false) e, .int .i64 f, .sl .str (.may false) g, .bool h, .str i, .int .i64 j, .sl .afield (.may false) k, .sl (.num .i64) (.may false) l], .sl .aval (.may false) m] [] = tE N a c d e f g h i j k l m :=
 (bL (arm N) (by kernel_rfl) rfl (fun C => oP N a c d e f g h i j k l m (fun z => C 1000000 (l7 z))) (fun C => by kernel_rfl)).trans (Eq.trans (b := oP N a c d e f g h i j k l m (fun z => bg N (w5 N) (l7 z))) (by kernel_rfl) (congrArg (oP N a c d e f g h i j k l m) (funext fun z => bc (l7) (w5 N) (rN N) (al3 N) N z)))
theorem ao9 (N : Nat) (hΓ : bK Try.prog (kJ N)) (a : List aA) (b : Int) (c : Bs) (d : Bss) (e : Int) (f : Bss) (g : Bool) (i : Bs) (j : Int) (k : List aM) (l : List Int) (m : List aB) {v : V} {hp : List aK} (h : tE N a b c d e f g i j k l m = some (v, hp)) : aI Try.prog z7 [.agg [.sl .atype (.may false) a], .agg [.int .i64 b, .str c, .sl .str (.may false) d, .int .i64 e, .sl .str (.may false) f, .bool g, .str i, .int .i64 j, .sl .afield (.may false) k, .sl (.num .i64) (.may false) l], .sl .aval (.may false) m] v := by
 have hc := anp
 simp only [Bool.and_eq_true] at hc
 exact ⟨hp, ig hΓ (akl N) Try.func54 al1 hc.1 hc.2 (by decide) ((anr N a b c d e f g i j k l m).trans h)⟩
def aew (N : Nat) : Nat → List V → Option (Bool × V) := fun f vs => match f, vs with
 | 21, [.agg [.sl .atype (.may _) b], .int .i64 h, .agg [.int .u64 c, .str d, .sl .aval (.may _) a, .sl .str (.may _) e, .int .i64 g]] => some (decide (1000000 ≤ N - (szL a + 1)), .bool (aZ b h (.mk c d a e g)))
 | _, _ => none
def tF (N : Nat) : aN := (iw (aew N))
theorem aiN (N : Nat) : cO (tF N) [] := (dn _ _)
theorem akm (N : Nat) (h_aval_Fits : ∀ (b : List aA) (i : Int) (c : Int) (d : Bs) (a : List aB) (e : Bss) (g : Int), (decide (1000000 ≤ N - (szL a + 1))) = true → aI Try.prog nN [.agg [.sl .atype (.may false) b], .int .i64 i, .agg [.int .u64 c, .str d, .sl .aval (.may false) a, .sl .str (.may false) e, .int .i64 g]] (.bool (aZ b i (.mk c d a e g)))) : bK Try.prog (tF N) := by
 intro f vs hp v hp' h0
 obtain ⟨h, he⟩ := eh h0
 subst he
 unfold aew at h
 split at h
 ·simp only [Option.some.injEq, Prod.mk.injEq] at h
  obtain ⟨hc, rfl⟩ := h
  exact ((h_aval_Fits _ _ _ _ _ _ _ hc).dim rfl).frame rfl rfl _
 ·simp at h
def ac7 : IR := Rs [Bx 3 0, Mb 4 false] (Rs [Ld 5 1 true 1, Lq 6 2, Ld 7 5 true 3, Ca 8 21 [5, 6, 7], Un 9 8, Mv 4 9] .ret)
def ac8 : List RV := [.t 4]
theorem al4 : (bJ Try.prog [] 0 ac7 (Try.f82.body.getD .skip) && eI Try.prog ac8 Try.f82.results.toList) = true := by kernel_rfl
theorem akn : Try.f82.body = some (Try.f82.body.getD .skip) := by kernel_rfl
def ac9 (N : Nat) (b : Int) (c : Bs) (a : List aB) (d : Bss) (e : Int) (pc0_0 : List aA) (pc1_0 : Int) : Ro :=
 chk (decide (1000000 ≤ N - (szL a + 1))) (
 let f : Bool := (aZ pc0_0 pc1_0 (.mk b c a d e))
 some (.bool (!f), []))
def rO (N : Nat) (a : Int) (b : Bs) (c : List aB) (d : Bss) (e : Int) (pc0_0 : List aA) (pc1_0 : Int) : Ro := ac9 N a b c d e pc0_0 pc1_0
theorem al5 (N : Nat) (a : Int) (b : Bs) (c : List aB) (d : Bss) (e : Int) (pc0_0 : List aA) (pc1_0 : Int) : aW (tF N) N 10 ac8 ac7 [.agg [.int .u64 a, .str b, .sl .aval (.may false) c, .sl .str (.may false) d, .int .i64 e], .ea [.sl .atype (.may false) pc0_0], .ea [.int .i64 pc1_0]] [] = rO N a b c d e pc0_0 pc1_0 := by kernel_rfl
theorem ans (N : Nat) (hΓ : bK Try.prog (tF N)) (a : Int) (b : Bs) (c : List aB) (d : Bss) (e : Int) (pc0_0 : List aA) (pc1_0 : Int) {v : V} {hp : List aK} (h : rO N a b c d e pc0_0 pc1_0 = some (v, hp)) : aI Try.prog oM [.agg [.int .u64 a, .str b, .sl .aval (.may false) c, .sl .str (.may false) d, .int .i64 e], .ea [.sl .atype (.may false) pc0_0], .ea [.int .i64 pc1_0]] v := by
 have hc := al4
 simp only [Bool.and_eq_true] at hc
 exact ⟨hp, ig hΓ (aiN N) Try.func82 akn hc.1 hc.2 (by decide) ((al5 N a b c d e pc0_0 pc1_0).trans h)⟩
def dT (N : Nat) : Nat → List V → Option (Bool × V) := fun f vs => match f, vs with
 | 122, [.sl .aval (.may _) c, .fn 82 [.ea [.sl .atype (.may false) a], .ea [.int .i64 b]]] => some (decide (1000000 ≤ N - szL c), .int .i64 (yr a b c 0))
 | _, _ => none
def bT (N : Nat) : aN := (iw (dT N))
theorem jj (N : Nat) : cO (bT N) [] := (dn _ _)
theorem jx (N : Nat) (h_slices_IndexFunc_api_AVal_api_AVal_aval_each_c1 : ∀ (c : List aB) (a : List aA) (b : Int), (decide (1000000 ≤ N - szL c)) = true → aI Try.prog cM [.sl .aval (.may false) c, .fn 82 [.ea [.sl .atype (.may false) a], .ea [.int .i64 b]]] (.int .i64 (yr a b c 0))) : bK Try.prog (bT N) := by
 intro f vs hp v hp' h0
 obtain ⟨h, he⟩ := eh h0
 subst he
 unfold dT at h
 split at h
 ·simp only [Option.some.injEq, Prod.mk.injEq] at h
  obtain ⟨hc, rfl⟩ := h
  exact ((h_slices_IndexFunc_api_AVal_api_AVal_aval_each_c1 _ _ _ hc).dim rfl).frame rfl rfl _
 ·simp at h
def dP : IR := Rs [Mb 4 false] (Rs [Mv 5 0, Mv 6 1, Ca 7 122 [5, 6], Bc 8 .geq 7 0, Mv 4 8] .ret)
def dQ : List RV := [.t 4]
theorem jZ : (bJ Try.prog [] 0 dP (Try.f81.body.getD .skip) && eI Try.prog dQ Try.f81.results.toList) = true := by kernel_rfl
theorem jy : Try.f81.body = some (Try.f81.body.getD .skip) := by kernel_rfl
def dR (N : Nat) (c : List aB) (a : List aA) (b : Int) : Ro :=
 chk (decide (1000000 ≤ N - szL c)) (
 let d : Int := (yr a b c 0)
 some (.bool (decide (0 ≤ d)), []))
def bS (N : Nat) (c : List aB) (a : List aA) (b : Int) : Ro := dR N c a b
theorem j0 (N : Nat) (c : List aB) (a : List aA) (b : Int) : aW (bT N) N 9 dQ dP [.sl .aval (.may false) c, .fn 82 [.ea [.sl .atype (.may false) a], .ea [.int .i64 b]]] [] = bS N c a b := by kernel_rfl
theorem kd (N : Nat) (hΓ : bK Try.prog (bT N)) (c : List aB) (a : List aA) (b : Int) {v : V} {hp : List aK} (h : bS N c a b = some (v, hp)) : aI Try.prog cr [.sl .aval (.may false) c, .fn 82 [.ea [.sl .atype (.may false) a], .ea [.int .i64 b]]] v := by
 have hc := jZ
 simp only [Bool.and_eq_true] at hc
 exact ⟨hp, ig hΓ (jj N) Try.func81 jy hc.1 hc.2 (by decide) ((j0 N c a b).trans h)⟩
def eA (N : Nat) : Nat → List V → Option (Bool × V) := fun f vs => match f, vs with
 | 82, [.agg [.int .u64 b, .str c, .sl .aval (.may _) a, .sl .str (.may _) d, .int .i64 e], .ea [.sl .atype (.may false) ac0_0], .ea [.int .i64 ac1_0]] => some (decide (1000000 ≤ N - (szL a + 1)), .bool (!aZ ac0_0 ac1_0 (.mk b c a d e)))
 | _, _ => none
def bi (N : Nat) : aN := (iw (eA N))
theorem ke (N : Nat) : cO (bi N) [] := (dn _ _)
theorem kK (N : Nat) (h_aval_each_c1 : ∀ (b : Int) (c : Bs) (a : List aB) (d : Bss) (e : Int) (ac0_0 : List aA) (ac1_0 : Int), (decide (1000000 ≤ N - (szL a + 1))) = true → aI Try.prog oM [.agg [.int .u64 b, .str c, .sl .aval (.may false) a, .sl .str (.may false) d, .int .i64 e], .ea [.sl .atype (.may false) ac0_0], .ea [.int .i64 ac1_0]] (.bool (!aZ ac0_0 ac1_0 (.mk b c a d e)))) : bK Try.prog (bi N) := by
 intro f vs hp v hp' h0
 obtain ⟨h, he⟩ := eh h0
 subst he
 unfold eA at h
 split at h
 ·simp only [Option.some.injEq, Prod.mk.injEq] at h
  obtain ⟨hc, rfl⟩ := h
  exact ((h_aval_each_c1 _ _ _ _ _ _ _ hc).dim rfl).frame rfl rfl _
 ·simp at h
def dU : IR := Rs [Bi 9 .lss 8 7] (Sq (Cn 9 .skip (.exit 0)) (Sq (.block 1 (Rs [Mv 10 8, Mv 5 10] (Rs [Mv 11 1, Mv 12 0, Mv 13 5, Ix 14 .aval 12 13, Ld 15 5 true 14, Pp (.dcall (some 16) 82 (.t 11) [.t 15])] (Cn 16 (Rs [Mv 17 5, Mv 4 17] .ret) .skip)))) (Rg [Bc 18 .add 8 1, Mv 8 18])))
def dV : IR := Rs [Mi 4 (-1)] .ret
def cC : IR := Rs [Mi 4 0] (Sq (Rs [Mv 6 0, Ll 7 6, Mi 8 0] (.block 0 (.loop [0, 1, 7, 8, 1000000] 0 dU))) dV)
def b6 : List RV := [.t 4]
theorem kQ : (bJ Try.prog [] 0 cC (Try.f122.body.getD .skip) && eI Try.prog b6 Try.f122.results.toList) = true := by kernel_rfl
theorem kL : Try.f122.body = some (Try.f122.body.getD .skip) := by kernel_rfl
def kR (R : IR → (Ex → St → Ro) → St → Ro) (a : St → Ro) : Ex → St → Ro := (bz a [0, 1, 7, 8, 1000000] 0 (aR 0 (bp (R dV) (fin b6))))
abbrev bE : Type := (List aB × List aA × Int × Int × Int)
def bB : bE → St := fun (a, b, c, d, e) => { env := (.sl .aval (.may false) a :: .fn 82 [.ea [.sl .atype (.may false) b], .ea [.int .i64 c]] :: (U 5 (.int .i64 d :: .int .i64 e :: (U 10 [])))), hp := [] }
def cA (N : Nat) : (St → Ro) → St → Ro := fun a s => run (bi N) N dU (kR (run (bi N) N) a) s
def bF (N : Nat) (d : bE → Ro) : bE → Ro := fun (e, a, b, f, c) =>
 cond (decide (c < f)) (
 chk (decide (0 ≤ c) && decide (c < ↑(List.length e))) (
 let h : Int := (List.getD e (Int.toNat c) (aC .aval)).n
 let i : Bs := (List.getD e (Int.toNat c) (aC .aval)).s
 let g : List aB := (List.getD e (Int.toNat c) (aC .aval)).l
 let j : Bss := (List.getD e (Int.toNat c) (aC .aval)).keys
 let k : Int := (List.getD e (Int.toNat c) (aC .aval)).branch
 chk (decide (1000000 ≤ N - (szL g + 1))) (
 let m : Bool := (!aZ a b (.mk h i g j k))
 cond m (
 some (.int .i64 c, [])) (
 let o : Int := (IntKind.wrap .i64 (c + 1))
 d (e, a, b, f, o))))) (
 some (.int .i64 (-1), []))
theorem kM (N : Nat) : ∀ (a : St → Ro) (x : bE), cA N a (bB x) = bF N (fun y => a (bB y)) x := by
 intro a x
 kernel_rfl
def b7 (N : Nat) (c : List aB) (a : List aA) (b : Int) (d : bE → Ro) : Ro :=
 let e : Int := (↑(List.length c) : Int)
 d (c, a, b, e, 0)
def cD (N : Nat) (c : List aB) (a : List aA) (b : Int) : Ro := b7 N c a b (fun z => aQ N (bF N) z)
def lR (N : Nat) : List (Nat × (St → Ro)) := ba (bi N) N cC (fin b6) ++ []
theorem kT (N : Nat) (d : List aB) (a : List aA) (c : Int) : aW (bi N) N 19 b6 cC [.sl .aval (.may false) d, .fn 82 [.ea [.sl .atype (.may false) a], .ea [.int .i64 c]]] [] = cD N d a c :=
 (bL (lR N) (by kernel_rfl) rfl (fun C => b7 N d a c (fun z => C 1000000 (bB z))) (fun C => by kernel_rfl)).trans (Eq.trans (b := b7 N d a c (fun z => bg N (cA N) (bB z))) (by kernel_rfl) (congrArg (b7 N d a c) (funext fun z => bc (bB) (cA N) (bF N) (kM N) N z)))
theorem lq (N : Nat) (hΓ : bK Try.prog (bi N)) (c : List aB) (a : List aA) (b : Int) {v : V} {hp : List aK} (h : cD N c a b = some (v, hp)) : aI Try.prog cM [.sl .aval (.may false) c, .fn 82 [.ea [.sl .atype (.may false) a], .ea [.int .i64 b]]] v := by
 have hc := kQ
 simp only [Bool.and_eq_true] at hc
 exact ⟨hp, ig hΓ (ke N) Try.func122 kL hc.1 hc.2 (by decide) ((kT N c a b).trans h)⟩
end Go.Proofs.Ytdpajabhmmmjoaa
end
noncomputable section
namespace Go.Proofs.Ytdpajabhmmmjoaa
open Go.AM
set_option autoImplicit false
set_option linter.unusedSimpArgs false
set_option linter.unusedVariables false
theorem al6 (N : Nat) (r k : Int) (hr : 0 ≤ r ∧ r ≤ 4294967295) (hk : 0 ≤ k ∧ k ≤ 32) : u9 N r k = some (.int .u8 (ix r k), []) := by
 obtain ⟨p, rfl⟩ : ∃ p : Nat, r = (p : Int) := ⟨r.toNat, by omega⟩
 obtain ⟨j, rfl⟩ : ∃ j : Nat, k = (j : Int) := ⟨k.toNat, by omega⟩
 have e1 := sE .u32 p j (by show j ≤ 32; omega)
 have hle : p / 2 ^ j ≤ p := Nat.div_le_self _ _
 simp only [u9, agU, ix, Int.toNat_natCast, e1]
 generalize p / 2 ^ j = q at hle
 have e2 : bH .and .u32 (q : Int) 63 = ((q % 64 : Nat) : Int) := ayc 6 (by omega) _ (by omega)
 have e3 : bH .or .u32 128 ((q % 64 : Nat) : Int) = 128 + ((q % 64 : Nat) : Int) := aix 6 128 _ (by omega) (by decide) (by omega) (by omega)
 simp (disch := omega) only [bl, e2, e3]
 rfl
theorem ada (N : Nat) (r : Int) (hr : 0 ≤ r ∧ r ≤ 4294967295) (hN : (r < 65536 ∧ (r < 55296 ∨ 57344 ≤ r)) ∨ 0 < N) : wR N r = some (.str (yq r), []) := by
 obtain ⟨p, rfl⟩ : ∃ p : Nat, r = (p : Int) := ⟨r.toNat, by omega⟩
 have s6 : cJ .u32 (p : Int) 6 = ((p / 64 : Nat) : Int) := sE .u32 p 6 (by decide)
 have s12 : cJ .u32 (p : Int) 12 = ((p / 4096 : Nat) : Int) := sE .u32 p 12 (by decide)
 have s18 : cJ .u32 (p : Int) 18 = ((p / 262144 : Nat) : Int) := sE .u32 p 18 (by decide)
 have t0 : ix (p : Int) 0 = ((128 + p % 64 : Nat) : Int) := by simp [ix]
 have t6 : ix (p : Int) 6 = ((128 + p / 64 % 64 : Nat) : Int) := by simp [ix]
 have t12 : ix (p : Int) 12 = ((128 + p / 4096 % 64 : Nat) : Int) := by simp [ix]
 simp only [wR, aiC, yq, Int.toNat_natCast, gly, s6, s12, s18, t0, t6, t12]
 by_cases h1 : p < 128
 ·simp (disch := omega) only [bl, ]
 by_cases h2 : p < 2048
 ·have e : bH .or .u32 192 ((p / 64 : Nat) : Int) = ((192 + p / 64 : Nat) : Int) := (aix 6 192 _ (by omega) (by decide) (by omega) (by omega)).trans (by omega)
  simp (disch := omega) only [bl, e]
 have hc : ∀ hi : 1114111 < p ∨ (55296 ≤ p ∧ p < 57344), 0 < N := by omega
 by_cases h3 : 1114111 < p
 ·have := hc (.inl h3)
  simp (disch := omega) only [bl, ]
  rfl
 by_cases h4 : 55296 ≤ p ∧ p < 57344
 ·have := hc (.inr h4)
  simp (disch := omega) only [bl, ]
  rfl
 by_cases h5 : p < 65536
 ·have e : bH .or .u32 224 ((p / 4096 : Nat) : Int) = ((224 + p / 4096 : Nat) : Int) := (aix 5 224 _ (by omega) (by decide) (by omega) (by omega)).trans (by omega)
  by_cases h6 : 55296 ≤ p <;> simp (disch := omega) only [bl, e]
 ·have e : bH .or .u32 240 ((p / 262144 : Nat) : Int) = ((240 + p / 262144 : Nat) : Int) := (aix 4 240 _ (by omega) (by decide) (by omega) (by omega)).trans (by omega)
  simp (disch := omega) only [bl, e]
end Go.Proofs.Ytdpajabhmmmjoaa
end
noncomputable section
namespace Go.Proofs.Ytdpajabhmmmjoaa
open Go.AM
set_option autoImplicit false
set_option linter.unusedSimpArgs false
set_option linter.unusedVariables false
theorem ant (k : Nat) (hk : k ≤ 8) (a : Nat) (ha : a < 256) : bH .and .u8 (a : Int) ((2 ^ k - 1 : Nat) : Int) = ((a % 2 ^ k : Nat) : Int) := by
 have h2 : 2 ^ k ≤ 2 ^ 8 := Nat.pow_le_pow_right (by omega) hk
 have h1 : 1 ≤ 2 ^ k := Nat.one_le_two_pow
 rw [asU .u8 rfl a (2 ^ k - 1) ha (by show 2 ^ k - 1 < 2 ^ 8; omega), Nat.and_two_pow_sub_one_eq_mod]
theorem ay2 (v c : Nat) (hv : v < 2 ^ 26) (hc : c < 64) : bH .or .u32 (fo .u32 (v : Int) 6) (c : Int) = ((v * 64 + c : Nat) : Int) := by
 have e : fo .u32 (v : Int) 6 = ((v * 64 : Nat) : Int) := by
  rw [show (6 : Int) = ((6 : Nat) : Int) by rfl, axk .u32 rfl v 6 (by decide)]
  show ((v * 64 % 2 ^ 32 : Nat) : Int) = _
  rw [Nat.mod_eq_of_lt (by omega)]
 rw [e, aix 6 ((v * 64 : Nat) : Int) c (by omega) (by omega) (by omega) (by omega)]
 omega
theorem rp (N : Nat) (rec : (List UInt8 × Int × Int × Int) → Option (V × List aK)) (s : List UInt8) (v n i : Nat) (hv : v < 2 ^ 26) (hi : i < n) (hn : n ≤ s.length) (h4 : n ≤ 4) :
  dB N rec (s, (v : Int), (n : Int), (i : Int)) = rec (s, ((v * 64 + (s.getD i 0).toNat % 64 : Nat) : Int), (n : Int), ((i + 1 : Nat) : Int)) := by
 have hb : (s.getD i 0).toNat < 256 := UInt8.toNat_lt _
 have e1 : bH .and .u8 (((s.getD i 0).toNat : Nat) : Int) 63 = (((s.getD i 0).toNat % 64 : Nat) : Int) := ant 6 (by omega) _ hb
 have e2 := ay2 v ((s.getD i 0).toNat % 64) hv (by omega)
 simp only [dB]
 simp (disch := omega) only [bl, e1, e2]
 rfl
theorem aiO (N : Nat) (rec : (List UInt8 × Int × Int × Int) → Option (V × List aK)) (s : List UInt8) (v n : Nat) (hn : n ≤ s.length) :
  dB N rec (s, (v : Int), (n : Int), (n : Int)) = if gly v = s.take n then some (.tup [.int .u32 v, .int .i64 n], []) else some (.tup [.int .u32 0, .int .i64 0], []) := by
 simp only [dB, yq]
 by_cases h : gly v = s.take n
 ·simp (disch := omega) only [bl, h, decide_true]
 ·simp (disch := omega) only [bl, h, decide_false]
theorem lr {α R : Type} (n : Nat) (B : (α → Option R) → α → Option R) (x : α) : aQ (n + 1) B x = B (aQ n B) x := rfl
theorem aye (M : Nat) (a b : UInt8) (t : List UInt8) (v : Nat) (hv : v < 32) :
  aQ (M + 5) (dB (M + 5)) (a :: b :: t, (v : Int), ((2 : Nat) : Int), ((1 : Nat) : Int)) = some (.tup [.int .u32 (db 2 v (a :: b :: t)).1, .int .i64 (db 2 v (a :: b :: t)).2], []) := by
 rw [lr, rp _ _ _ _ 2 1 (by omega) (by omega) (by simp) (by omega), lr, aiO _ _ _ _ 2 (by simp)]
 simp only [db, List.getD_cons_succ, List.getD_cons_zero]
 rw [if_neg (show ¬ (a :: b :: t).length < 2 by simp)]
 simp only [List.take_succ_cons, List.take_zero, List.tail_cons, List.foldl_cons, List.foldl_nil]
 by_cases h : gly (v * 64 + b.toNat % 64) = [a, b]
 ·simp only [h, if_true]
 ·simp only [h, if_false]; rfl
theorem ayf (M : Nat) (a b c : UInt8) (t : List UInt8) (v : Nat) (hv : v < 32) :
  aQ (M + 5) (dB (M + 5)) (a :: b :: c :: t, (v : Int), ((3 : Nat) : Int), ((1 : Nat) : Int)) = some (.tup [.int .u32 (db 3 v (a :: b :: c :: t)).1, .int .i64 (db 3 v (a :: b :: c :: t)).2], []) := by
 rw [lr, rp _ _ _ _ 3 1 (by omega) (by omega) (by simp) (by omega), lr, rp _ _ _ _ 3 2 (by omega) (by omega) (by simp) (by omega), lr, aiO _ _ _ _ 3 (by simp)]
 simp only [db, List.getD_cons_succ, List.getD_cons_zero]
 rw [if_neg (show ¬ (a :: b :: c :: t).length < 3 by simp)]
 simp only [List.take_succ_cons, List.take_zero, List.tail_cons, List.foldl_cons, List.foldl_nil]
 by_cases h : gly ((v * 64 + b.toNat % 64) * 64 + c.toNat % 64) = [a, b, c]
 ·simp only [h, if_true]
 ·simp only [h, if_false]; rfl
theorem ayg (M : Nat) (a b c d : UInt8) (t : List UInt8) (v : Nat) (hv : v < 32) :
  aQ (M + 5) (dB (M + 5)) (a :: b :: c :: d :: t, (v : Int), ((4 : Nat) : Int), ((1 : Nat) : Int)) = some (.tup [.int .u32 (db 4 v (a :: b :: c :: d :: t)).1, .int .i64 (db 4 v (a :: b :: c :: d :: t)).2], []) := by
 rw [lr, rp _ _ _ _ 4 1 (by omega) (by omega) (by simp) (by omega), lr, rp _ _ _ _ 4 2 (by omega) (by omega) (by simp) (by omega), lr, rp _ _ _ _ 4 3 (by omega) (by omega) (by simp) (by omega), lr, aiO _ _ _ _ 4 (by simp)]
 simp only [db, List.getD_cons_succ, List.getD_cons_zero]
 rw [if_neg (show ¬ (a :: b :: c :: d :: t).length < 4 by simp)]
 simp only [List.take_succ_cons, List.take_zero, List.tail_cons, List.foldl_cons, List.foldl_nil]
 by_cases h : gly (((v * 64 + b.toNat % 64) * 64 + c.toNat % 64) * 64 + d.toNat % 64) = [a, b, c, d]
 ·simp only [h, if_true]
 ·simp only [h, if_false]; rfl
theorem ako (M : Nat) (s : List UInt8) (hs : s ≠ []) (hl : s.length ≤ 9223372036854775807) :
  tz (M + 5) s = some (.tup [.int .u32 (dS s).1, .int .i64 (dS s).2], []) := by
 obtain ⟨c, t, rfl⟩ := List.exists_cons_of_ne_nil hs
 have hc : c.toNat < 256 := UInt8.toNat_lt _
 have s5 : cJ .u8 (c.toNat : Int) 5 = ((c.toNat / 32 : Nat) : Int) := sE .u8 c.toNat 5 (by decide)
 have s4 : cJ .u8 (c.toNat : Int) 4 = ((c.toNat / 16 : Nat) : Int) := sE .u8 c.toNat 4 (by decide)
 have s3 : cJ .u8 (c.toNat : Int) 3 = ((c.toNat / 8 : Nat) : Int) := sE .u8 c.toNat 3 (by decide)
 have a31 : bH .and .u8 (c.toNat : Int) 31 = ((c.toNat % 32 : Nat) : Int) := ant 5 (by omega) _ hc
 have a15 : bH .and .u8 (c.toNat : Int) 15 = ((c.toNat % 16 : Nat) : Int) := ant 4 (by omega) _ hc
 have a7 : bH .and .u8 (c.toNat : Int) 7 = ((c.toNat % 8 : Nat) : Int) := ant 3 (by omega) _ hc
 rw [List.length_cons] at hl
 simp only [tz, oN, dS, eT, List.length_cons, Int.toNat_zero, List.getD_cons_zero, s5, s4, s3, a31, a15, a7]
 by_cases h1 : c.toNat < 128
 ·simp (disch := omega) only [bl, ]
  rfl
 by_cases h2 : c.toNat / 32 = 6
 ·match t with
  | [] => simp (disch := omega) only [bl, db, List.length_cons, List.length_nil]; rfl
  | b :: t =>
    rw [List.length_cons] at hl
    simp (disch := omega) only [bl, h2, List.length_cons]
    exact aye M c b t _ (by omega)
 by_cases h3 : c.toNat / 16 = 14
 ·match t with
  | [] => simp (disch := omega) only [bl, db, List.length_cons, List.length_nil]; rfl
  | [b] => simp (disch := omega) only [bl, db, List.length_cons, List.length_nil]; rfl
  | b :: d :: t =>
    rw [List.length_cons, List.length_cons] at hl
    simp (disch := omega) only [bl, h3, List.length_cons]
    exact ayf M c b d t _ (by omega)
 by_cases h4 : c.toNat / 8 = 30
 ·match t with
  | [] => simp (disch := omega) only [bl, db, List.length_cons, List.length_nil]; rfl
  | [b] => simp (disch := omega) only [bl, db, List.length_cons, List.length_nil]; rfl
  | [b, d] => simp (disch := omega) only [bl, db, List.length_cons, List.length_nil]; rfl
  | b :: d :: e :: t =>
    rw [List.length_cons, List.length_cons, List.length_cons] at hl
    simp (disch := omega) only [bl, h4, List.length_cons]
    exact ayg M c b d e t _ (by omega)
 ·simp (disch := omega) only [bl, ]
  rfl
end Go.Proofs.Ytdpajabhmmmjoaa
end
noncomputable section
namespace Go.Proofs.Ytdpajabhmmmjoaa
open Go.AM
set_option autoImplicit false
set_option linter.unusedVariables false
set_option maxRecDepth 100000
def ak5 (N : Nat) : Nat → List V → Option (Bool × V) := fun f vs => match f, vs with
 | 21, [.agg [.sl .atype (.may _) a], .int .i64 g, .agg [.int .u64 l, .str m, .sl .aval (.may _) h, .sl .str (.may _) n, .int .i64 o]] => some (decide (1000000 ≤ N - (szL h + 1)), .bool (aZ a g (.mk l m h n o)))
 | 49, [.agg [.sl .atype (.may _) a], .int .i64 g] => some (true, .bool (isT a g))
 | 50, [.agg [.int .i64 a, .str c, .sl .str (.may _) d, .int .i64 e, .sl .str (.may _) b, .bool p, .str q, .int .i64 i, .sl .afield (.may _) r, .sl (.num .i64) (.may _) s], .int .u64 g] => some (true, .bool (ru a b g))
 | 51, [.agg [.int .i64 a, .str c, .sl .str (.may _) d, .int .i64 e, .sl .str (.may _) b, .bool p, .str q, .int .i64 i, .sl .afield (.may _) r, .sl (.num .i64) (.may _) s], .str g] => some (true, .bool (wP a i g))
 | 52, [.agg [.sl .atype (.may _) a], .int .i64 g, .sl .aval (.may _) k] => some (decide (1000000 ≤ N - szL k), .bool (br a g k))
 | 53, [.sl .str (.may _) a0] => some (true, .bool (ey a0))
 | 54, [.agg [.sl .atype (.may _) a], .agg [.int .i64 t, .str u, .sl .str (.may _) v, .int .i64 w, .sl .str (.may _) x, .bool y, .str z, .int .i64 aa, .sl .afield (.may _) j, .sl (.num .i64) (.may _) ab], .sl .aval (.may _) k] => some (decide (1000000 ≤ N - szL k), .bool (decide (List.length k = List.length j) && gq a j k))
 | 55, [.agg [.int .u64 a, .str c, .sl .aval (.may _) d, .sl .str (.may _) e, .int .i64 b]] => some (true, .bool (bR a c d e b))
 | _, _ => none
def bb (N : Nat) : aN := (iw (ak5 N))
theorem anu (N : Nat) : cO (bb N) [] := (dn _ _)
theorem apa (N : Nat) (h_aval_Fits : ∀ (a : List aA) (g : Int) (p : Int) (q : Bs) (j : List aB) (r : Bss) (s : Int), (decide (1000000 ≤ N - (szL j + 1))) = true → aI Try.prog nN [.agg [.sl .atype (.may false) a], .int .i64 g, .agg [.int .u64 p, .str q, .sl .aval (.may false) j, .sl .str (.may false) r, .int .i64 s]] (.bool (aZ a g (.mk p q j r s)))) (h_aval_is : ∀ (a : List aA) (g : Int), aI Try.prog aiy [.agg [.sl .atype (.may false) a], .int .i64 g] (.bool (isT a g))) (h_aval_number : ∀ (a : Int) (c : Bs) (d : Bss) (e : Int) (b : Bss) (k : Bool) (l : Bs) (i : Int) (m : List aM) (n : List Int) (g : Int), aI Try.prog z6 [.agg [.int .i64 a, .str c, .sl .str (.may false) d, .int .i64 e, .sl .str (.may false) b, .bool k, .str l, .int .i64 i, .sl .afield (.may false) m, .sl (.num .i64) (.may false) n], .int .u64 g] (.bool (ru a b g))) (h_aval_text : ∀ (a : Int) (c : Bs) (d : Bss) (e : Int) (b : Bss) (k : Bool) (l : Bs) (i : Int) (m : List aM) (n : List Int) (g : Bs), aI Try.prog adJ [.agg [.int .i64 a, .str c, .sl .str (.may false) d, .int .i64 e, .sl .str (.may false) b, .bool k, .str l, .int .i64 i, .sl .afield (.may false) m, .sl (.num .i64) (.may false) n], .str g] (.bool (wP a i g))) (h_aval_each : ∀ (a : List aA) (g : Int) (t : List aB), (decide (1000000 ≤ N - szL t)) = true → aI Try.prog adH [.agg [.sl .atype (.may false) a], .int .i64 g, .sl .aval (.may false) t] (.bool (br a g t))) (h_aval_keys : ∀ (a0 : Bss), aI Try.prog adI [.sl .str (.may false) a0] (.bool (ey a0))) (h_aval_record : ∀ (a : List aA) (u : Int) (w : Bs) (x : Bss) (y : Int) (z : Bss) (aa : Bool) (ab : Bs) (ac : Int) (o : List aM) (ad : List Int) (t : List aB), (decide (1000000 ≤ N - szL t)) = true → aI Try.prog z7 [.agg [.sl .atype (.may false) a], .agg [.int .i64 u, .str w, .sl .str (.may false) x, .int .i64 y, .sl .str (.may false) z, .bool aa, .str ab, .int .i64 ac, .sl .afield (.may false) o, .sl (.num .i64) (.may false) ad], .sl .aval (.may false) t] (.bool (decide (List.length t = List.length o) && gq a o t))) (h_aval_bare : ∀ (a : Int) (c : Bs) (d : List aB) (e : Bss) (b : Int), aI Try.prog adG [.agg [.int .u64 a, .str c, .sl .aval (.may false) d, .sl .str (.may false) e, .int .i64 b]] (.bool (bR a c d e b))) : bK Try.prog (bb N) := by
 intro f vs hp v hp' h0
 obtain ⟨h, he⟩ := eh h0
 subst he
 unfold ak5 at h
 split at h
 ·simp only [Option.some.injEq, Prod.mk.injEq] at h
  obtain ⟨hc, rfl⟩ := h
  exact ((h_aval_Fits _ _ _ _ _ _ _ hc).dim rfl).frame rfl rfl _
 ·simp only [Option.some.injEq, Prod.mk.injEq] at h
  obtain ⟨hc, rfl⟩ := h
  exact ((h_aval_is _ _).dim rfl).frame rfl rfl _
 ·simp only [Option.some.injEq, Prod.mk.injEq] at h
  obtain ⟨hc, rfl⟩ := h
  exact ((h_aval_number _ _ _ _ _ _ _ _ _ _ _).dim rfl).frame rfl rfl _
 ·simp only [Option.some.injEq, Prod.mk.injEq] at h
  obtain ⟨hc, rfl⟩ := h
  exact ((h_aval_text _ _ _ _ _ _ _ _ _ _ _).dim rfl).frame rfl rfl _
 ·simp only [Option.some.injEq, Prod.mk.injEq] at h
  obtain ⟨hc, rfl⟩ := h
  exact ((h_aval_each _ _ _ hc).dim rfl).frame rfl rfl _
 ·simp only [Option.some.injEq, Prod.mk.injEq] at h
  obtain ⟨hc, rfl⟩ := h
  exact ((h_aval_keys _).dim rfl).frame rfl rfl _
 ·simp only [Option.some.injEq, Prod.mk.injEq] at h
  obtain ⟨hc, rfl⟩ := h
  exact ((h_aval_record _ _ _ _ _ _ _ _ _ _ _ _ hc).dim rfl).frame rfl rfl _
 ·simp only [Option.some.injEq, Prod.mk.injEq] at h
  obtain ⟨hc, rfl⟩ := h
  exact ((h_aval_bare _ _ _ _ _).dim rfl).frame rfl rfl _
 ·simp at h
def tG : IR := Rg [Fa 76 2 8, Pp (.st none 1 76 (.c (nl .aval))), Fa 77 3 8, Pp (.st none 1 77 (.c (nl .str)))]
def rP : IR := Rg [Fa 119 2 8, Pp (.st none 1 119 (.c (nl .aval))), Fa 120 4 8, Pp (.st none 1 120 (kI 0))]
def rQ : IR := Cn 36 (Rg [Ld 40 10 true 7, Fa 41 1 5, Lq 42 41, Ca 43 51 [40, 42], Mv 9 43, Fa 44 1 8, Pp (.st none 1 44 (kS []))]) (Rs [Bc 46 .eql 21 12, Mv 45 46] (Cn 45 (Rg [Ld 47 1 true 3, Fa 48 3 7, Lq 49 48, Fa 50 2 5, Lq 51 50, Ca 52 52 [47, 49, 51], Mv 9 52, Fa 53 2 8, Pp (.st none 1 53 (.c (nl .aval)))]) (Rs [Bc 55 .eql 21 13, Mv 54 55] (Cn 54 (Rs [Fa 56 3 5, Lq 57 56, Ll 58 57, Fa 59 2 5, Lq 60 59, Ll 61 60, Bi 62 .eql 58 61, Mv 63 62, Gt 63 (.fad 64 3 5), Gt 63 (.lde 65 1 false 64), Gt 63 (.call 66 53 [65]), Pa 67 63 66, Mv 68 67, Gt 68 (.lde 69 1 true 3), Gt 68 (.fad 70 3 7), Gt 68 (.lde 71 1 false 70), Gt 68 (.fad 72 2 5), Gt 68 (.lde 73 1 false 72), Gt 68 (.call 74 52 [69, 71, 73]), Pa 75 68 74, Mv 9 75] (.cut [8, 9, 1000000] 1 tG)) (Rs [Bc 79 .eql 21 9, Mv 78 79] (Cn 78 (Rg [Ld 80 1 true 3, Ld 81 10 true 7, Fa 82 2 5, Lq 83 82, Ca 84 54 [80, 81, 83], Mv 9 84, Fa 85 2 8, Pp (.st none 1 85 (.c (nl .aval)))]) (Rs [Bc 87 .eql 21 14, Mv 86 87] (Cn 86 (Sq (.reg [Fa 88 4 5, Lq 89 88, Bc 90 .geq 89 0, Mv 91 90, Gt 91 (.fad 92 4 5), Gt 91 (.lde 93 1 false 92), Gt 91 (.fad 94 9 7), Gt 91 (.lde 95 1 false 94), Gt 91 (.lenl 96 95), Gt 91 (.bin 97 .lss 93 96), Pa 98 91 97, Mv 99 98, Gt 99 (.fad 100 2 5), Gt 99 (.lde 101 1 false 100), Gt 99 (.lenl 102 101), Gt 99 (.bin 103 .eql 102 (kI 1)), Pa 104 99 103, Mv 105 104, Gt 105 (.lde 106 1 true 3), Gt 105 (.fad 107 9 7), Gt 105 (.lde 108 1 false 107), Gt 105 (.fad 109 4 5), Gt 105 (.lde 110 1 false 109), Gt 105 (.ixa 111 (.num .i64) 108 110), Gt 105 (.lde 112 1 false 111), Gt 105 (.fad 113 2 5), Gt 105 (.lde 114 1 false 113), Gt 105 (.ixa 115 .aval 114 (kI 0)), Gt 105 (.lde 116 5 true 115), Gt 105 (.call 117 21 [106, 112, 116]), Pa 118 105 117, Mv 9 118] [[], [0], [0, 1], [0, 1, 2], rg 0 3, rg 0 4, rg 0 3, [0, 1, 2, 3, 6], [0, 1, 2, 3, 6, 7], rg 0 8, rg 0 9, rg 0 10, rg 0 11, rg 0 12, rg 0 13, rg 0 14, rg 0 15, rg 0 16, rg 0 17, rg 0 17, rg 0 17 ++ [19], rg 0 17, rg 0 17 ++ [21], rg 0 17 ++ rg 19 22, rg 0 17 ++ rg 19 23, rg 0 17, rg 0 17 ++ [25], rg 0 17 ++ [25, 26], rg 0 17 ++ [25, 26, 27], rg 0 28, rg 0 29, rg 0 30]) (.cut [8, 9, 1000001] 1 rP)) .skip))))))))
def rR : IR := Cn 24 (Rg [Ld 31 10 true 7, Fa 32 0 5, Lq 33 32, Ca 34 50 [31, 33], Mv 9 34, Fa 35 0 8, Pp (.st none 1 35 (kU 0))]) (Sq (Rs [Bc 37 .eql 21 7, Mv 36 37] (Cn 36 .skip (Rs [Bc 38 .eql 21 8, Mv 36 38] (Cn 36 .skip (Rg [Bc 39 .eql 21 11, Mv 36 39]))))) (.cut [3, 5, 7, 8, 9, 21, 36, 1000002] 1 rQ))
def gv : IR := Rs [Mv 121 9, Mv 122 121, Gt 122 (.ld 123 5 true false 8), Gt 122 (.call 124 55 [123]), Pa 125 122 124, Mv 6 125] .ret
def kh : IR := .cut [8, 9, 1000004] 1 gv
def abQ : IR := Rs [Bx 3 0, Bx 5 2, Mb 6 false] (Sq (Rs [Ld 10 1 true 3, Mv 11 1, Ca 12 49 [10, 11], Un 13 12] (Cn 13 (Rs [Mb 6 false] .ret) .skip)) (Sq (.reg [Fa 14 0 3, Lq 15 14, Mv 16 1, Ix 17 .atype 15 16, Ld 18 10 true 17, Ld 19 5 true 5, Pp (.alr 7 10), Pp (.new 8 [vU 0, vS, nl .aval, nl .str, vI 0]), Fz 7 10 18, Fo [] [0] (.st none 5 8 19)] [[], [0], [], [0, 1, 2], rg 0 3, [], [], [], rg 0 4 ++ [6, 7], rg 0 8]) (Rs [Mb 9 false] (Sq (Rs [Fa 20 0 7, Lq 21 20] (.block 0 (Rs [Bc 23 .eql 21 1, Mv 22 23] (Cn 22 (Rg [Mb 9 true]) (Sq (Rs [Bc 25 .eql 21 2, Mv 24 25] (Cn 24 .skip (Rs [Bc 26 .eql 21 3, Mv 24 26] (Cn 24 .skip (Rs [Bc 27 .eql 21 4, Mv 24 27] (Cn 24 .skip (Rs [Bc 28 .eql 21 5, Mv 24 28] (Cn 24 .skip (Rs [Bc 29 .eql 21 6, Mv 24 29] (Cn 24 .skip (Rg [Bc 30 .eql 21 10, Mv 24 30]))))))))))) (.cut [3, 5, 7, 8, 9, 21, 24, 1000003] 1 rR)))))) kh))))
def dc : List RV := [.t 6]
theorem arn : (bJ Try.prog [] 0 abQ (Try.f21.body.getD .skip) && eI Try.prog dc Try.f21.results.toList) = true := by kernel_rfl
theorem apb : Try.f21.body = some (Try.f21.body.getD .skip) := by kernel_rfl
abbrev vb : Type := (Bool × Int × Bs × List aB × Bss × Int)
def yx : vb → St := fun (a, b, c, d, e, f) => { env := (U 8 (.ptr 0 0 :: .bool a :: (U 116 []))), hp := [some [.int .u64 b, .str c, .sl .aval (.may false) d, .sl .str (.may false) e, .int .i64 f]] }
def agZ (N : Nat) : St → Ro := fun s => run (bb N) N gv (fin dc) s
def aaa (N : Nat) : vb → Ro := fun (g, a, b, c, d, e) =>
 cond g (
 let f : Bool := (bR a b c d e)
 some (.bool f, [some [.int .u64 a, .str b, .sl .aval (.may false) c, .sl .str (.may false) d, .int .i64 e]])) (
 some (.bool false, [some [.int .u64 a, .str b, .sl .aval (.may false) c, .sl .str (.may false) d, .int .i64 e]]))
theorem apc (N : Nat) : ∀ (x : vb), agZ N (yx x) = aaa N x := by
 intro x
 kernel_rfl
abbrev qK : Type := (List aA × Int × Bs × List aB × Bss × Int × Int × Bs × Bss × Int × Bss × Bool × Bs × Int × List aM × List Int × Bool × Int × Bool × Int × Bs × List aB × Bss × Int)
def oQ : qK → St := fun (o, p, q, r, s, t, u, v, w, x, a, b, c, d, e, f, g, h, i, j, k, l, m, n) => { env := (U 3 (.ea [.sl .atype (.may false) o] :: .undef :: .ea [.int .u64 p, .str q, .sl .aval (.may false) r, .sl .str (.may false) s, .int .i64 t] :: .undef :: .ea [.int .i64 u, .str v, .sl .str (.may false) w, .int .i64 x, .sl .str (.may false) a, .bool b, .str c, .int .i64 d, .sl .afield (.may false) e, .sl (.num .i64) (.may false) f] :: .ptr 0 0 :: .bool g :: (U 11 (.int .i64 h :: .undef :: .undef :: .bool i :: (U 101 []))))), hp := [some [.int .u64 j, .str k, .sl .aval (.may false) l, .sl .str (.may false) m, .int .i64 n]] }
def dq (R : IR → (Ex → St → Ro) → St → Ro) : Ex → St → Ro := (aR 0 (bp (R kh) (fin dc)))
abbrev vc : Type := (Bool × Int × Bs × List aB × Bss × Int)
def tH : vc → St := fun (a, b, c, d, e, f) => { env := (U 8 (.ptr 0 0 :: .bool a :: (U 116 []))), hp := [some [.int .u64 b, .str c, .sl .aval (.may false) d, .sl .str (.may false) e, .int .i64 f]] }
def aab (N : Nat) : St → Ro := fun s => run (bb N) N gv (fin dc) s
def vd (N : Nat) : vc → Ro := fun (g, a, b, c, d, e) =>
 cond g (
 let f : Bool := (bR a b c d e)
 some (.bool f, [some [.int .u64 a, .str b, .sl .aval (.may false) c, .sl .str (.may false) d, .int .i64 e]])) (
 some (.bool false, [some [.int .u64 a, .str b, .sl .aval (.may false) c, .sl .str (.may false) d, .int .i64 e]]))
theorem apd (N : Nat) : ∀ (x : vc), aab N (tH x) = vd N x := by
 intro x
 kernel_rfl
abbrev qL : Type := (List aA × Int × Bs × List aB × Bss × Int × Int × Bs × Bss × Int × Bss × Bool × Bs × Int × List aM × List Int × Bool × Int × Bool × Int × Bs × List aB × Bss × Int)
def lS : qL → St := fun (o, p, q, r, s, t, u, v, w, x, a, b, c, d, e, f, g, h, i, j, k, l, m, n) => { env := (U 3 (.ea [.sl .atype (.may false) o] :: .undef :: .ea [.int .u64 p, .str q, .sl .aval (.may false) r, .sl .str (.may false) s, .int .i64 t] :: .undef :: .ea [.int .i64 u, .str v, .sl .str (.may false) w, .int .i64 x, .sl .str (.may false) a, .bool b, .str c, .int .i64 d, .sl .afield (.may false) e, .sl (.num .i64) (.may false) f] :: .ptr 0 0 :: .bool g :: (U 11 (.int .i64 h :: (U 14 (.bool i :: (U 89 []))))))), hp := [some [.int .u64 j, .str k, .sl .aval (.may false) l, .sl .str (.may false) m, .int .i64 n]] }
abbrev ve : Type := (Bool × Int × Bs × List aB × Bss × Int)
def tI : ve → St := fun (a, b, c, d, e, f) => { env := (U 8 (.ptr 0 0 :: .bool a :: (U 116 []))), hp := [some [.int .u64 b, .str c, .sl .aval (.may false) d, .sl .str (.may false) e, .int .i64 f]] }
def aac (N : Nat) : St → Ro := fun s => run (bb N) N gv (fin dc) s
def vh (N : Nat) : ve → Ro := fun (g, a, b, c, d, e) =>
 cond g (
 let f : Bool := (bR a b c d e)
 some (.bool f, [some [.int .u64 a, .str b, .sl .aval (.may false) c, .sl .str (.may false) d, .int .i64 e]])) (
 some (.bool false, [some [.int .u64 a, .str b, .sl .aval (.may false) c, .sl .str (.may false) d, .int .i64 e]]))
theorem ape (N : Nat) : ∀ (x : ve), aac N (tI x) = vh N x := by
 intro x
 kernel_rfl
abbrev vi : Type := (Bool × Int × Bs × List aB × Bss × Int)
def tJ : vi → St := fun (a, b, c, d, e, f) => { env := (U 8 (.ptr 0 0 :: .bool a :: (U 116 []))), hp := [some [.int .u64 b, .str c, .sl .aval .own d, .sl .str (.may false) e, .int .i64 f]] }
def aad (N : Nat) : St → Ro := fun s => run (bb N) N gv (fin dc) s
def vj (N : Nat) : vi → Ro := fun (g, a, b, c, d, e) =>
 cond g (
 let f : Bool := (bR a b c d e)
 some (.bool f, [some [.int .u64 a, .str b, .sl .aval .own c, .sl .str (.may false) d, .int .i64 e]])) (
 some (.bool false, [some [.int .u64 a, .str b, .sl .aval .own c, .sl .str (.may false) d, .int .i64 e]]))
theorem apf (N : Nat) : ∀ (x : vi), aad N (tJ x) = vj N x := by
 intro x
 kernel_rfl
abbrev qM : Type := (Bool × Int × Bs × List aB × Bss × Int)
def lT : qM → St := fun (a, b, c, d, e, f) => { env := (U 8 (.ptr 0 0 :: .bool a :: (U 116 []))), hp := [some [.int .u64 b, .str c, .sl .aval (.may false) d, .sl .str (.may false) e, .int .i64 f]] }
abbrev vk : Type := (Bool × Int × Bs × List aB × Bss × Int)
def tK : vk → St := fun (a, b, c, d, e, f) => { env := (U 8 (.ptr 0 0 :: .bool a :: (U 116 []))), hp := [some [.int .u64 b, .str c, .sl .aval .own d, .sl .str .own e, .int .i64 f]] }
def aae (N : Nat) : St → Ro := fun s => run (bb N) N gv (fin dc) s
def aaf (N : Nat) : vk → Ro := fun (g, a, b, c, d, e) =>
 cond g (
 let f : Bool := (bR a b c d e)
 some (.bool f, [some [.int .u64 a, .str b, .sl .aval .own c, .sl .str .own d, .int .i64 e]])) (
 some (.bool false, [some [.int .u64 a, .str b, .sl .aval .own c, .sl .str .own d, .int .i64 e]]))
theorem apg (N : Nat) : ∀ (x : vk), aae N (tK x) = aaf N x := by
 intro x
 kernel_rfl
def vl (N : Nat) : St → Ro := fun s => run (bb N) N tG (dq (run (bb N) N)) s
def yy (N : Nat) (d : vk → Ro) : qM → Ro := fun (e, a, b, _, _, c) =>
 d (e, a, b, ([] : List aB), ([] : Bss), c)
def vm (N : Nat) (x : qM) : Ro := yy N (fun z => aaf N z) x
def aag (N : Nat) : List (Nat × (St → Ro)) := (ba (bb N) N tG (dq (run (bb N) N)) ++ (ba (bb N) N kh (fin dc) ++ []))
theorem aph (N : Nat) : ∀ (x : qM), vl N (lT x) = vm N x := by
 intro x
 have hX : ∀ C : Nat → St → Ro, bQ C (bb N) N tG (dq (bQ C (bb N) N)) (lT x) = yy N (fun z => C 1000004 (tK z)) x := by
  intro C
  kernel_rfl
 have h : vl N (lT x) = yy N (fun z => aae N (tK z)) x := (ch (C := dA (aag N)) (bO (aX (l := (aag N)) (by kernel_rfl))) (cp (eq (bO (da (aX (l := (aag N)) (by kernel_rfl)))) rfl)) _).trans ((hX _).trans (by kernel_rfl))
 have e7 : (fun z => aae N (tK z)) = (fun z => aaf N z) := funext fun z => apg N z
 rw [h, e7]
 rfl
abbrev qN : Type := (Bool × Int × Bs × List aB × Bss × Int)
def lU : qN → St := fun (a, b, c, d, e, f) => { env := (U 8 (.ptr 0 0 :: .bool a :: (U 116 []))), hp := [some [.int .u64 b, .str c, .sl .aval (.may false) d, .sl .str (.may false) e, .int .i64 f]] }
abbrev vn : Type := (Bool × Int × Bs × List aB × Bss × Int)
def tL : vn → St := fun (a, b, c, d, e, f) => { env := (U 8 (.ptr 0 0 :: .bool a :: (U 116 []))), hp := [some [.int .u64 b, .str c, .sl .aval .own d, .sl .str (.may false) e, .int .i64 f]] }
def aah (N : Nat) : St → Ro := fun s => run (bb N) N gv (fin dc) s
def aai (N : Nat) : vn → Ro := fun (g, a, b, c, d, e) =>
 cond g (
 let f : Bool := (bR a b c d e)
 some (.bool f, [some [.int .u64 a, .str b, .sl .aval .own c, .sl .str (.may false) d, .int .i64 e]])) (
 some (.bool false, [some [.int .u64 a, .str b, .sl .aval .own c, .sl .str (.may false) d, .int .i64 e]]))
theorem api (N : Nat) : ∀ (x : vn), aah N (tL x) = aai N x := by
 intro x
 kernel_rfl
def vo (N : Nat) : St → Ro := fun s => run (bb N) N rP (dq (run (bb N) N)) s
def yz (N : Nat) (d : vn → Ro) : qN → Ro := fun (e, a, b, _, c, _) =>
 d (e, a, b, ([] : List aB), c, 0)
def vp (N : Nat) (x : qN) : Ro := yz N (fun z => aai N z) x
def aaj (N : Nat) : List (Nat × (St → Ro)) := (ba (bb N) N rP (dq (run (bb N) N)) ++ (ba (bb N) N kh (fin dc) ++ []))
theorem apj (N : Nat) : ∀ (x : qN), vo N (lU x) = vp N x := by
 intro x
 have hX : ∀ C : Nat → St → Ro, bQ C (bb N) N rP (dq (bQ C (bb N) N)) (lU x) = yz N (fun z => C 1000004 (tL z)) x := by
  intro C
  kernel_rfl
 have h : vo N (lU x) = yz N (fun z => aah N (tL z)) x := (ch (C := dA (aaj N)) (bO (aX (l := (aaj N)) (by kernel_rfl))) (cp (eq (bO (da (aX (l := (aaj N)) (by kernel_rfl)))) rfl)) _).trans ((hX _).trans (by kernel_rfl))
 have e9 : (fun z => aah N (tL z)) = (fun z => aai N z) := funext fun z => api N z
 rw [h, e9]
 rfl
def vq (N : Nat) : St → Ro := fun s => run (bb N) N rQ (dq (run (bb N) N)) s
def oR (N : Nat) (q4 : ve → Ro) (q5 : vi → Ro) (v : qM → Ro) (u : qN → Ro) : qL → Ro := fun (h, _, p, a, k, g, q, _, _, m, _, _, _, r, o, i, v9, j, w, b, e, f, c, d) =>
 cond w (
 q4 ((wP q r p), b, ([] : Bs), f, c, d)) (
 cond (j == 12) (
 chk (decide (1000000 ≤ N - szL a)) (
 q5 ((br h m a), b, e, ([] : List aB), c, d))) (
 cond (j == 13) (
 let x : Int := (↑(List.length k) : Int)
 let y : Int := (↑(List.length a) : Int)
 cond (x == y) (
 cond (ey k) (
 chk (decide (1000000 ≤ N - szL a)) (
 v ((br h m a), b, e, f, c, d))) (
 v (false, b, e, f, c, d))) (
 v (false, b, e, f, c, d))) (
 cond (j == 9) (
 chk (decide (1000000 ≤ N - szL a)) (
 let z : Bool := (decide (List.length a = List.length o) && gq h o a)
 q5 (z, b, e, ([] : List aB), c, d))) (
 cond (j == 14) (
 cond (decide (0 ≤ g)) (
 let aa : Int := (↑(List.length i) : Int)
 cond (decide (g < aa)) (
 let ab : Int := (↑(List.length a) : Int)
 cond (ab == 1) (
 chk (decide (0 ≤ g) && decide (g < ↑(List.length i))) (
 let ac : Int := List.getD i (Int.toNat g) (aC (.num .i64))
 chk (decide ((0 : Int) < ↑(List.length a))) (
 let ad : Int := (List.getD a (Int.toNat 0) (aC .aval)).n
 let ae : Bs := (List.getD a (Int.toNat 0) (aC .aval)).s
 let t : List aB := (List.getD a (Int.toNat 0) (aC .aval)).l
 let af : Bss := (List.getD a (Int.toNat 0) (aC .aval)).keys
 let ag : Int := (List.getD a (Int.toNat 0) (aC .aval)).branch
 chk (decide (1000000 ≤ N - (szL t + 1))) (
 let ah : Bool := (aZ h ac (.mk ad ae t af ag))
 u (ah, b, e, f, c, d))))) (
 u (false, b, e, f, c, d))) (
 u (false, b, e, f, c, d))) (
 u (false, b, e, f, c, d))) (
 q4 (v9, b, e, f, c, d))))))
def qO (N : Nat) (x : qL) : Ro := oR N (fun z => vh N z) (fun z => vj N z) (fun z => vm N z) (fun z => vp N z) x
def aak (N : Nat) : List (Nat × (St → Ro)) := (ba (bb N) N rQ (dq (run (bb N) N)) ++ (ba (bb N) N kh (fin dc) ++ []))
theorem apk (N : Nat) : ∀ (x : qL), vq N (lS x) = qO N x := by
 intro x
 have hX : ∀ C : Nat → St → Ro, bQ C (bb N) N rQ (dq (bQ C (bb N) N)) (lS x) = oR N (fun z => C 1000004 (tI z)) (fun z => C 1000004 (tJ z)) (fun z => C 1000000 (lT z)) (fun z => C 1000001 (lU z)) x := by
  intro C
  kernel_rfl
 have h : vq N (lS x) = oR N (fun z => aac N (tI z)) (fun z => aad N (tJ z)) (fun z => vl N (lT z)) (fun z => vo N (lU z)) x := (ch (C := dA (aak N)) (bO (aX (l := (aak N)) (by kernel_rfl))) (cp (eq (bO (da (aX (l := (aak N)) (by kernel_rfl)))) rfl)) _).trans ((hX _).trans (by kernel_rfl))
 have e4 : (fun z => aac N (tI z)) = (fun z => vh N z) := funext fun z => ape N z
 have e5 : (fun z => aad N (tJ z)) = (fun z => vj N z) := funext fun z => apf N z
 have e6 : (fun z => vl N (lT z)) = (fun z => vm N z) := funext fun z => aph N z
 have e8 : (fun z => vo N (lU z)) = (fun z => vp N z) := funext fun z => apj N z
 rw [h, e4, e5, e6, e8]
 rfl
def aal (N : Nat) : St → Ro := fun s => run (bb N) N rR (dq (run (bb N) N)) s
def oS (N : Nat) (z : vc → Ro) (w : qL → Ro) : qK → Ro := fun (i, a, j, k, l, m, b, n, o, p, c, q, r, s, t, u, x, h, y, v, d, e, f, g) =>
 cond y (
 z ((ru b c a), 0, d, e, f, g)) (
 cond (h == 7) (
 w (i, a, j, k, l, m, b, n, o, p, c, q, r, s, t, u, x, h, true, v, d, e, f, g)) (
 cond (h == 8) (
 w (i, a, j, k, l, m, b, n, o, p, c, q, r, s, t, u, x, h, true, v, d, e, f, g)) (
 w (i, a, j, k, l, m, b, n, o, p, c, q, r, s, t, u, x, h, (h == 11), v, d, e, f, g))))
def vr (N : Nat) (x : qK) : Ro := oS N (fun z => vd N z) (fun z => qO N z) x
def aam (N : Nat) : List (Nat × (St → Ro)) := (ba (bb N) N rR (dq (run (bb N) N)) ++ (ba (bb N) N kh (fin dc) ++ []))
theorem apl (N : Nat) : ∀ (x : qK), aal N (oQ x) = vr N x := by
 intro x
 have hX : ∀ C : Nat → St → Ro, bQ C (bb N) N rR (dq (bQ C (bb N) N)) (oQ x) = oS N (fun z => C 1000004 (tH z)) (fun z => C 1000002 (lS z)) x := by
  intro C
  kernel_rfl
 have h : aal N (oQ x) = oS N (fun z => aab N (tH z)) (fun z => vq N (lS z)) x := (ch (C := dA (aam N)) (bO (aX (l := (aam N)) (by kernel_rfl))) (cp (eq (bO (da (aX (l := (aam N)) (by kernel_rfl)))) rfl)) _).trans ((hX _).trans (by kernel_rfl))
 have e2 : (fun z => aab N (tH z)) = (fun z => vd N z) := funext fun z => apd N z
 have e3 : (fun z => vq N (lS z)) = (fun z => qO N z) := funext fun z => apk N z
 rw [h, e2, e3]
 rfl
def sF (N : Nat) (a : List aA) (h b : Int) (c : Bs) (d : List aB) (e : Bss) (f : Int) (s : vb → Ro) (j : qK → Ro) : Ro :=
 cond (!(isT a h)) (
 some (.bool false, [])) (
 chk (decide (0 ≤ h) && decide (h < ↑(List.length a))) (
 let g : Int := (List.getD a (Int.toNat h) (aC .atype)).kind
 let k : Bs := (List.getD a (Int.toNat h) (aC .atype)).name
 let l : Bss := (List.getD a (Int.toNat h) (aC .atype)).aliases
 let m : Int := (List.getD a (Int.toNat h) (aC .atype)).items
 let n : Bss := (List.getD a (Int.toNat h) (aC .atype)).syms
 let o : Bool := (List.getD a (Int.toNat h) (aC .atype)).hasdef
 let p : Bs := (List.getD a (Int.toNat h) (aC .atype)).df
 let q : Int := (List.getD a (Int.toNat h) (aC .atype)).size
 let r : List aM := (List.getD a (Int.toNat h) (aC .atype)).fields
 let i : List Int := (List.getD a (Int.toNat h) (aC .atype)).branches
 cond (g == 1) (
 s (true, b, c, d, e, f)) (
 cond (g == 2) (
 j (a, b, c, d, e, f, g, k, l, m, n, o, p, q, r, i, false, g, true, b, c, d, e, f)) (
 cond (g == 3) (
 j (a, b, c, d, e, f, g, k, l, m, n, o, p, q, r, i, false, g, true, b, c, d, e, f)) (
 cond (g == 4) (
 j (a, b, c, d, e, f, g, k, l, m, n, o, p, q, r, i, false, g, true, b, c, d, e, f)) (
 cond (g == 5) (
 j (a, b, c, d, e, f, g, k, l, m, n, o, p, q, r, i, false, g, true, b, c, d, e, f)) (
 cond (g == 6) (
 j (a, b, c, d, e, f, g, k, l, m, n, o, p, q, r, i, false, g, true, b, c, d, e, f)) (
 j (a, b, c, d, e, f, g, k, l, m, n, o, p, q, r, i, false, g, (g == 10), b, c, d, e, f)))))))))
def w6 (N : Nat) (a : List aA) (g b : Int) (c : Bs) (d : List aB) (e : Bss) (f : Int) : Ro := sF N a g b c d e f (fun z => aaa N z) (fun z => vr N z)
def auy (N : Nat) : List (Nat × (St → Ro)) := ba (bb N) N abQ (fin dc) ++ []
theorem aro (N : Nat) (a : List aA) (h c : Int) (d : Bs) (e : List aB) (f : Bss) (g : Int) : aW (bb N) N 126 dc abQ [.agg [.sl .atype (.may false) a], .int .i64 h, .agg [.int .u64 c, .str d, .sl .aval (.may false) e, .sl .str (.may false) f, .int .i64 g]] [] = w6 N a h c d e f g :=
 (bL (auy N) (by kernel_rfl) rfl (fun C => sF N a h c d e f g (fun z => C 1000004 (yx z)) (fun z => C 1000003 (oQ z))) (fun C => by kernel_rfl)).trans (Eq.trans (b := sF N a h c d e f g (fun z => agZ N (yx z)) (fun z => aal N (oQ z))) (by kernel_rfl) (congr (congrArg (sF N a h c d e f g) (funext fun z => apc N z)) (funext fun z => apl N z)))
theorem as4 (N : Nat) (hΓ : bK Try.prog (bb N)) (a : List aA) (g b : Int) (c : Bs) (d : List aB) (e : Bss) (f : Int) {v : V} {hp : List aK} (h : w6 N a g b c d e f = some (v, hp)) : aI Try.prog nN [.agg [.sl .atype (.may false) a], .int .i64 g, .agg [.int .u64 b, .str c, .sl .aval (.may false) d, .sl .str (.may false) e, .int .i64 f]] v := by
 have hc := arn
 simp only [Bool.and_eq_true] at hc
 exact ⟨hp, ig hΓ (anu N) Try.func21 apb hc.1 hc.2 (by decide) ((aro N a g b c d e f).trans h)⟩
end Go.Proofs.Ytdpajabhmmmjoaa
end
noncomputable section
namespace Go.Proofs.Ytdpajabhmmmjoaa
open Go.AM
set_option autoImplicit false
set_option linter.unusedSimpArgs false
set_option linter.unusedVariables false
theorem akp (N : Nat) (s : List UInt8) (hs : s.length ≤ 9223372036854775807) (hN : s.length < N) : yv N s = some (.bool (cZ s), []) := by
 show aQ N (mX N) s = _
 refine pW (fun x : List UInt8 => x.length ≤ 9223372036854775807) (fun x => x.length) (fun x => (V.bool (cZ x), ([] : List aK))) ?_ N s hs hN
 rintro rec x hx hrec
 match x with
 | [] => rfl
 | c :: t =>
   have hle := asX (c :: t)
   have hg : (dS (c :: t)).2 = ((eT (c :: t)).2 : Int) := rfl
   have h0 : decide (c :: t = []) = false := by simp
   have hcl : (c :: t).length = t.length + 1 := rfl
   have hx' : (c :: t).length ≤ 9223372036854775807 := hx
   simp only [mX, akZ]
   generalize (dS (c :: t)).2 = p at hg
   by_cases hp : (eT (c :: t)).2 = 0
   ·rw [if_pos hp]
    simp (disch := omega) only [bl, h0]
   ·rw [if_neg hp]
    have e : p.toNat = (eT (c :: t)).2 := by omega
    simp (disch := omega) only [bl, h0, e]
    exact hrec ((c :: t).drop (eT (c :: t)).2) (by simp only [List.length_drop]; omega) (by simp only [List.length_drop]; omega)
theorem aB.eta (v : aB) : aB.mk v.n v.s v.l v.keys v.branch = v := by cases v; rfl
theorem el {α : Type} (l : List α) (i : Nat) (d : α) (h : i < l.length) : l.drop i = l.getD i d :: l.drop (i + 1) := by
 rw [List.drop_eq_getElem_cons h, List.getD_eq_getElem?_getD, List.getElem?_eq_getElem h]
 rfl
theorem as5 : ∀ (l : List aB) (i : Nat), szL (l.drop i) ≤ szL l
 | [], i => by simp
 | v :: l, 0 => by simp
 | v :: l, i + 1 => by
   have := as5 l i
   simp only [List.drop_succ_cons, szL]
   omega
theorem apm (l : List aB) (i : Nat) (h : i < l.length) : szV (l.getD i (aC .aval)) ≤ szL l := by
 have h1 := as5 l i
 rw [el l i (aC .aval) h, szL] at h1
 omega
theorem aex (v : aB) : szV v = szL v.l + 1 := by cases v; rfl
theorem arp (N : Nat) (ts : List aA) (t : Int) : abp N ts t = some (.bool (isT ts t), []) := by
 simp only [abp, ani, isT]
 by_cases h : 0 ≤ t
 ·simp (disch := omega) only [bl, ]
 ·simp (disch := omega) only [bl, ]
theorem anv (N : Nat) (n : Int) (s : List UInt8) (l : List aB) (ks : List (List UInt8)) (b : Int) : wU N n s l ks b = some (.bool (bR n s l ks b), []) := by
 simp only [wU, aiG, bR]
 cases n == 0 <;> cases decide (s = ([] : List UInt8)) <;> cases (l.length : Int) == 0 <;> cases (ks.length : Int) == 0 <;> rfl
theorem akq (N : Nat) (a0 : Int) (a1 : List UInt8) (a2 : List (List UInt8)) (a3 : Int) (a4 : List (List UInt8)) (a5 : Bool) (a6 : List UInt8) (a7 : Int) (a8 : List aM) (a9 : List Int) (n : Int) :
  tC N a0 a1 a2 a3 a4 a5 a6 a7 a8 a9 n = some (.bool (ru a0 a4 n), []) := by
 simp only [tC, aet, ru]
 cases a0 == 2 <;> cases a0 == 3 <;> cases a0 == 5 <;> cases a0 == 10 <;> rfl
theorem anw (N : Nat) (a0 : Int) (a1 : List UInt8) (a2 : List (List UInt8)) (a3 : Int) (a4 : List (List UInt8)) (a5 : Bool) (a6 : List UInt8) (a7 : Int) (a8 : List aM) (a9 : List Int) (s : List UInt8) :
  wW N a0 a1 a2 a3 a4 a5 a6 a7 a8 a9 s = some (.bool (wP a0 a7 s), []) := by
 simp only [wW, aiJ, wP]
 cases a0 == 8 <;> cases a0 == 11 <;> rfl
def nP (l : List (List UInt8)) (i : Nat) : Bool := match i with | 0 => ey l | i + 1 => pX (l.getD i []) (l.drop (i + 1))
theorem aiP (l : List (List UInt8)) : nP l l.length = true := by
 unfold nP
 split
 ·rename_i h
  rw [List.length_eq_zero_iff.1 h]; rfl
 ·rename_i i h
  rw [show l.drop (i + 1) = [] from List.drop_eq_nil_of_le (by omega)]
  rfl
theorem ag0 (l : List (List UInt8)) (i : Nat) (h : i < l.length) :
  nP l i = (cZ (l.getD i []) && ((decide (i = 0) || Op.bytesLess (l.getD (i - 1) []) (l.getD i [])) && nP l (i + 1))) := by
 cases i with
 | zero =>
   have := el l 0 [] h
   rw [List.drop_zero] at this
   simp only [nP]
   conv => lhs; rw [this]
   simp [ey]
 | succ i =>
   simp only [nP]
   rw [el l (i + 1) [] h]
   simp [pX]
theorem anx (N : Nat) (l : List (List UInt8)) (hl : l.length ≤ 9223372036854775807) (hN : l.length < N) : abO N l = some (.bool (ey l), []) := by
 show aQ N (qJ N) (l, l, (l.length : Int), 0) = some (.bool (nP l 0), [])
 refine pW (fun x : List (List UInt8) × List (List UInt8) × Int × Int => l = x.1 ∧ l = x.2.1 ∧ x.2.2.1 = (l.length : Int) ∧ ∃ i : Nat, x.2.2.2 = (i : Int) ∧ i ≤ l.length) (fun x => l.length - x.2.2.2.toNat)
  (fun x => (V.bool (nP l x.2.2.2.toNat), ([] : List aK))) ?_ N _ ⟨rfl, rfl, rfl, 0, rfl, by omega⟩ (by simp; omega)
 rintro rec ⟨x1, x2, x3, x4⟩ ⟨e1, e2, e3, i, e4, hi⟩ hrec
 simp only at e1 e2 e3 e4
 subst e1 e2 e3 e4
 simp only [qJ, Int.toNat_natCast]
 rcases Nat.lt_or_ge i l.length with hlt | hge
 ·rw [ag0 l i hlt]
  have hr := hrec (l, l, (l.length : Int), ((i + 1 : Nat) : Int)) ⟨rfl, rfl, rfl, i + 1, rfl, by omega⟩ (by simp only [Int.toNat_natCast]; omega)
  simp only [Int.toNat_natCast] at hr
  have e5 : IntKind.wrap .i64 ((i : Int) + 1) = ((i + 1 : Nat) : Int) := by rw [aJ _ (by omega)]; rfl
  show cond _ _ _ = _
  simp only [aC]
  cases hv : cZ (l.getD i [])
  ·simp (disch := omega) only [bl, ]
  ·rcases Nat.eq_zero_or_pos i with h0 | h0
   ·subst h0
    simp (disch := omega) only [bl, e5, hr, decide_true]
   ·have e6 : IntKind.wrap .i64 ((i : Int) - 1) = ((i - 1 : Nat) : Int) := by rw [aJ _ (by omega)]; omega
    cases hb : Op.bytesLess (l.getD (i - 1) []) (l.getD i [])
    ·simp (disch := omega) only [bl, e6, hb]
    ·simp (disch := omega) only [bl, e5, e6, hb, hr]
 ·have : i = l.length := by omega
  subst this
  rw [aiP]
  simp (disch := omega) only [bl, ]
theorem aqK (ts : List aA) (t : Int) : ∀ (l : List aB) (i : Nat), (0 ≤ yr ts t l i) ↔ br ts t l = false
 | [], i => by simp [yr, br]
 | v :: l, i => by
   have := aqK ts t l (i + 1)
   simp only [yr, br]
   cases h : aZ ts t v <;> simp [h, this]
theorem anz (N : Nat) (ts : List aA) (t : Int) (l : List aB) (h : szL l + 1000000 ≤ N) : wZ N ts t l = some (.bool (br ts t l), []) := by
 simp only [wZ, aiM]
 simp (disch := omega) only [bl, Bool.not_not]
theorem axw (N : Nat) (ts : List aA) (t : Int) (l : List aB) (h : szL l + 1000000 ≤ N) : bS N l ts t = some (.bool (!br ts t l), []) := by
 simp only [bS, dR]
 have := aqK ts t l 0
 cases hb : br ts t l
 ·rw [hb] at this
  have := this.2 rfl
  simp (disch := omega) only [bl, ]
 ·rw [hb] at this
  have : ¬ 0 ≤ yr ts t l 0 := fun h => by simpa using this.1 h
  simp (disch := omega) only [bl, ]
theorem auz (N : Nat) (ts : List aA) (t n : Int) (s : List UInt8) (l : List aB) (ks : List (List UInt8)) (b : Int) (h : szL l + 1 + 1000000 ≤ N) :
  rO N n s l ks b ts t = some (.bool (!aZ ts t (.mk n s l ks b)), []) := by
 simp only [rO, ac9]
 simp (disch := omega) only [bl, ]
theorem axx (N : Nat) (ts : List aA) (t : Int) (l : List aB) (hl : l.length ≤ 9223372036854775807) (h : szL l + 1000000 ≤ N) (hN : l.length < N) :
  cD N l ts t = some (.int .i64 (yr ts t l 0), []) := by
 show aQ N (bF N) (l, ts, t, (l.length : Int), 0) = _
 refine pW (fun x : List aB × List aA × Int × Int × Int => l = x.1 ∧ ts = x.2.1 ∧ t = x.2.2.1 ∧ x.2.2.2.1 = (l.length : Int) ∧ ∃ i : Nat, x.2.2.2.2 = (i : Int) ∧ i ≤ l.length) (fun x => l.length - x.2.2.2.2.toNat)
  (fun x => (V.int .i64 (yr ts t (l.drop x.2.2.2.2.toNat) x.2.2.2.2.toNat), ([] : List aK))) ?_ N _ ⟨rfl, rfl, rfl, rfl, 0, rfl, by omega⟩ (by simp; omega)
 rintro rec ⟨x1, x2, x3, x4, x5⟩ ⟨e1, e2, e3, e4, i, e5, hi⟩ hrec
 simp only at e1 e2 e3 e4 e5
 subst e1 e2 e3 e4 e5
 simp only [bF, Int.toNat_natCast]
 rcases Nat.lt_or_ge i l.length with hlt | hge
 ·have hr := hrec (l, ts, t, (l.length : Int), ((i + 1 : Nat) : Int)) ⟨rfl, rfl, rfl, rfl, i + 1, rfl, by omega⟩ (by simp only [Int.toNat_natCast]; omega)
  simp only [Int.toNat_natCast] at hr
  have e6 : IntKind.wrap .i64 ((i : Int) + 1) = ((i + 1 : Nat) : Int) := by rw [aJ _ (by omega)]; rfl
  have hz := apm l i hlt
  rw [aex] at hz
  rw [el l i (aC .aval) hlt, yr]
  simp only [aB.eta]
  cases hv : aZ ts t (l.getD i (aC .aval))
  ·simp (disch := omega) only [bl, hv, Bool.false_eq_true]
  ·simp (disch := omega) only [bl, hv, e6, hr]
 ·have : i = l.length := by omega
  subst this
  rw [List.drop_length, yr]
  simp (disch := omega) only [bl, ]
theorem as6 (N : Nat) (ts : List aA) (a0 : Int) (a1 : List UInt8) (a2 : List (List UInt8)) (a3 : Int) (a4 : List (List UInt8)) (a5 : Bool) (a6 : List UInt8) (a7 : Int) (fs : List aM) (a9 : List Int) (l : List aB)
  (hl : fs.length ≤ 9223372036854775807) (h : szL l + 1000000 ≤ N) (hN : l.length < N) :
  tE N ts a0 a1 a2 a3 a4 a5 a6 a7 fs a9 l = some (.bool (decide (List.length l = List.length fs) && gq ts fs l), []) := by
 simp only [tE, oP]
 by_cases he : l.length = fs.length
 rotate_left
 ·have e1 : decide (l.length = fs.length) = false := decide_eq_false he
  simp (disch := omega) only [bl, e1]
 have e1 : decide (l.length = fs.length) = true := decide_eq_true he
 simp (disch := omega) only [bl, e1]
 refine pW (fun x : List aB × List aA × List aM × Int × Int => l = x.1 ∧ ts = x.2.1 ∧ fs = x.2.2.1 ∧ x.2.2.2.1 = (fs.length : Int) ∧ ∃ i : Nat, x.2.2.2.2 = (i : Int) ∧ i ≤ fs.length) (fun x => fs.length - x.2.2.2.2.toNat)
  (fun x => (V.bool (gq ts (fs.drop x.2.2.2.2.toNat) (l.drop x.2.2.2.2.toNat)), ([] : List aK))) ?_ N _ ⟨rfl, rfl, rfl, rfl, 0, rfl, by omega⟩ (by simp; omega)
 rintro rec ⟨x1, x2, x3, x4, x5⟩ ⟨e1, e2, e3, e4, i, e5, hi⟩ hrec
 simp only at e1 e2 e3 e4 e5
 subst e1 e2 e3 e4 e5
 simp only [rN, Int.toNat_natCast]
 rcases Nat.lt_or_ge i fs.length with hlt | hge
 ·have hr := hrec (l, ts, fs, (fs.length : Int), ((i + 1 : Nat) : Int)) ⟨rfl, rfl, rfl, rfl, i + 1, rfl, by omega⟩ (by simp only [Int.toNat_natCast]; omega)
  simp only [Int.toNat_natCast] at hr
  have e6 : IntKind.wrap .i64 ((i : Int) + 1) = ((i + 1 : Nat) : Int) := by rw [aJ _ (by omega)]; rfl
  have hlt' : i < l.length := by omega
  have hz := apm l i hlt'
  rw [aex] at hz
  rw [el l i (aC .aval) hlt', el fs i (aC .afield) hlt, gq]
  simp only [aB.eta, List.headD_cons, List.tail_cons]
  cases hv : aZ ts (fs.getD i (aC .afield)).typ (l.getD i (aC .aval))
  ·simp (disch := omega) only [bl, hv]
  ·simp (disch := omega) only [bl, hv, e6, hr]
 ·have : i = fs.length := by omega
  subst this
  rw [List.drop_length, ← he, List.drop_length, gq]
  simp (disch := omega) only [bl, ]
end Go.Proofs.Ytdpajabhmmmjoaa
end
noncomputable section
namespace Go.Proofs.Ytdpajabhmmmjoaa
open Go.AM
set_option autoImplicit false
set_option linter.unusedSimpArgs false
set_option linter.unusedVariables false
set_option maxRecDepth 100000
theorem azf (N : Nat) (v : Bool) (n : Int) (s : List UInt8) (l : List aB) (ks : List (List UInt8)) (b : Int) : (aaa N (v, n, s, l, ks, b)).map (·.1) = some (.bool (v && bR n s l ks b)) := by
 cases v <;> rfl
theorem azg (N : Nat) (v : Bool) (n : Int) (s : List UInt8) (l : List aB) (ks : List (List UInt8)) (b : Int) : (vd N (v, n, s, l, ks, b)).map (·.1) = some (.bool (v && bR n s l ks b)) := by
 cases v <;> rfl
theorem axW (N : Nat) (v : Bool) (n : Int) (s : List UInt8) (l : List aB) (ks : List (List UInt8)) (b : Int) : (vh N (v, n, s, l, ks, b)).map (·.1) = some (.bool (v && bR n s l ks b)) := by
 cases v <;> rfl
theorem axX (N : Nat) (v : Bool) (n : Int) (s : List UInt8) (l : List aB) (ks : List (List UInt8)) (b : Int) : (vj N (v, n, s, l, ks, b)).map (·.1) = some (.bool (v && bR n s l ks b)) := by
 cases v <;> rfl
theorem azh (N : Nat) (v : Bool) (n : Int) (s : List UInt8) (l : List aB) (ks : List (List UInt8)) (b : Int) : (vm N (v, n, s, l, ks, b)).map (·.1) = some (.bool (v && bR n s [] [] b)) := by
 cases v <;> rfl
theorem anA (N : Nat) (v : Bool) (n : Int) (s : List UInt8) (l : List aB) (ks : List (List UInt8)) (b : Int) : (vp N (v, n, s, l, ks, b)).map (·.1) = some (.bool (v && bR n s [] ks 0)) := by
 cases v <;> rfl
theorem avS (N : Nat) (ts : List aA) (t n : Int) (s : List UInt8) (l : List aB) (ks : List (List UInt8)) (b : Int) (h : szL l + 1000000 ≤ N) :
  (w6 N ts t n s l ks b).map (·.1) = some (.bool (aZ ts t (.mk n s l ks b))) := by
 simp only [w6, sF, aZ]
 by_cases ht : isT ts t = true
 rotate_left
 ·simp only [Bool.not_eq_true] at ht
  simp only [ht, Bool.not_false, cond_true, Bool.false_and, Option.map_some]
 have ht' := ht
 simp only [isT, Bool.and_eq_true, decide_eq_true_eq] at ht'
 have e0 : (decide (0 ≤ t) && decide (t < (ts.length : Int))) = true := ht
 simp only [ht, e0, Bool.not_true, cond_false, akd, Bool.true_and]
 generalize ts.getD t.toNat (aC .atype) = k
 have c1 : decide (1000000 ≤ N - szL l) = true := decide_eq_true (by omega)
 by_cases h1 : k.kind = 1
 ·simp (disch := omega) only [bl, h1, azf]
 have h1' : (k.kind == 1) = false := by simpa using h1
 simp only [h1', cond_false]
 by_cases hn : k.kind = 2 ∨ k.kind = 3 ∨ k.kind = 4 ∨ k.kind = 5 ∨ k.kind = 6 ∨ k.kind = 10
 ·rcases hn with e | e | e | e | e | e <;>
   (simp only [e]
    simp (disch := omega) only [bl, vr, oS, azg])
 have d2 : (k.kind == 2) = false := by simp; omega
 have d3 : (k.kind == 3) = false := by simp; omega
 have d4 : (k.kind == 4) = false := by simp; omega
 have d5 : (k.kind == 5) = false := by simp; omega
 have d6 : (k.kind == 6) = false := by simp; omega
 have d10 : (k.kind == 10) = false := by simp; omega
 simp only [d2, d3, d4, d5, d6, d10, cond_false, vr, oS, Bool.or_false, Bool.false_or]
 by_cases hx : k.kind = 7 ∨ k.kind = 8 ∨ k.kind = 11
 ·rcases hx with e | e | e <;>
   (simp only [e]
    simp (disch := omega) only [bl, qO, oR, axW])
 have d7 : (k.kind == 7) = false := by simp; omega
 have d8 : (k.kind == 8) = false := by simp; omega
 have d11 : (k.kind == 11) = false := by simp; omega
 simp only [d7, d8, d11, cond_false, qO, oR, Bool.or_false, Bool.false_or]
 by_cases h12 : k.kind = 12
 ·simp only [h12]
  simp (disch := omega) only [bl, c1, axX]
 have d12 : (k.kind == 12) = false := by simp; omega
 simp only [d12, cond_false]
 by_cases h13 : k.kind = 13
 ·simp only [h13]
  simp (disch := omega) only [bl, c1]
  cases (ks.length : Int) == (l.length : Int) <;> cases ey ks <;> simp only [cond_true, cond_false, azh, Bool.false_and, Bool.true_and]
 have d13 : (k.kind == 13) = false := by simp; omega
 simp only [d13, cond_false]
 by_cases h9 : k.kind = 9
 ·simp only [h9]
  simp (disch := omega) only [bl, c1, axX]
 have d9 : (k.kind == 9) = false := by simp; omega
 simp only [d9, cond_false]
 by_cases h14 : k.kind = 14
 ·simp only [h14]
  simp (disch := omega) only [bl, ]
  by_cases b0 : 0 ≤ b
  rotate_left
  ·simp (disch := omega) only [bl, anA]
  by_cases b1 : b < (k.branches.length : Int)
  rotate_left
  ·simp (disch := omega) only [bl, anA]
  match l, h, c1 with
  | [], h, c1 =>
    have e1 : ((List.length ([] : List aB) : Int) == 1) = false := rfl
    have e2 : decide (0 ≤ b) = true := decide_eq_true b0
    have e3 : decide (b < (k.branches.length : Int)) = true := decide_eq_true b1
    simp only [e1, e2, e3, cond_true, cond_false, anA, Bool.false_and, Bool.and_false, Bool.true_and]
  | [v], h, c1 =>
    have hz : szV v = szL v.l + 1 := aex v
    simp only [szL] at h
    have e1 : (decide ((0 : Int) ≤ b) && decide (b < (k.branches.length : Int))) = true := by simp [b0, b1]
    have e2 : decide (1000000 ≤ N - (szL v.l + 1)) = true := decide_eq_true (by omega)
    have e3 : ([v] : List aB).getD (Int.toNat 0) (aC .aval) = v := rfl
    simp only [e1, e3, aB.eta, akd, e2]
    simp (disch := omega) only [bl, anA, List.length_singleton, br]
    rfl
  | v :: w :: l, h, c1 =>
    have e1 : (((v :: w :: l).length : Int) == 1) = false := by simp; omega
    simp (disch := omega) only [bl, anA, e1]
 have d14 : (k.kind == 14) = false := by simp; omega
 simp only [d14, cond_false, axW, Bool.false_and]
theorem adb (a0 a1 : Int) (hc : (decide (0 ≤ (a1 : Int)) && decide ((a1 : Int) ≤ 32)) = true) : aI Try.prog abK [.int .u32 a0, .int .i64 a1] (.int .u8 (ix a0 a1)) := by
 refine aI.fits fun hf => ?_
 have r0 := asV (hf (.int .u32 a0) (by simp))
 have hc1 : 0 ≤ a1 ∧ a1 ≤ 32 := by simpa using hc
 exact aq7 am6 1000 a0 a1 (al6 1000 a0 a1 r0 hc1)
theorem ahK : aI Try.prog uE [.int .u32 65533] (.str (yq 65533)) :=
 aiD 0 (aeq 0 (by intro a0 h; simp at h) adb) 65533 (ada 0 65533 (by omega) (.inl (by omega)))
theorem apn (a0 : Int) : aI Try.prog uE [.int .u32 a0] (.str (yq a0)) := by
 refine aI.fits fun hf => ?_
 have r0 := asV (hf (.int .u32 a0) (by simp))
 refine aiD 1 (aeq 1 (fun b h => ?_) adb) a0 (ada 1 a0 r0 (.inr (by omega)))
 have hb : b = 65533 := by simpa using h
 subst hb
 exact ahK
theorem al7 (a0 : List UInt8) (hc : (!decide (a0 = [])) = true) : aI Try.prog z8 [.str a0] (.tup [.int .u32 ((dS a0).1), .int .i64 ((dS a0).2)]) := by
 refine aI.fits fun hf => ?_
 have r0 := asW (hf (.str a0) (by simp))
 have hc1 : a0 ≠ [] := by simpa using hc
 exact aoX (alS apn) 1000 a0 (ako 995 a0 hc1 r0)
theorem abR (a0 : List UInt8) : aI Try.prog u7 [.str a0] (.bool (cZ a0)) := by
 refine aI.fits fun hf => ?_
 have r0 := asW (hf (.str a0) (by simp))
 exact aoY (alV al7) (a0.length + 1) a0 (akp (a0.length + 1) a0 r0 (by omega))
theorem ayh (ts : List aA) (t : Int) : aI Try.prog aiy [.agg [.sl .atype (.may false) ts], .int .i64 t] (.bool (isT ts t)) :=
 avR asY 0 _ _ (arp 0 ts t)
theorem awB (n : Int) (s : List UInt8) (l : List aB) (ks : List (List UInt8)) (b : Int) : aI Try.prog adG [.agg [.int .u64 n, .str s, .sl .aval (.may false) l, .sl .str (.may false) ks, .int .i64 b]] (.bool (bR n s l ks b)) :=
 as0 aoZ 0 _ _ _ _ _ (anv 0 n s l ks b)
theorem auA (a0 : Int) (a1 : List UInt8) (a2 : List (List UInt8)) (a3 : Int) (a4 : List (List UInt8)) (a5 : Bool) (a6 : List UInt8) (a7 : Int) (a8 : List aM) (a9 : List Int) (n : Int) :
  aI Try.prog z6 [.agg [.int .i64 a0, .str a1, .sl .str (.may false) a2, .int .i64 a3, .sl .str (.may false) a4, .bool a5, .str a6, .int .i64 a7, .sl .afield (.may false) a8, .sl (.num .i64) (.may false) a9], .int .u64 n] (.bool (ru a0 a4 n)) :=
 ao1 alY 0 _ _ _ _ _ _ _ _ _ _ _ (akq 0 a0 a1 a2 a3 a4 a5 a6 a7 a8 a9 n)
theorem awC (a0 : Int) (a1 : List UInt8) (a2 : List (List UInt8)) (a3 : Int) (a4 : List (List UInt8)) (a5 : Bool) (a6 : List UInt8) (a7 : Int) (a8 : List aM) (a9 : List Int) (s : List UInt8) :
  aI Try.prog adJ [.agg [.int .i64 a0, .str a1, .sl .str (.may false) a2, .int .i64 a3, .sl .str (.may false) a4, .bool a5, .str a6, .int .i64 a7, .sl .afield (.may false) a8, .sl (.num .i64) (.may false) a9], .str s] (.bool (wP a0 a7 s)) :=
 as1 (ao2 abR) 0 _ _ _ _ _ _ _ _ _ _ _ (anw 0 a0 a1 a2 a3 a4 a5 a6 a7 a8 a9 s)
theorem awD (l : List (List UInt8)) : aI Try.prog adI [.sl .str (.may false) l] (.bool (ey l)) := by
 refine aI.fits fun hf => ?_
 have r0 := avm (hf (.sl .str (.may false) l) (by simp))
 exact as2 (ao4 abR) (l.length + 1) l (anx _ l r0 (by omega))
def as7 (n : Nat) : Prop := ∀ (ts : List aA) (t m : Int) (s : List UInt8) (l : List aB) (ks : List (List UInt8)) (b : Int), szL l + 1 ≤ n →
 aI Try.prog nN [.agg [.sl .atype (.may false) ts], .int .i64 t, .agg [.int .u64 m, .str s, .sl .aval (.may false) l, .sl .str (.may false) ks, .int .i64 b]] (.bool (aZ ts t (.mk m s l ks b)))
def ay3 (n : Nat) : Prop := ∀ (ts : List aA) (t : Int) (l : List aB), szL l ≤ n → aI Try.prog adH [.agg [.sl .atype (.may false) ts], .int .i64 t, .sl .aval (.may false) l] (.bool (br ts t l))
def azi (n : Nat) : Prop := ∀ (ts : List aA) (a0 : Int) (a1 : List UInt8) (a2 : List (List UInt8)) (a3 : Int) (a4 : List (List UInt8)) (a5 : Bool) (a6 : List UInt8) (a7 : Int) (a8 : List aM) (a9 : List Int) (l : List aB), szL l ≤ n →
 aI Try.prog z7 [.agg [.sl .atype (.may false) ts], .agg [.int .i64 a0, .str a1, .sl .str (.may false) a2, .int .i64 a3, .sl .str (.may false) a4, .bool a5, .str a6, .int .i64 a7, .sl .afield (.may false) a8, .sl (.num .i64) (.may false) a9], .sl .aval (.may false) l] (.bool (decide (List.length l = List.length a8) && gq ts a8 l))
theorem apo : ∀ l : List aB, l.length ≤ szL l
 | [] => by simp
 | v :: l => by simp only [List.length_cons, szL]; have := aex v; have := apo l; omega
theorem ayi (n : Nat) (hF : as7 n) : ay3 n := by
 have h1 : ∀ (m : Int) (s : List UInt8) (l : List aB) (ks : List (List UInt8)) (b : Int) (ts : List aA) (t : Int), szL l + 1 ≤ n →
   aI Try.prog oM [.agg [.int .u64 m, .str s, .sl .aval (.may false) l, .sl .str (.may false) ks, .int .i64 b], .ea [.sl .atype (.may false) ts], .ea [.int .i64 t]] (.bool (!aZ ts t (.mk m s l ks b))) := by
  intro m s l ks b ts t hs
  refine ans (n + 1000000) (akm _ ?_) m s l ks b ts t (auz _ ts t m s l ks b (by omega))
  intro ts t m s l ks b hd
  have := of_decide_eq_true hd
  exact hF ts t m s l ks b (by omega)
 have h2 : ∀ (l : List aB) (ts : List aA) (t : Int), szL l ≤ n → aI Try.prog cM [.sl .aval (.may false) l, .fn oM [.ea [.sl .atype (.may false) ts], .ea [.int .i64 t]]] (.int .i64 (yr ts t l 0)) := by
  intro l ts t hs
  refine aI.fits fun hf => ?_
  have r0 := avm (hf (.sl .aval (.may false) l) (by simp))
  have hlen : l.length ≤ szL l := apo l
  refine lq (n + 1000000) (kK _ ?_) l ts t (axx _ ts t l r0 (by omega) (by omega))
  intro m s l ks b ts t hd
  have := of_decide_eq_true hd
  exact h1 m s l ks b ts t (by omega)
 have h3 : ∀ (l : List aB) (ts : List aA) (t : Int), szL l ≤ n → aI Try.prog cr [.sl .aval (.may false) l, .fn oM [.ea [.sl .atype (.may false) ts], .ea [.int .i64 t]]] (.bool (!br ts t l)) := by
  intro l ts t hs
  refine kd (n + 1000000) (jx _ ?_) l ts t (axw _ ts t l (by omega))
  intro l ts t hd
  have := of_decide_eq_true hd
  exact h2 l ts t (by omega)
 intro ts t l hs
 refine as3 (n + 1000000) (ao7 _ ?_) ts t l (anz _ ts t l (by omega))
 intro l ts t hd
 have := of_decide_eq_true hd
 exact h3 l ts t (by omega)
theorem ay4 (n : Nat) (hF : as7 n) : azi n := by
 intro ts a0 a1 a2 a3 a4 a5 a6 a7 a8 a9 l hs
 refine aI.fits fun hf => ?_
 have r0 := hf (.agg [.int .i64 a0, .str a1, .sl .str (.may false) a2, .int .i64 a3, .sl .str (.may false) a4, .bool a5, .str a6, .int .i64 a7, .sl .afield (.may false) a8, .sl (.num .i64) (.may false) a9]) (by simp)
 have r1 : a8.length ≤ 9223372036854775807 := r0 (.sl .afield (.may false) a8) (by simp)
 have hlen : l.length ≤ szL l := apo l
 refine ao9 (n + 1000000) (al0 _ ?_) ts a0 a1 a2 a3 a4 a5 a6 a7 a8 a9 l (as6 _ ts a0 a1 a2 a3 a4 a5 a6 a7 a8 a9 l r1 (by omega) (by omega))
 intro ts t m s l ks b hd
 have := of_decide_eq_true hd
 exact hF ts t m s l ks b (by omega)
theorem avq : ∀ n, as7 n
 | 0 => fun ts t m s l ks b h => by omega
 | n + 1 => by
   have hF := avq n
   intro ts t m s l ks b hs
   obtain ⟨hp, h⟩ := ay0 (avS (n + 1000000) ts t m s l ks b (by omega))
   refine as4 (n + 1000000) (apa _ ?_ ayh auA awC ?_ awD ?_ awB) ts t m s l ks b h
   ·intro ts t m s l ks b hd
    have := of_decide_eq_true hd
    exact hF ts t m s l ks b (by omega)
   ·intro ts t l hd
    have := of_decide_eq_true hd
    exact ayi n hF ts t l (by omega)
   ·intro ts a0 a1 a2 a3 a4 a5 a6 a7 a8 a9 l hd
    have := of_decide_eq_true hd
    exact ay4 n hF ts a0 a1 a2 a3 a4 a5 a6 a7 a8 a9 l (by omega)
theorem awE (ts : List aA) (t m : Int) (s : List UInt8) (l : List aB) (ks : List (List UInt8)) (b : Int) :
  aI Try.prog nN [.agg [.sl .atype (.may false) ts], .int .i64 t, .agg [.int .u64 m, .str s, .sl .aval (.may false) l, .sl .str (.may false) ks, .int .i64 b]] (.bool (aZ ts t (.mk m s l ks b))) :=
 avq (szL l + 1) ts t m s l ks b (Nat.le_refl _)
end Go.Proofs.Ytdpajabhmmmjoaa
end
noncomputable section
namespace Go.Proofs.Ytdpajabhmmmjoaa
open Go.ChangeShapes Go.WideShapes Go.AM
set_option autoImplicit false
set_option linter.unusedVariables false
set_option maxRecDepth 100000
theorem avr {α : Type} {p : Nat → α → Prop} : ∀ n, (∀ i, i < n → ∃ x, p i x) → ∃ l : List α, l.length = n ∧ ∀ i x, l[i]? = some x → p i x
 | 0, _ => ⟨[], rfl, by simp⟩
 | n + 1, h => by
   obtain ⟨l, h1, h2⟩ := avr n fun i hi => h i (by omega)
   obtain ⟨x, hx⟩ := h n (by omega)
   refine ⟨l ++ [x], by simp [h1], fun i y hy => ?_⟩
   rcases Nat.lt_or_ge i l.length with hi | hi
   ·rw [List.getElem?_append_left hi] at hy
    exact h2 i y hy
   ·rw [List.getElem?_append_right hi] at hy
    have h3 : i = n := by
     have := (List.getElem?_eq_some_iff.1 hy).1
     simp at this
     omega
    subst h3
    have : x = y := by simpa [h1] using hy
    exact this ▸ hx
section
variable {H : Type} {enc : TypeId × Value → H} {w : World} {base : Nat} {held : Bool}
theorem ayj (k : EK) {t e : TypeId} (ht : Try.prog.underlying t = some (.slice e)) (hc : Try.prog.cellsOf e = k.sz) {n : Nat} {cs : List Value} {x : DataW H × List MemPlace}
  (elem : ∀ m, m + 1 = n → ∀ es y, DataW.trod enc Try.prog w base (fun _ => true) held m e es = some y → ∃ x : Ty k, ∀ (j : Nat) v u, (AM.enc k x)[j]? = some v → es[j]? = some u → VRel (oJ w).I id 0 w v u)
  (h : DataW.trod enc Try.prog w base (fun _ => true) held n t cs = some x) : ∃ (xs : List (Ty k)) (cv : Value), cs = [cv] ∧ VRel (oJ w).I id 0 w (.sl k (.may false) xs) cv := by
 have hk0 : 0 < k.sz := by cases k <;> simp [EK.sz]
 rcases DataW.trod_slice ht h with ⟨rfl, -⟩ | ⟨a, len, cap, elems, rest, m, rfl, rfl, -, hb, hl, hm, hlen, hel, hsp, -⟩
 ·exact ⟨[], _, rfl, .sln _ _⟩
 obtain ⟨hrl, hr⟩ := hsp rfl
 rw [hc] at hel hr
 by_cases h0 : cap = 0
 ·subst h0
  obtain rfl : len = 0 := by omega
  exact ⟨[], _, rfl, .sle _ _ a (by simp)⟩
 have first : ∃ es y, w.cells? base (a.add (0 * k.sz)) k.sz = some es ∧ DataW.trod enc Try.prog w base (fun _ => true) held m e es = some y := by
  by_cases hl0 : len = 0
  ·have h1 := hr 0 (by omega)
   rw [hl0] at h1
   have h2 : 0 < rest.length := by omega
   rw [List.getElem?_eq_getElem h2, Option.bind_eq_some_iff] at h1
   obtain ⟨es, h3, h4⟩ := h1
   exact ⟨es, _, h3, h4⟩
  ·have h1 := hel 0 (by omega)
   have h2 : 0 < elems.length := by omega
   rw [List.getElem?_eq_getElem h2, Option.bind_eq_some_iff] at h1
   obtain ⟨es, h3, h4⟩ := h1
   exact ⟨es, _, h3, h4⟩
 have hspot : a.spot = none := by
  obtain ⟨es, y, h1, -⟩ := first
  obtain ⟨h2, h3, h4⟩ := World.cells?_some h1
  have h5 := h4 0 hk0
  rw [List.getElem?_eq_getElem (by omega)] at h5
  simp only [Nat.zero_mul, Addr.add, if_true, World.cell?] at h5
  split at h5
  ·cases hs : a.spot with
   | none => rfl
   | some s => simp [hs] at h5
  ·cases h5
 obtain ⟨b, off, spot⟩ := a
 simp only at hspot
 subst hspot
 obtain ⟨xs, hxl, hxs⟩ := avr (α := Ty k) (p := fun i x => ∀ j v, (AM.enc k x)[j]? = some v → ∃ u, w.cell? ⟨b, off + i * k.sz + j, none⟩ = some u ∧ VRel (oJ w).I id 0 w v u) len (by
  intro i hi
  have h1 := hel i hi
  rw [List.getElem?_eq_getElem (by omega), Option.bind_eq_some_iff] at h1
  obtain ⟨es, h2, h3⟩ := h1
  obtain ⟨x, hx⟩ := elem m rfl es _ h3
  obtain ⟨h4, h5, h6⟩ := World.cells?_some h2
  refine ⟨x, fun j v hv => ?_⟩
  have hj : j < k.sz := by
   have := (List.getElem?_eq_some_iff.1 hv).1
   rwa [cg] at this
  have h7 := h6 j hj
  rw [List.getElem?_eq_getElem (by omega), add_plain, add_plain] at h7
  exact ⟨_, h7, hx j v _ hv (List.getElem?_eq_getElem (by omega))⟩)
 refine ⟨xs, _, rfl, .sl k (.may false) xs b off len cap hxl (by omega) (by unfold maxLen at hm; unfold dC; exact hm) (by simp) (fun i j => (w.cell? ⟨b, off + i * k.sz + j, none⟩).getD undef) ?_ ?_ ?_⟩
 ·intro i x j h1 h2
  obtain ⟨u, h3, -⟩ := hxs i x h1 j _ (List.getElem?_eq_getElem h2)
  show (w.cell? _).isSome = true
  rw [h3]; rfl
 ·intro i x j h1 h2
  obtain ⟨u, h3, -⟩ := hxs i x h1 j _ (List.getElem?_eq_getElem h2)
  rw [h3]; rfl
 ·intro i x j v h1 h2
  obtain ⟨u, h3, h4⟩ := hxs i x h1 j v h2
  rw [h3]; exact h4
theorem avT {n : Nat} {cs : List Value} {x : DataW H × List MemPlace} (h : DataW.trod enc Try.prog w base (fun _ => true) held n 22 cs = some x) :
  ∃ (xs : List UInt8) (cv : Value), cs = [cv] ∧ VRel (oJ w).I id 0 w (.sl .u8 (.may false) xs) cv :=
 ayj .u8 Try.underlying22 (by kernel_rfl) (fun m hm es y hy => by
  obtain ⟨c, rfl, -, hw⟩ := DataW.trod_int Try.underlying5 hy
  have hr : 0 ≤ c ∧ c ≤ 255 := by simpa [Lit.wf, IntKind.min, IntKind.max, IntKind.signed, IntKind.bits] using hw
  refine ⟨UInt8.ofNat c.toNat, fun j v u h1 h2 => ?_⟩
  obtain rfl : j = 0 := by
   have := (List.getElem?_eq_some_iff.1 h2).1
   simpa using this
  simp only [AM.enc, List.getElem?_cons_zero, Option.some.injEq] at h1 h2
  subst h1 h2
  have : ((UInt8.ofNat c.toNat).toNat : Int) = c := by
   rw [UInt8.toNat_ofNat']
   omega
  rw [this]
  exact .int _ _ (by simpa [Lit.wf] using hw)) h
theorem anB {r : Reach} {b0 : Nat} {v : Value} {d : DataW H} {p : List MemPlace} (hv : Value.okWide Try.prog w r b0 22 v) (h : DataW.Trod enc Try.prog w base (fun _ => true) held 22 v d p) :
  ∃ xs : List UInt8, VRel (oJ w).I id 0 w (.sl .u8 (.may false) xs) v := by
 obtain ⟨a, len, cap, rfl⟩ := okWide_slice Try.underlying22 hv
 obtain ⟨fuel, hf⟩ := h
 obtain ⟨xs, cv, e, hr⟩ := avT hf
 have e : [Value.slice a len cap] = [cv] := e
 cases e
 exact ⟨xs, hr⟩
end
end Go.Proofs.Ytdpajabhmmmjoaa
end
noncomputable section
namespace Go.Proofs.Ytdpajabhmmmjoaa
open Go.AM
set_option autoImplicit false
def ud : Nat → Nat → List UInt8
 | 0, v => [UInt8.ofNat v]
 | k + 1, v => if v < 128 then [UInt8.ofNat v] else UInt8.ofNat (v % 128 + 128) :: ud k (v / 128)
def af2 (v : Int) : List UInt8 := ud 9 v.toNat
def tM : Nat → Nat → List UInt8
 | 0, _ => []
 | k + 1, v => UInt8.ofNat (v % 256) :: tM k (v / 256)
def jz (v n : Int) : List UInt8 := tM n.toNat v.toNat
end Go.Proofs.Ytdpajabhmmmjoaa
end
noncomputable section
namespace Go.Proofs.Ytdpajabhmmmjoaa
open Go.AM
set_option autoImplicit false
set_option linter.unusedVariables false
def yA (n : Int) : Int := if n < 9223372036854775808 then n * 2 else (18446744073709551615 - n) * 2 + 1
def asA (n : Int) : List UInt8 := af2 (yA (IntKind.wrap .u64 n))
theorem as8 : ∃ f : Int → List UInt8, f = asA := ⟨_, rfl⟩
def cd : Int → List UInt8 := as8.choose
theorem adc : cd = asA := as8.choose_spec
def rS (s : List UInt8) : List UInt8 := cd (s.length : Int) ++ s
mutual
noncomputable def bu (ts : List aA) (t : Int) : aB → List UInt8
 | .mk n s l ks b =>
   let k := ts.getD t.toNat (aC .atype)
   cond (k.kind == 2) (jz n 1) (
   cond (k.kind == 3 || (k.kind == 4 || k.kind == 10)) (cd (IntKind.wrap .i64 n)) (
   cond (k.kind == 5) (jz n 4) (
   cond (k.kind == 6) (jz n 8) (
   cond (k.kind == 7 || k.kind == 8) (rS s) (
   cond (k.kind == 11) s (
   cond (k.kind == 14) (cd b ++ pY ts (k.branches.getD b.toNat 0) l) (
   cond (k.kind == 9) (uf ts k.fields l) (
   cond (k.kind == 12 || k.kind == 13) ((cond (decide (0 < (l.length : Int))) (cd (l.length : Int)) []) ++ (cond (k.kind == 13) (yB ts k.items ks l) (pY ts k.items l)) ++ cd 0)
   []))))))))
noncomputable def pY (ts : List aA) (t : Int) : List aB → List UInt8
 | [] => []
 | v :: l => bu ts t v ++ pY ts t l
noncomputable def yB (ts : List aA) (t : Int) (ks : List (List UInt8)) : List aB → List UInt8
 | [] => []
 | v :: l => (rS (ks.headD []) ++ bu ts t v) ++ yB ts t ks.tail l
noncomputable def uf (ts : List aA) (fs : List aM) : List aB → List UInt8
 | [] => []
 | v :: l => bu ts ((fs.headD (aC .afield)).typ) v ++ uf ts fs.tail l
end
def aey (ts : List aA) (kind t : Int) (ks : List (List UInt8)) (l : List aB) : List UInt8 :=
 (cond (decide (0 < (l.length : Int))) (cd (l.length : Int)) []) ++ (cond (kind == 13) (yB ts t ks l) (pY ts t l)) ++ cd 0
def adK (ts : List aA) (t : Int) (v : aB) : List UInt8 × Int :=
 if isT ts t = false then ([], 1) else if aZ ts t v = false then ([], 7) else if 5000 < (bu ts t v).length then ([], 3) else (bu ts t v, 0)
end Go.Proofs.Ytdpajabhmmmjoaa
end
noncomputable section
namespace Go.Proofs.Ytdpajabhmmmjoaa
open Go.AM
set_option autoImplicit false
set_option linter.unusedVariables false
inductive bh : aE → Prop where
 | mk (k n : Int) (s : List UInt8) (l : List aE) (names : List (List UInt8)) (h1 : s.length ≤ 100) (h2 : l.length ≤ 8) (h3 : names.length ≤ l.length)
   (h4 : ∀ x ∈ names, x.length ≤ 100) (h5 : k = 6 → names.length = l.length) (h6 : ∀ c ∈ l, bh c) : bh (.mk k n s l names)
structure iQ (m : Nat) (t : aA) : Prop where
 items : 0 ≤ t.items ∧ t.items < m
 fields : ∀ f ∈ t.fields, 0 ≤ f.typ ∧ f.typ < m ∧ bh f.df
 nf : t.fields.length ≤ 8
 branches : ∀ b ∈ t.branches, 0 ≤ b ∧ b < (m : Int)
 nb : t.branches.length ≤ 100
 ns : t.syms.length ≤ 100
 size : 0 ≤ t.size ∧ t.size ≤ 5000
 done : t.kind = 14 → t.branches ≠ []
 kind : 1 ≤ t.kind ∧ t.kind ≤ 14
 enum : t.kind = 10 → t.syms ≠ []
def dm (ts : List aA) : Prop := (0 < ts.length ∧ ts.length ≤ 60) ∧ ∀ t ∈ ts, iQ ts.length t
structure bI (ts : List aA) (e : Int) (ts' : List aA) (e' : Int) : Prop where
 len : ts.length ≤ ts'.length
 cap : ts'.length ≤ 60
 err : e' = 0 → e = 0
 old : e' = 0 → ∀ i, i < ts.length → ts'[i]? = ts[i]?
 new : e' = 0 → ∀ (i : Nat) t, ts.length ≤ i → ts'[i]? = some t → iQ ts'.length t
def fe (l : List UInt8) (n : Int) : Prop := 0 ≤ n ∧ n ≤ l.length ∧ l.length ≤ 1000
def nQ : List (List UInt8) → List aE → List UInt8 → Option aE
 | x :: ns, c :: l, name => if x = name then some c else nQ ns l name
 | _, _, _ => none
def sG : Nat → Nat
 | 0 => 1
 | k + 1 => 1 + 4 * sG k
def cm (l : List (List UInt8)) : Prop := ∀ x ∈ l, x.length ≤ 100
def xT (l : List UInt8) (n m : Int) (r : Int × List UInt8 × Int) : Prop := 0 ≤ r.1 ∧ r.1 < m ∧ r.2.1 = l ∧ fe l r.2.2
def w7 (l : List UInt8) (n : Int) (r : Bool × List UInt8 × Int) : Prop := r.2.1 = l ∧ r.2.2 = n
def aez (l : List UInt8) (r : List UInt8 × Int) : Prop := r = (l, 0)
def aeA (s : List UInt8) (r : Int × Int × List UInt8 × List aE × List (List UInt8)) : Prop := r = (4, 0, s, [], [])
def ade (f0 : Bool) (names : List (List UInt8)) (f1 : Bool) (l : List aE) (r : Int × Int × List UInt8 × Bool × List aE × Bool × List (List UInt8)) : Prop := r = (6, 0, [], f1, l, f0, names)
def aan (o : Option aE) : Int × Int × List UInt8 × List aE × List (List UInt8) × Bool := match o with
 | some c => (c.kind, c.n, c.s, c.l, c.names, true)
 | none => (0, 0, [], [], [], false)
def vt (k n : Int) (s : List UInt8) (l : List aE) (names : List (List UInt8)) (name : List UInt8) (r : Int × Int × List UInt8 × List aE × List (List UInt8) × Bool) : Prop := r = aan (nQ names l name)
def ct (k n : Int) (s : List UInt8) (l : List aE) (names : List (List UInt8)) (name : List UInt8) (r : Int × Int × List UInt8 × List aE × List (List UInt8) × Bool) : Prop := r = aan (if k = 6 then nQ names l name else none)
def axY (a : List UInt8) (r : Int × Int × List UInt8 × List aE × List (List UInt8) × List UInt8 × Int) : Prop :=
 bh (.mk r.1 r.2.1 r.2.2.1 r.2.2.2.1 r.2.2.2.2.1) ∧ r.2.2.2.2.2.1 = a ∧ fe a r.2.2.2.2.2.2
def avU (k : Nat) (a : List UInt8) (ns : List (List UInt8)) (r : Int × Int × List UInt8 × List aE × List (List UInt8) × List UInt8 × Int × List (List UInt8)) : Prop :=
 bh (.mk r.1 r.2.1 r.2.2.1 r.2.2.2.1 r.2.2.2.2.1) ∧ r.2.2.2.2.2.1 = a ∧ fe a r.2.2.2.2.2.2.1 ∧ cm r.2.2.2.2.2.2.2 ∧ r.2.2.2.2.2.2.2.length ≤ ns.length + sG k
def eP (a : List UInt8) (n : Int) (ns : List (List UInt8)) (deep : Int) (r : Int × Int × List UInt8 × List aE × List (List UInt8) × List UInt8 × Int × List (List UInt8)) : Prop := avU (5 - deep.toNat) a ns r
def wo (a : List UInt8) (n : Int) (ns : List (List UInt8)) (deep : Int) (r : Int × Int × List UInt8 × List aE × List (List UInt8) × List UInt8 × Int × List (List UInt8)) : Prop := avU (5 - deep.toNat) a ns r
def uF (a : List UInt8) (n : Int) (ns : List (List UInt8)) (name : List UInt8) (deep : Int) (r : Int × Int × List UInt8 × List aE × List (List UInt8) × List UInt8 × Int × List (List UInt8)) : Prop :=
 avU (5 - deep.toNat) a ns r ∧ r.2.2.2.2.2.2.2.length + 1 ≤ ns.length + sG (5 - deep.toNat)
def eU (a : List UInt8) (n c0 c1 : Int) (c2 : List UInt8) (c3 : List aE) (c4 : List (List UInt8)) (r : Int × Int × List UInt8 × List aE × List (List UInt8) × List UInt8 × Int) : Prop := axY a r
def uG (a : List UInt8) (n : Int) (r : Int × Int × List UInt8 × List aE × List (List UInt8) × List UInt8 × Int) : Prop := axY a r
def kj (ts : List aA) (e c : Int) (r : Int × List aA × Int) : Prop := r = (0, ts, if e = 0 then c else e)
def lu (ts : List aA) (e a0 : Int) (a1 : List UInt8) (a2 : List (List UInt8)) (a3 : Int) (a4 : List (List UInt8)) (a5 : Bool) (a6 : List UInt8) (a7 : Int) (a8 : List aM) (a9 : List Int) (r : Int × List aA × Int) : Prop :=
 r = if 60 ≤ ts.length then (0, ts, if e = 0 then 3 else e) else ((ts.length : Int), ts ++ [⟨a0, a1, a2, a3, a4, a5, a6, a7, a8, a9⟩], e)
def wq (ts : List aA) (e : Int) (s : List UInt8) (r : Int × Bool × List aA × Int) : Prop := r.2.2 = (ts, e) ∧ (r.2.1 = true → 0 ≤ r.1 ∧ r.1 < ts.length)
def oT (ts : List aA) (e : Int) (s space : List UInt8) (r : Int × List aA × Int) : Prop := bI ts e r.2.1 r.2.2 ∧ (r.2.2 = 0 → 0 ≤ r.1 ∧ r.1 < r.2.1.length)
def eB (ts : List aA) (e c0 c1 : Int) (c2 : List UInt8) (c3 : List aE) (c4 : List (List UInt8)) (space : List UInt8) (deep : Int) (r : Int × List aA × Int) : Prop := bI ts e r.2.1 r.2.2 ∧ (r.2.2 = 0 → 0 ≤ r.1 ∧ r.1 < r.2.1.length)
def uH (ts : List aA) (e c0 c1 : Int) (c2 : List UInt8) (c3 : List aE) (c4 : List (List UInt8)) (space : List UInt8) (deep : Int) (r : Int × List aA × Int) : Prop := bI ts e r.2.1 r.2.2 ∧ (r.2.2 = 0 → 0 ≤ r.1 ∧ r.1 < r.2.1.length)
def ft (ts : List aA) (e c0 c1 : Int) (c2 : List UInt8) (c3 : List aE) (c4 : List (List UInt8)) (k : Int) (space : List UInt8) (deep : Int) (r : Int × List aA × Int) : Prop := bI ts e r.2.1 r.2.2 ∧ (r.2.2 = 0 → 0 ≤ r.1 ∧ r.1 < r.2.1.length)
def ws (ts : List aA) (e c0 c1 : Int) (c2 : List UInt8) (c3 : List aE) (c4 : List (List UInt8)) (name : List UInt8) (must : Bool) (r : List UInt8 × List aA × Int) : Prop := r.1.length ≤ 100 ∧ r.2.1 = ts ∧ (r.2.2 = 0 → e = 0)
def uI (ts : List aA) (e : Int) (name space : List UInt8) (r : List UInt8 × List aA × Int) : Prop := r.1.length ≤ name.length + space.length + 1 ∧ r.2.1 = ts ∧ (r.2.2 = 0 → e = 0)
def nR (ts : List aA) (e c0 c1 : Int) (c2 : List UInt8) (c3 : List aE) (c4 : List (List UInt8)) (name : List UInt8) (r : List (List UInt8) × Bool × List aA × Int) : Prop := r.1.length ≤ 100 ∧ cm r.1 ∧ r.2.2.1 = ts ∧ (r.2.2.2 = 0 → e = 0)
def du (ts : List aA) (e c0 c1 : Int) (c2 : List UInt8) (c3 : List aE) (c4 : List (List UInt8)) (at_ : Int) (r : List aA × Int) : Prop :=
 (r.2 = 0 → e = 0) ∧ (r.2 ≠ 0 → r.1 = ts) ∧ (r.2 = 0 → ∃ l h d, l ≠ [] ∧ l.length ≤ 100 ∧ ∃ t, ts[at_.toNat]? = some t ∧ r.1 = ts.set at_.toNat { t with syms := l, hasdef := h, df := d })
def dE (ts : List aA) (e c0 c1 : Int) (c2 : List UInt8) (c3 : List aE) (c4 : List (List UInt8)) (at_ : Int) (space : List UInt8) (deep : Int) (r : List aA × Int) : Prop :=
 ∃ ts2, bI ts e ts2 r.2 ∧ (r.1 = ts2 ∨ ∃ l : List aM, l.length ≤ 8 ∧ (∀ f ∈ l, 0 ≤ f.typ ∧ f.typ < ts2.length ∧ bh f.df) ∧ ∃ t, ts2[at_.toNat]? = some t ∧ r.1 = ts2.set at_.toNat { t with fields := l })
def anC : List (List UInt8) := [[110, 117, 108, 108], [98, 111, 111, 108, 101, 97, 110], [105, 110, 116], [108, 111, 110, 103], [102, 108, 111, 97, 116], [100, 111, 117, 98, 108, 101], [98, 121, 116, 101, 115], [115, 116, 114, 105, 110, 103], [114, 101, 99, 111, 114, 100], [101, 110, 117, 109], [102, 105, 120, 101, 100], [97, 114, 114, 97, 121], [109, 97, 112], [117, 110, 105, 111, 110]]
def adf (s : List UInt8) (r : Int) : Prop := 0 ≤ r ∧ r ≤ 14 ∧ (r = 14 → s = [117, 110, 105, 111, 110]) ∧ (r = 0 → ∀ i < 14, anC.getD i [] ≠ s) ∧ (r = 10 → s = [101, 110, 117, 109])
def kV (s r : List UInt8) : Prop := r.length ≤ s.length
def tN (a b r : List UInt8) : Prop := r.length ≤ a.length + b.length + 1
def w9 (c0 c1 : Int) (c2 : List UInt8) (c3 : List aE) (c4 : List (List UInt8)) (r : List aA × Int) : Prop := r.2 = 0 → dm r.1
def xa (a : List UInt8) (n : Int) (r : List aA × Bool × List UInt8 × Int) : Prop := (r.2.1 = true → dm r.1) ∧ r.2.2.1 = a ∧ fe a r.2.2.2
def abS (ts : List aA) (kind items : Int) (fields : List aM) (branches : List Int) (l : List aB) (ks : List (List UInt8)) (b : Int) : Bool :=
 cond (kind == 9) (decide (l.length = fields.length) && gq ts fields l) (
 cond (kind == 13) (((ks.length : Int) == (l.length : Int)) && (ey ks && br ts items l)) (
 cond (kind == 14) (decide (0 ≤ b) && (decide (b < (branches.length : Int)) && (((l.length : Int) == 1) && br ts (branches.getD b.toNat 0) l))) (
 br ts items l)))
def rT (ts : List aA) (t n : Int) (s : List UInt8) (l : List aB) (ks : List (List UInt8)) (b : Int) (r : Bool) : Prop := r = aZ ts t (.mk n s l ks b)
def dg (ts : List aA) (k0 : Int) (k1 : List UInt8) (k2 : List (List UInt8)) (k3 : Int) (k4 : List (List UInt8)) (k5 : Bool) (k6 : List UInt8) (k7 : Int) (k8 : List aM) (k9 : List Int) (n : Int) (s : List UInt8) (l : List aB) (ks : List (List UInt8)) (b : Int) (r : Bool) : Prop := r = abS ts k0 k3 k8 k9 l ks b
def xb (s : List UInt8) (r : Bool) : Prop := r = cZ s
def vu (ts : List aA) (t : Int) (r : Bool) : Prop := r = isT ts t
def axy (n : Int) (s : List UInt8) (l : List aB) (ks : List (List UInt8)) (b : Int) (key : List UInt8) (w : aB) (r : Int × List UInt8 × List aB × List (List UInt8) × Int) : Prop :=
 r.1 = n ∧ r.2.1 = s ∧ r.2.2.2.2 = b ∧ wL r.2.2.1 ≤ wL l + wV w ∧ cL r.2.2.2.1 ≤ cL ks + (key.length + 10) ∧ (ey ks = true → cZ key = true → ey r.2.2.2.1 = true) ∧
 ∀ ts t, br ts t l = true → aZ ts t w = true → br ts t r.2.2.1 = true
def adg (s : List UInt8) (r : Int × Int) : Prop := r = dS s
def adh (s : List UInt8) (r : Int × Int) : Prop := r = dS s
def aeB (n : Int) (s : List UInt8) (l : List aB) (ks : List (List UInt8)) (b : Int) (key : List UInt8) (w0 : Int) (w1 : List UInt8) (w2 : List aB) (w3 : List (List UInt8)) (w4 : Int) (r : Int × List UInt8 × List aB × List (List UInt8) × Int) : Prop :=
 r.2.2.2.1.length = r.2.2.1.length ∧ r.2.2.1.length ≤ l.length + 1 ∧ axy n s l ks b key (.mk w0 w1 w2 w3 w4) r
def cw (ts : List aA) (all t c0 c1 : Int) (c2 : List UInt8) (c3 : List aE) (c4 : List (List UInt8)) (deep : Int) (r : Int × List UInt8 × List aB × List (List UInt8) × Int × Int × List aA × Int) : Prop := r.2.2.2.2.2.2.1 = ts
def tX (ts : List aA) (all k0 : Int) (k1 : List UInt8) (k2 : List (List UInt8)) (k3 : Int) (k4 : List (List UInt8)) (k5 : Bool) (k6 : List UInt8) (k7 : Int) (k8 : List aM) (k9 : List Int) (c0 c1 : Int) (c2 : List UInt8) (c3 : List aE) (c4 : List (List UInt8)) (deep : Int) (r : Int × List UInt8 × List aB × List (List UInt8) × Int × Int × List aA × Int) : Prop := r.2.2.2.2.2.2.1 = ts
def sH (ts : List aA) (all k0 : Int) (k1 : List UInt8) (k2 : List (List UInt8)) (k3 : Int) (k4 : List (List UInt8)) (k5 : Bool) (k6 : List UInt8) (k7 : Int) (k8 : List aM) (k9 : List Int) (c0 c1 : Int) (c2 : List UInt8) (c3 : List aE) (c4 : List (List UInt8)) (deep : Int) (r : Int × List UInt8 × List aB × List (List UInt8) × Int × Int × List aA × Int) : Prop := r.2.2.2.2.2.2.1 = ts
end Go.Proofs.Ytdpajabhmmmjoaa
end
noncomputable section
namespace Go.Proofs.Ytdpajabhmmmjoaa
open Go.AM
set_option autoImplicit false
set_option linter.unusedSimpArgs false
theorem af3 : ∀ (a b : List UInt8), (Op.bytesLess a b || decide (a = b)) = !Op.bytesLess b a
 | [], [] => by simp [Op.bytesLess]
 | [], b :: y => by simp [Op.bytesLess]
 | a :: x, [] => by simp [Op.bytesLess]
 | a :: x, b :: y => by
   have ih := af3 x y
   simp only [Op.bytesLess]
   by_cases h1 : a < b
   ·have h2 : ¬ b < a := fun h => absurd (UInt8.lt_trans h1 h) (UInt8.lt_irrefl a)
    have h3 : ¬ b = a := fun h => by subst h; exact UInt8.lt_irrefl _ h1
    simp [h1, h2, h3]
   ·by_cases h2 : b < a
    ·have h3 : ¬ a = b := fun h => by subst h; exact UInt8.lt_irrefl _ h2
     simp [h1, h2, h3]
    ·have h3 : a = b := by
      have := UInt8.le_antisymm (UInt8.not_lt.1 h2) (UInt8.not_lt.1 h1)
      exact this
     subst h3
     simp only [h1, decide_false, Bool.false_or, beq_self_eq_true, Bool.true_and, List.cons.injEq, true_and]
     exact ih
end Go.Proofs.Ytdpajabhmmmjoaa
end
noncomputable section
namespace Go.Proofs.Ytdpajabhmmmjoaa
open Go.AM
set_option autoImplicit false
set_option linter.unusedVariables false
set_option maxRecDepth 100000
abbrev aaT : FuncId := 15
abbrev xc : FuncId := 119
abbrev abT : FuncId := 60
abbrev aaU : FuncId := 59
abbrev xU : FuncId := 40
abbrev aaV : FuncId := 117
abbrev xV : FuncId := 73
abbrev zr : FuncId := 146
abbrev aaW : FuncId := 116
abbrev zt : FuncId := 110
abbrev xd : FuncId := 144
abbrev zu : FuncId := 138
abbrev xW : FuncId := 114
abbrev wt : FuncId := 145
abbrev zv : FuncId := 111
abbrev xX : FuncId := 143
abbrev zw : FuncId := 72
abbrev xY : FuncId := 112
abbrev xZ : FuncId := 141
abbrev zx : FuncId := 140
abbrev xe : FuncId := 148
abbrev wu : FuncId := 149
abbrev xf : FuncId := 120
abbrev ak6 : FuncId := 14
abbrev anD : FuncId := 87
abbrev aiQ : FuncId := 118
abbrev ak7 : FuncId := 86
abbrev ag1 : FuncId := 133
abbrev aiR : FuncId := 132
abbrev aiS : FuncId := 162
abbrev aiT : FuncId := 46
abbrev ak8 : FuncId := 154
abbrev aiU : FuncId := 79
abbrev ag2 : FuncId := 41
abbrev aiV : FuncId := 39
abbrev anE : FuncId := 45
abbrev ak9 : FuncId := 61
abbrev ala : FuncId := 139
abbrev ag3 : FuncId := 74
abbrev aiW : FuncId := 158
abbrev aeC : FuncId := 142
abbrev aiX : FuncId := 115
abbrev alb : FuncId := 147
abbrev aiY : FuncId := 18
abbrev ag4 : FuncId := 47
abbrev anF : FuncId := 113
abbrev alc : FuncId := 161
abbrev aiZ : FuncId := 165
abbrev ag5 : FuncId := 164
abbrev ald : FuncId := 159
abbrev ai0 : FuncId := 160
abbrev auB := Bs × Int
noncomputable def rq (a : Bs) (r : auB) : Prop := u6 Try.prog ak6 [.sl .u8 (.may false) a] [.sl .u8 (.may false) r.1, .int .i64 r.2] ∧ aez a r
noncomputable def auC : af1 Try.prog := ⟨14, fun us => match us with
 | [.sl .u8 (.may _) a] => let r := pick (rq a); some (can (rq a), [.sl .u8 (.may false) r.1, .int .i64 r.2])
 | _ => none, by
 intro _ _ h; split at h; exact ax9 h fun h => h.1.dim rfl; cases h⟩
abbrev akr := List aA × Bool × Bs × Int
noncomputable def kW (a : Bs) (b : Int) (r : akr) : Prop := bk Try.prog aaT [.ptr 0 0] [[.sl .u8 (.may false) a, .int .i64 b]] (.tup [.agg [.sl .atype (.may false) r.1], .bool r.2.1]) [[.sl .u8 (.may false) r.2.2.1, .int .i64 r.2.2.2]] ∧ xa a b r
noncomputable def aks : fq Try.prog := ⟨15, fun us css => match us, css with
 | [.ptr 0 0], [[.sl .u8 (.may false) a, .int .i64 b]] => let r := pick (kW a b); some (can (kW a b), .tup [.agg [.sl .atype (.may false) r.1], .bool r.2.1], [[.sl .u8 (.may false) r.2.2.1, .int .i64 r.2.2.2]])
 | _, _ => none, by
 intro _ _ _ _ h; split at h; exact dl h fun h => h.1.dim rfl; cases h⟩
abbrev as9 := Bool
noncomputable def eJ (a : List aA) (g b : Int) (c : Bs) (d : List aB) (e : Bss) (f : Int) (r : as9) : Prop := aI Try.prog aiY [.agg [.sl .atype (.may false) a], .int .i64 g, .agg [.int .u64 b, .str c, .sl .aval (.may false) d, .sl .str (.may false) e, .int .i64 f]] (.bool r) ∧ rT a g b c d e f r
noncomputable def ai1 : cb Try.prog := ⟨18, fun us => match us with
 | [.agg [.sl .atype (.may _) a], .int .i64 g, .agg [.int .u64 b, .str c, .sl .aval (.may _) d, .sl .str (.may _) e, .int .i64 f]] => let r := pick (eJ a g b c d e f); some (can (eJ a g b c d e f), .bool r)
 | _ => none, by
 intro _ _ h; split at h; exact bo h (fun h => h.1.dim rfl) rfl rfl; cases h⟩
abbrev ata := List aA × Int
noncomputable def sI (a b : Int) (c : Bs) (d : List aE) (e : Bss) (r : ata) : Prop := aI Try.prog aiV [.agg [.int .i64 a, .int .i64 b, .str c, .sl .jnode (.may false) d, .sl .str (.may false) e]] (.tup [.agg [.sl .atype (.may false) r.1], .int .i64 r.2]) ∧ w9 a b c d e r
noncomputable def atb : cb Try.prog := ⟨39, fun us => match us with
 | [.agg [.int .i64 a, .int .i64 b, .str c, .sl .jnode (.may _) d, .sl .str (.may _) e]] => let r := pick (sI a b c d e); some (can (sI a b c d e), .tup [.agg [.sl .atype (.may false) r.1], .int .i64 r.2])
 | _ => none, by
 intro _ _ h; split at h; exact bo h (fun h => h.1.dim rfl) rfl rfl; cases h⟩
abbrev ahL := Int × Int × Bs × List aE × Bss × Bs × Int
noncomputable def iR (a : Bs) (b : Int) (r : ahL) : Prop := bk Try.prog xU [.ptr 0 0] [[.sl .u8 (.may false) a, .int .i64 b]] (.agg [.int .i64 r.1, .int .i64 r.2.1, .str r.2.2.1, .sl .jnode (.may false) r.2.2.2.1, .sl .str (.may false) r.2.2.2.2.1]) [[.sl .u8 (.may false) r.2.2.2.2.2.1, .int .i64 r.2.2.2.2.2.2]] ∧ uG a b r
noncomputable def ahM : fq Try.prog := ⟨40, fun us css => match us, css with
 | [.ptr 0 0], [[.sl .u8 (.may false) a, .int .i64 b]] => let r := pick (iR a b); some (can (iR a b), .agg [.int .i64 r.1, .int .i64 r.2.1, .str r.2.2.1, .sl .jnode (.may false) r.2.2.2.1, .sl .str (.may false) r.2.2.2.2.1], [[.sl .u8 (.may false) r.2.2.2.2.2.1, .int .i64 r.2.2.2.2.2.2]])
 | _, _ => none, by
 intro _ _ _ _ h; split at h; exact dl h fun h => h.1.dim rfl; cases h⟩
abbrev arq := Int × Int × Int
noncomputable def qP (a : List aA) (r : arq) : Prop := aI Try.prog ag2 [.agg [.sl .atype (.may false) a]] (.tup [.int .i64 r.1, .int .i64 r.2.1, .int .i64 r.2.2])
noncomputable def ars : cb Try.prog := ⟨41, fun us => match us with
 | [.agg [.sl .atype (.may _) a]] => let r := pick (qP a); some (can (qP a), .tup [.int .i64 r.1, .int .i64 r.2.1, .int .i64 r.2.2])
 | _ => none, by
 intro _ _ h; split at h; exact bo h (fun h => h.dim rfl) rfl rfl; cases h⟩
abbrev avV := Bool
noncomputable def lv (a : List aA) (b : Int) (r : avV) : Prop := aI Try.prog anE [.agg [.sl .atype (.may false) a], .int .i64 b] (.bool r) ∧ vu a b r
noncomputable def abq : cb Try.prog := ⟨45, fun us => match us with
 | [.agg [.sl .atype (.may _) a], .int .i64 b] => let r := pick (lv a b); some (can (lv a b), .bool r)
 | _ => none, by
 intro _ _ h; split at h; exact bo h (fun h => h.1.dim rfl) rfl rfl; cases h⟩
abbrev atc := Bool
noncomputable def oU (a : Bs) (r : atc) : Prop := aI Try.prog aiT [.str a] (.bool r) ∧ xb a r
noncomputable def ai2 : cb Try.prog := ⟨46, fun us => match us with
 | [.str a] => let r := pick (oU a); some (can (oU a), .bool r)
 | _ => none, by
 intro _ _ h; split at h; exact bo h (fun h => h.1.dim rfl) rfl rfl; cases h⟩
abbrev art := Bool
noncomputable def qQ (a : List aA) (b : Int) (c : Bs) (d : Bss) (e : Int) (f : Bss) (g : Bool) (h : Bs) (i : Int) (j : List aM) (k : List Int) (l : Int) (m : Bs) (n : List aB) (o : Bss) (p : Int) (r : art) : Prop := aI Try.prog ag4 [.agg [.sl .atype (.may false) a], .agg [.int .i64 b, .str c, .sl .str (.may false) d, .int .i64 e, .sl .str (.may false) f, .bool g, .str h, .int .i64 i, .sl .afield (.may false) j, .sl (.num .i64) (.may false) k], .agg [.int .u64 l, .str m, .sl .aval (.may false) n, .sl .str (.may false) o, .int .i64 p]] (.bool r) ∧ dg a b c d e f g h i j k l m n o p r
noncomputable def aru : cb Try.prog := ⟨47, fun us => match us with
 | [.agg [.sl .atype (.may _) a], .agg [.int .i64 b, .str c, .sl .str (.may _) d, .int .i64 e, .sl .str (.may _) f, .bool g, .str i, .int .i64 j, .sl .afield (.may _) k, .sl (.num .i64) (.may _) l], .agg [.int .u64 m, .str n, .sl .aval (.may _) o, .sl .str (.may _) p, .int .i64 q]] => let r := pick (qQ a b c d e f g i j k l m n o p q); some (can (qQ a b c d e f g i j k l m n o p q), .bool r)
 | _ => none, by
 intro _ _ h; split at h; exact bo h (fun h => h.1.dim rfl) rfl rfl; cases h⟩
abbrev akt := Bool × Bs × Int
noncomputable def ii (a : Bs) (b : Int) (r : akt) : Prop := bk Try.prog aaU [.ptr 0 0] [[.sl .u8 (.may false) a, .int .i64 b]] (.bool r.1) [[.sl .u8 (.may false) r.2.1, .int .i64 r.2.2]] ∧ w7 a b r
noncomputable def aaX : fq Try.prog := ⟨59, fun us css => match us, css with
 | [.ptr 0 0], [[.sl .u8 (.may false) a, .int .i64 b]] => let r := pick (ii a b); some (can (ii a b), .bool r.1, [[.sl .u8 (.may false) r.2.1, .int .i64 r.2.2]])
 | _, _ => none, by
 intro _ _ _ _ h; split at h; exact dl h fun h => h.1.dim rfl; cases h⟩
abbrev al8 := Int × Bs × Int
noncomputable def aS (a : Bs) (b c : Int) (r : al8) : Prop := bk Try.prog abT [.ptr 0 0, .int .i64 c] [[.sl .u8 (.may false) a, .int .i64 b]] (.int .i64 r.1) [[.sl .u8 (.may false) r.2.1, .int .i64 r.2.2]] ∧ xT a b c r
noncomputable def l8 : fq Try.prog := ⟨60, fun us css => match us, css with
 | [.ptr 0 0, .int .i64 c], [[.sl .u8 (.may false) a, .int .i64 b]] => let r := pick (aS a b c); some (can (aS a b c), .int .i64 r.1, [[.sl .u8 (.may false) r.2.1, .int .i64 r.2.2]])
 | _, _ => none, by
 intro _ _ _ _ h; split at h; exact dl h fun h => h.1.dim rfl; cases h⟩
abbrev auD := Int × Bs × List aB × Bss × Int
noncomputable def jA (a : Int) (b : Bs) (c : List aB) (d : Bss) (e : Int) (k : Bs) (f : Int) (g : Bs) (h : List aB) (i : Bss) (j : Int) (r : auD) : Prop := aI Try.prog ak9 [.agg [.int .u64 a, .str b, .sl .aval (.may false) c, .sl .str (.may false) d, .int .i64 e], .str k, .agg [.int .u64 f, .str g, .sl .aval (.may false) h, .sl .str (.may false) i, .int .i64 j]] (.agg [.int .u64 r.1, .str r.2.1, .sl .aval (.may false) r.2.2.1, .sl .str (.may false) r.2.2.2.1, .int .i64 r.2.2.2.2]) ∧ aeB a b c d e k f g h i j r
noncomputable def ale : cb Try.prog := ⟨61, fun us => match us with
 | [.agg [.int .u64 a, .str b, .sl .aval (.may _) c, .sl .str (.may _) d, .int .i64 e], .str l, .agg [.int .u64 f, .str g, .sl .aval (.may _) i, .sl .str (.may _) j, .int .i64 k]] => let r := pick (jA a b c d e l f g i j k); some (can (jA a b c d e l f g i j k), .agg [.int .u64 r.1, .str r.2.1, .sl .aval (.may false) r.2.2.1, .sl .str (.may false) r.2.2.2.1, .int .i64 r.2.2.2.2])
 | _ => none, by
 intro _ _ h; split at h; exact bo h (fun h => h.1.dim rfl) rfl rfl; cases h⟩
abbrev ai3 := Int × List aA × Int
noncomputable def cn (a : List aA) (b c d : Int) (e : Bs) (f : List aE) (g : Bss) (h : Bs) (i : Int) (r : ai3) : Prop := bk Try.prog zw [.ptr 0 0, .agg [.int .i64 c, .int .i64 d, .str e, .sl .jnode (.may false) f, .sl .str (.may false) g], .str h, .int .i64 i] [[.ul .atype a, .int .i64 b]] (.int .i64 r.1) [[.ul .atype r.2.1, .int .i64 r.2.2]] ∧ eB a b c d e f g h i r
noncomputable def mZ : fq Try.prog := ⟨72, fun us css => match us, css with
 | [.ptr 0 0, .agg [.int .i64 a, .int .i64 b, .str c, .sl .jnode (.may _) d, .sl .str (.may _) e], .str i, .int .i64 j], [[.ul .atype f, .int .i64 g]] => let r := pick (cn f g a b c d e i j); some (can (cn f g a b c d e i j), .int .i64 r.1, [[.ul .atype r.2.1, .int .i64 r.2.2]])
 | _, _ => none, by
 intro _ _ _ _ h; split at h; exact dl h fun h => h.1.dim rfl; cases h⟩
abbrev ahN := Int × Int × Bs × List aE × Bss × Bs × Int × Bss
noncomputable def fl (a : Bs) (b : Int) (c : Bss) (d : Bs) (e : Int) (r : ahN) : Prop := bk Try.prog xV [.ptr 0 0, .str d, .int .i64 e, .ptr 1 0] [[.sl .u8 (.may false) a, .int .i64 b], [.sl .str .own c]] (.agg [.int .i64 r.1, .int .i64 r.2.1, .str r.2.2.1, .sl .jnode (.may false) r.2.2.2.1, .sl .str (.may false) r.2.2.2.2.1]) [[.sl .u8 (.may false) r.2.2.2.2.2.1, .int .i64 r.2.2.2.2.2.2.1], [.sl .str .own r.2.2.2.2.2.2.2]] ∧ uF a b c d e r
noncomputable def ya : fq Try.prog := ⟨73, fun us css => match us, css with
 | [.ptr 0 0, .str d, .int .i64 e, .ptr 1 0], [[.sl .u8 (.may false) a, .int .i64 b], [.sl .str .own c]] => let r := pick (fl a b c d e); some (can (fl a b c d e), .agg [.int .i64 r.1, .int .i64 r.2.1, .str r.2.2.1, .sl .jnode (.may false) r.2.2.2.1, .sl .str (.may false) r.2.2.2.2.1], [[.sl .u8 (.may false) r.2.2.2.2.2.1, .int .i64 r.2.2.2.2.2.2.1], [.sl .str .own r.2.2.2.2.2.2.2]])
 | _, _ => none, by
 intro _ _ _ _ h; split at h; exact dl h fun h => h.1.dim rfl; cases h⟩
abbrev arv := Int × Bs × List aB × Bss × Int × Int
noncomputable def qR (a : List aA) (g b c : Int) (d : Bs) (e : List aE) (f : Bss) (r : arv) : Prop := aI Try.prog ag3 [.agg [.sl .atype (.may false) a], .int .i64 g, .agg [.int .i64 b, .int .i64 c, .str d, .sl .jnode (.may false) e, .sl .str (.may false) f]] (.tup [.agg [.int .u64 r.1, .str r.2.1, .sl .aval (.may false) r.2.2.1, .sl .str (.may false) r.2.2.2.1, .int .i64 r.2.2.2.2.1], .int .i64 r.2.2.2.2.2])
noncomputable def arw : cb Try.prog := ⟨74, fun us => match us with
 | [.agg [.sl .atype (.may _) a], .int .i64 g, .agg [.int .i64 b, .int .i64 c, .str d, .sl .jnode (.may _) e, .sl .str (.may _) f]] => let r := pick (qR a g b c d e f); some (can (qR a g b c d e f), .tup [.agg [.int .u64 r.1, .str r.2.1, .sl .aval (.may false) r.2.2.1, .sl .str (.may false) r.2.2.2.1, .int .i64 r.2.2.2.2.1], .int .i64 r.2.2.2.2.2])
 | _ => none, by
 intro _ _ h; split at h; exact bo h (fun h => h.dim rfl) rfl rfl; cases h⟩
abbrev atd := Int × Int
noncomputable def l9 (a : Bs) (r : atd) : Prop := aI Try.prog aiU [.str a] (.tup [.int .u32 r.1, .int .i64 r.2]) ∧ adh a r
noncomputable def ai4 : cb Try.prog := ⟨79, fun us => match us with
 | [.str a] => let r := pick (l9 a); some (can (l9 a), .tup [.int .u32 r.1, .int .i64 r.2])
 | _ => none, by
 intro _ _ h; split at h; exact bo h (fun h => h.1.dim rfl) rfl rfl; cases h⟩
abbrev auE := Int × Int × Bs × List aE × Bss
noncomputable def bD (a : Bs) (r : auE) : Prop := aI Try.prog ak7 [.str a] (.agg [.int .i64 r.1, .int .i64 r.2.1, .str r.2.2.1, .sl .jnode (.may false) r.2.2.2.1, .sl .str (.may false) r.2.2.2.2]) ∧ aeA a r
noncomputable def zi : cb Try.prog := ⟨86, fun us => match us with
 | [.str a] => let r := pick (bD a); some (can (bD a), .agg [.int .i64 r.1, .int .i64 r.2.1, .str r.2.2.1, .sl .jnode (.may false) r.2.2.2.1, .sl .str (.may false) r.2.2.2.2])
 | _ => none, by
 intro _ _ h; split at h; exact bo h (fun h => h.1.dim rfl) rfl rfl; cases h⟩
abbrev avW := Int × Int × Bs × List aE × Bss × Bool
noncomputable def tO (a b : Int) (c : Bs) (d : List aE) (e : Bss) (f : Bs) (r : avW) : Prop := aI Try.prog anD [.agg [.int .i64 a, .int .i64 b, .str c, .sl .jnode (.may false) d, .sl .str (.may false) e], .str f] (.tup [.agg [.int .i64 r.1, .int .i64 r.2.1, .str r.2.2.1, .sl .jnode (.may false) r.2.2.2.1, .sl .str (.may false) r.2.2.2.2.1], .bool r.2.2.2.2.2]) ∧ vt a b c d e f r
noncomputable def avX : cb Try.prog := ⟨87, fun us => match us with
 | [.agg [.int .i64 a, .int .i64 b, .str c, .sl .jnode (.may _) d, .sl .str (.may _) e], .str f] => let r := pick (tO a b c d e f); some (can (tO a b c d e f), .tup [.agg [.int .i64 r.1, .int .i64 r.2.1, .str r.2.2.1, .sl .jnode (.may false) r.2.2.2.1, .sl .str (.may false) r.2.2.2.2.1], .bool r.2.2.2.2.2])
 | _ => none, by
 intro _ _ h; split at h; exact bo h (fun h => h.1.dim rfl) rfl rfl; cases h⟩
abbrev ai5 := Int × List aA × Int
noncomputable def aL (a : List aA) (b c : Int) (r : ai5) : Prop := bk Try.prog zt [.ptr 0 0, .int .i64 c] [[.ul .atype a, .int .i64 b]] (.int .i64 r.1) [[.ul .atype r.2.1, .int .i64 r.2.2]] ∧ kj a b c r
noncomputable def cH : fq Try.prog := ⟨110, fun us css => match us, css with
 | [.ptr 0 0, .int .i64 c], [[.ul .atype a, .int .i64 b]] => let r := pick (aL a b c); some (can (aL a b c), .int .i64 r.1, [[.ul .atype r.2.1, .int .i64 r.2.2]])
 | _, _ => none, by
 intro _ _ _ _ h; split at h; exact dl h fun h => h.1.dim rfl; cases h⟩
abbrev ai6 := Int × List aA × Int
noncomputable def fV (a : List aA) (b : Int) (c d : Bs) (r : ai6) : Prop := bk Try.prog zv [.ptr 0 0, .str c, .str d] [[.ul .atype a, .int .i64 b]] (.int .i64 r.1) [[.ul .atype r.2.1, .int .i64 r.2.2]] ∧ oT a b c d r
noncomputable def ai7 : fq Try.prog := ⟨111, fun us css => match us, css with
 | [.ptr 0 0, .str c, .str d], [[.ul .atype a, .int .i64 b]] => let r := pick (fV a b c d); some (can (fV a b c d), .int .i64 r.1, [[.ul .atype r.2.1, .int .i64 r.2.2]])
 | _, _ => none, by
 intro _ _ _ _ h; split at h; exact dl h fun h => h.1.dim rfl; cases h⟩
abbrev ahO := Int × List aA × Int
noncomputable def iS (a : List aA) (b c d : Int) (e : Bs) (f : List aE) (g : Bss) (h : Bs) (i : Int) (r : ahO) : Prop := bk Try.prog xY [.ptr 0 0, .agg [.int .i64 c, .int .i64 d, .str e, .sl .jnode (.may false) f, .sl .str (.may false) g], .str h, .int .i64 i] [[.ul .atype a, .int .i64 b]] (.int .i64 r.1) [[.ul .atype r.2.1, .int .i64 r.2.2]] ∧ uH a b c d e f g h i r
noncomputable def ahP : fq Try.prog := ⟨112, fun us css => match us, css with
 | [.ptr 0 0, .agg [.int .i64 a, .int .i64 b, .str c, .sl .jnode (.may _) d, .sl .str (.may _) e], .str i, .int .i64 j], [[.ul .atype f, .int .i64 g]] => let r := pick (iS f g a b c d e i j); some (can (iS f g a b c d e i j), .int .i64 r.1, [[.ul .atype r.2.1, .int .i64 r.2.2]])
 | _, _ => none, by
 intro _ _ _ _ h; split at h; exact dl h fun h => h.1.dim rfl; cases h⟩
abbrev avY := Int × Int × Bs × List aE × Bss × Bool
noncomputable def cT (a b : Int) (c : Bs) (d : List aE) (e : Bss) (f : Bs) (r : avY) : Prop := aI Try.prog anF [.agg [.int .i64 a, .int .i64 b, .str c, .sl .jnode (.may false) d, .sl .str (.may false) e], .str f] (.tup [.agg [.int .i64 r.1, .int .i64 r.2.1, .str r.2.2.1, .sl .jnode (.may false) r.2.2.2.1, .sl .str (.may false) r.2.2.2.2.1], .bool r.2.2.2.2.2]) ∧ ct a b c d e f r
noncomputable def pZ : cb Try.prog := ⟨113, fun us => match us with
 | [.agg [.int .i64 a, .int .i64 b, .str c, .sl .jnode (.may _) d, .sl .str (.may _) e], .str f] => let r := pick (cT a b c d e f); some (can (cT a b c d e f), .tup [.agg [.int .i64 r.1, .int .i64 r.2.1, .str r.2.2.1, .sl .jnode (.may false) r.2.2.2.1, .sl .str (.may false) r.2.2.2.2.1], .bool r.2.2.2.2.2])
 | _ => none, by
 intro _ _ h; split at h; exact bo h (fun h => h.1.dim rfl) rfl rfl; cases h⟩
abbrev ahQ := Int × List aA × Int
noncomputable def iT (a : List aA) (b c d : Int) (e : Bs) (f : List aE) (g : Bss) (h : Int) (i : Bs) (j : Int) (r : ahQ) : Prop := bk Try.prog xW [.ptr 0 0, .agg [.int .i64 c, .int .i64 d, .str e, .sl .jnode (.may false) f, .sl .str (.may false) g], .int .i64 h, .str i, .int .i64 j] [[.ul .atype a, .int .i64 b]] (.int .i64 r.1) [[.ul .atype r.2.1, .int .i64 r.2.2]] ∧ ft a b c d e f g h i j r
noncomputable def ahR : fq Try.prog := ⟨114, fun us css => match us, css with
 | [.ptr 0 0, .agg [.int .i64 a, .int .i64 b, .str c, .sl .jnode (.may _) d, .sl .str (.may _) e], .int .i64 i, .str j, .int .i64 k], [[.ul .atype f, .int .i64 g]] => let r := pick (iT f g a b c d e i j k); some (can (iT f g a b c d e i j k), .int .i64 r.1, [[.ul .atype r.2.1, .int .i64 r.2.2]])
 | _, _ => none, by
 intro _ _ _ _ h; split at h; exact dl h fun h => h.1.dim rfl; cases h⟩
abbrev ate := Int
noncomputable def ma (a : Bs) (r : ate) : Prop := aI Try.prog aiX [.str a] (.int .i64 r) ∧ adf a r
noncomputable def ai8 : cb Try.prog := ⟨115, fun us => match us with
 | [.str a] => let r := pick (ma a); some (can (ma a), .int .i64 r)
 | _ => none, by
 intro _ _ h; split at h; exact bo h (fun h => h.1.dim rfl) rfl rfl; cases h⟩
abbrev aku := Int × List aA × Int
noncomputable def en (a : List aA) (b c : Int) (d : Bs) (e : Bss) (f : Int) (g : Bss) (h : Bool) (i : Bs) (j : Int) (k : List aM) (l : List Int) (r : aku) : Prop := bk Try.prog aaW [.ptr 0 0, .agg [.int .i64 c, .str d, .sl .str (.may false) e, .int .i64 f, .sl .str (.may false) g, .bool h, .str i, .int .i64 j, .sl .afield (.may false) k, .sl (.num .i64) (.may false) l]] [[.ul .atype a, .int .i64 b]] (.int .i64 r.1) [[.ul .atype r.2.1, .int .i64 r.2.2]] ∧ lu a b c d e f g h i j k l r
noncomputable def oo : fq Try.prog := ⟨116, fun us css => match us, css with
 | [.ptr 0 0, .agg [.int .i64 a, .str b, .sl .str (.may _) c, .int .i64 d, .sl .str (.may _) e, .bool f, .str g, .int .i64 i, .sl .afield (.may _) j, .sl (.num .i64) (.may _) k]], [[.ul .atype l, .int .i64 m]] => let r := pick (en l m a b c d e f g i j k); some (can (en l m a b c d e f g i j k), .int .i64 r.1, [[.ul .atype r.2.1, .int .i64 r.2.2]])
 | _, _ => none, by
 intro _ _ _ _ h; split at h; exact dl h fun h => h.1.dim rfl; cases h⟩
abbrev akv := Int × Int × Bs × List aE × Bss × Bs × Int × Bss
noncomputable def cX (a : Bs) (b : Int) (c : Bss) (d : Int) (r : akv) : Prop := bk Try.prog aaV [.ptr 0 0, .int .i64 d, .ptr 1 0] [[.sl .u8 (.may false) a, .int .i64 b], [.sl .str .own c]] (.agg [.int .i64 r.1, .int .i64 r.2.1, .str r.2.2.1, .sl .jnode (.may false) r.2.2.2.1, .sl .str (.may false) r.2.2.2.2.1]) [[.sl .u8 (.may false) r.2.2.2.2.2.1, .int .i64 r.2.2.2.2.2.2.1], [.sl .str .own r.2.2.2.2.2.2.2]] ∧ eP a b c d r
noncomputable def ug : fq Try.prog := ⟨117, fun us css => match us, css with
 | [.ptr 0 0, .int .i64 d, .ptr 1 0], [[.sl .u8 (.may false) a, .int .i64 b], [.sl .str .own c]] => let r := pick (cX a b c d); some (can (cX a b c d), .agg [.int .i64 r.1, .int .i64 r.2.1, .str r.2.2.1, .sl .jnode (.may false) r.2.2.2.1, .sl .str (.may false) r.2.2.2.2.1], [[.sl .u8 (.may false) r.2.2.2.2.2.1, .int .i64 r.2.2.2.2.2.2.1], [.sl .str .own r.2.2.2.2.2.2.2]])
 | _, _ => none, by
 intro _ _ _ _ h; split at h; exact dl h fun h => h.1.dim rfl; cases h⟩
abbrev atf := Int × Int × Bs × Bool × List aE × Bool × Bss
noncomputable def eK (a : Bool) (c : Bss) (b : Bool) (d : List aE) (r : atf) : Prop := aI Try.prog aiQ [.sl .str (.may a) c, .sl .jnode (.may b) d] (.agg [.int .i64 r.1, .int .i64 r.2.1, .str r.2.2.1, .sl .jnode (.may r.2.2.2.1) r.2.2.2.2.1, .sl .str (.may r.2.2.2.2.2.1) r.2.2.2.2.2.2]) ∧ ade a c b d r
noncomputable def ai9 : cb Try.prog := ⟨118, fun us => match us with
 | [.sl .str (.may a) c, .sl .jnode (.may b) d] => let r := pick (eK a c b d); some (can (eK a c b d), .agg [.int .i64 r.1, .int .i64 r.2.1, .str r.2.2.1, .sl .jnode (.may r.2.2.2.1) r.2.2.2.2.1, .sl .str (.may r.2.2.2.2.2.1) r.2.2.2.2.2.2])
 | _ => none, by
 intro _ _ h; split at h; exact bo h (fun h => h.1) rfl rfl; cases h⟩
abbrev af4 := Int × Int × Bs × List aE × Bss × Bs × Int
noncomputable def gw (a : Bs) (b c d : Int) (e : Bs) (f : List aE) (g : Bss) (r : af4) : Prop := bk Try.prog xc [.ptr 0 0, .agg [.int .i64 c, .int .i64 d, .str e, .sl .jnode (.may false) f, .sl .str (.may false) g]] [[.sl .u8 (.may false) a, .int .i64 b]] (.agg [.int .i64 r.1, .int .i64 r.2.1, .str r.2.2.1, .sl .jnode (.may false) r.2.2.2.1, .sl .str (.may false) r.2.2.2.2.1]) [[.sl .u8 (.may false) r.2.2.2.2.2.1, .int .i64 r.2.2.2.2.2.2]] ∧ eU a b c d e f g r
noncomputable def af5 : fq Try.prog := ⟨119, fun us css => match us, css with
 | [.ptr 0 0, .agg [.int .i64 a, .int .i64 b, .str c, .sl .jnode (.may _) d, .sl .str (.may _) e]], [[.sl .u8 (.may false) f, .int .i64 g]] => let r := pick (gw f g a b c d e); some (can (gw f g a b c d e), .agg [.int .i64 r.1, .int .i64 r.2.1, .str r.2.2.1, .sl .jnode (.may false) r.2.2.2.1, .sl .str (.may false) r.2.2.2.2.1], [[.sl .u8 (.may false) r.2.2.2.2.2.1, .int .i64 r.2.2.2.2.2.2]])
 | _, _ => none, by
 intro _ _ _ _ h; split at h; exact dl h fun h => h.1.dim rfl; cases h⟩
abbrev af6 := Int × Bs × List aB × Bss × Int × Int × List aA × Int
noncomputable def ce (a : List aA) (b h c d : Int) (e : Bs) (f : List aE) (g : Bss) (i : Int) (r : af6) : Prop := bk Try.prog xf [.ptr 0 0, .int .i64 h, .agg [.int .i64 c, .int .i64 d, .str e, .sl .jnode (.may false) f, .sl .str (.may false) g], .int .i64 i] [[.sl .atype (.may false) a, .int .i64 b]] (.tup [.agg [.int .u64 r.1, .str r.2.1, .sl .aval (.may false) r.2.2.1, .sl .str (.may false) r.2.2.2.1, .int .i64 r.2.2.2.2.1], .int .i64 r.2.2.2.2.2.1]) [[.sl .atype (.may false) r.2.2.2.2.2.2.1, .int .i64 r.2.2.2.2.2.2.2]] ∧ cw a b h c d e f g i r
noncomputable def lw : fq Try.prog := ⟨120, fun us css => match us, css with
 | [.ptr 0 0, .int .i64 i, .agg [.int .i64 a, .int .i64 b, .str c, .sl .jnode (.may _) d, .sl .str (.may _) e], .int .i64 j], [[.sl .atype (.may false) f, .int .i64 g]] => let r := pick (ce f g i a b c d e j); some (can (ce f g i a b c d e j), .tup [.agg [.int .u64 r.1, .str r.2.1, .sl .aval (.may false) r.2.2.1, .sl .str (.may false) r.2.2.2.1, .int .i64 r.2.2.2.2.1], .int .i64 r.2.2.2.2.2.1], [[.sl .atype (.may false) r.2.2.2.2.2.2.1, .int .i64 r.2.2.2.2.2.2.2]])
 | _, _ => none, by
 intro _ _ _ _ h; split at h; exact dl h fun h => h.1.dim rfl; cases h⟩
abbrev atg := Int
noncomputable def sJ (a : Int) (r : atg) : Prop := aI Try.prog aiR [.int .i64 a] (.int .u32 r)
noncomputable def ath : cb Try.prog := ⟨132, fun us => match us with
 | [.int .i64 a] => let r := pick (sJ a); some (can (sJ a), .int .u32 r)
 | _ => none, by
 intro _ _ h; split at h; exact bo h (fun h => h.dim rfl) rfl rfl; cases h⟩
abbrev arx := Int
noncomputable def mR (a : Int) (r : arx) : Prop := aI Try.prog ag1 [.int .i64 a] (.int .u64 r)
noncomputable def ary : cb Try.prog := ⟨133, fun us => match us with
 | [.int .i64 a] => let r := pick (mR a); some (can (mR a), .int .u64 r)
 | _ => none, by
 intro _ _ h; split at h; exact bo h (fun h => h.dim rfl) rfl rfl; cases h⟩
abbrev aja := Int × Bool × List aA × Int
noncomputable def cI (a : List aA) (b : Int) (c : Bs) (r : aja) : Prop := bk Try.prog zu [.ptr 0 0, .str c] [[.ul .atype a, .int .i64 b]] (.tup [.int .i64 r.1, .bool r.2.1]) [[.ul .atype r.2.2.1, .int .i64 r.2.2.2]] ∧ wq a b c r
noncomputable def zy : fq Try.prog := ⟨138, fun us css => match us, css with
 | [.ptr 0 0, .str c], [[.ul .atype a, .int .i64 b]] => let r := pick (cI a b c); some (can (cI a b c), .tup [.int .i64 r.1, .bool r.2.1], [[.ul .atype r.2.2.1, .int .i64 r.2.2.2]])
 | _, _ => none, by
 intro _ _ _ _ h; split at h; exact dl h fun h => h.1.dim rfl; cases h⟩
abbrev auF := Bs
noncomputable def rt (a : List aA) (b : Int) (r : auF) : Prop := aI Try.prog ala [.agg [.sl .atype (.may false) a], .int .i64 b] (.str r)
noncomputable def auG : cb Try.prog := ⟨139, fun us => match us with
 | [.agg [.sl .atype (.may _) a], .int .i64 b] => let r := pick (rt a b); some (can (rt a b), .str r)
 | _ => none, by
 intro _ _ h; split at h; exact bo h (fun h => h.dim rfl) rfl rfl; cases h⟩
abbrev ajb := Bs × List aA × Int
noncomputable def dD (a : List aA) (b c d : Int) (e : Bs) (f : List aE) (g : Bss) (h : Bs) (i : Bool) (r : ajb) : Prop := bk Try.prog zx [.ptr 0 0, .agg [.int .i64 c, .int .i64 d, .str e, .sl .jnode (.may false) f, .sl .str (.may false) g], .str h, .bool i] [[.ul .atype a, .int .i64 b]] (.str r.1) [[.ul .atype r.2.1, .int .i64 r.2.2]] ∧ ws a b c d e f g h i r
noncomputable def sK : fq Try.prog := ⟨140, fun us css => match us, css with
 | [.ptr 0 0, .agg [.int .i64 a, .int .i64 b, .str c, .sl .jnode (.may _) d, .sl .str (.may _) e], .str i, .bool j], [[.ul .atype f, .int .i64 g]] => let r := pick (dD f g a b c d e i j); some (can (dD f g a b c d e i j), .str r.1, [[.ul .atype r.2.1, .int .i64 r.2.2]])
 | _, _ => none, by
 intro _ _ _ _ h; split at h; exact dl h fun h => h.1.dim rfl; cases h⟩
abbrev ahS := Bs × List aA × Int
noncomputable def fm (a : List aA) (b : Int) (c d : Bs) (r : ahS) : Prop := bk Try.prog xZ [.ptr 0 0, .str c, .str d] [[.ul .atype a, .int .i64 b]] (.str r.1) [[.ul .atype r.2.1, .int .i64 r.2.2]] ∧ uI a b c d r
noncomputable def ahT : fq Try.prog := ⟨141, fun us css => match us, css with
 | [.ptr 0 0, .str c, .str d], [[.ul .atype a, .int .i64 b]] => let r := pick (fm a b c d); some (can (fm a b c d), .str r.1, [[.ul .atype r.2.1, .int .i64 r.2.2]])
 | _, _ => none, by
 intro _ _ _ _ h; split at h; exact dl h fun h => h.1.dim rfl; cases h⟩
abbrev apq := Bs
noncomputable def oV (a : Bs) (r : apq) : Prop := aI Try.prog aeC [.str a] (.str r) ∧ kV a r
noncomputable def apr : cb Try.prog := ⟨142, fun us => match us with
 | [.str a] => let r := pick (oV a); some (can (oV a), .str r)
 | _ => none, by
 intro _ _ h; split at h; exact bo h (fun h => h.1.dim rfl) rfl rfl; cases h⟩
abbrev ahU := Bss × Bool × List aA × Int
noncomputable def cU (a : List aA) (b c d : Int) (e : Bs) (f : List aE) (g : Bss) (h : Bs) (r : ahU) : Prop := bk Try.prog xX [.ptr 0 0, .agg [.int .i64 c, .int .i64 d, .str e, .sl .jnode (.may false) f, .sl .str (.may false) g], .str h] [[.ul .atype a, .int .i64 b]] (.tup [.sl .str (.may false) r.1, .bool r.2.1]) [[.ul .atype r.2.2.1, .int .i64 r.2.2.2]] ∧ nR a b c d e f g h r
noncomputable def rv : fq Try.prog := ⟨143, fun us css => match us, css with
 | [.ptr 0 0, .agg [.int .i64 a, .int .i64 b, .str c, .sl .jnode (.may _) d, .sl .str (.may _) e], .str i], [[.ul .atype f, .int .i64 g]] => let r := pick (cU f g a b c d e i); some (can (cU f g a b c d e i), .tup [.sl .str (.may false) r.1, .bool r.2.1], [[.ul .atype r.2.2.1, .int .i64 r.2.2.2]])
 | _, _ => none, by
 intro _ _ _ _ h; split at h; exact dl h fun h => h.1.dim rfl; cases h⟩
abbrev af7 := List aA × Int
noncomputable def gz (a : List aA) (b c d : Int) (e : Bs) (f : List aE) (g : Bss) (h : Int) (i : Bs) (j : Int) (r : af7) : Prop := bk Try.prog xd [.ptr 0 0, .agg [.int .i64 c, .int .i64 d, .str e, .sl .jnode (.may false) f, .sl .str (.may false) g], .int .i64 h, .str i, .int .i64 j] [[.ul .atype a, .int .i64 b]] (.tup []) [[.ul .atype r.1, .int .i64 r.2]] ∧ dE a b c d e f g h i j r
noncomputable def af8 : fq Try.prog := ⟨144, fun us css => match us, css with
 | [.ptr 0 0, .agg [.int .i64 a, .int .i64 b, .str c, .sl .jnode (.may _) d, .sl .str (.may _) e], .int .i64 i, .str j, .int .i64 k], [[.ul .atype f, .int .i64 g]] => let r := pick (gz f g a b c d e i j k); some (can (gz f g a b c d e i j k), .tup [], [[.ul .atype r.1, .int .i64 r.2]])
 | _, _ => none, by
 intro _ _ _ _ h; split at h; exact dl h fun h => h.1.dim rfl; cases h⟩
abbrev aeD := List aA × Int
noncomputable def fW (a : List aA) (b c d : Int) (e : Bs) (f : List aE) (g : Bss) (h : Int) (r : aeD) : Prop := bk Try.prog wt [.ptr 0 0, .agg [.int .i64 c, .int .i64 d, .str e, .sl .jnode (.may false) f, .sl .str (.may false) g], .int .i64 h] [[.ul .atype a, .int .i64 b]] (.tup []) [[.ul .atype r.1, .int .i64 r.2]] ∧ du a b c d e f g h r
noncomputable def aeE : fq Try.prog := ⟨145, fun us css => match us, css with
 | [.ptr 0 0, .agg [.int .i64 a, .int .i64 b, .str c, .sl .jnode (.may _) d, .sl .str (.may _) e], .int .i64 i], [[.ul .atype f, .int .i64 g]] => let r := pick (fW f g a b c d e i); some (can (fW f g a b c d e i), .tup [], [[.ul .atype r.1, .int .i64 r.2]])
 | _, _ => none, by
 intro _ _ _ _ h; split at h; exact dl h fun h => h.1.dim rfl; cases h⟩
abbrev ajc := Int × Int × Bs × List aE × Bss × Bs × Int × Bss
noncomputable def j6 (a : Bs) (b : Int) (c : Bss) (d : Int) (r : ajc) : Prop := bk Try.prog zr [.ptr 0 0, .int .i64 d, .ptr 1 0] [[.sl .u8 (.may false) a, .int .i64 b], [.sl .str .own c]] (.agg [.int .i64 r.1, .int .i64 r.2.1, .str r.2.2.1, .sl .jnode (.may false) r.2.2.2.1, .sl .str (.may false) r.2.2.2.2.1]) [[.sl .u8 (.may false) r.2.2.2.2.2.1, .int .i64 r.2.2.2.2.2.2.1], [.sl .str .own r.2.2.2.2.2.2.2]] ∧ wo a b c d r
noncomputable def ajd : fq Try.prog := ⟨146, fun us css => match us, css with
 | [.ptr 0 0, .int .i64 d, .ptr 1 0], [[.sl .u8 (.may false) a, .int .i64 b], [.sl .str .own c]] => let r := pick (j6 a b c d); some (can (j6 a b c d), .agg [.int .i64 r.1, .int .i64 r.2.1, .str r.2.2.1, .sl .jnode (.may false) r.2.2.2.1, .sl .str (.may false) r.2.2.2.2.1], [[.sl .u8 (.may false) r.2.2.2.2.2.1, .int .i64 r.2.2.2.2.2.2.1], [.sl .str .own r.2.2.2.2.2.2.2]])
 | _, _ => none, by
 intro _ _ _ _ h; split at h; exact dl h fun h => h.1.dim rfl; cases h⟩
abbrev auH := Bs × Bool
noncomputable def uJ (a : Bs) (r : auH) : Prop := aI Try.prog alb [.str a] (.tup [.str r.1, .bool r.2])
noncomputable def auI : cb Try.prog := ⟨147, fun us => match us with
 | [.str a] => let r := pick (uJ a); some (can (uJ a), .tup [.str r.1, .bool r.2])
 | _ => none, by
 intro _ _ h; split at h; exact bo h (fun h => h.dim rfl) rfl rfl; cases h⟩
abbrev af9 := Int × Bs × List aB × Bss × Int × Int × List aA × Int
noncomputable def gA (a : List aA) (b c : Int) (d : Bs) (e : Bss) (f : Int) (g : Bss) (h : Bool) (i : Bs) (j : Int) (k : List aM) (l : List Int) (m n : Int) (o : Bs) (p : List aE) (q : Bss) (s : Int) (r : af9) : Prop := bk Try.prog xe [.ptr 0 0, .agg [.int .i64 c, .str d, .sl .str (.may false) e, .int .i64 f, .sl .str (.may false) g, .bool h, .str i, .int .i64 j, .sl .afield (.may false) k, .sl (.num .i64) (.may false) l], .agg [.int .i64 m, .int .i64 n, .str o, .sl .jnode (.may false) p, .sl .str (.may false) q], .int .i64 s] [[.sl .atype (.may false) a, .int .i64 b]] (.tup [.agg [.int .u64 r.1, .str r.2.1, .sl .aval (.may false) r.2.2.1, .sl .str (.may false) r.2.2.2.1, .int .i64 r.2.2.2.2.1], .int .i64 r.2.2.2.2.2.1]) [[.sl .atype (.may false) r.2.2.2.2.2.2.1, .int .i64 r.2.2.2.2.2.2.2]] ∧ tX a b c d e f g h i j k l m n o p q s r
noncomputable def aga : fq Try.prog := ⟨148, fun us css => match us, css with
 | [.ptr 0 0, .agg [.int .i64 a, .str b, .sl .str (.may _) c, .int .i64 d, .sl .str (.may _) e, .bool f, .str g, .int .i64 i, .sl .afield (.may _) j, .sl (.num .i64) (.may _) k], .agg [.int .i64 l, .int .i64 m, .str n, .sl .jnode (.may _) o, .sl .str (.may _) p], .int .i64 t], [[.sl .atype (.may false) q, .int .i64 s]] => let r := pick (gA q s a b c d e f g i j k l m n o p t); some (can (gA q s a b c d e f g i j k l m n o p t), .tup [.agg [.int .u64 r.1, .str r.2.1, .sl .aval (.may false) r.2.2.1, .sl .str (.may false) r.2.2.2.1, .int .i64 r.2.2.2.2.1], .int .i64 r.2.2.2.2.2.1], [[.sl .atype (.may false) r.2.2.2.2.2.2.1, .int .i64 r.2.2.2.2.2.2.2]])
 | _, _ => none, by
 intro _ _ _ _ h; split at h; exact dl h fun h => h.1.dim rfl; cases h⟩
abbrev aeF := Int × Bs × List aB × Bss × Int × Int × List aA × Int
noncomputable def fX (a : List aA) (b c : Int) (d : Bs) (e : Bss) (f : Int) (g : Bss) (h : Bool) (i : Bs) (j : Int) (k : List aM) (l : List Int) (m n : Int) (o : Bs) (p : List aE) (q : Bss) (s : Int) (r : aeF) : Prop := bk Try.prog wu [.ptr 0 0, .agg [.int .i64 c, .str d, .sl .str (.may false) e, .int .i64 f, .sl .str (.may false) g, .bool h, .str i, .int .i64 j, .sl .afield (.may false) k, .sl (.num .i64) (.may false) l], .agg [.int .i64 m, .int .i64 n, .str o, .sl .jnode (.may false) p, .sl .str (.may false) q], .int .i64 s] [[.sl .atype (.may false) a, .int .i64 b]] (.tup [.agg [.int .u64 r.1, .str r.2.1, .sl .aval (.may false) r.2.2.1, .sl .str (.may false) r.2.2.2.1, .int .i64 r.2.2.2.2.1], .int .i64 r.2.2.2.2.2.1]) [[.sl .atype (.may false) r.2.2.2.2.2.2.1, .int .i64 r.2.2.2.2.2.2.2]] ∧ sH a b c d e f g h i j k l m n o p q s r
noncomputable def aeG : fq Try.prog := ⟨149, fun us css => match us, css with
 | [.ptr 0 0, .agg [.int .i64 a, .str b, .sl .str (.may _) c, .int .i64 d, .sl .str (.may _) e, .bool f, .str g, .int .i64 i, .sl .afield (.may _) j, .sl (.num .i64) (.may _) k], .agg [.int .i64 l, .int .i64 m, .str n, .sl .jnode (.may _) o, .sl .str (.may _) p], .int .i64 t], [[.sl .atype (.may false) q, .int .i64 s]] => let r := pick (fX q s a b c d e f g i j k l m n o p t); some (can (fX q s a b c d e f g i j k l m n o p t), .tup [.agg [.int .u64 r.1, .str r.2.1, .sl .aval (.may false) r.2.2.1, .sl .str (.may false) r.2.2.2.1, .int .i64 r.2.2.2.2.1], .int .i64 r.2.2.2.2.2.1], [[.sl .atype (.may false) r.2.2.2.2.2.2.1, .int .i64 r.2.2.2.2.2.2.2]])
 | _, _ => none, by
 intro _ _ _ _ h; split at h; exact dl h fun h => h.1.dim rfl; cases h⟩
abbrev auJ := Int
noncomputable def lQ (a b c : Int) (r : auJ) : Prop := aI Try.prog ak8 [.int .u64 a, .int .i64 b, .int .i64 c] (.int .u64 r)
noncomputable def alf : cb Try.prog := ⟨154, fun us => match us with
 | [.int .u64 a, .int .i64 b, .int .i64 c] => let r := pick (lQ a b c); some (can (lQ a b c), .int .u64 r)
 | _ => none, by
 intro _ _ h; split at h; exact bo h (fun h => h.dim rfl) rfl rfl; cases h⟩
abbrev ati := Bs
noncomputable def sL (a : Int) (r : ati) : Prop := aI Try.prog aiW [.int .i64 a] (.str r)
noncomputable def atj : cb Try.prog := ⟨158, fun us => match us with
 | [.int .i64 a] => let r := pick (sL a); some (can (sL a), .str r)
 | _ => none, by
 intro _ _ h; split at h; exact bo h (fun h => h.dim rfl) rfl rfl; cases h⟩
abbrev auK := Bs
noncomputable def uK (a b : Bs) (r : auK) : Prop := aI Try.prog ald [.str a, .str b] (.str r) ∧ tN a b r
noncomputable def auL : cb Try.prog := ⟨159, fun us => match us with
 | [.str a, .str b] => let r := pick (uK a b); some (can (uK a b), .str r)
 | _ => none, by
 intro _ _ h; split at h; exact bo h (fun h => h.1.dim rfl) rfl rfl; cases h⟩
abbrev atk := Bool
noncomputable def sM (a : Bs) (r : atk) : Prop := aI Try.prog ai0 [.str a] (.bool r)
noncomputable def atl : cb Try.prog := ⟨160, fun us => match us with
 | [.str a] => let r := pick (sM a); some (can (sM a), .bool r)
 | _ => none, by
 intro _ _ h; split at h; exact bo h (fun h => h.dim rfl) rfl rfl; cases h⟩
abbrev auM := Bool
noncomputable def jB (a : Bs) (r : auM) : Prop := aI Try.prog alc [.str a] (.bool r)
noncomputable def adL : cb Try.prog := ⟨161, fun us => match us with
 | [.str a] => let r := pick (jB a); some (can (jB a), .bool r)
 | _ => none, by
 intro _ _ h; split at h; exact bo h (fun h => h.dim rfl) rfl rfl; cases h⟩
abbrev atm := Int × Int
noncomputable def sN (a : Bs) (r : atm) : Prop := aI Try.prog aiS [.str a] (.tup [.int .u32 r.1, .int .i64 r.2]) ∧ adg a r
noncomputable def atn : cb Try.prog := ⟨162, fun us => match us with
 | [.str a] => let r := pick (sN a); some (can (sN a), .tup [.int .u32 r.1, .int .i64 r.2])
 | _ => none, by
 intro _ _ h; split at h; exact bo h (fun h => h.1.dim rfl) rfl rfl; cases h⟩
abbrev arz := Bool
noncomputable def qS (a : Int) (r : arz) : Prop := aI Try.prog ag5 [.int .u8 a] (.bool r)
noncomputable def arA : cb Try.prog := ⟨164, fun us => match us with
 | [.int .u8 a] => let r := pick (qS a); some (can (qS a), .bool r)
 | _ => none, by
 intro _ _ h; split at h; exact bo h (fun h => h.dim rfl) rfl rfl; cases h⟩
abbrev ato := Bool
noncomputable def sO (a : Int) (r : ato) : Prop := aI Try.prog aiZ [.int .u8 a] (.bool r)
noncomputable def atp : cb Try.prog := ⟨165, fun us => match us with
 | [.int .u8 a] => let r := pick (sO a); some (can (sO a), .bool r)
 | _ => none, by
 intro _ _ h; split at h; exact bo h (fun h => h.dim rfl) rfl rfl; cases h⟩
end Go.Proofs.Ytdpajabhmmmjoaa
end
