import Derived.Test.YtdpajabhmmmjoaaChecked
import Derived.KernelRfl
import Derived.ChangeArms
import Derived.ChangeSlices
import Derived.WideShapes
import Derived.WideKeyArgs
import Derived.Test.YtdpajabhmmmjoaaZ02
section
namespace Go.Proofs.Ytdpajabhmmmjoaa
open Go.AM
set_option autoImplicit false
set_option linter.unusedVariables false
set_option maxRecDepth 100000
abbrev mc : FuncId := 21
abbrev pg : FuncId := 24
abbrev rP : FuncId := 22
abbrev adw : FuncId := 55
abbrev adx : FuncId := 52
abbrev mL : FuncId := 82
abbrev akP : FuncId := 49
abbrev ady : FuncId := 53
abbrev wT : FuncId := 50
abbrev wU : FuncId := 54
abbrev adz : FuncId := 51
abbrev rQ : FuncId := 150
abbrev su : FuncId := 80
abbrev wV : FuncId := 121
abbrev yS : FuncId := 163
abbrev ai8 : FuncId := 19
abbrev bV : FuncId := 81
abbrev bz : FuncId := 57
abbrev iC : FuncId := 56
abbrev cg : FuncId := 122
def akQ : Nat → List V → Option (Bool × V) := fun _ _ => none
def ub : au := (eI akQ)
theorem aoq : bS ub [] := (bT _ _)
theorem aro  : aS Try.prog ub := by
 intro f vs hp v hp' h
 obtain ⟨h, -⟩ := cr h
 simp [akQ] at h
def arp : IR := .ret
def arq : IR := (.seq (.reg [Mv 5 0, Mv 6 1, Bi 7 .shr 5 6, Pp (.bin 8 .and (.t 7) (.c (.int .u32 63))), Pp (.bin 9 .or (.c (.int .u32 128)) (.t 8)), Pp (.cvi 10 .u8 (.t 9)), Mv 4 10] []) arp)
def ai9 : IR := (.seq (.reg [Pp (.mov 4 (.c (.int .u8 0)))] []) arq)
def aja : List RV := [.t 4]
theorem auG : (aZ Try.prog [] 0 ai9 (Try.f163.body.getD .skip) && cQ Try.prog aja Try.f163.results.toList) = true := by kernel_rfl
theorem ars : Try.f163.body = some (Try.f163.body.getD .skip) := by kernel_rfl
def ajb (N : Nat) (p0 : Int) (p1 : Int)  : Ro :=
 chk (decide (0 ≤ p1)) (
  let x1 : Int := (bK .and .u32 (dV .u32 p0 p1) 63)
  let x2 : Int := (IntKind.wrap .u8 (bK .or .u32 128 x1))
  some (.int .u8 x2, []))
def sv (N : Nat) (p0 : Int) (p1 : Int) : Ro := ajb N p0 p1
theorem auH (N : Nat) (p0 : Int) (p1 : Int) : aE ub N 11 aja ai9 [.int .u32 p0, .int .i64 p1] [] = sv N p0 p1 := by kernel_rfl
theorem ax8 (hΓ : aS Try.prog ub) (N : Nat) (p0 : Int) (p1 : Int) {v : V} {hp : List an} (h : sv N p0 p1 = some (v, hp)) : aj Try.prog yS [.int .u32 p0, .int .i64 p1] v := by
 have hc := auG
 simp only [Bool.and_eq_true] at hc
 exact ⟨hp, dL hΓ aoq Try.func163 ars hc.1 hc.2 (by decide) ((auH N p0 p1).trans h)⟩
def anI (N : Nat) : Nat → List V → Option (Bool × V) := fun f vs => match f, vs with
 | 150, [.int .u32 a0] => some ((decide ((a0 : Int) = 65533) && decide (0 < N)), .str (vt a0))
 | 163, [.int .u32 a0, .int .i64 a1] => some ((decide (0 ≤ (a1 : Int)) && decide ((a1 : Int) ≤ 32)), .int .u8 (gW a0 a1))
 | _, _ => none
def wb (N : Nat) : au := (eI (anI N))
theorem art (N : Nat) : bS (wb N) [] := (bT _ _)
theorem afB (N : Nat) (h_glyph_Put : ∀ (a0 : Int), (decide ((a0 : Int) = 65533) && decide (0 < N)) = true → aj Try.prog rQ [.int .u32 a0] (.str (vt a0))) (h_glyph_tail : ∀ (a0 : Int) (a1 : Int), (decide (0 ≤ (a1 : Int)) && decide ((a1 : Int) ≤ 32)) = true → aj Try.prog yS [.int .u32 a0, .int .i64 a1] (.int .u8 (gW a0 a1))) : aS Try.prog (wb N) := by
 intro f vs hp v hp' h0
 obtain ⟨h, he⟩ := cr h0
 subst he
 unfold anI at h
 split at h
 ·simp only [Option.some.injEq, Prod.mk.injEq] at h
  obtain ⟨hc, rfl⟩ := h
  exact ((h_glyph_Put _ hc).dim rfl).frame rfl rfl _
 ·simp only [Option.some.injEq, Prod.mk.injEq] at h
  obtain ⟨hc, rfl⟩ := h
  exact ((h_glyph_tail _ _ hc).dim rfl).frame rfl rfl _
 ·simp at h
def auI : IR := .ret
def auJ : IR := .ret
def auK : IR := .ret
def auL : IR := .ret
def auM : IR := (.cond (.t 33) (.seq (.reg [Mv 36 0, Pp (.bin 37 .shr (.t 36) (.c (.int .u64 12))), Pp (.bin 38 .or (.c (.int .u32 224)) (.t 37)), Pp (.cvi 39 .u8 (.t 38)), Mv 40 0, Pp (.call (some 41) 163 [(.t 40), (.c (.int .i64 6))]), Mv 42 0, Pp (.call (some 43) 163 [(.t 42), (.c (.int .i64 0))]), Pp (.bsl 44 .u8 [(.t 39), (.t 41), (.t 43)] false), Pp (.b2s 45 (.t 44)), Mv 2 45] []) auL) .skip)
def auN : IR := (.cond (.t 21) (.seq (.reg [Pp (.call (some 32) 150 [(.c (.int .u32 65533))]), Mv 2 32] []) auK) (.seq (.reg [Mv 34 0, Pp (.bin 35 .lss (.t 34) (.c (.int .u32 65536))), Mv 33 35] []) auM))
def auO : IR := (.cond (.t 10) (.seq (.reg [Mv 13 0, Pp (.bin 14 .shr (.t 13) (.c (.int .u64 6))), Pp (.bin 15 .or (.c (.int .u32 192)) (.t 14)), Pp (.cvi 16 .u8 (.t 15)), Mv 17 0, Pp (.call (some 18) 163 [(.t 17), (.c (.int .i64 0))]), Pp (.bsl 19 .u8 [(.t 16), (.t 18)] false), Pp (.b2s 20 (.t 19)), Mv 2 20] []) auJ) (.seq (.reg [Mv 22 0, Pp (.bin 23 .geq (.t 22) (.c (.int .u32 55296))), Mv 24 23, Pg (24, true) (.mov 25 (.t 0)), Pg (24, true) (.bin 26 .lss (.t 25) (.c (.int .u32 57344))), Pa 27 24 26, Mv 28 27, Pg (28, false) (.mov 29 (.t 0)), Pg (28, false) (.bin 30 .gtr (.t 29) (.c (.int .u32 1114111))), Po 31 28 30, Mv 21 31] []) auN))
def auP : IR := (.cond (.t 3) (.seq (.reg [Mv 6 0, Pp (.cvi 7 .u8 (.t 6)), Pp (.bsl 8 .u8 [(.t 7)] false), Pp (.b2s 9 (.t 8)), Mv 2 9] []) auI) (.seq (.reg [Mv 11 0, Pp (.bin 12 .lss (.t 11) (.c (.int .u32 2048))), Mv 10 12] []) auO))
def auQ : IR := .ret
def auR : IR := (.seq (.reg [Mv 46 0, Pp (.bin 47 .shr (.t 46) (.c (.int .u64 18))), Pp (.bin 48 .or (.c (.int .u32 240)) (.t 47)), Pp (.cvi 49 .u8 (.t 48)), Mv 50 0, Pp (.call (some 51) 163 [(.t 50), (.c (.int .i64 12))]), Mv 52 0, Pp (.call (some 53) 163 [(.t 52), (.c (.int .i64 6))]), Mv 54 0, Pp (.call (some 55) 163 [(.t 54), (.c (.int .i64 0))]), Pp (.bsl 56 .u8 [(.t 49), (.t 51), (.t 53), (.t 55)] false), Pp (.b2s 57 (.t 56)), Mv 2 57] []) auQ)
def aru : IR := (.seq (.block 0 (.seq (.reg [Mv 4 0, Pp (.bin 5 .lss (.t 4) (.c (.int .u32 128))), Mv 3 5] []) auP)) auR)
def akR : IR := (.seq (.reg [Pp (.mov 2 (.c (.str ([] : Bs))))] []) aru)
def akS : List RV := [.t 2]
theorem ax9 : (aZ Try.prog [] 0 akR (Try.f150.body.getD .skip) && cQ Try.prog akS Try.f150.results.toList) = true := by kernel_rfl
theorem auS : Try.f150.body = some (Try.f150.body.getD .skip) := by kernel_rfl
def akT (N : Nat) (p0 : Int)  : Ro :=
 cond (decide (p0 < 128)) (
  some (.str ([(UInt8.ofNat (Int.toNat (IntKind.wrap .u8 p0)))] : Bs), [])) (
  cond (decide (p0 < 2048)) (
   let x1 : Int := (bK .or .u32 192 (dV .u32 p0 6))
   chk ((decide (0 ≤ (0 : Int)) && decide ((0 : Int) ≤ 32))) (
    some (.str ([(UInt8.ofNat (Int.toNat (IntKind.wrap .u8 x1))), (UInt8.ofNat (Int.toNat (gW p0 0)))] : Bs), []))) (
   cond (decide (55296 ≤ p0)) (
    cond (decide (p0 < 57344)) (
     chk ((decide ((65533 : Int) = 65533) && decide (0 < N))) (
      some (.str (vt 65533), []))) (
     cond (decide (1114111 < p0)) (
      chk ((decide ((65533 : Int) = 65533) && decide (0 < N))) (
       some (.str (vt 65533), []))) (
      cond (decide (p0 < 65536)) (
       let x2 : Int := (bK .or .u32 224 (dV .u32 p0 12))
       chk ((decide (0 ≤ (6 : Int)) && decide ((6 : Int) ≤ 32))) (
        chk ((decide (0 ≤ (0 : Int)) && decide ((0 : Int) ≤ 32))) (
         some (.str ([(UInt8.ofNat (Int.toNat (IntKind.wrap .u8 x2))), (UInt8.ofNat (Int.toNat (gW p0 6))), (UInt8.ofNat (Int.toNat (gW p0 0)))] : Bs), [])))) (
       let x3 : Int := (bK .or .u32 240 (dV .u32 p0 18))
       chk ((decide (0 ≤ (12 : Int)) && decide ((12 : Int) ≤ 32))) (
        chk ((decide (0 ≤ (6 : Int)) && decide ((6 : Int) ≤ 32))) (
         chk ((decide (0 ≤ (0 : Int)) && decide ((0 : Int) ≤ 32))) (
          some (.str ([(UInt8.ofNat (Int.toNat (IntKind.wrap .u8 x3))), (UInt8.ofNat (Int.toNat (gW p0 12))), (UInt8.ofNat (Int.toNat (gW p0 6))), (UInt8.ofNat (Int.toNat (gW p0 0)))] : Bs), [])))))))) (
    cond (decide (1114111 < p0)) (
     chk ((decide ((65533 : Int) = 65533) && decide (0 < N))) (
      some (.str (vt 65533), []))) (
     cond (decide (p0 < 65536)) (
      let x4 : Int := (bK .or .u32 224 (dV .u32 p0 12))
      chk ((decide (0 ≤ (6 : Int)) && decide ((6 : Int) ≤ 32))) (
       chk ((decide (0 ≤ (0 : Int)) && decide ((0 : Int) ≤ 32))) (
        some (.str ([(UInt8.ofNat (Int.toNat (IntKind.wrap .u8 x4))), (UInt8.ofNat (Int.toNat (gW p0 6))), (UInt8.ofNat (Int.toNat (gW p0 0)))] : Bs), [])))) (
      let x5 : Int := (bK .or .u32 240 (dV .u32 p0 18))
      chk ((decide (0 ≤ (12 : Int)) && decide ((12 : Int) ≤ 32))) (
       chk ((decide (0 ≤ (6 : Int)) && decide ((6 : Int) ≤ 32))) (
        chk ((decide (0 ≤ (0 : Int)) && decide ((0 : Int) ≤ 32))) (
         some (.str ([(UInt8.ofNat (Int.toNat (IntKind.wrap .u8 x5))), (UInt8.ofNat (Int.toNat (gW p0 12))), (UInt8.ofNat (Int.toNat (gW p0 6))), (UInt8.ofNat (Int.toNat (gW p0 0)))] : Bs), [])))))))))
def uc (N : Nat) (p0 : Int) : Ro := akT N p0
theorem aya (N : Nat) (p0 : Int) : aE (wb N) N 58 akS akR [.int .u32 p0] [] = uc N p0 := by kernel_rfl
theorem akU (N : Nat) (hΓ : aS Try.prog (wb N)) (p0 : Int) {v : V} {hp : List an} (h : uc N p0 = some (v, hp)) : aj Try.prog rQ [.int .u32 p0] v := by
 have hc := ax9
 simp only [Bool.and_eq_true] at hc
 exact ⟨hp, dL hΓ (art N) Try.func150 auS hc.1 hc.2 (by decide) ((aya N p0).trans h)⟩
def ajc : Nat → List V → Option (Bool × V) := fun f vs => match f, vs with
 | 150, [.int .u32 a0] => some (true, .str (vt a0))
 | _, _ => none
def jP : au := (eI ajc)
theorem amq : bS jP [] := (bT _ _)
theorem aor (h_glyph_Put : ∀ (a0 : Int), aj Try.prog rQ [.int .u32 a0] (.str (vt a0))) : aS Try.prog jP := by
 intro f vs hp v hp' h0
 obtain ⟨h, he⟩ := cr h0
 subst he
 unfold ajc at h
 split at h
 ·simp only [Option.some.injEq, Prod.mk.injEq] at h
  obtain ⟨hc, rfl⟩ := h
  exact ((h_glyph_Put _).dim rfl).frame rfl rfl _
 ·simp at h
def aos : IR := .ret
def aot : IR := (.cond (.t 27) (.reg [Mv 31 4, Pp (.bin 32 .and (.t 31) (.c (.int .u8 7))), Pp (.cvi 33 .u32 (.t 32)), Mv 2 33, Pp (.mov 3 (.c (.int .i64 4)))] []) .skip)
def aou : IR := (.cond (.t 20) (.reg [Mv 24 4, Pp (.bin 25 .and (.t 24) (.c (.int .u8 15))), Pp (.cvi 26 .u32 (.t 25)), Mv 2 26, Pp (.mov 3 (.c (.int .i64 3)))] []) (.seq (.reg [Mv 28 4, Pp (.bin 29 .shr (.t 28) (.c (.int .u64 3))), Pp (.bin 30 .eql (.t 29) (.c (.int .u8 30))), Mv 27 30] []) aot))
def aov : IR := (.cond (.t 13) (.reg [Mv 17 4, Pp (.bin 18 .and (.t 17) (.c (.int .u8 31))), Pp (.cvi 19 .u32 (.t 18)), Mv 2 19, Pp (.mov 3 (.c (.int .i64 2)))] []) (.seq (.reg [Mv 21 4, Pp (.bin 22 .shr (.t 21) (.c (.int .u64 4))), Pp (.bin 23 .eql (.t 22) (.c (.int .u8 14))), Mv 20 23] []) aou))
def aow : IR := (.cond (.t 8) (.seq (.reg [Mv 11 4, Pp (.cvi 12 .u32 (.t 11)), Mv 2 12, Pp (.mov 3 (.c (.int .i64 1)))] []) aos) (.seq (.reg [Mv 14 4, Pp (.bin 15 .shr (.t 14) (.c (.int .u64 5))), Pp (.bin 16 .eql (.t 15) (.c (.int .u8 6))), Mv 13 16] []) aov))
def aox : IR := .ret
def aoy : IR := (.cond (.t 41) (.seq (.reg [Pp (.mov 2 (.c (.int .u32 0))), Pp (.mov 3 (.c (.int .i64 0)))] []) aox) .skip)
def aoz : IR := (.cond (.t 44) .skip (.exit 1))
def aoA : IR := (.reg [Mv 45 5, Bc 46 .add 45 1, Mv 5 46] [])
def aoB : IR := (.seq (.block 2 (.reg [Mv 47 2, Pp (.bin 48 .shl (.t 47) (.c (.int .u64 6))), Mv 49 0, Mv 50 5, Pp (.idx 51 (.t 49) (.t 50)), Pp (.bin 52 .and (.t 51) (.c (.int .u8 63))), Pp (.cvi 53 .u32 (.t 52)), Bi 54 .or 48 53, Mv 2 54] [])) aoA)
def xH : IR := (.seq (.seq (.reg [Mv 42 5, Mv 43 3, Bi 44 .lss 42 43] []) aoz) aoB)
def amr : IR := (.block 1 (.loop [0, 2, 3, 5, 1000000] 0 xH))
def ams : IR := .ret
def amt : IR := (.cond (.t 60) (.seq (.reg [Pp (.mov 2 (.c (.int .u32 0))), Pp (.mov 3 (.c (.int .i64 0)))] []) ams) .skip)
def amu : IR := .ret
def amv : IR := (.seq (.reg [Mv 61 2, Mv 62 3, Mv 2 61, Mv 3 62] []) amu)
def xI : IR := (.seq (.seq (.reg [Mv 55 2, Pp (.call (some 56) 150 [(.t 55)]), Mv 57 0, Mv 58 3, Pp (.subs 59 (.t 57) none (some (.t 58))), Bi 60 .neq 56 59] [[], [0], [], [], [2, 3], [0, 1, 2, 3, 4]]) amt) amv)
def amw : IR := (.seq (.seq (.reg [Pp (.mov 5 (.c (.int .i64 1)))] []) amr) xI)
def amx : IR := (.seq (.seq (.reg [Mv 34 3, Bc 35 .eql 34 0, Mv 36 35, Pg (36, false) (.mov 37 (.t 3)), Pg (36, false) (.mov 38 (.t 0)), Pg (36, false) (.lens 39 (.t 38)), Pg (36, false) (.bin 40 .gtr (.t 37) (.t 39)), Po 41 36 40] []) aoy) amw)
def amy : IR := (.seq (.block 0 (.seq (.reg [Mv 9 4, Pp (.bin 10 .lss (.t 9) (.c (.int .u8 128))), Mv 8 10] []) aow)) amx)
def amz : IR := (.seq (.reg [Mv 6 0, Pp (.idx 7 (.t 6) (.c (.int .i64 0))), Mv 4 7] []) amy)
def vv : IR := (.seq (.reg [Pp (.mov 2 (.c (.int .u32 0))), Pp (.mov 3 (.c (.int .i64 0)))] []) amz)
def qP : List RV := [.t 2, .t 3]
theorem arv : (aZ Try.prog [] 0 vv (Try.f121.body.getD .skip) && cQ Try.prog qP Try.f121.results.toList) = true := by kernel_rfl
theorem aoC : Try.f121.body = some (Try.f121.body.getD .skip) := by kernel_rfl
def arw (R : IR → (Ex → St → Ro) → St → Ro) (again0 : St → Ro) : Ex → St → Ro := (br again0 [0, 2, 3, 5, 1000000] 0 (aD 1 (bo (R xI) (fin qP))))
abbrev lJ : Type := (Bs × Int × Int × Int)
def kP (x : lJ) : St := { env := (.str x.1 :: .undef :: .int .u32 x.2.1 :: .int .i64 x.2.2.1 :: .undef :: .int .i64 x.2.2.2 :: (U 57 [])), hp := [] }
def ud (N : Nat) : (St → Ro) → St → Ro := fun again0 s => run jP N xH (arw (run jP N) again0) s
def cY (N : Nat) (again0 : lJ → Ro) (x : lJ) : Ro :=
 let v0 : Bs := x.1
 let v2 : Int := x.2.1
 let v3 : Int := x.2.2.1
 let v5 : Int := x.2.2.2
 cond (decide (v5 < v3)) (
  chk ((decide (0 ≤ v5) && decide (v5 < ↑(List.length v0)))) (
   let x4 : Int := (↑(UInt8.toNat (List.getD v0 (Int.toNat v5) 0)) : Int)
   let x5 : Int := (IntKind.wrap .u32 (bK .and .u8 x4 63))
   let x6 : Int := (bK .or .u32 (gT .u32 v2 6) x5)
   let x7 : Int := (IntKind.wrap .i64 (v5 + 1))
   again0 (v0, x6, v3, x7))) (
  chk ((decide (0 ≤ v3) && decide (v3 ≤ (↑(List.length v0) : Int)))) (
   let x8 : Bs := (List.drop 0 (List.take (Int.toNat v3) v0))
   let x9 : Bool := (!decide ((vt v2) = x8))
   cond x9 (
    some (.tup [.int .u32 0, .int .i64 0], [])) (
    some (.tup [.int .u32 v2, .int .i64 v3], []))))
theorem aoD (N : Nat) : ∀ (again0 : St → Ro) (x : lJ), ud N again0 (kP x) = cY N (fun y => again0 (kP y)) x := by
 intro again0 x
 kernel_rfl
def mM (N : Nat) (p0 : Bs) (q0 : lJ → Ro) : Ro :=
 chk (decide ((0 : Int) < ↑(List.length p0))) (
  let x1 : Int := (↑(UInt8.toNat (List.getD p0 (Int.toNat 0) 0)) : Int)
  cond (decide (x1 < 128)) (
   some (.tup [.int .u32 (IntKind.wrap .u32 x1), .int .i64 1], [])) (
   cond ((dV .u8 x1 5) == 6) (
    let x2 : Int := (IntKind.wrap .u32 (bK .and .u8 x1 31))
    cond (2 == 0) (
     some (.tup [.int .u32 0, .int .i64 0], [])) (
     let x3 : Int := (↑(List.length p0) : Int)
     cond (decide (x3 < 2)) (
      some (.tup [.int .u32 0, .int .i64 0], [])) (
      q0 (p0, x2, 2, 1)))) (
    cond ((dV .u8 x1 4) == 14) (
     let x10 : Int := (IntKind.wrap .u32 (bK .and .u8 x1 15))
     cond (3 == 0) (
      some (.tup [.int .u32 0, .int .i64 0], [])) (
      let x11 : Int := (↑(List.length p0) : Int)
      cond (decide (x11 < 3)) (
       some (.tup [.int .u32 0, .int .i64 0], [])) (
       q0 (p0, x10, 3, 1)))) (
     cond ((dV .u8 x1 3) == 30) (
      let x12 : Int := (IntKind.wrap .u32 (bK .and .u8 x1 7))
      cond (4 == 0) (
       some (.tup [.int .u32 0, .int .i64 0], [])) (
       let x13 : Int := (↑(List.length p0) : Int)
       cond (decide (x13 < 4)) (
        some (.tup [.int .u32 0, .int .i64 0], [])) (
        q0 (p0, x12, 4, 1)))) (
      cond (0 == 0) (
       some (.tup [.int .u32 0, .int .i64 0], [])) (
       let x14 : Int := (↑(List.length p0) : Int)
       cond (decide (x14 < 0)) (
        some (.tup [.int .u32 0, .int .i64 0], [])) (
        q0 (p0, 0, 0, 1))))))))
def qQ (N : Nat) (p0 : Bs) : Ro := mM N p0 (fun z => aB N (cY N) z)
def ayb (N : Nat) : List (Nat × (St → Ro)) := aI jP N vv (fin qP) ++ []
theorem arx (N : Nat) (p0 : Bs) : aE jP N 63 qP vv [.str p0] [] = qQ N p0 :=
 (bx (ayb N) (by kernel_rfl) rfl (fun C => mM N p0 (fun z => C 1000000 (kP z))) (fun C => by kernel_rfl)).trans (Eq.trans (b := mM N p0 (fun z => aW N (ud N) (kP z))) (by kernel_rfl) (congrArg (mM N p0) (funext fun z => aT (kP) (ud N) (cY N) (aoD N) N z)))
theorem auT (hΓ : aS Try.prog jP) (N : Nat) (p0 : Bs) {v : V} {hp : List an} (h : qQ N p0 = some (v, hp)) : aj Try.prog wV [.str p0] v := by
 have hc := arv
 simp only [Bool.and_eq_true] at hc
 exact ⟨hp, dL hΓ amq Try.func121 aoC hc.1 hc.2 (by decide) ((arx N p0).trans h)⟩
def ajd : Nat → List V → Option (Bool × V) := fun f vs => match f, vs with
 | 121, [.str a0] => some ((!decide (a0 = [])), .tup [.int .u32 ((dq a0).1), .int .i64 ((dq a0).2)])
 | _, _ => none
def jQ : au := (eI ajd)
theorem amA : bS jQ [] := (bT _ _)
theorem aoE (h_glyph_point : ∀ (a0 : Bs), (!decide (a0 = [])) = true → aj Try.prog wV [.str a0] (.tup [.int .u32 ((dq a0).1), .int .i64 ((dq a0).2)])) : aS Try.prog jQ := by
 intro f vs hp v hp' h0
 obtain ⟨h, he⟩ := cr h0
 subst he
 unfold ajd at h
 split at h
 ·simp only [Option.some.injEq, Prod.mk.injEq] at h
  obtain ⟨hc, rfl⟩ := h
  exact ((h_glyph_point _ hc).dim rfl).frame rfl rfl _
 ·simp at h
def aoF : IR := (.cond (.t 6) .skip (.exit 0))
def aoG : IR := .ret
def aoH : IR := (.cond (.t 13) (.seq (.reg [Pp (.mov 2 (.c (.bool false)))] []) aoG) .skip)
def aoI : IR := (.reg [Mv 14 0, Mv 15 4, Pp (.subs 16 (.t 14) (some (.t 15)) none), Mv 0 16] [])
def aoJ : IR := (.seq (.seq (.reg [Mv 12 4, Bc 13 .eql 12 0] []) aoH) aoI)
def aoK : IR := (.block 1 (.seq (.reg [Mv 8 0, Pp (.call (some 9) 121 [(.t 8)]), Mv 7 9, Ex_ 10 0 7, Ex_ 11 1 7, Mv 3 10, Mv 4 11] []) aoJ))
def yT : IR := (.seq (.seq (.reg [Mv 5 0, Pp (.bin 6 .neq (.t 5) (.c (.str ([] : Bs))))] []) aoF) aoK)
def aoL : IR := .ret
def yU : IR := (.seq (.reg [Pp (.mov 2 (.c (.bool true)))] []) aoL)
def aoM : IR := (.seq (.block 0 (.loop [0, 1000000] 0 yT)) yU)
def vw : IR := (.seq (.reg [Pp (.mov 2 (.c (.bool false)))] []) aoM)
def qR : List RV := [.t 2]
theorem ary : (aZ Try.prog [] 0 vw (Try.f80.body.getD .skip) && cQ Try.prog qR Try.f80.results.toList) = true := by kernel_rfl
theorem aoN : Try.f80.body = some (Try.f80.body.getD .skip) := by kernel_rfl
def arz (R : IR → (Ex → St → Ro) → St → Ro) (again0 : St → Ro) : Ex → St → Ro := (br again0 [0, 1000000] 0 (aD 0 (bo (R yU) (fin qR))))
abbrev lK : Type := (Bs)
def kQ (x : lK) : St := { env := (.str x :: (U 16 [])), hp := [] }
def uf (N : Nat) : (St → Ro) → St → Ro := fun again0 s => run jQ N yT (arz (run jQ N) again0) s
def lL (N : Nat) (again0 : lK → Ro) (x : lK) : Ro :=
 let v0 : Bs := x
 let x1 : Bool := (!decide (v0 = ([] : Bs)))
 cond x1 (
  chk ((!decide (v0 = []))) (
   cond (((dq v0).2) == 0) (
    some (.bool false, [])) (
    chk ((decide (0 ≤ ((dq v0).2)) && decide (((dq v0).2) ≤ (↑(List.length v0) : Int)))) (
     let x2 : Bs := (List.drop (Int.toNat ((dq v0).2)) (List.take (List.length v0) v0))
     again0 (x2))))) (
  some (.bool true, []))
theorem aoO (N : Nat) : ∀ (again0 : St → Ro) (x : lK), uf N again0 (kQ x) = lL N (fun y => again0 (kQ y)) x := by
 intro again0 x
 kernel_rfl
def qS (N : Nat) (p0 : Bs) (q0 : lK → Ro) : Ro :=
 q0 (p0)
def vx (N : Nat) (p0 : Bs) : Ro := qS N p0 (fun z => aB N (lL N) z)
def ayc (N : Nat) : List (Nat × (St → Ro)) := aI jQ N vw (fin qR) ++ []
theorem arA (N : Nat) (p0 : Bs) : aE jQ N 17 qR vw [.str p0] [] = vx N p0 :=
 (bx (ayc N) (by kernel_rfl) rfl (fun C => qS N p0 (fun z => C 1000000 (kQ z))) (fun C => by kernel_rfl)).trans (Eq.trans (b := qS N p0 (fun z => aW N (uf N) (kQ z))) (by kernel_rfl) (congrArg (qS N p0) (funext fun z => aT (kQ) (uf N) (lL N) (aoO N) N z)))
theorem auU (hΓ : aS Try.prog jQ) (N : Nat) (p0 : Bs) {v : V} {hp : List an} (h : vx N p0 = some (v, hp)) : aj Try.prog su [.str p0] v := by
 have hc := ary
 simp only [Bool.and_eq_true] at hc
 exact ⟨hp, dL hΓ amA Try.func80 aoN hc.1 hc.2 (by decide) ((arA N p0).trans h)⟩
def axU : Nat → List V → Option (Bool × V) := fun _ _ => none
def ac7 : au := (eI axU)
theorem ayd : bS ac7 [] := (bT _ _)
theorem az9  : aS Try.prog ac7 := by
 intro f vs hp v hp' h
 obtain ⟨h, -⟩ := cr h
 simp [axU] at h
def aAa : IR := .ret
def aAb : IR := (.seq (.reg [Mv 5 1, Bc 6 .geq 5 0, Mv 7 6, Pg (7, true) (.mov 8 (.t 1)), Pg (7, true) (.fad 9 0 (.t 2)), Pg (7, true) (.lde 10 1 false (.t 9)), Pg (7, true) (.lenl 11 (.t 10)), Pg (7, true) (.bin 12 .lss (.t 8) (.t 11)), Pa 13 7 12, Mv 4 13] []) aAa)
def arB : IR := (.seq (.reg [Pp (.boxe 2 (.t 0)), Pp (.mov 4 (.c (.bool false)))] []) aAb)
def arC : List RV := [.t 4]
theorem aBp : (aZ Try.prog [] 0 arB (Try.f49.body.getD .skip) && cQ Try.prog arC Try.f49.results.toList) = true := by kernel_rfl
theorem aAc : Try.f49.body = some (Try.f49.body.getD .skip) := by kernel_rfl
def arD (N : Nat) (p0_0 : List ac) (p1 : Int)  : Ro :=
 cond (decide (0 ≤ p1)) (
  let x1 : Int := (↑(List.length p0_0) : Int)
  some (.bool (decide (p1 < x1)), [])) (
  some (.bool false, []))
def yb (N : Nat) (p0_0 : List ac) (p1 : Int) : Ro := arD N p0_0 p1
theorem aBq (N : Nat) (p0_0 : List ac) (p1 : Int) : aE ac7 N 14 arC arB [.agg [.sl .atype (.may false) p0_0], .int .i64 p1] [] = yb N p0_0 p1 := by kernel_rfl
theorem aCz (hΓ : aS Try.prog ac7) (N : Nat) (p0_0 : List ac) (p1 : Int) {v : V} {hp : List an} (h : yb N p0_0 p1 = some (v, hp)) : aj Try.prog akP [.agg [.sl .atype (.may false) p0_0], .int .i64 p1] v := by
 have hc := aBp
 simp only [Bool.and_eq_true] at hc
 exact ⟨hp, dL hΓ ayd Try.func49 aAc hc.1 hc.2 (by decide) ((aBq N p0_0 p1).trans h)⟩
def anJ : Nat → List V → Option (Bool × V) := fun _ _ => none
def wc : au := (eI anJ)
theorem arE : bS wc [] := (bT _ _)
theorem auV  : aS Try.prog wc := by
 intro f vs hp v hp' h
 obtain ⟨h, -⟩ := cr h
 simp [anJ] at h
def auW : IR := .ret
def auX : IR := (.seq (.reg [Fa 3 0 1, Ld 4 1 false 3, Pp (.bin 5 .eql (.t 4) (.c (.int .u64 0))), Mv 6 5, Pg (6, true) (.fad 7 1 (.t 1)), Pg (6, true) (.lde 8 1 false (.t 7)), Pg (6, true) (.bin 9 .eql (.t 8) (.c (.str ([] : Bs)))), Pa 10 6 9, Mv 11 10, Pg (11, true) (.fad 12 2 (.t 1)), Pg (11, true) (.lde 13 1 false (.t 12)), Pg (11, true) (.lenl 14 (.t 13)), Pg (11, true) (.bin 15 .eql (.t 14) (.c (.int .i64 0))), Pa 16 11 15, Mv 17 16, Pg (17, true) (.fad 18 3 (.t 1)), Pg (17, true) (.lde 19 1 false (.t 18)), Pg (17, true) (.lenl 20 (.t 19)), Pg (17, true) (.bin 21 .eql (.t 20) (.c (.int .i64 0))), Pa 22 17 21, Mv 23 22, Pg (23, true) (.fad 24 4 (.t 1)), Pg (23, true) (.lde 25 1 false (.t 24)), Pg (23, true) (.bin 26 .eql (.t 25) (.c (.int .i64 0))), Pa 27 23 26, Mv 2 27] []) auW)
def akV : IR := (.seq (.reg [Pp (.boxe 1 (.t 0)), Pp (.mov 2 (.c (.bool false)))] []) auX)
def akW : List RV := [.t 2]
theorem aye : (aZ Try.prog [] 0 akV (Try.f55.body.getD .skip) && cQ Try.prog akW Try.f55.results.toList) = true := by kernel_rfl
theorem auY : Try.f55.body = some (Try.f55.body.getD .skip) := by kernel_rfl
def akX (N : Nat) (p0_0 : Int) (p0_1 : Bs) (p0_2 : List ab) (p0_3 : Bss) (p0_4 : Int)  : Ro :=
 cond (p0_0 == 0) (
  let x1 : Bool := decide (p0_1 = ([] : Bs))
  cond x1 (
   let x2 : Int := (↑(List.length p0_2) : Int)
   cond (x2 == 0) (
    let x3 : Int := (↑(List.length p0_3) : Int)
    cond (x3 == 0) (
     some (.bool (p0_4 == 0), [])) (
     some (.bool false, []))) (
    some (.bool false, []))) (
   some (.bool false, []))) (
  some (.bool false, []))
def ug (N : Nat) (p0_0 : Int) (p0_1 : Bs) (p0_2 : List ab) (p0_3 : Bss) (p0_4 : Int) : Ro := akX N p0_0 p0_1 p0_2 p0_3 p0_4
theorem ayf (N : Nat) (p0_0 : Int) (p0_1 : Bs) (p0_2 : List ab) (p0_3 : Bss) (p0_4 : Int) : aE wc N 28 akW akV [.agg [.int .u64 p0_0, .str p0_1, .sl .aval (.may false) p0_2, .sl .str (.may false) p0_3, .int .i64 p0_4]] [] = ug N p0_0 p0_1 p0_2 p0_3 p0_4 := by kernel_rfl
theorem aAd (hΓ : aS Try.prog wc) (N : Nat) (p0_0 : Int) (p0_1 : Bs) (p0_2 : List ab) (p0_3 : Bss) (p0_4 : Int) {v : V} {hp : List an} (h : ug N p0_0 p0_1 p0_2 p0_3 p0_4 = some (v, hp)) : aj Try.prog adw [.agg [.int .u64 p0_0, .str p0_1, .sl .aval (.may false) p0_2, .sl .str (.may false) p0_3, .int .i64 p0_4]] v := by
 have hc := aye
 simp only [Bool.and_eq_true] at hc
 exact ⟨hp, dL hΓ arE Try.func55 auY hc.1 hc.2 (by decide) ((ayf N p0_0 p0_1 p0_2 p0_3 p0_4).trans h)⟩
def aje : Nat → List V → Option (Bool × V) := fun _ _ => none
def sA : au := (eI aje)
theorem amB : bS sA [] := (bT _ _)
theorem aoP  : aS Try.prog sA := by
 intro f vs hp v hp' h
 obtain ⟨h, -⟩ := cr h
 simp [aje] at h
def aoQ : IR := .ret
def aoR : IR := .ret
def aoS : IR := .ret
def aoT : IR := .ret
def aoU : IR := (.cond (.t 25) (.seq (.reg [Mv 27 1, Fa 28 4 2, Ld 29 1 false 28, Pp (.lenl 30 (.t 29)), Pp (.cvi 31 .u64 (.t 30)), Bi 32 .lss 27 31, Mv 4 32] []) aoT) .skip)
def aoV : IR := (.cond (.t 20) (.seq (.reg [Mv 22 1, Pp (.bin 23 .shr (.t 22) (.c (.int .u64 32))), Pp (.bin 24 .eql (.t 23) (.c (.int .u64 0))), Mv 4 24] []) aoS) (.seq (.reg [Bc 26 .eql 6 10, Mv 25 26] []) aoU))
def aoW : IR := (.cond (.t 11) (.seq (.reg [Mv 13 1, Mv 14 1, Pp (.cvi 15 .u32 (.t 14)), Pp (.cvi 16 .i32 (.t 15)), Pp (.cvi 17 .i64 (.t 16)), Pp (.cvi 18 .u64 (.t 17)), Bi 19 .eql 13 18, Mv 4 19] []) aoR) (.seq (.reg [Bc 21 .eql 6 5, Mv 20 21] []) aoV))
def aoX : IR := (.cond (.t 7) (.seq (.reg [Mv 9 1, Pp (.bin 10 .leq (.t 9) (.c (.int .u64 1))), Mv 4 10] []) aoQ) (.seq (.reg [Bc 12 .eql 6 3, Mv 11 12] []) aoW))
def aoY : IR := (.block 0 (.seq (.reg [Bc 8 .eql 6 2, Mv 7 8] []) aoX))
def aoZ : IR := .ret
def amC : IR := (.seq (.reg [Pp (.mov 4 (.c (.bool true)))] []) aoZ)
def amD : IR := (.seq (.seq (.reg [Fa 5 0 2, Ld 6 1 false 5] []) aoY) amC)
def afC : IR := (.seq (.reg [Pp (.boxe 2 (.t 0)), Pp (.mov 4 (.c (.bool false)))] []) amD)
def afD : List RV := [.t 4]
theorem arF : (aZ Try.prog [] 0 afC (Try.f50.body.getD .skip) && cQ Try.prog afD Try.f50.results.toList) = true := by kernel_rfl
theorem ao0 : Try.f50.body = some (Try.f50.body.getD .skip) := by kernel_rfl
def afE (N : Nat) (p0_0 : Int) (p0_1 : Bs) (p0_2 : Bss) (p0_3 : Int) (p0_4 : Bss) (p0_5 : Bool) (p0_6 : Bs) (p0_7 : Int) (p0_8 : List ao) (p0_9 : List Int) (p1 : Int)  : Ro :=
 cond (p0_0 == 2) (
  some (.bool (decide (p1 ≤ 1)), [])) (
  cond (p0_0 == 3) (
   let x1 : Int := (IntKind.wrap .i32 (IntKind.wrap .u32 p1))
   let x2 : Int := (IntKind.wrap .u64 (IntKind.wrap .i64 x1))
   some (.bool (p1 == x2), [])) (
   cond (p0_0 == 5) (
    some (.bool ((dV .u64 p1 32) == 0), [])) (
    cond (p0_0 == 10) (
     let x3 : Int := (↑(List.length p0_4) : Int)
     let x4 : Bool := decide (p1 < (IntKind.wrap .u64 x3))
     some (.bool x4, [])) (
     some (.bool true, [])))))
def qT (N : Nat) (p0_0 : Int) (p0_1 : Bs) (p0_2 : Bss) (p0_3 : Int) (p0_4 : Bss) (p0_5 : Bool) (p0_6 : Bs) (p0_7 : Int) (p0_8 : List ao) (p0_9 : List Int) (p1 : Int) : Ro := afE N p0_0 p0_1 p0_2 p0_3 p0_4 p0_5 p0_6 p0_7 p0_8 p0_9 p1
theorem arG (N : Nat) (p0_0 : Int) (p0_1 : Bs) (p0_2 : Bss) (p0_3 : Int) (p0_4 : Bss) (p0_5 : Bool) (p0_6 : Bs) (p0_7 : Int) (p0_8 : List ao) (p0_9 : List Int) (p1 : Int) : aE sA N 33 afD afC [.agg [.int .i64 p0_0, .str p0_1, .sl .str (.may false) p0_2, .int .i64 p0_3, .sl .str (.may false) p0_4, .bool p0_5, .str p0_6, .int .i64 p0_7, .sl .afield (.may false) p0_8, .sl (.num .i64) (.may false) p0_9], .int .u64 p1] [] = qT N p0_0 p0_1 p0_2 p0_3 p0_4 p0_5 p0_6 p0_7 p0_8 p0_9 p1 := by kernel_rfl
theorem auZ (hΓ : aS Try.prog sA) (N : Nat) (p0_0 : Int) (p0_1 : Bs) (p0_2 : Bss) (p0_3 : Int) (p0_4 : Bss) (p0_5 : Bool) (p0_6 : Bs) (p0_7 : Int) (p0_8 : List ao) (p0_9 : List Int) (p1 : Int) {v : V} {hp : List an} (h : qT N p0_0 p0_1 p0_2 p0_3 p0_4 p0_5 p0_6 p0_7 p0_8 p0_9 p1 = some (v, hp)) : aj Try.prog wT [.agg [.int .i64 p0_0, .str p0_1, .sl .str (.may false) p0_2, .int .i64 p0_3, .sl .str (.may false) p0_4, .bool p0_5, .str p0_6, .int .i64 p0_7, .sl .afield (.may false) p0_8, .sl (.num .i64) (.may false) p0_9], .int .u64 p1] v := by
 have hc := arF
 simp only [Bool.and_eq_true] at hc
 exact ⟨hp, dL hΓ amB Try.func50 ao0 hc.1 hc.2 (by decide) ((arG N p0_0 p0_1 p0_2 p0_3 p0_4 p0_5 p0_6 p0_7 p0_8 p0_9 p1).trans h)⟩
def anK : Nat → List V → Option (Bool × V) := fun f vs => match f, vs with
 | 80, [.str a0] => some (true, .bool (el a0))
 | _, _ => none
def wd : au := (eI anK)
theorem arH : bS wd [] := (bT _ _)
theorem au0 (h_glyph_Valid : ∀ (a0 : Bs), aj Try.prog su [.str a0] (.bool (el a0))) : aS Try.prog wd := by
 intro f vs hp v hp' h0
 obtain ⟨h, he⟩ := cr h0
 subst he
 unfold anK at h
 split at h
 ·simp only [Option.some.injEq, Prod.mk.injEq] at h
  obtain ⟨hc, rfl⟩ := h
  exact ((h_glyph_Valid _).dim rfl).frame rfl rfl _
 ·simp at h
def au1 : IR := .ret
def au2 : IR := .ret
def au3 : IR := (.cond (.t 11) (.seq (.reg [Mv 13 1, Pp (.lens 14 (.t 13)), Fa 15 7 2, Ld 16 1 false 15, Bi 17 .eql 14 16, Mv 4 17] []) au2) .skip)
def au4 : IR := (.cond (.t 7) (.seq (.reg [Mv 9 1, Pp (.call (some 10) 80 [(.t 9)]), Mv 4 10] []) au1) (.seq (.reg [Bc 12 .eql 6 11, Mv 11 12] []) au3))
def au5 : IR := (.block 0 (.seq (.reg [Bc 8 .eql 6 8, Mv 7 8] []) au4))
def au6 : IR := .ret
def au7 : IR := (.seq (.reg [Pp (.mov 4 (.c (.bool true)))] []) au6)
def au8 : IR := (.seq (.seq (.reg [Fa 5 0 2, Ld 6 1 false 5] []) au5) au7)
def akY : IR := (.seq (.reg [Pp (.boxe 2 (.t 0)), Pp (.mov 4 (.c (.bool false)))] []) au8)
def akZ : List RV := [.t 4]
theorem ayg : (aZ Try.prog [] 0 akY (Try.f51.body.getD .skip) && cQ Try.prog akZ Try.f51.results.toList) = true := by kernel_rfl
theorem au9 : Try.f51.body = some (Try.f51.body.getD .skip) := by kernel_rfl
def ak0 (N : Nat) (p0_0 : Int) (p0_1 : Bs) (p0_2 : Bss) (p0_3 : Int) (p0_4 : Bss) (p0_5 : Bool) (p0_6 : Bs) (p0_7 : Int) (p0_8 : List ao) (p0_9 : List Int) (p1 : Bs)  : Ro :=
 cond (p0_0 == 8) (
  some (.bool (el p1), [])) (
  cond (p0_0 == 11) (
   let x1 : Int := (↑(List.length p1) : Int)
   some (.bool (x1 == p0_7), [])) (
   some (.bool true, [])))
def uh (N : Nat) (p0_0 : Int) (p0_1 : Bs) (p0_2 : Bss) (p0_3 : Int) (p0_4 : Bss) (p0_5 : Bool) (p0_6 : Bs) (p0_7 : Int) (p0_8 : List ao) (p0_9 : List Int) (p1 : Bs) : Ro := ak0 N p0_0 p0_1 p0_2 p0_3 p0_4 p0_5 p0_6 p0_7 p0_8 p0_9 p1
theorem ayh (N : Nat) (p0_0 : Int) (p0_1 : Bs) (p0_2 : Bss) (p0_3 : Int) (p0_4 : Bss) (p0_5 : Bool) (p0_6 : Bs) (p0_7 : Int) (p0_8 : List ao) (p0_9 : List Int) (p1 : Bs) : aE wd N 18 akZ akY [.agg [.int .i64 p0_0, .str p0_1, .sl .str (.may false) p0_2, .int .i64 p0_3, .sl .str (.may false) p0_4, .bool p0_5, .str p0_6, .int .i64 p0_7, .sl .afield (.may false) p0_8, .sl (.num .i64) (.may false) p0_9], .str p1] [] = uh N p0_0 p0_1 p0_2 p0_3 p0_4 p0_5 p0_6 p0_7 p0_8 p0_9 p1 := by kernel_rfl
theorem aAe (hΓ : aS Try.prog wd) (N : Nat) (p0_0 : Int) (p0_1 : Bs) (p0_2 : Bss) (p0_3 : Int) (p0_4 : Bss) (p0_5 : Bool) (p0_6 : Bs) (p0_7 : Int) (p0_8 : List ao) (p0_9 : List Int) (p1 : Bs) {v : V} {hp : List an} (h : uh N p0_0 p0_1 p0_2 p0_3 p0_4 p0_5 p0_6 p0_7 p0_8 p0_9 p1 = some (v, hp)) : aj Try.prog adz [.agg [.int .i64 p0_0, .str p0_1, .sl .str (.may false) p0_2, .int .i64 p0_3, .sl .str (.may false) p0_4, .bool p0_5, .str p0_6, .int .i64 p0_7, .sl .afield (.may false) p0_8, .sl (.num .i64) (.may false) p0_9], .str p1] v := by
 have hc := ayg
 simp only [Bool.and_eq_true] at hc
 exact ⟨hp, dL hΓ arH Try.func51 au9 hc.1 hc.2 (by decide) ((ayh N p0_0 p0_1 p0_2 p0_3 p0_4 p0_5 p0_6 p0_7 p0_8 p0_9 p1).trans h)⟩
def anL : Nat → List V → Option (Bool × V) := fun f vs => match f, vs with
 | 80, [.str a0] => some (true, .bool (el a0))
 | _, _ => none
def md : au := (eI anL)
theorem arI : bS md [] := (bT _ _)
theorem ava (h_glyph_Valid : ∀ (a0 : Bs), aj Try.prog su [.str a0] (.bool (el a0))) : aS Try.prog md := by
 intro f vs hp v hp' h0
 obtain ⟨h, he⟩ := cr h0
 subst he
 unfold anL at h
 split at h
 ·simp only [Option.some.injEq, Prod.mk.injEq] at h
  obtain ⟨hc, rfl⟩ := h
  exact ((h_glyph_Valid _).dim rfl).frame rfl rfl _
 ·simp at h
def avb : IR := .ret
def avc : IR := (.cond (.t 27) (.seq (.reg [Pp (.mov 2 (.c (.bool false)))] []) avb) .skip)
def avd : IR := (.seq (.reg [Mv 12 4, Pp (.call (some 13) 80 [(.t 12)]), Pp (.un 14 .not (.t 13)), Mv 15 14, Pg (15, false) (.mov 16 (.t 3)), Pg (15, false) (.bin 17 .gtr (.t 16) (.c (.int .i64 0))), Pg (15, false) (.mov 18 (.t 17)), Pg (18, true) (.mov 19 (.t 0)), Pg (18, true) (.mov 20 (.t 3)), Pg (18, true) (.bin 21 .sub (.t 20) (.c (.int .i64 1))), Pg (18, true) (.ixa 22 .str (.t 19) (.t 21)), Pg (18, true) (.lde 23 1 false (.t 22)), Pg (18, true) (.mov 24 (.t 4)), Pg (18, true) (.bin 25 .geq (.t 23) (.t 24)), Pg (15, false) (.pick 26 (.t 18) (.t 25) (.c (.bool false))), Po 27 15 26] []) avc)
def ave : IR := (.reg [Bc 28 .add 7 1, Mv 7 28] [])
def avf : IR := (.seq (.block 1 (.seq (.reg [Mv 9 7, Pp (.ixa 10 .str (.t 5) (.t 7)), Ld 11 1 false 10, Mv 3 9, Mv 4 11] []) avd)) ave)
def avg : IR := (.seq (.cond (.t 8) .skip (.exit 0)) avf)
def afF : IR := (.seq (.reg [Bi 8 .lss 7 6] []) avg)
def avh : IR := (.block 0 (.loop [0, 5, 6, 7, 1000000] 0 afF))
def avi : IR := .ret
def afG : IR := (.seq (.reg [Pp (.mov 2 (.c (.bool true)))] []) avi)
def arJ : IR := (.seq (.seq (.reg [Mv 5 0, Pp (.lenl 6 (.t 5)), Pp (.mov 7 (.c (.int .i64 0)))] []) avh) afG)
def yV : IR := (.seq (.reg [Pp (.mov 2 (.c (.bool false)))] []) arJ)
def ui : List RV := [.t 2]
theorem ayi : (aZ Try.prog [] 0 yV (Try.f53.body.getD .skip) && cQ Try.prog ui Try.f53.results.toList) = true := by kernel_rfl
theorem avj : Try.f53.body = some (Try.f53.body.getD .skip) := by kernel_rfl
def ayj (R : IR → (Ex → St → Ro) → St → Ro) (again0 : St → Ro) : Ex → St → Ro := (br again0 [0, 5, 6, 7, 1000000] 0 (aD 0 (bo (R afG) (fin ui))))
abbrev oD : Type := (Bss × Bss × Int × Int)
def mN (x : oD) : St := { env := (.sl .str (.may false) x.1 :: (U 4 (.sl .str (.may false) x.2.1 :: .int .i64 x.2.2.1 :: .int .i64 x.2.2.2 :: (U 21 [])))), hp := [] }
def wW (N : Nat) : (St → Ro) → St → Ro := fun again0 s => run md N afF (ayj (run md N) again0) s
def oE (N : Nat) (again0 : oD → Ro) (x : oD) : Ro :=
 let v0 : Bss := x.1
 let v5 : Bss := x.2.1
 let v6 : Int := x.2.2.1
 let v7 : Int := x.2.2.2
 cond (decide (v7 < v6)) (
  chk ((decide (0 ≤ v7) && decide (v7 < ↑(List.length v5)))) (
   let x2 : Bs := List.getD v5 (Int.toNat v7) (af .str)
   cond (!(el x2)) (
    some (.bool false, [])) (
    cond (decide (0 < v7)) (
     let x3 : Int := (IntKind.wrap .i64 (v7 - 1))
     chk ((decide (0 ≤ x3) && decide (x3 < ↑(List.length v0)))) (
      let x4 : Bs := List.getD v0 (Int.toNat x3) (af .str)
      cond (!Op.bytesLess x4 x2) (
       some (.bool false, [])) (
       let x5 : Int := (IntKind.wrap .i64 (v7 + 1))
       again0 (v0, v5, v6, x5)))) (
     let x6 : Int := (IntKind.wrap .i64 (v7 + 1))
     again0 (v0, v5, v6, x6))))) (
  some (.bool true, []))
theorem avk (N : Nat) : ∀ (again0 : St → Ro) (x : oD), wW N again0 (mN x) = oE N (fun y => again0 (mN y)) x := by
 intro again0 x
 kernel_rfl
def uj (N : Nat) (p0 : Bss) (q0 : oD → Ro) : Ro :=
 let x1 : Int := (↑(List.length p0) : Int)
 q0 (p0, p0, x1, 0)
def yW (N : Nat) (p0 : Bss) : Ro := uj N p0 (fun z => aB N (oE N) z)
def aBr (N : Nat) : List (Nat × (St → Ro)) := aI md N yV (fin ui) ++ []
theorem ayk (N : Nat) (p0 : Bss) : aE md N 29 ui yV [.sl .str (.may false) p0] [] = yW N p0 :=
 (bx (aBr N) (by kernel_rfl) rfl (fun C => uj N p0 (fun z => C 1000000 (mN z))) (fun C => by kernel_rfl)).trans (Eq.trans (b := uj N p0 (fun z => aW N (wW N) (mN z))) (by kernel_rfl) (congrArg (uj N p0) (funext fun z => aT (mN) (wW N) (oE N) (avk N) N z)))
theorem aAf (hΓ : aS Try.prog md) (N : Nat) (p0 : Bss) {v : V} {hp : List an} (h : yW N p0 = some (v, hp)) : aj Try.prog ady [.sl .str (.may false) p0] v := by
 have hc := ayi
 simp only [Bool.and_eq_true] at hc
 exact ⟨hp, dL hΓ arI Try.func53 avj hc.1 hc.2 (by decide) ((ayk N p0).trans h)⟩
def anM (N : Nat) : Nat → List V → Option (Bool × V) := fun f vs => match f, vs with
 | 81, [.sl .aval (.may _) a0, .fn 82 [.ea [.sl .atype (.may false) a1_0_0], .ea [.int .i64 a1_1_0]]] => some (decide (1000000 ≤ N - szL a0), .bool (!dI a1_0_0 a1_1_0 a0))
 | _, _ => none
def we (N : Nat) : au := (eI (anM N))
theorem arK (N : Nat) : bS (we N) [] := (bT _ _)
theorem avl (N : Nat) (h_slices_ContainsFunc_api_AVal_api_AVal_aval_each_c1 : ∀ (a0 : List ab) (a1_0_0 : List ac) (a1_1_0 : Int), (decide (1000000 ≤ N - szL a0)) = true → aj Try.prog bV [.sl .aval (.may false) a0, .fn 82 [.ea [.sl .atype (.may false) a1_0_0], .ea [.int .i64 a1_1_0]]] (.bool (!dI a1_0_0 a1_1_0 a0))) : aS Try.prog (we N) := by
 intro f vs hp v hp' h0
 obtain ⟨h, he⟩ := cr h0
 subst he
 unfold anM at h
 split at h
 ·simp only [Option.some.injEq, Prod.mk.injEq] at h
  obtain ⟨hc, rfl⟩ := h
  exact ((h_slices_ContainsFunc_api_AVal_api_AVal_aval_each_c1 _ _ _ hc).dim rfl).frame rfl rfl _
 ·simp at h
def avm : IR := .ret
def avn : IR := (.seq (.reg [Mv 7 2, Pp (.mkf 8 82 [(.t 3), (.t 4)]), Pp (.call (some 9) 81 [(.t 7), (.t 8)]), Pp (.un 10 .not (.t 9)), Mv 6 10] []) avm)
def ak1 : IR := (.seq (.reg [Pp (.boxe 3 (.t 0)), Pp (.boxe 4 (.t 1)), Pp (.mov 6 (.c (.bool false)))] []) avn)
def ak2 : List RV := [.t 6]
theorem ayl : (aZ Try.prog [] 0 ak1 (Try.f52.body.getD .skip) && cQ Try.prog ak2 Try.f52.results.toList) = true := by kernel_rfl
theorem avo : Try.f52.body = some (Try.f52.body.getD .skip) := by kernel_rfl
def ak3 (N : Nat) (p0_0 : List ac) (p1 : Int) (p2 : List ab)  : Ro :=
 chk (decide (1000000 ≤ N - szL p2)) (
  some (.bool (!(!dI p0_0 p1 p2)), []))
def uk (N : Nat) (p0_0 : List ac) (p1 : Int) (p2 : List ab) : Ro := ak3 N p0_0 p1 p2
theorem aym (N : Nat) (p0_0 : List ac) (p1 : Int) (p2 : List ab) : aE (we N) N 11 ak2 ak1 [.agg [.sl .atype (.may false) p0_0], .int .i64 p1, .sl .aval (.may false) p2] [] = uk N p0_0 p1 p2 := by kernel_rfl
theorem aAg (N : Nat) (hΓ : aS Try.prog (we N)) (p0_0 : List ac) (p1 : Int) (p2 : List ab) {v : V} {hp : List an} (h : uk N p0_0 p1 p2 = some (v, hp)) : aj Try.prog adx [.agg [.sl .atype (.may false) p0_0], .int .i64 p1, .sl .aval (.may false) p2] v := by
 have hc := ayl
 simp only [Bool.and_eq_true] at hc
 exact ⟨hp, dL hΓ (arK N) Try.func52 avo hc.1 hc.2 (by decide) ((aym N p0_0 p1 p2).trans h)⟩
def ajf (N : Nat) : Nat → List V → Option (Bool × V) := fun f vs => match f, vs with
 | 21, [.agg [.sl .atype (.may _) a0_0], .int .i64 a1, .agg [.int .u64 a2_0, .str a2_1, .sl .aval (.may _) a2_2, .sl .str (.may _) a2_3, .int .i64 a2_4]] => some (decide (1000000 ≤ N - (szL a2_2 + 1)), .bool (cn a0_0 a1 (.mk a2_0 a2_1 a2_2 a2_3 a2_4)))
 | _, _ => none
def jR (N : Nat) : au := (eI (ajf N))
theorem amE (N : Nat) : bS (jR N) [] := (bT _ _)
theorem ao1 (N : Nat) (h_aval_Fits : ∀ (a0_0 : List ac) (a1 : Int) (a2_0 : Int) (a2_1 : Bs) (a2_2 : List ab) (a2_3 : Bss) (a2_4 : Int), (decide (1000000 ≤ N - (szL a2_2 + 1))) = true → aj Try.prog mc [.agg [.sl .atype (.may false) a0_0], .int .i64 a1, .agg [.int .u64 a2_0, .str a2_1, .sl .aval (.may false) a2_2, .sl .str (.may false) a2_3, .int .i64 a2_4]] (.bool (cn a0_0 a1 (.mk a2_0 a2_1 a2_2 a2_3 a2_4)))) : aS Try.prog (jR N) := by
 intro f vs hp v hp' h0
 obtain ⟨h, he⟩ := cr h0
 subst he
 unfold ajf at h
 split at h
 ·simp only [Option.some.injEq, Prod.mk.injEq] at h
  obtain ⟨hc, rfl⟩ := h
  exact ((h_aval_Fits _ _ _ _ _ _ _ hc).dim rfl).frame rfl rfl _
 ·simp at h
def ao2 : IR := .ret
def ao3 : IR := (.cond (.t 14) (.seq (.reg [Pp (.mov 6 (.c (.bool false)))] []) ao2) .skip)
def ao4 : IR := .ret
def ao5 : IR := (.cond (.t 31) (.seq (.reg [Pp (.mov 6 (.c (.bool false)))] []) ao4) .skip)
def ao6 : IR := (.seq (.reg [Ld 23 1 true 3, Fa 24 2 8, Ld 25 1 false 24, Mv 26 2, Mv 27 7, Pp (.ixa 28 .aval (.t 26) (.t 27)), Ld 29 5 true 28, Pp (.call (some 30) 21 [(.t 23), (.t 25), (.t 29)]), Pp (.un 31 .not (.t 30))] [[], [], [1], [], [], [3, 4], [3, 4, 5], [0, 1, 2, 3, 4, 5, 6], [0, 1, 2, 3, 4, 5, 6, 7]]) ao5)
def ao7 : IR := (.reg [Bc 32 .add 18 1, Mv 18 32] [])
def ao8 : IR := (.seq (.block 1 (.seq (.reg [Mv 20 18, Pp (.ixa 21 .afield (.t 16) (.t 18)), Ld 22 9 true 21, Pp (.alr 8 9), Mv 7 20, Pp (.frz none 8 9 (.t 22))] []) ao6)) ao7)
def ao9 : IR := (.seq (.cond (.t 19) .skip (.exit 0)) ao8)
def yX : IR := (.seq (.reg [Bi 19 .lss 18 17] []) ao9)
def apa : IR := (.block 0 (.loop [2, 3, 16, 17, 18, 1000000] 0 yX))
def amF : IR := .ret
def xJ : IR := (.seq (.reg [Pp (.mov 6 (.c (.bool true)))] []) amF)
def amG : IR := (.seq (.seq (.reg [Fa 15 8 4, Ld 16 1 false 15, Pp (.lenl 17 (.t 16)), Pp (.mov 18 (.c (.int .i64 0)))] []) apa) xJ)
def amH : IR := (.seq (.seq (.reg [Mv 9 2, Pp (.lenl 10 (.t 9)), Fa 11 8 4, Ld 12 1 false 11, Pp (.lenl 13 (.t 12)), Bi 14 .neq 10 13] []) ao3) amG)
def vy : IR := (.seq (.reg [Pp (.boxe 3 (.t 0)), Pp (.boxe 4 (.t 1)), Pp (.mov 6 (.c (.bool false)))] []) amH)
def qU : List RV := [.t 6]
theorem arL : (aZ Try.prog [] 0 vy (Try.f54.body.getD .skip) && cQ Try.prog qU Try.f54.results.toList) = true := by kernel_rfl
theorem apb : Try.f54.body = some (Try.f54.body.getD .skip) := by kernel_rfl
def arM (R : IR → (Ex → St → Ro) → St → Ro) (again0 : St → Ro) : Ex → St → Ro := (br again0 [2, 3, 16, 17, 18, 1000000] 0 (aD 0 (bo (R xJ) (fin qU))))
abbrev lM : Type := (List ab × List ac × List ao × Int × Int)
def kR (x : lM) : St := { env := (.undef :: .undef :: .sl .aval (.may false) x.1 :: .ea [.sl .atype (.may false) x.2.1] :: (U 12 (.sl .afield (.may false) x.2.2.1 :: .int .i64 x.2.2.2.1 :: .int .i64 x.2.2.2.2 :: (U 14 [])))), hp := [] }
def um (N : Nat) : (St → Ro) → St → Ro := fun again0 s => run (jR N) N yX (arM (run (jR N) N) again0) s
def pz (N : Nat) (again0 : lM → Ro) (x : lM) : Ro :=
 let v2 : List ab := x.1
 let v3_0 : List ac := x.2.1
 let v16 : List ao := x.2.2.1
 let v17 : Int := x.2.2.2.1
 let v18 : Int := x.2.2.2.2
 cond (decide (v18 < v17)) (
  chk ((decide (0 ≤ v18) && decide (v18 < ↑(List.length v16)))) (
   let x4 : Bs := (List.getD v16 (Int.toNat v18) (af .afield)).name
   let x5 : Bss := (List.getD v16 (Int.toNat v18) (af .afield)).aliases
   let x6 : Int := (List.getD v16 (Int.toNat v18) (af .afield)).typ
   let x7 : Bool := (List.getD v16 (Int.toNat v18) (af .afield)).hasdef
   let x8 : Int := (List.getD v16 (Int.toNat v18) (af .afield)).df.kind
   let x9 : Int := (List.getD v16 (Int.toNat v18) (af .afield)).df.n
   let x10 : Bs := (List.getD v16 (Int.toNat v18) (af .afield)).df.s
   let x11 : List ae := (List.getD v16 (Int.toNat v18) (af .afield)).df.l
   let x12 : Bss := (List.getD v16 (Int.toNat v18) (af .afield)).df.names
   chk ((decide (0 ≤ v18) && decide (v18 < ↑(List.length v2)))) (
    let x13 : Int := (List.getD v2 (Int.toNat v18) (af .aval)).n
    let x14 : Bs := (List.getD v2 (Int.toNat v18) (af .aval)).s
    let x15 : List ab := (List.getD v2 (Int.toNat v18) (af .aval)).l
    let x16 : Bss := (List.getD v2 (Int.toNat v18) (af .aval)).keys
    let x17 : Int := (List.getD v2 (Int.toNat v18) (af .aval)).branch
    chk (decide (1000000 ≤ N - (szL x15 + 1))) (
     let x18 : Bool := (cn v3_0 x6 (.mk x13 x14 x15 x16 x17))
     cond (!x18) (
      some (.bool false, [])) (
      let x19 : Int := (IntKind.wrap .i64 (v18 + 1))
      again0 (v2, v3_0, v16, v17, x19)))))) (
  some (.bool true, []))
theorem apc (N : Nat) : ∀ (again0 : St → Ro) (x : lM), um N again0 (kR x) = pz N (fun y => again0 (kR y)) x := by
 intro again0 x
 kernel_rfl
def mO (N : Nat) (p0_0 : List ac) (p1_0 : Int) (p1_1 : Bs) (p1_2 : Bss) (p1_3 : Int) (p1_4 : Bss) (p1_5 : Bool) (p1_6 : Bs) (p1_7 : Int) (p1_8 : List ao) (p1_9 : List Int) (p2 : List ab) (q0 : lM → Ro) : Ro :=
 let x1 : Int := (↑(List.length p2) : Int)
 let x2 : Int := (↑(List.length p1_8) : Int)
 cond (!(x1 == x2)) (
  some (.bool false, [])) (
  let x3 : Int := (↑(List.length p1_8) : Int)
  q0 (p2, p0_0, p1_8, x3, 0))
def qV (N : Nat) (p0_0 : List ac) (p1_0 : Int) (p1_1 : Bs) (p1_2 : Bss) (p1_3 : Int) (p1_4 : Bss) (p1_5 : Bool) (p1_6 : Bs) (p1_7 : Int) (p1_8 : List ao) (p1_9 : List Int) (p2 : List ab) : Ro := mO N p0_0 p1_0 p1_1 p1_2 p1_3 p1_4 p1_5 p1_6 p1_7 p1_8 p1_9 p2 (fun z => aB N (pz N) z)
def ayn (N : Nat) : List (Nat × (St → Ro)) := aI (jR N) N vy (fin qU) ++ []
theorem arN (N : Nat) (p0_0 : List ac) (p1_0 : Int) (p1_1 : Bs) (p1_2 : Bss) (p1_3 : Int) (p1_4 : Bss) (p1_5 : Bool) (p1_6 : Bs) (p1_7 : Int) (p1_8 : List ao) (p1_9 : List Int) (p2 : List ab) : aE (jR N) N 33 qU vy [.agg [.sl .atype (.may false) p0_0], .agg [.int .i64 p1_0, .str p1_1, .sl .str (.may false) p1_2, .int .i64 p1_3, .sl .str (.may false) p1_4, .bool p1_5, .str p1_6, .int .i64 p1_7, .sl .afield (.may false) p1_8, .sl (.num .i64) (.may false) p1_9], .sl .aval (.may false) p2] [] = qV N p0_0 p1_0 p1_1 p1_2 p1_3 p1_4 p1_5 p1_6 p1_7 p1_8 p1_9 p2 :=
 (bx (ayn N) (by kernel_rfl) rfl (fun C => mO N p0_0 p1_0 p1_1 p1_2 p1_3 p1_4 p1_5 p1_6 p1_7 p1_8 p1_9 p2 (fun z => C 1000000 (kR z))) (fun C => by kernel_rfl)).trans (Eq.trans (b := mO N p0_0 p1_0 p1_1 p1_2 p1_3 p1_4 p1_5 p1_6 p1_7 p1_8 p1_9 p2 (fun z => aW N (um N) (kR z))) (by kernel_rfl) (congrArg (mO N p0_0 p1_0 p1_1 p1_2 p1_3 p1_4 p1_5 p1_6 p1_7 p1_8 p1_9 p2) (funext fun z => aT (kR) (um N) (pz N) (apc N) N z)))
theorem avp (N : Nat) (hΓ : aS Try.prog (jR N)) (p0_0 : List ac) (p1_0 : Int) (p1_1 : Bs) (p1_2 : Bss) (p1_3 : Int) (p1_4 : Bss) (p1_5 : Bool) (p1_6 : Bs) (p1_7 : Int) (p1_8 : List ao) (p1_9 : List Int) (p2 : List ab) {v : V} {hp : List an} (h : qV N p0_0 p1_0 p1_1 p1_2 p1_3 p1_4 p1_5 p1_6 p1_7 p1_8 p1_9 p2 = some (v, hp)) : aj Try.prog wU [.agg [.sl .atype (.may false) p0_0], .agg [.int .i64 p1_0, .str p1_1, .sl .str (.may false) p1_2, .int .i64 p1_3, .sl .str (.may false) p1_4, .bool p1_5, .str p1_6, .int .i64 p1_7, .sl .afield (.may false) p1_8, .sl (.num .i64) (.may false) p1_9], .sl .aval (.may false) p2] v := by
 have hc := arL
 simp only [Bool.and_eq_true] at hc
 exact ⟨hp, dL hΓ (amE N) Try.func54 apb hc.1 hc.2 (by decide) ((arN N p0_0 p1_0 p1_1 p1_2 p1_3 p1_4 p1_5 p1_6 p1_7 p1_8 p1_9 p2).trans h)⟩
def afH (N : Nat) : Nat → List V → Option (Bool × V) := fun f vs => match f, vs with
 | 21, [.agg [.sl .atype (.may _) a0_0], .int .i64 a1, .agg [.int .u64 a2_0, .str a2_1, .sl .aval (.may _) a2_2, .sl .str (.may _) a2_3, .int .i64 a2_4]] => some (decide (1000000 ≤ N - (szL a2_2 + 1)), .bool (cn a0_0 a1 (.mk a2_0 a2_1 a2_2 a2_3 a2_4)))
 | _, _ => none
def qW (N : Nat) : au := (eI (afH N))
theorem ak4 (N : Nat) : bS (qW N) [] := (bT _ _)
theorem amI (N : Nat) (h_aval_Fits : ∀ (a0_0 : List ac) (a1 : Int) (a2_0 : Int) (a2_1 : Bs) (a2_2 : List ab) (a2_3 : Bss) (a2_4 : Int), (decide (1000000 ≤ N - (szL a2_2 + 1))) = true → aj Try.prog mc [.agg [.sl .atype (.may false) a0_0], .int .i64 a1, .agg [.int .u64 a2_0, .str a2_1, .sl .aval (.may false) a2_2, .sl .str (.may false) a2_3, .int .i64 a2_4]] (.bool (cn a0_0 a1 (.mk a2_0 a2_1 a2_2 a2_3 a2_4)))) : aS Try.prog (qW N) := by
 intro f vs hp v hp' h0
 obtain ⟨h, he⟩ := cr h0
 subst he
 unfold afH at h
 split at h
 ·simp only [Option.some.injEq, Prod.mk.injEq] at h
  obtain ⟨hc, rfl⟩ := h
  exact ((h_aval_Fits _ _ _ _ _ _ _ hc).dim rfl).frame rfl rfl _
 ·simp at h
def amJ : IR := .ret
def amK : IR := (.seq (.reg [Ld 5 1 true 1, Ld 6 1 false 2, Ld 7 5 true 3, Pp (.call (some 8) 21 [(.t 5), (.t 6), (.t 7)]), Pp (.un 9 .not (.t 8)), Mv 4 9] []) amJ)
def ac8 : IR := (.seq (.reg [Pp (.boxe 3 (.t 0)), Pp (.mov 4 (.c (.bool false)))] []) amK)
def ac9 : List RV := [.t 4]
theorem apd : (aZ Try.prog [] 0 ac8 (Try.f82.body.getD .skip) && cQ Try.prog ac9 Try.f82.results.toList) = true := by kernel_rfl
theorem amL : Try.f82.body = some (Try.f82.body.getD .skip) := by kernel_rfl
def ada (N : Nat) (p0_0 : Int) (p0_1 : Bs) (p0_2 : List ab) (p0_3 : Bss) (p0_4 : Int) (pc0_0 : List ac) (pc1_0 : Int)  : Ro :=
 chk (decide (1000000 ≤ N - (szL p0_2 + 1))) (
  let x1 : Bool := (cn pc0_0 pc1_0 (.mk p0_0 p0_1 p0_2 p0_3 p0_4))
  some (.bool (!x1), []))
def pA (N : Nat) (p0_0 : Int) (p0_1 : Bs) (p0_2 : List ab) (p0_3 : Bss) (p0_4 : Int) (pc0_0 : List ac) (pc1_0 : Int) : Ro := ada N p0_0 p0_1 p0_2 p0_3 p0_4 pc0_0 pc1_0
theorem ape (N : Nat) (p0_0 : Int) (p0_1 : Bs) (p0_2 : List ab) (p0_3 : Bss) (p0_4 : Int) (pc0_0 : List ac) (pc1_0 : Int) : aE (qW N) N 10 ac9 ac8 [.agg [.int .u64 p0_0, .str p0_1, .sl .aval (.may false) p0_2, .sl .str (.may false) p0_3, .int .i64 p0_4], .ea [.sl .atype (.may false) pc0_0], .ea [.int .i64 pc1_0]] [] = pA N p0_0 p0_1 p0_2 p0_3 p0_4 pc0_0 pc1_0 := by kernel_rfl
theorem arO (N : Nat) (hΓ : aS Try.prog (qW N)) (p0_0 : Int) (p0_1 : Bs) (p0_2 : List ab) (p0_3 : Bss) (p0_4 : Int) (pc0_0 : List ac) (pc1_0 : Int) {v : V} {hp : List an} (h : pA N p0_0 p0_1 p0_2 p0_3 p0_4 pc0_0 pc1_0 = some (v, hp)) : aj Try.prog mL [.agg [.int .u64 p0_0, .str p0_1, .sl .aval (.may false) p0_2, .sl .str (.may false) p0_3, .int .i64 p0_4], .ea [.sl .atype (.may false) pc0_0], .ea [.int .i64 pc1_0]] v := by
 have hc := apd
 simp only [Bool.and_eq_true] at hc
 exact ⟨hp, dL hΓ (ak4 N) Try.func82 amL hc.1 hc.2 (by decide) ((ape N p0_0 p0_1 p0_2 p0_3 p0_4 pc0_0 pc1_0).trans h)⟩
def dr (N : Nat) : Nat → List V → Option (Bool × V) := fun f vs => match f, vs with
 | 122, [.sl .aval (.may _) a0, .fn 82 [.ea [.sl .atype (.may false) a1_0_0], .ea [.int .i64 a1_1_0]]] => some (decide (1000000 ≤ N - szL a0), .int .i64 (vu a1_0_0 a1_1_0 a0 0))
 | _, _ => none
def bu (N : Nat) : au := (eI (dr N))
theorem iD (N : Nat) : bS (bu N) [] := (bT _ _)
theorem iL (N : Nat) (h_slices_IndexFunc_api_AVal_api_AVal_aval_each_c1 : ∀ (a0 : List ab) (a1_0_0 : List ac) (a1_1_0 : Int), (decide (1000000 ≤ N - szL a0)) = true → aj Try.prog cg [.sl .aval (.may false) a0, .fn 82 [.ea [.sl .atype (.may false) a1_0_0], .ea [.int .i64 a1_1_0]]] (.int .i64 (vu a1_0_0 a1_1_0 a0 0))) : aS Try.prog (bu N) := by
 intro f vs hp v hp' h0
 obtain ⟨h, he⟩ := cr h0
 subst he
 unfold dr at h
 split at h
 ·simp only [Option.some.injEq, Prod.mk.injEq] at h
  obtain ⟨hc, rfl⟩ := h
  exact ((h_slices_IndexFunc_api_AVal_api_AVal_aval_each_c1 _ _ _ hc).dim rfl).frame rfl rfl _
 ·simp at h
def iM : IR := .ret
def iN : IR := (.seq (.reg [Mv 5 0, Mv 6 1, Pp (.call (some 7) 122 [(.t 5), (.t 6)]), Bc 8 .geq 7 0, Mv 4 8] []) iM)
def dk : IR := (.seq (.reg [Pp (.mov 4 (.c (.bool false)))] []) iN)
def dl : List RV := [.t 4]
theorem jm : (aZ Try.prog [] 0 dk (Try.f81.body.getD .skip) && cQ Try.prog dl Try.f81.results.toList) = true := by kernel_rfl
theorem iO : Try.f81.body = some (Try.f81.body.getD .skip) := by kernel_rfl
def dm (N : Nat) (p0 : List ab) (p1_0_0 : List ac) (p1_1_0 : Int)  : Ro :=
 chk (decide (1000000 ≤ N - szL p0)) (
  let x1 : Int := (vu p1_0_0 p1_1_0 p0 0)
  some (.bool (decide (0 ≤ x1)), []))
def bp (N : Nat) (p0 : List ab) (p1_0_0 : List ac) (p1_1_0 : Int) : Ro := dm N p0 p1_0_0 p1_1_0
theorem jn (N : Nat) (p0 : List ab) (p1_0_0 : List ac) (p1_1_0 : Int) : aE (bu N) N 9 dl dk [.sl .aval (.may false) p0, .fn 82 [.ea [.sl .atype (.may false) p1_0_0], .ea [.int .i64 p1_1_0]]] [] = bp N p0 p1_0_0 p1_1_0 := by kernel_rfl
theorem jt (N : Nat) (hΓ : aS Try.prog (bu N)) (p0 : List ab) (p1_0_0 : List ac) (p1_1_0 : Int) {v : V} {hp : List an} (h : bp N p0 p1_0_0 p1_1_0 = some (v, hp)) : aj Try.prog bV [.sl .aval (.may false) p0, .fn 82 [.ea [.sl .atype (.may false) p1_0_0], .ea [.int .i64 p1_1_0]]] v := by
 have hc := jm
 simp only [Bool.and_eq_true] at hc
 exact ⟨hp, dL hΓ (iD N) Try.func81 iO hc.1 hc.2 (by decide) ((jn N p0 p1_0_0 p1_1_0).trans h)⟩
def dN (N : Nat) : Nat → List V → Option (Bool × V) := fun f vs => match f, vs with
 | 82, [.agg [.int .u64 a0_0, .str a0_1, .sl .aval (.may _) a0_2, .sl .str (.may _) a0_3, .int .i64 a0_4], .ea [.sl .atype (.may false) ac0_0], .ea [.int .i64 ac1_0]] => some (decide (1000000 ≤ N - (szL a0_2 + 1)), .bool (!cn ac0_0 ac1_0 (.mk a0_0 a0_1 a0_2 a0_3 a0_4)))
 | _, _ => none
def aM (N : Nat) : au := (eI (dN N))
theorem ju (N : Nat) : bS (aM N) [] := (bT _ _)
theorem jS (N : Nat) (h_aval_each_c1 : ∀ (a0_0 : Int) (a0_1 : Bs) (a0_2 : List ab) (a0_3 : Bss) (a0_4 : Int) (ac0_0 : List ac) (ac1_0 : Int), (decide (1000000 ≤ N - (szL a0_2 + 1))) = true → aj Try.prog mL [.agg [.int .u64 a0_0, .str a0_1, .sl .aval (.may false) a0_2, .sl .str (.may false) a0_3, .int .i64 a0_4], .ea [.sl .atype (.may false) ac0_0], .ea [.int .i64 ac1_0]] (.bool (!cn ac0_0 ac1_0 (.mk a0_0 a0_1 a0_2 a0_3 a0_4)))) : aS Try.prog (aM N) := by
 intro f vs hp v hp' h0
 obtain ⟨h, he⟩ := cr h0
 subst he
 unfold dN at h
 split at h
 ·simp only [Option.some.injEq, Prod.mk.injEq] at h
  obtain ⟨hc, rfl⟩ := h
  exact ((h_aval_each_c1 _ _ _ _ _ _ _ hc).dim rfl).frame rfl rfl _
 ·simp at h
def jT : IR := .ret
def jU : IR := (.cond (.t 16) (.seq (.reg [Mv 17 5, Mv 4 17] []) jT) .skip)
def jV : IR := (.seq (.reg [Mv 11 1, Mv 12 0, Mv 13 5, Pp (.ixa 14 .aval (.t 12) (.t 13)), Ld 15 5 true 14, Pp (.dcall (some 16) 82 (.t 11) [(.t 15)])] []) jU)
def jW : IR := (.reg [Bc 18 .add 8 1, Mv 8 18] [])
def jX : IR := (.seq (.block 1 (.seq (.reg [Mv 10 8, Mv 5 10] []) jV)) jW)
def jY : IR := (.seq (.cond (.t 9) .skip (.exit 0)) jX)
def du : IR := (.seq (.reg [Bi 9 .lss 8 7] []) jY)
def jZ : IR := (.block 0 (.loop [0, 1, 7, 8, 1000000] 0 du))
def j0 : IR := .ret
def dv : IR := (.seq (.reg [Pp (.mov 4 (.c (.int .i64 (-1))))] []) j0)
def jv : IR := (.seq (.seq (.reg [Mv 6 0, Pp (.lenl 7 (.t 6)), Pp (.mov 8 (.c (.int .i64 0)))] []) jZ) dv)
def b9 : IR := (.seq (.reg [Pp (.mov 4 (.c (.int .i64 0)))] []) jv)
def bD : List RV := [.t 4]
theorem j9 : (aZ Try.prog [] 0 b9 (Try.f122.body.getD .skip) && cQ Try.prog bD Try.f122.results.toList) = true := by kernel_rfl
theorem j6 : Try.f122.body = some (Try.f122.body.getD .skip) := by kernel_rfl
def ka (R : IR → (Ex → St → Ro) → St → Ro) (again0 : St → Ro) : Ex → St → Ro := (br again0 [0, 1, 7, 8, 1000000] 0 (aD 0 (bo (R dv) (fin bD))))
abbrev bg : Type := (List ab × List ac × Int × Int × Int)
def bc (x : bg) : St := { env := (.sl .aval (.may false) x.1 :: .fn 82 [.ea [.sl .atype (.may false) x.2.1], .ea [.int .i64 x.2.2.1]] :: (U 5 (.int .i64 x.2.2.2.1 :: .int .i64 x.2.2.2.2 :: (U 10 [])))), hp := [] }
def b6 (N : Nat) : (St → Ro) → St → Ro := fun again0 s => run (aM N) N du (ka (run (aM N) N) again0) s
def bh (N : Nat) (again0 : bg → Ro) (x : bg) : Ro :=
 let v0 : List ab := x.1
 let v1_0_0 : List ac := x.2.1
 let v1_1_0 : Int := x.2.2.1
 let v7 : Int := x.2.2.2.1
 let v8 : Int := x.2.2.2.2
 cond (decide (v8 < v7)) (
  chk ((decide (0 ≤ v8) && decide (v8 < ↑(List.length v0)))) (
   let x2 : Int := (List.getD v0 (Int.toNat v8) (af .aval)).n
   let x3 : Bs := (List.getD v0 (Int.toNat v8) (af .aval)).s
   let x4 : List ab := (List.getD v0 (Int.toNat v8) (af .aval)).l
   let x5 : Bss := (List.getD v0 (Int.toNat v8) (af .aval)).keys
   let x6 : Int := (List.getD v0 (Int.toNat v8) (af .aval)).branch
   chk (decide (1000000 ≤ N - (szL x4 + 1))) (
    let x7 : Bool := (!cn v1_0_0 v1_1_0 (.mk x2 x3 x4 x5 x6))
    cond x7 (
     some (.int .i64 v8, [])) (
     let x8 : Int := (IntKind.wrap .i64 (v8 + 1))
     again0 (v0, v1_0_0, v1_1_0, v7, x8))))) (
  some (.int .i64 (-1), []))
theorem j7 (N : Nat) : ∀ (again0 : St → Ro) (x : bg), b6 N again0 (bc x) = bh N (fun y => again0 (bc y)) x := by
 intro again0 x
 kernel_rfl
def bE (N : Nat) (p0 : List ab) (p1_0_0 : List ac) (p1_1_0 : Int) (q0 : bg → Ro) : Ro :=
 let x1 : Int := (↑(List.length p0) : Int)
 q0 (p0, p1_0_0, p1_1_0, x1, 0)
def ca (N : Nat) (p0 : List ab) (p1_0_0 : List ac) (p1_1_0 : Int) : Ro := bE N p0 p1_0_0 p1_1_0 (fun z => aB N (bh N) z)
def kJ (N : Nat) : List (Nat × (St → Ro)) := aI (aM N) N b9 (fin bD) ++ []
theorem kb (N : Nat) (p0 : List ab) (p1_0_0 : List ac) (p1_1_0 : Int) : aE (aM N) N 19 bD b9 [.sl .aval (.may false) p0, .fn 82 [.ea [.sl .atype (.may false) p1_0_0], .ea [.int .i64 p1_1_0]]] [] = ca N p0 p1_0_0 p1_1_0 :=
 (bx (kJ N) (by kernel_rfl) rfl (fun C => bE N p0 p1_0_0 p1_1_0 (fun z => C 1000000 (bc z))) (fun C => by kernel_rfl)).trans (Eq.trans (b := bE N p0 p1_0_0 p1_1_0 (fun z => aW N (b6 N) (bc z))) (by kernel_rfl) (congrArg (bE N p0 p1_0_0 p1_1_0) (funext fun z => aT (bc) (b6 N) (bh N) (j7 N) N z)))
theorem kj (N : Nat) (hΓ : aS Try.prog (aM N)) (p0 : List ab) (p1_0_0 : List ac) (p1_1_0 : Int) {v : V} {hp : List an} (h : ca N p0 p1_0_0 p1_1_0 = some (v, hp)) : aj Try.prog cg [.sl .aval (.may false) p0, .fn 82 [.ea [.sl .atype (.may false) p1_0_0], .ea [.int .i64 p1_1_0]]] v := by
 have hc := j9
 simp only [Bool.and_eq_true] at hc
 exact ⟨hp, dL hΓ (ju N) Try.func122 j6 hc.1 hc.2 (by decide) ((kb N p0 p1_0_0 p1_1_0).trans h)⟩
def mP : Nat → List V → Option (Bool × V) := fun _ _ => none
def bN : au := (eI mP)
theorem tc : bS bN [] := (bT _ _)
theorem tG  : aS Try.prog bN := by
 intro f vs hp v hp' h
 obtain ⟨h, -⟩ := cr h
 simp [mP] at h
def tH : IR := .ret
def tI : IR := (.cond (.t 10) (.seq (.reg [Pp (.mov 4 (.c (.bool false)))] []) tH) .skip)
def tJ : IR := .ret
def tK : IR := (.cond (.t 24) (.seq (.reg [Pp (.mov 4 (.c (.bool false)))] []) tJ) .skip)
def tL : IR := (.seq (.reg [Mv 16 0, Mv 17 5, Pp (.ixa 18 .str (.t 16) (.t 17)), Ld 19 1 false 18, Mv 20 1, Mv 21 5, Pp (.ixa 22 .str (.t 20) (.t 21)), Ld 23 1 false 22, Bi 24 .neq 19 23] [[], [], [0, 1], [0, 1, 2], [], [], [4, 5], [4, 5, 6], [0, 1, 2, 3, 4, 5, 6, 7]]) tK)
def tM : IR := (.reg [Bc 25 .add 13 1, Mv 13 25] [])
def tN : IR := (.seq (.block 1 (.seq (.reg [Mv 15 13, Mv 5 15] []) tL)) tM)
def tO : IR := (.seq (.cond (.t 14) .skip (.exit 0)) tN)
def lr : IR := (.seq (.reg [Bi 14 .lss 13 12] []) tO)
def tP : IR := (.block 0 (.loop [0, 1, 12, 13, 1000000] 0 lr))
def td : IR := .ret
def kS : IR := (.seq (.reg [Pp (.mov 4 (.c (.bool true)))] []) td)
def te : IR := (.seq (.seq (.reg [Mv 11 0, Pp (.lenl 12 (.t 11)), Pp (.mov 13 (.c (.int .i64 0)))] []) tP) kS)
def tf : IR := (.seq (.seq (.reg [Mv 6 0, Pp (.lenl 7 (.t 6)), Mv 8 1, Pp (.lenl 9 (.t 8)), Bi 10 .neq 7 9] []) tI) te)
def gU : IR := (.seq (.reg [Pp (.mov 4 (.c (.bool false)))] []) tf)
def dT : List RV := [.t 4]
theorem uo : (aZ Try.prog [] 0 gU (Try.f56.body.getD .skip) && cQ Try.prog dT Try.f56.results.toList) = true := by kernel_rfl
theorem tQ : Try.f56.body = some (Try.f56.body.getD .skip) := by kernel_rfl
def uq (R : IR → (Ex → St → Ro) → St → Ro) (again0 : St → Ro) : Ex → St → Ro := (br again0 [0, 1, 12, 13, 1000000] 0 (aD 0 (bo (R kS) (fin dT))))
abbrev cD : Type := (Bss × Bss × Int × Int)
def cw (x : cD) : St := { env := (.sl .str (.may false) x.1 :: .sl .str (.may false) x.2.1 :: (U 10 (.int .i64 x.2.2.1 :: .int .i64 x.2.2.2 :: (U 12 [])))), hp := [] }
def gf (N : Nat) : (St → Ro) → St → Ro := fun again0 s => run bN N lr (uq (run bN N) again0) s
def dJ (N : Nat) (again0 : cD → Ro) (x : cD) : Ro :=
 let v0 : Bss := x.1
 let v1 : Bss := x.2.1
 let v12 : Int := x.2.2.1
 let v13 : Int := x.2.2.2
 cond (decide (v13 < v12)) (
  chk ((decide (0 ≤ v13) && decide (v13 < ↑(List.length v0)))) (
   let x4 : Bs := List.getD v0 (Int.toNat v13) (af .str)
   chk ((decide (0 ≤ v13) && decide (v13 < ↑(List.length v1)))) (
    let x5 : Bs := List.getD v1 (Int.toNat v13) (af .str)
    cond (!decide (x4 = x5)) (
     some (.bool false, [])) (
     let x6 : Int := (IntKind.wrap .i64 (v13 + 1))
     again0 (v0, v1, v12, x6))))) (
  some (.bool true, []))
theorem tR (N : Nat) : ∀ (again0 : St → Ro) (x : cD), gf N again0 (cw x) = dJ N (fun y => again0 (cw y)) x := by
 intro again0 x
 kernel_rfl
def cM (N : Nat) (p0 : Bss) (p1 : Bss) (q0 : cD → Ro) : Ro :=
 let x1 : Int := (↑(List.length p0) : Int)
 let x2 : Int := (↑(List.length p1) : Int)
 cond (!(x1 == x2)) (
  some (.bool false, [])) (
  let x3 : Int := (↑(List.length p0) : Int)
  q0 (p0, p1, x3, 0))
def dU (N : Nat) (p0 : Bss) (p1 : Bss) : Ro := cM N p0 p1 (fun z => aB N (dJ N) z)
def vz (N : Nat) : List (Nat × (St → Ro)) := aI bN N gU (fin dT) ++ []
theorem ur (N : Nat) (p0 : Bss) (p1 : Bss) : aE bN N 26 dT gU [.sl .str (.may false) p0, .sl .str (.may false) p1] [] = dU N p0 p1 :=
 (bx (vz N) (by kernel_rfl) rfl (fun C => cM N p0 p1 (fun z => C 1000000 (cw z))) (fun C => by kernel_rfl)).trans (Eq.trans (b := cM N p0 p1 (fun z => aW N (gf N) (cw z))) (by kernel_rfl) (congrArg (cM N p0 p1) (funext fun z => aT (cw) (gf N) (dJ N) (tR N) N z)))
theorem u4 (hΓ : aS Try.prog bN) (N : Nat) (p0 : Bss) (p1 : Bss) {v : V} {hp : List an} (h : dU N p0 p1 = some (v, hp)) : aj Try.prog iC [.sl .str (.may false) p0, .sl .str (.may false) p1] v := by
 have hc := uo
 simp only [Bool.and_eq_true] at hc
 exact ⟨hp, dL hΓ tc Try.func56 tQ hc.1 hc.2 (by decide) ((ur N p0 p1).trans h)⟩
def anN (N : Nat) : Nat → List V → Option (Bool × V) := fun f vs => match f, vs with
 | 56, [.sl .str (.may _) a0, .sl .str (.may _) a1] => some (true, .bool (decide (a0 = a1)))
 | 57, [.sl .aval (.may _) a0, .sl .aval (.may _) a1, .fn 24 []] => some (decide (1000000 ≤ N - szL a0), .bool (f9 a0 a1))
 | _, _ => none
def wg (N : Nat) : au := (eI (anN N))
theorem arP (N : Nat) : bS (wg N) [] := (bT _ _)
theorem avq (N : Nat) (h_slices_Equal_string_string : ∀ (a0 : Bss) (a1 : Bss), aj Try.prog iC [.sl .str (.may false) a0, .sl .str (.may false) a1] (.bool (decide (a0 = a1)))) (h_slices_EqualFunc_api_AVal_api_AVal_api_AVal_api_AVal_aval_Same : ∀ (a0 : List ab) (a1 : List ab), (decide (1000000 ≤ N - szL a0)) = true → aj Try.prog bz [.sl .aval (.may false) a0, .sl .aval (.may false) a1, .fn 24 []] (.bool (f9 a0 a1))) : aS Try.prog (wg N) := by
 intro f vs hp v hp' h0
 obtain ⟨h, he⟩ := cr h0
 subst he
 unfold anN at h
 split at h
 ·simp only [Option.some.injEq, Prod.mk.injEq] at h
  obtain ⟨hc, rfl⟩ := h
  exact ((h_slices_Equal_string_string _ _).dim rfl).frame rfl rfl _
 ·simp only [Option.some.injEq, Prod.mk.injEq] at h
  obtain ⟨hc, rfl⟩ := h
  exact ((h_slices_EqualFunc_api_AVal_api_AVal_api_AVal_api_AVal_aval_Same _ _ hc).dim rfl).frame rfl rfl _
 ·simp at h
def avr : IR := .ret
def avs : IR := (.seq (.reg [Fa 5 0 2, Ld 6 1 false 5, Fa 7 0 3, Ld 8 1 false 7, Bi 9 .eql 6 8, Mv 10 9, Pg (10, true) (.fad 11 1 (.t 2)), Pg (10, true) (.lde 12 1 false (.t 11)), Pg (10, true) (.fad 13 1 (.t 3)), Pg (10, true) (.lde 14 1 false (.t 13)), Pg (10, true) (.bin 15 .eql (.t 12) (.t 14)), Pa 16 10 15, Mv 17 16, Pg (17, true) (.fad 18 4 (.t 2)), Pg (17, true) (.lde 19 1 false (.t 18)), Pg (17, true) (.fad 20 4 (.t 3)), Pg (17, true) (.lde 21 1 false (.t 20)), Pg (17, true) (.bin 22 .eql (.t 19) (.t 21)), Pa 23 17 22, Mv 24 23, Pg (24, true) (.fad 25 3 (.t 2)), Pg (24, true) (.lde 26 1 false (.t 25)), Pg (24, true) (.fad 27 3 (.t 3)), Pg (24, true) (.lde 28 1 false (.t 27)), Pg (24, true) (.call (some 29) 56 [(.t 26), (.t 28)]), Pa 30 24 29, Mv 31 30, Pg (31, true) (.fad 32 2 (.t 2)), Pg (31, true) (.lde 33 1 false (.t 32)), Pg (31, true) (.fad 34 2 (.t 3)), Pg (31, true) (.lde 35 1 false (.t 34)), Pg (31, true) (.call (some 36) 57 [(.t 33), (.t 35), (.c (.fn 24 []))]), Pa 37 31 36, Mv 4 37] []) avr)
def ak5 : IR := (.seq (.reg [Pp (.boxe 2 (.t 0)), Pp (.boxe 3 (.t 1)), Pp (.mov 4 (.c (.bool false)))] []) avs)
def ak6 : List RV := [.t 4]
theorem ayo : (aZ Try.prog [] 0 ak5 (Try.f24.body.getD .skip) && cQ Try.prog ak6 Try.f24.results.toList) = true := by kernel_rfl
theorem avt : Try.f24.body = some (Try.f24.body.getD .skip) := by kernel_rfl
def ak7 (N : Nat) (p0_0 : Int) (p0_1 : Bs) (p0_2 : List ab) (p0_3 : Bss) (p0_4 : Int) (p1_0 : Int) (p1_1 : Bs) (p1_2 : List ab) (p1_3 : Bss) (p1_4 : Int)  : Ro :=
 cond (p0_0 == p1_0) (
  cond (decide (p0_1 = p1_1)) (
   cond (p0_4 == p1_4) (
    cond (decide (p0_3 = p1_3)) (
     chk (decide (1000000 ≤ N - szL p0_2)) (
      some (.bool (f9 p0_2 p1_2), []))) (
     some (.bool false, []))) (
    some (.bool false, []))) (
   some (.bool false, []))) (
  some (.bool false, []))
def uu (N : Nat) (p0_0 : Int) (p0_1 : Bs) (p0_2 : List ab) (p0_3 : Bss) (p0_4 : Int) (p1_0 : Int) (p1_1 : Bs) (p1_2 : List ab) (p1_3 : Bss) (p1_4 : Int) : Ro := ak7 N p0_0 p0_1 p0_2 p0_3 p0_4 p1_0 p1_1 p1_2 p1_3 p1_4
theorem ayp (N : Nat) (p0_0 : Int) (p0_1 : Bs) (p0_2 : List ab) (p0_3 : Bss) (p0_4 : Int) (p1_0 : Int) (p1_1 : Bs) (p1_2 : List ab) (p1_3 : Bss) (p1_4 : Int) : aE (wg N) N 38 ak6 ak5 [.agg [.int .u64 p0_0, .str p0_1, .sl .aval (.may false) p0_2, .sl .str (.may false) p0_3, .int .i64 p0_4], .agg [.int .u64 p1_0, .str p1_1, .sl .aval (.may false) p1_2, .sl .str (.may false) p1_3, .int .i64 p1_4]] [] = uu N p0_0 p0_1 p0_2 p0_3 p0_4 p1_0 p1_1 p1_2 p1_3 p1_4 := by kernel_rfl
theorem aAh (N : Nat) (hΓ : aS Try.prog (wg N)) (p0_0 : Int) (p0_1 : Bs) (p0_2 : List ab) (p0_3 : Bss) (p0_4 : Int) (p1_0 : Int) (p1_1 : Bs) (p1_2 : List ab) (p1_3 : Bss) (p1_4 : Int) {v : V} {hp : List an} (h : uu N p0_0 p0_1 p0_2 p0_3 p0_4 p1_0 p1_1 p1_2 p1_3 p1_4 = some (v, hp)) : aj Try.prog pg [.agg [.int .u64 p0_0, .str p0_1, .sl .aval (.may false) p0_2, .sl .str (.may false) p0_3, .int .i64 p0_4], .agg [.int .u64 p1_0, .str p1_1, .sl .aval (.may false) p1_2, .sl .str (.may false) p1_3, .int .i64 p1_4]] v := by
 have hc := ayo
 simp only [Bool.and_eq_true] at hc
 exact ⟨hp, dL hΓ (arP N) Try.func24 avt hc.1 hc.2 (by decide) ((ayp N p0_0 p0_1 p0_2 p0_3 p0_4 p1_0 p1_1 p1_2 p1_3 p1_4).trans h)⟩
def cl (N : Nat) : Nat → List V → Option (Bool × V) := fun f vs => match f, vs with
 | 24, [.agg [.int .u64 a0_0, .str a0_1, .sl .aval (.may _) a0_2, .sl .str (.may _) a0_3, .int .i64 a0_4], .agg [.int .u64 a1_0, .str a1_1, .sl .aval (.may _) a1_2, .sl .str (.may _) a1_3, .int .i64 a1_4]] => some (decide (1000000 ≤ N - (szL a0_2 + 1)), .bool (lI (.mk a0_0 a0_1 a0_2 a0_3 a0_4) (.mk a1_0 a1_1 a1_2 a1_3 a1_4)))
 | _, _ => none
def ax (N : Nat) : au := (eI (cl N))
theorem eC (N : Nat) : bS (ax N) [] := (bT _ _)
theorem eK (N : Nat) (h_aval_Same : ∀ (a0_0 : Int) (a0_1 : Bs) (a0_2 : List ab) (a0_3 : Bss) (a0_4 : Int) (a1_0 : Int) (a1_1 : Bs) (a1_2 : List ab) (a1_3 : Bss) (a1_4 : Int), (decide (1000000 ≤ N - (szL a0_2 + 1))) = true → aj Try.prog pg [.agg [.int .u64 a0_0, .str a0_1, .sl .aval (.may false) a0_2, .sl .str (.may false) a0_3, .int .i64 a0_4], .agg [.int .u64 a1_0, .str a1_1, .sl .aval (.may false) a1_2, .sl .str (.may false) a1_3, .int .i64 a1_4]] (.bool (lI (.mk a0_0 a0_1 a0_2 a0_3 a0_4) (.mk a1_0 a1_1 a1_2 a1_3 a1_4)))) : aS Try.prog (ax N) := by
 intro f vs hp v hp' h0
 obtain ⟨h, he⟩ := cr h0
 subst he
 unfold cl at h
 split at h
 ·simp only [Option.some.injEq, Prod.mk.injEq] at h
  obtain ⟨hc, rfl⟩ := h
  exact ((h_aval_Same _ _ _ _ _ _ _ _ _ _ hc).dim rfl).frame rfl rfl _
 ·simp at h
def eL : IR := .ret
def eM : IR := (.cond (.t 14) (.seq (.reg [Pp (.mov 6 (.c (.bool false)))] []) eL) .skip)
def eN : IR := .ret
def eO : IR := (.cond (.t 30) (.seq (.reg [Pp (.mov 6 (.c (.bool false)))] []) eN) .skip)
def eP : IR := (.seq (.reg [Mv 26 2, Ld 27 5 true 8, Ld 28 5 true 9, Pp (.dcall (some 29) 24 (.t 26) [(.t 27), (.t 28)]), Pp (.un 30 .not (.t 29))] []) eO)
def eQ : IR := (.seq (.reg [Mv 22 1, Mv 23 7, Pp (.ixa 24 .aval (.t 22) (.t 23)), Ld 25 5 true 24, Pp (.alr 9 5), Pp (.frz none 9 5 (.t 25))] []) eP)
def eR : IR := (.reg [Bc 31 .add 17 1, Mv 17 31] [])
def eS : IR := (.seq (.block 1 (.seq (.reg [Mv 19 17, Pp (.ixa 20 .aval (.t 15) (.t 17)), Ld 21 5 true 20, Pp (.alr 8 5), Mv 7 19, Pp (.frz none 8 5 (.t 21))] []) eQ)) eR)
def eT : IR := (.seq (.cond (.t 18) .skip (.exit 0)) eS)
def b8 : IR := (.seq (.reg [Bi 18 .lss 17 16] []) eT)
def eD : IR := (.block 0 (.loop [1, 2, 15, 16, 17, 1000000] 0 b8))
def eE : IR := .ret
def b7 : IR := (.seq (.reg [Pp (.mov 6 (.c (.bool true)))] []) eE)
def eF : IR := (.seq (.seq (.reg [Mv 15 0, Pp (.lenl 16 (.t 15)), Pp (.mov 17 (.c (.int .i64 0)))] []) eD) b7)
def eG : IR := (.seq (.seq (.reg [Mv 10 0, Pp (.lenl 11 (.t 10)), Mv 12 1, Pp (.lenl 13 (.t 12)), Bi 14 .neq 11 13] []) eM) eF)
def bv : IR := (.seq (.reg [Pp (.mov 6 (.c (.bool false)))] []) eG)
def aX : List RV := [.t 6]
theorem fa : (aZ Try.prog [] 0 bv (Try.f57.body.getD .skip) && cQ Try.prog aX Try.f57.results.toList) = true := by kernel_rfl
theorem eU : Try.f57.body = some (Try.f57.body.getD .skip) := by kernel_rfl
def fb (R : IR → (Ex → St → Ro) → St → Ro) (again0 : St → Ro) : Ex → St → Ro := (br again0 [1, 2, 15, 16, 17, 1000000] 0 (aD 0 (bo (R b7) (fin aX))))
abbrev aJ : Type := (List ab × List ab × Int × Int)
def aG (x : aJ) : St := { env := (.undef :: .sl .aval (.may false) x.1 :: .fn 24 [] :: (U 12 (.sl .aval (.may false) x.2.1 :: .int .i64 x.2.2.1 :: .int .i64 x.2.2.2 :: (U 14 [])))), hp := [] }
def bq (N : Nat) : (St → Ro) → St → Ro := fun again0 s => run (ax N) N b8 (fb (run (ax N) N) again0) s
def aV (N : Nat) (again0 : aJ → Ro) (x : aJ) : Ro :=
 let v1 : List ab := x.1
 let v15 : List ab := x.2.1
 let v16 : Int := x.2.2.1
 let v17 : Int := x.2.2.2
 cond (decide (v17 < v16)) (
  chk ((decide (0 ≤ v17) && decide (v17 < ↑(List.length v15)))) (
   let x4 : Int := (List.getD v15 (Int.toNat v17) (af .aval)).n
   let x5 : Bs := (List.getD v15 (Int.toNat v17) (af .aval)).s
   let x6 : List ab := (List.getD v15 (Int.toNat v17) (af .aval)).l
   let x7 : Bss := (List.getD v15 (Int.toNat v17) (af .aval)).keys
   let x8 : Int := (List.getD v15 (Int.toNat v17) (af .aval)).branch
   chk ((decide (0 ≤ v17) && decide (v17 < ↑(List.length v1)))) (
    let x9 : Int := (List.getD v1 (Int.toNat v17) (af .aval)).n
    let x10 : Bs := (List.getD v1 (Int.toNat v17) (af .aval)).s
    let x11 : List ab := (List.getD v1 (Int.toNat v17) (af .aval)).l
    let x12 : Bss := (List.getD v1 (Int.toNat v17) (af .aval)).keys
    let x13 : Int := (List.getD v1 (Int.toNat v17) (af .aval)).branch
    chk (decide (1000000 ≤ N - (szL x6 + 1))) (
     let x14 : Bool := (lI (.mk x4 x5 x6 x7 x8) (.mk x9 x10 x11 x12 x13))
     cond (!x14) (
      some (.bool false, [])) (
      let x15 : Int := (IntKind.wrap .i64 (v17 + 1))
      again0 (v1, v15, v16, x15)))))) (
  some (.bool true, []))
theorem eV (N : Nat) : ∀ (again0 : St → Ro) (x : aJ), bq N again0 (aG x) = aV N (fun y => again0 (aG y)) x := by
 intro again0 x
 kernel_rfl
def aN (N : Nat) (p0 : List ab) (p1 : List ab) (q0 : aJ → Ro) : Ro :=
 let x1 : Int := (↑(List.length p0) : Int)
 let x2 : Int := (↑(List.length p1) : Int)
 cond (!(x1 == x2)) (
  some (.bool false, [])) (
  let x3 : Int := (↑(List.length p0) : Int)
  q0 (p1, p0, x3, 0))
def aY (N : Nat) (p0 : List ab) (p1 : List ab) : Ro := aN N p0 p1 (fun z => aB N (aV N) z)
def fJ (N : Nat) : List (Nat × (St → Ro)) := aI (ax N) N bv (fin aX) ++ []
theorem fc (N : Nat) (p0 : List ab) (p1 : List ab) : aE (ax N) N 32 aX bv [.sl .aval (.may false) p0, .sl .aval (.may false) p1, .fn 24 []] [] = aY N p0 p1 :=
 (bx (fJ N) (by kernel_rfl) rfl (fun C => aN N p0 p1 (fun z => C 1000000 (aG z))) (fun C => by kernel_rfl)).trans (Eq.trans (b := aN N p0 p1 (fun z => aW N (bq N) (aG z))) (by kernel_rfl) (congrArg (aN N p0 p1) (funext fun z => aT (aG) (bq N) (aV N) (eV N) N z)))
theorem fG (N : Nat) (hΓ : aS Try.prog (ax N)) (p0 : List ab) (p1 : List ab) {v : V} {hp : List an} (h : aY N p0 p1 = some (v, hp)) : aj Try.prog bz [.sl .aval (.may false) p0, .sl .aval (.may false) p1, .fn 24 []] v := by
 have hc := fa
 simp only [Bool.and_eq_true] at hc
 exact ⟨hp, dL hΓ (eC N) Try.func57 eU hc.1 hc.2 (by decide) ((fc N p0 p1).trans h)⟩
def anO (N : Nat) : Nat → List V → Option (Bool × V) := fun f vs => match f, vs with
 | 22, [.agg [.int .u64 a0_0, .str a0_1, .sl .aval (.may _) a0_2, .sl .str (.may _) a0_3, .int .i64 a0_4]] => some (decide (1000000 ≤ N - (szL a0_2 + 1)), .tup [.int .i64 ((ee (.mk a0_0 a0_1 a0_2 a0_3 a0_4)).1), .int .i64 ((ee (.mk a0_0 a0_1 a0_2 a0_3 a0_4)).2)])
 | _, _ => none
def me (N : Nat) : au := (eI (anO N))
theorem arQ (N : Nat) : bS (me N) [] := (bT _ _)
theorem avu (N : Nat) (h_aval_Size : ∀ (a0_0 : Int) (a0_1 : Bs) (a0_2 : List ab) (a0_3 : Bss) (a0_4 : Int), (decide (1000000 ≤ N - (szL a0_2 + 1))) = true → aj Try.prog rP [.agg [.int .u64 a0_0, .str a0_1, .sl .aval (.may false) a0_2, .sl .str (.may false) a0_3, .int .i64 a0_4]] (.tup [.int .i64 ((ee (.mk a0_0 a0_1 a0_2 a0_3 a0_4)).1), .int .i64 ((ee (.mk a0_0 a0_1 a0_2 a0_3 a0_4)).2)])) : aS Try.prog (me N) := by
 intro f vs hp v hp' h0
 obtain ⟨h, he⟩ := cr h0
 subst he
 unfold anO at h
 split at h
 ·simp only [Option.some.injEq, Prod.mk.injEq] at h
  obtain ⟨hc, rfl⟩ := h
  exact ((h_aval_Size _ _ _ _ _ hc).dim rfl).frame rfl rfl _
 ·simp at h
def avv : IR := (.reg [Mv 24 2, Mv 25 6, Bc 26 .add 25 1, Pp (.mx 27 false (.t 24) (.t 26)), Mv 28 3, Mv 29 7, Bi 30 .add 28 29, Mv 2 27, Mv 3 30] [])
def avw : IR := (.seq (.reg [Ld 20 5 true 5, Pp (.call (some 21) 22 [(.t 20)]), Mv 19 21, Ex_ 22 0 19, Ex_ 23 1 19, Mv 6 22, Mv 7 23] []) avv)
def avx : IR := (.reg [Bc 31 .add 15 1, Mv 15 31] [])
def avy : IR := (.seq (.block 1 (.seq (.reg [Pp (.ixa 17 .aval (.t 13) (.t 15)), Ld 18 5 true 17, Pp (.alr 5 5), Pp (.frz none 5 5 (.t 18))] []) avw)) avx)
def avz : IR := (.seq (.cond (.t 16) .skip (.exit 0)) avy)
def afI : IR := (.seq (.reg [Bi 16 .lss 15 14] []) avz)
def avA : IR := (.block 0 (.loop [2, 3, 13, 14, 15, 1000000] 0 afI))
def avB : IR := .ret
def afJ : IR := (.seq (.reg [Mv 32 2, Mv 33 3, Mv 2 32, Mv 3 33] []) avB)
def avC : IR := (.seq (.seq (.reg [Fa 12 2 1, Ld 13 1 false 12, Pp (.lenl 14 (.t 13)), Pp (.mov 15 (.c (.int .i64 0)))] []) avA) afJ)
def arR : IR := (.seq (.reg [Fa 8 3 1, Ld 9 1 false 8, Pp (.lenl 10 (.t 9)), Pp (.mx 11 true (.t 10) (.c (.int .i64 1))), Mv 2 11, Pp (.mov 3 (.c (.int .i64 1)))] []) avC)
def yY : IR := (.seq (.reg [Pp (.boxe 1 (.t 0)), Pp (.mov 2 (.c (.int .i64 0))), Pp (.mov 3 (.c (.int .i64 0)))] []) arR)
def uv : List RV := [.t 2, .t 3]
theorem ayq : (aZ Try.prog [] 0 yY (Try.f22.body.getD .skip) && cQ Try.prog uv Try.f22.results.toList) = true := by kernel_rfl
theorem avD : Try.f22.body = some (Try.f22.body.getD .skip) := by kernel_rfl
def ayr (R : IR → (Ex → St → Ro) → St → Ro) (again0 : St → Ro) : Ex → St → Ro := (br again0 [2, 3, 13, 14, 15, 1000000] 0 (aD 0 (bo (R afJ) (fin uv))))
abbrev oF : Type := (Int × Int × List ab × Int × Int)
def mQ (x : oF) : St := { env := (.undef :: .undef :: .int .i64 x.1 :: .int .i64 x.2.1 :: (U 9 (.sl .aval (.may false) x.2.2.1 :: .int .i64 x.2.2.2.1 :: .int .i64 x.2.2.2.2 :: (U 18 [])))), hp := [] }
def wX (N : Nat) : (St → Ro) → St → Ro := fun again0 s => run (me N) N afI (ayr (run (me N) N) again0) s
def sB (N : Nat) (again0 : oF → Ro) (x : oF) : Ro :=
 let v2 : Int := x.1
 let v3 : Int := x.2.1
 let v13 : List ab := x.2.2.1
 let v14 : Int := x.2.2.2.1
 let v15 : Int := x.2.2.2.2
 cond (decide (v15 < v14)) (
  chk ((decide (0 ≤ v15) && decide (v15 < ↑(List.length v13)))) (
   let x4 : Int := (List.getD v13 (Int.toNat v15) (af .aval)).n
   let x5 : Bs := (List.getD v13 (Int.toNat v15) (af .aval)).s
   let x6 : List ab := (List.getD v13 (Int.toNat v15) (af .aval)).l
   let x7 : Bss := (List.getD v13 (Int.toNat v15) (af .aval)).keys
   let x8 : Int := (List.getD v13 (Int.toNat v15) (af .aval)).branch
   chk (decide (1000000 ≤ N - (szL x6 + 1))) (
    let x9 : Int := (ee (.mk x4 x5 x6 x7 x8)).1
    let x10 : Int := (ee (.mk x4 x5 x6 x7 x8)).2
    let x11 : Int := (IntKind.wrap .i64 (x9 + 1))
    let x12 : Int := (if v2 < x11 then x11 else v2)
    let x13 : Int := (IntKind.wrap .i64 (v3 + x10))
    let x14 : Int := (IntKind.wrap .i64 (v15 + 1))
    again0 (x12, x13, v13, v14, x14)))) (
  some (.tup [.int .i64 v2, .int .i64 v3], []))
theorem avE (N : Nat) : ∀ (again0 : St → Ro) (x : oF), wX N again0 (mQ x) = sB N (fun y => again0 (mQ y)) x := by
 intro again0 x
 kernel_rfl
def p8 (N : Nat) (p0_0 : Int) (p0_1 : Bs) (p0_2 : List ab) (p0_3 : Bss) (p0_4 : Int) (q0 : oF → Ro) : Ro :=
 let x1 : Int := (↑(List.length p0_3) : Int)
 let x2 : Int := (if 1 < x1 then 1 else x1)
 let x3 : Int := (↑(List.length p0_2) : Int)
 q0 (x2, 1, p0_2, x3, 0)
def uw (N : Nat) (p0_0 : Int) (p0_1 : Bs) (p0_2 : List ab) (p0_3 : Bss) (p0_4 : Int) : Ro := p8 N p0_0 p0_1 p0_2 p0_3 p0_4 (fun z => aB N (sB N) z)
def aBs (N : Nat) : List (Nat × (St → Ro)) := aI (me N) N yY (fin uv) ++ []
theorem ays (N : Nat) (p0_0 : Int) (p0_1 : Bs) (p0_2 : List ab) (p0_3 : Bss) (p0_4 : Int) : aE (me N) N 34 uv yY [.agg [.int .u64 p0_0, .str p0_1, .sl .aval (.may false) p0_2, .sl .str (.may false) p0_3, .int .i64 p0_4]] [] = uw N p0_0 p0_1 p0_2 p0_3 p0_4 :=
 (bx (aBs N) (by kernel_rfl) rfl (fun C => p8 N p0_0 p0_1 p0_2 p0_3 p0_4 (fun z => C 1000000 (mQ z))) (fun C => by kernel_rfl)).trans (Eq.trans (b := p8 N p0_0 p0_1 p0_2 p0_3 p0_4 (fun z => aW N (wX N) (mQ z))) (by kernel_rfl) (congrArg (p8 N p0_0 p0_1 p0_2 p0_3 p0_4) (funext fun z => aT (mQ) (wX N) (sB N) (avE N) N z)))
theorem aAi (N : Nat) (hΓ : aS Try.prog (me N)) (p0_0 : Int) (p0_1 : Bs) (p0_2 : List ab) (p0_3 : Bss) (p0_4 : Int) {v : V} {hp : List an} (h : uw N p0_0 p0_1 p0_2 p0_3 p0_4 = some (v, hp)) : aj Try.prog rP [.agg [.int .u64 p0_0, .str p0_1, .sl .aval (.may false) p0_2, .sl .str (.may false) p0_3, .int .i64 p0_4]] v := by
 have hc := ayq
 simp only [Bool.and_eq_true] at hc
 exact ⟨hp, dL hΓ (arQ N) Try.func22 avD hc.1 hc.2 (by decide) ((ays N p0_0 p0_1 p0_2 p0_3 p0_4).trans h)⟩
end Go.Proofs.Ytdpajabhmmmjoaa
end
section
namespace Go.Proofs.Ytdpajabhmmmjoaa
open Go.AM
set_option autoImplicit false
set_option linter.unusedSimpArgs false
set_option linter.unusedVariables false
theorem apf (N : Nat) (r k : Int) (hr : 0 ≤ r ∧ r ≤ 4294967295) (hk : 0 ≤ k ∧ k ≤ 32) : sv N r k = some (.int .u8 (gW r k), []) := by
 obtain ⟨p, rfl⟩ : ∃ p : Nat, r = (p : Int) := ⟨r.toNat, by omega⟩
 obtain ⟨j, rfl⟩ : ∃ j : Nat, k = (j : Int) := ⟨k.toNat, by omega⟩
 have e1 := tb .u32 p j (by show j ≤ 32; omega)
 have hle : p / 2 ^ j ≤ p := Nat.div_le_self _ _
 simp only [sv, ajb, gW, Int.toNat_natCast, e1]
 generalize p / 2 ^ j = q at hle
 have e2 : bK .and .u32 (q : Int) 63 = ((q % 64 : Nat) : Int) := aEx 6 (by omega) _ (by omega)
 have e3 : bK .or .u32 128 ((q % 64 : Nat) : Int) = 128 + ((q % 64 : Nat) : Int) := akO 6 128 _ (by omega) (by decide) (by omega) (by omega)
 simp (disch := omega) only [aA, e2, e3]
 rfl
theorem adb (N : Nat) (r : Int) (hr : 0 ≤ r ∧ r ≤ 4294967295) (hN : (r < 65536 ∧ (r < 55296 ∨ 57344 ≤ r)) ∨ 0 < N) : uc N r = some (.str (vt r), []) := by
 obtain ⟨p, rfl⟩ : ∃ p : Nat, r = (p : Int) := ⟨r.toNat, by omega⟩
 have s6 : dV .u32 (p : Int) 6 = ((p / 64 : Nat) : Int) := tb .u32 p 6 (by decide)
 have s12 : dV .u32 (p : Int) 12 = ((p / 4096 : Nat) : Int) := tb .u32 p 12 (by decide)
 have s18 : dV .u32 (p : Int) 18 = ((p / 262144 : Nat) : Int) := tb .u32 p 18 (by decide)
 have t0 : gW (p : Int) 0 = ((128 + p % 64 : Nat) : Int) := by simp [gW]
 have t6 : gW (p : Int) 6 = ((128 + p / 64 % 64 : Nat) : Int) := by simp [gW]
 have t12 : gW (p : Int) 12 = ((128 + p / 4096 % 64 : Nat) : Int) := by simp [gW]
 simp only [uc, akT, vt, Int.toNat_natCast, gly, s6, s12, s18, t0, t6, t12]
 by_cases h1 : p < 128
 ·simp (disch := omega) only [aA, ]
 by_cases h2 : p < 2048
 ·have e : bK .or .u32 192 ((p / 64 : Nat) : Int) = ((192 + p / 64 : Nat) : Int) := (akO 6 192 _ (by omega) (by decide) (by omega) (by omega)).trans (by omega)
  simp (disch := omega) only [aA, e]
 have hc : ∀ hi : 1114111 < p ∨ (55296 ≤ p ∧ p < 57344), 0 < N := by omega
 by_cases h3 : 1114111 < p
 ·have := hc (.inl h3)
  simp (disch := omega) only [aA, ]
  rfl
 by_cases h4 : 55296 ≤ p ∧ p < 57344
 ·have := hc (.inr h4)
  simp (disch := omega) only [aA, ]
  rfl
 by_cases h5 : p < 65536
 ·have e : bK .or .u32 224 ((p / 4096 : Nat) : Int) = ((224 + p / 4096 : Nat) : Int) := (akO 5 224 _ (by omega) (by decide) (by omega) (by omega)).trans (by omega)
  by_cases h6 : 55296 ≤ p <;> simp (disch := omega) only [aA, e]
 ·have e : bK .or .u32 240 ((p / 262144 : Nat) : Int) = ((240 + p / 262144 : Nat) : Int) := (akO 4 240 _ (by omega) (by decide) (by omega) (by omega)).trans (by omega)
  simp (disch := omega) only [aA, e]
end Go.Proofs.Ytdpajabhmmmjoaa
end
section
namespace Go.Proofs.Ytdpajabhmmmjoaa
open Go.AM
set_option autoImplicit false
set_option linter.unusedSimpArgs false
set_option linter.unusedVariables false
theorem arS (k : Nat) (hk : k ≤ 8) (a : Nat) (ha : a < 256) : bK .and .u8 (a : Int) ((2 ^ k - 1 : Nat) : Int) = ((a % 2 ^ k : Nat) : Int) := by
 have h2 : 2 ^ k ≤ 2 ^ 8 := Nat.pow_le_pow_right (by omega) hk
 have h1 : 1 ≤ 2 ^ k := Nat.one_le_two_pow
 rw [az3 .u8 rfl a (2 ^ k - 1) ha (by show 2 ^ k - 1 < 2 ^ 8; omega), Nat.and_two_pow_sub_one_eq_mod]
theorem aFf (v c : Nat) (hv : v < 2 ^ 26) (hc : c < 64) : bK .or .u32 (gT .u32 (v : Int) 6) (c : Int) = ((v * 64 + c : Nat) : Int) := by
 have e : gT .u32 (v : Int) 6 = ((v * 64 : Nat) : Int) := by
  rw [show (6 : Int) = ((6 : Nat) : Int) by rfl, aDR .u32 rfl v 6 (by decide)]
  show ((v * 64 % 2 ^ 32 : Nat) : Int) = _
  rw [Nat.mod_eq_of_lt (by omega)]
 rw [e, akO 6 ((v * 64 : Nat) : Int) c (by omega) (by omega) (by omega) (by omega)]
 omega
theorem ph (N : Nat) (rec : (List UInt8 × Int × Int × Int) → Option (V × List an)) (s : List UInt8) (v n i : Nat) (hv : v < 2 ^ 26) (hi : i < n) (hn : n ≤ s.length) (h4 : n ≤ 4) :
  cY N rec (s, (v : Int), (n : Int), (i : Int)) = rec (s, ((v * 64 + (s.getD i 0).toNat % 64 : Nat) : Int), (n : Int), ((i + 1 : Nat) : Int)) := by
 have hb : (s.getD i 0).toNat < 256 := UInt8.toNat_lt _
 have e1 : bK .and .u8 (((s.getD i 0).toNat : Nat) : Int) 63 = (((s.getD i 0).toNat % 64 : Nat) : Int) := arS 6 (by omega) _ hb
 have e2 := aFf v ((s.getD i 0).toNat % 64) hv (by omega)
 simp only [cY]
 simp (disch := omega) only [aA, e1, e2]
 rfl
theorem ak8 (N : Nat) (rec : (List UInt8 × Int × Int × Int) → Option (V × List an)) (s : List UInt8) (v n : Nat) (hn : n ≤ s.length) :
  cY N rec (s, (v : Int), (n : Int), (n : Int)) = if gly v = s.take n then some (.tup [.int .u32 v, .int .i64 n], []) else some (.tup [.int .u32 0, .int .i64 0], []) := by
 simp only [cY, vt]
 by_cases h : gly v = s.take n
 ·simp (disch := omega) only [aA, h, decide_true]
 ·simp (disch := omega) only [aA, h, decide_false]
theorem km {α R : Type} (n : Nat) (B : (α → Option R) → α → Option R) (x : α) : aB (n + 1) B x = B (aB n B) x := rfl
theorem aEy (M : Nat) (a b : UInt8) (t : List UInt8) (v : Nat) (hv : v < 32) :
  aB (M + 5) (cY (M + 5)) (a :: b :: t, (v : Int), ((2 : Nat) : Int), ((1 : Nat) : Int)) = some (.tup [.int .u32 (cC 2 v (a :: b :: t)).1, .int .i64 (cC 2 v (a :: b :: t)).2], []) := by
 rw [km, ph _ _ _ _ 2 1 (by omega) (by omega) (by simp) (by omega), km, ak8 _ _ _ _ 2 (by simp)]
 simp only [cC, List.getD_cons_succ, List.getD_cons_zero]
 rw [if_neg (show ¬ (a :: b :: t).length < 2 by simp)]
 simp only [List.take_succ_cons, List.take_zero, List.tail_cons, List.foldl_cons, List.foldl_nil]
 by_cases h : gly (v * 64 + b.toNat % 64) = [a, b]
 ·simp only [h, if_true]
 ·simp only [h, if_false]; rfl
theorem aEz (M : Nat) (a b c : UInt8) (t : List UInt8) (v : Nat) (hv : v < 32) :
  aB (M + 5) (cY (M + 5)) (a :: b :: c :: t, (v : Int), ((3 : Nat) : Int), ((1 : Nat) : Int)) = some (.tup [.int .u32 (cC 3 v (a :: b :: c :: t)).1, .int .i64 (cC 3 v (a :: b :: c :: t)).2], []) := by
 rw [km, ph _ _ _ _ 3 1 (by omega) (by omega) (by simp) (by omega), km, ph _ _ _ _ 3 2 (by omega) (by omega) (by simp) (by omega), km, ak8 _ _ _ _ 3 (by simp)]
 simp only [cC, List.getD_cons_succ, List.getD_cons_zero]
 rw [if_neg (show ¬ (a :: b :: c :: t).length < 3 by simp)]
 simp only [List.take_succ_cons, List.take_zero, List.tail_cons, List.foldl_cons, List.foldl_nil]
 by_cases h : gly ((v * 64 + b.toNat % 64) * 64 + c.toNat % 64) = [a, b, c]
 ·simp only [h, if_true]
 ·simp only [h, if_false]; rfl
theorem aEA (M : Nat) (a b c d : UInt8) (t : List UInt8) (v : Nat) (hv : v < 32) :
  aB (M + 5) (cY (M + 5)) (a :: b :: c :: d :: t, (v : Int), ((4 : Nat) : Int), ((1 : Nat) : Int)) = some (.tup [.int .u32 (cC 4 v (a :: b :: c :: d :: t)).1, .int .i64 (cC 4 v (a :: b :: c :: d :: t)).2], []) := by
 rw [km, ph _ _ _ _ 4 1 (by omega) (by omega) (by simp) (by omega), km, ph _ _ _ _ 4 2 (by omega) (by omega) (by simp) (by omega), km, ph _ _ _ _ 4 3 (by omega) (by omega) (by simp) (by omega), km, ak8 _ _ _ _ 4 (by simp)]
 simp only [cC, List.getD_cons_succ, List.getD_cons_zero]
 rw [if_neg (show ¬ (a :: b :: c :: d :: t).length < 4 by simp)]
 simp only [List.take_succ_cons, List.take_zero, List.tail_cons, List.foldl_cons, List.foldl_nil]
 by_cases h : gly (((v * 64 + b.toNat % 64) * 64 + c.toNat % 64) * 64 + d.toNat % 64) = [a, b, c, d]
 ·simp only [h, if_true]
 ·simp only [h, if_false]; rfl
theorem amM (M : Nat) (s : List UInt8) (hs : s ≠ []) (hl : s.length ≤ 9223372036854775807) :
  qQ (M + 5) s = some (.tup [.int .u32 (dq s).1, .int .i64 (dq s).2], []) := by
 obtain ⟨c, t, rfl⟩ := List.exists_cons_of_ne_nil hs
 have hc : c.toNat < 256 := UInt8.toNat_lt _
 have s5 : dV .u8 (c.toNat : Int) 5 = ((c.toNat / 32 : Nat) : Int) := tb .u8 c.toNat 5 (by decide)
 have s4 : dV .u8 (c.toNat : Int) 4 = ((c.toNat / 16 : Nat) : Int) := tb .u8 c.toNat 4 (by decide)
 have s3 : dV .u8 (c.toNat : Int) 3 = ((c.toNat / 8 : Nat) : Int) := tb .u8 c.toNat 3 (by decide)
 have a31 : bK .and .u8 (c.toNat : Int) 31 = ((c.toNat % 32 : Nat) : Int) := arS 5 (by omega) _ hc
 have a15 : bK .and .u8 (c.toNat : Int) 15 = ((c.toNat % 16 : Nat) : Int) := arS 4 (by omega) _ hc
 have a7 : bK .and .u8 (c.toNat : Int) 7 = ((c.toNat % 8 : Nat) : Int) := arS 3 (by omega) _ hc
 rw [List.length_cons] at hl
 simp only [qQ, mM, dq, eh, List.length_cons, Int.toNat_zero, List.getD_cons_zero, s5, s4, s3, a31, a15, a7]
 by_cases h1 : c.toNat < 128
 ·simp (disch := omega) only [aA, ]
  rfl
 by_cases h2 : c.toNat / 32 = 6
 ·match t with
  | [] => simp (disch := omega) only [aA, cC, List.length_cons, List.length_nil]; rfl
  | b :: t =>
    rw [List.length_cons] at hl
    simp (disch := omega) only [aA, h2, List.length_cons]
    exact aEy M c b t _ (by omega)
 by_cases h3 : c.toNat / 16 = 14
 ·match t with
  | [] => simp (disch := omega) only [aA, cC, List.length_cons, List.length_nil]; rfl
  | [b] => simp (disch := omega) only [aA, cC, List.length_cons, List.length_nil]; rfl
  | b :: d :: t =>
    rw [List.length_cons, List.length_cons] at hl
    simp (disch := omega) only [aA, h3, List.length_cons]
    exact aEz M c b d t _ (by omega)
 by_cases h4 : c.toNat / 8 = 30
 ·match t with
  | [] => simp (disch := omega) only [aA, cC, List.length_cons, List.length_nil]; rfl
  | [b] => simp (disch := omega) only [aA, cC, List.length_cons, List.length_nil]; rfl
  | [b, d] => simp (disch := omega) only [aA, cC, List.length_cons, List.length_nil]; rfl
  | b :: d :: e :: t =>
    rw [List.length_cons, List.length_cons, List.length_cons] at hl
    simp (disch := omega) only [aA, h4, List.length_cons]
    exact aEA M c b d e t _ (by omega)
 ·simp (disch := omega) only [aA, ]
  rfl
end Go.Proofs.Ytdpajabhmmmjoaa
end
section
namespace Go.Proofs.Ytdpajabhmmmjoaa
open Go.AM
set_option autoImplicit false
set_option linter.unusedVariables false
set_option maxRecDepth 100000
def anP (N : Nat) : Nat → List V → Option (Bool × V) := fun f vs => match f, vs with
 | 21, [.agg [.sl .atype (.may _) a0_0], .int .i64 a1, .agg [.int .u64 a2_0, .str a2_1, .sl .aval (.may _) a2_2, .sl .str (.may _) a2_3, .int .i64 a2_4]] => some (decide (1000000 ≤ N - (szL a2_2 + 1)), .bool (cn a0_0 a1 (.mk a2_0 a2_1 a2_2 a2_3 a2_4)))
 | 49, [.agg [.sl .atype (.may _) a0_0], .int .i64 a1] => some (true, .bool (isT a0_0 a1))
 | 50, [.agg [.int .i64 a0_0, .str a0_1, .sl .str (.may _) a0_2, .int .i64 a0_3, .sl .str (.may _) a0_4, .bool a0_5, .str a0_6, .int .i64 a0_7, .sl .afield (.may _) a0_8, .sl (.num .i64) (.may _) a0_9], .int .u64 a1] => some (true, .bool (adv a0_0 a0_4 a1))
 | 51, [.agg [.int .i64 a0_0, .str a0_1, .sl .str (.may _) a0_2, .int .i64 a0_3, .sl .str (.may _) a0_4, .bool a0_5, .str a0_6, .int .i64 a0_7, .sl .afield (.may _) a0_8, .sl (.num .i64) (.may _) a0_9], .str a1] => some (true, .bool (ah4 a0_0 a0_7 a1))
 | 52, [.agg [.sl .atype (.may _) a0_0], .int .i64 a1, .sl .aval (.may _) a2] => some (decide (1000000 ≤ N - szL a2), .bool (dI a0_0 a1 a2))
 | 53, [.sl .str (.may _) a0] => some (true, .bool (qO a0))
 | 54, [.agg [.sl .atype (.may _) a0_0], .agg [.int .i64 a1_0, .str a1_1, .sl .str (.may _) a1_2, .int .i64 a1_3, .sl .str (.may _) a1_4, .bool a1_5, .str a1_6, .int .i64 a1_7, .sl .afield (.may _) a1_8, .sl (.num .i64) (.may _) a1_9], .sl .aval (.may _) a2] => some (decide (1000000 ≤ N - szL a2), .bool (decide (List.length a2 = List.length a1_8) && ua a0_0 a1_8 a2))
 | 55, [.agg [.int .u64 a0_0, .str a0_1, .sl .aval (.may _) a0_2, .sl .str (.may _) a0_3, .int .i64 a0_4]] => some (true, .bool (cz a0_0 a0_1 a0_2 a0_3 a0_4))
 | _, _ => none
def aC (N : Nat) : au := (eI (anP N))
theorem arT (N : Nat) : bS (aC N) [] := (bT _ _)
theorem avF (N : Nat) (h_aval_Fits : ∀ (a0_0 : List ac) (a1 : Int) (a2_0 : Int) (a2_1 : Bs) (a2_2 : List ab) (a2_3 : Bss) (a2_4 : Int), (decide (1000000 ≤ N - (szL a2_2 + 1))) = true → aj Try.prog mc [.agg [.sl .atype (.may false) a0_0], .int .i64 a1, .agg [.int .u64 a2_0, .str a2_1, .sl .aval (.may false) a2_2, .sl .str (.may false) a2_3, .int .i64 a2_4]] (.bool (cn a0_0 a1 (.mk a2_0 a2_1 a2_2 a2_3 a2_4)))) (h_aval_is : ∀ (a0_0 : List ac) (a1 : Int), aj Try.prog akP [.agg [.sl .atype (.may false) a0_0], .int .i64 a1] (.bool (isT a0_0 a1))) (h_aval_number : ∀ (a0_0 : Int) (a0_1 : Bs) (a0_2 : Bss) (a0_3 : Int) (a0_4 : Bss) (a0_5 : Bool) (a0_6 : Bs) (a0_7 : Int) (a0_8 : List ao) (a0_9 : List Int) (a1 : Int), aj Try.prog wT [.agg [.int .i64 a0_0, .str a0_1, .sl .str (.may false) a0_2, .int .i64 a0_3, .sl .str (.may false) a0_4, .bool a0_5, .str a0_6, .int .i64 a0_7, .sl .afield (.may false) a0_8, .sl (.num .i64) (.may false) a0_9], .int .u64 a1] (.bool (adv a0_0 a0_4 a1))) (h_aval_text : ∀ (a0_0 : Int) (a0_1 : Bs) (a0_2 : Bss) (a0_3 : Int) (a0_4 : Bss) (a0_5 : Bool) (a0_6 : Bs) (a0_7 : Int) (a0_8 : List ao) (a0_9 : List Int) (a1 : Bs), aj Try.prog adz [.agg [.int .i64 a0_0, .str a0_1, .sl .str (.may false) a0_2, .int .i64 a0_3, .sl .str (.may false) a0_4, .bool a0_5, .str a0_6, .int .i64 a0_7, .sl .afield (.may false) a0_8, .sl (.num .i64) (.may false) a0_9], .str a1] (.bool (ah4 a0_0 a0_7 a1))) (h_aval_each : ∀ (a0_0 : List ac) (a1 : Int) (a2 : List ab), (decide (1000000 ≤ N - szL a2)) = true → aj Try.prog adx [.agg [.sl .atype (.may false) a0_0], .int .i64 a1, .sl .aval (.may false) a2] (.bool (dI a0_0 a1 a2))) (h_aval_keys : ∀ (a0 : Bss), aj Try.prog ady [.sl .str (.may false) a0] (.bool (qO a0))) (h_aval_record : ∀ (a0_0 : List ac) (a1_0 : Int) (a1_1 : Bs) (a1_2 : Bss) (a1_3 : Int) (a1_4 : Bss) (a1_5 : Bool) (a1_6 : Bs) (a1_7 : Int) (a1_8 : List ao) (a1_9 : List Int) (a2 : List ab), (decide (1000000 ≤ N - szL a2)) = true → aj Try.prog wU [.agg [.sl .atype (.may false) a0_0], .agg [.int .i64 a1_0, .str a1_1, .sl .str (.may false) a1_2, .int .i64 a1_3, .sl .str (.may false) a1_4, .bool a1_5, .str a1_6, .int .i64 a1_7, .sl .afield (.may false) a1_8, .sl (.num .i64) (.may false) a1_9], .sl .aval (.may false) a2] (.bool (decide (List.length a2 = List.length a1_8) && ua a0_0 a1_8 a2))) (h_aval_bare : ∀ (a0_0 : Int) (a0_1 : Bs) (a0_2 : List ab) (a0_3 : Bss) (a0_4 : Int), aj Try.prog adw [.agg [.int .u64 a0_0, .str a0_1, .sl .aval (.may false) a0_2, .sl .str (.may false) a0_3, .int .i64 a0_4]] (.bool (cz a0_0 a0_1 a0_2 a0_3 a0_4))) : aS Try.prog (aC N) := by
 intro f vs hp v hp' h0
 obtain ⟨h, he⟩ := cr h0
 subst he
 unfold anP at h
 split at h
 ·simp only [Option.some.injEq, Prod.mk.injEq] at h
  obtain ⟨hc, rfl⟩ := h
  exact ((h_aval_Fits _ _ _ _ _ _ _ hc).dim rfl).frame rfl rfl _
 ·simp only [Option.some.injEq, Prod.mk.injEq] at h
  obtain ⟨hc, rfl⟩ := h
  exact ((h_aval_is _ _).dim rfl).frame rfl rfl _
 ·simp only [Option.some.injEq, Prod.mk.injEq] at h
  obtain ⟨hc, rfl⟩ := h
  exact ((h_aval_number _ _ _ _ _ _ _ _ _ _ _).dim rfl).frame rfl rfl _
 ·simp only [Option.some.injEq, Prod.mk.injEq] at h
  obtain ⟨hc, rfl⟩ := h
  exact ((h_aval_text _ _ _ _ _ _ _ _ _ _ _).dim rfl).frame rfl rfl _
 ·simp only [Option.some.injEq, Prod.mk.injEq] at h
  obtain ⟨hc, rfl⟩ := h
  exact ((h_aval_each _ _ _ hc).dim rfl).frame rfl rfl _
 ·simp only [Option.some.injEq, Prod.mk.injEq] at h
  obtain ⟨hc, rfl⟩ := h
  exact ((h_aval_keys _).dim rfl).frame rfl rfl _
 ·simp only [Option.some.injEq, Prod.mk.injEq] at h
  obtain ⟨hc, rfl⟩ := h
  exact ((h_aval_record _ _ _ _ _ _ _ _ _ _ _ _ hc).dim rfl).frame rfl rfl _
 ·simp only [Option.some.injEq, Prod.mk.injEq] at h
  obtain ⟨hc, rfl⟩ := h
  exact ((h_aval_bare _ _ _ _ _).dim rfl).frame rfl rfl _
 ·simp at h
def avG : IR := .ret
def avH : IR := (.cond (.t 13) (.seq (.reg [Pp (.mov 6 (.c (.bool false)))] []) avG) .skip)
def avI : IR := (.cond (.t 24) .skip (.reg [Bc 30 .eql 21 10, Mv 24 30] []))
def avJ : IR := (.cond (.t 24) .skip (.seq (.reg [Bc 29 .eql 21 6, Mv 24 29] []) avI))
def avK : IR := (.cond (.t 24) .skip (.seq (.reg [Bc 28 .eql 21 5, Mv 24 28] []) avJ))
def avL : IR := (.cond (.t 24) .skip (.seq (.reg [Bc 27 .eql 21 4, Mv 24 27] []) avK))
def avM : IR := (.cond (.t 24) .skip (.seq (.reg [Bc 26 .eql 21 3, Mv 24 26] []) avL))
def avN : IR := (.cond (.t 36) .skip (.reg [Bc 39 .eql 21 11, Mv 36 39] []))
def avO : IR := (.cond (.t 36) .skip (.seq (.reg [Bc 38 .eql 21 8, Mv 36 38] []) avN))
def qX : IR := (.reg [Fa 76 2 8, Pp (.st none 1 (.t 76) (.c (.sl .aval .own ([] : List ab)))), Fa 77 3 8, Pp (.st none 1 (.t 77) (.c (.sl .str .own ([] : Bss))))] [])
def arU : IR := (.cut [8, 9, 1000000] 1 qX)
def pB : IR := (.reg [Fa 119 2 8, Pp (.st none 1 (.t 119) (.c (.sl .aval .own ([] : List ab)))), Fa 120 4 8, Pp (.st none 1 (.t 120) (.c (.int .i64 0)))] [])
def arV : IR := (.cut [8, 9, 1000001] 1 pB)
def arW : IR := (.cond (.t 86) (.seq (.reg [Fa 88 4 5, Ld 89 1 false 88, Bc 90 .geq 89 0, Mv 91 90, Pg (91, true) (.fad 92 4 (.t 5)), Pg (91, true) (.lde 93 1 false (.t 92)), Pg (91, true) (.fad 94 9 (.t 7)), Pg (91, true) (.lde 95 1 false (.t 94)), Pg (91, true) (.lenl 96 (.t 95)), Pg (91, true) (.bin 97 .lss (.t 93) (.t 96)), Pa 98 91 97, Mv 99 98, Pg (99, true) (.fad 100 2 (.t 5)), Pg (99, true) (.lde 101 1 false (.t 100)), Pg (99, true) (.lenl 102 (.t 101)), Pg (99, true) (.bin 103 .eql (.t 102) (.c (.int .i64 1))), Pa 104 99 103, Mv 105 104, Pg (105, true) (.lde 106 1 true (.t 3)), Pg (105, true) (.fad 107 9 (.t 7)), Pg (105, true) (.lde 108 1 false (.t 107)), Pg (105, true) (.fad 109 4 (.t 5)), Pg (105, true) (.lde 110 1 false (.t 109)), Pg (105, true) (.ixa 111 (.num .i64) (.t 108) (.t 110)), Pg (105, true) (.lde 112 1 false (.t 111)), Pg (105, true) (.fad 113 2 (.t 5)), Pg (105, true) (.lde 114 1 false (.t 113)), Pg (105, true) (.ixa 115 .aval (.t 114) (.c (.int .i64 0))), Pg (105, true) (.lde 116 5 true (.t 115)), Pg (105, true) (.call (some 117) 21 [(.t 106), (.t 112), (.t 116)]), Pa 118 105 117, Mv 9 118] [[], [0], [0, 1], [0, 1, 2], [0, 1, 2, 3], [0, 1, 2, 3, 4], [0, 1, 2, 3], [0, 1, 2, 3, 6], [0, 1, 2, 3, 6, 7], [0, 1, 2, 3, 4, 5, 6, 7, 8], [0, 1, 2, 3, 4, 5, 6, 7, 8, 9], [0, 1, 2, 3, 4, 5, 6, 7, 8, 9, 10], [0, 1, 2, 3, 4, 5, 6, 7, 8, 9, 10, 11], [0, 1, 2, 3, 4, 5, 6, 7, 8, 9, 10, 11, 12], [0, 1, 2, 3, 4, 5, 6, 7, 8, 9, 10, 11, 12, 13], [0, 1, 2, 3, 4, 5, 6, 7, 8, 9, 10, 11, 12, 13, 14], [0, 1, 2, 3, 4, 5, 6, 7, 8, 9, 10, 11, 12, 13, 14, 15], [0, 1, 2, 3, 4, 5, 6, 7, 8, 9, 10, 11, 12, 13, 14, 15, 16], [0, 1, 2, 3, 4, 5, 6, 7, 8, 9, 10, 11, 12, 13, 14, 15, 16, 17], [0, 1, 2, 3, 4, 5, 6, 7, 8, 9, 10, 11, 12, 13, 14, 15, 16, 17], [0, 1, 2, 3, 4, 5, 6, 7, 8, 9, 10, 11, 12, 13, 14, 15, 16, 17, 19], [0, 1, 2, 3, 4, 5, 6, 7, 8, 9, 10, 11, 12, 13, 14, 15, 16, 17], [0, 1, 2, 3, 4, 5, 6, 7, 8, 9, 10, 11, 12, 13, 14, 15, 16, 17, 21], [0, 1, 2, 3, 4, 5, 6, 7, 8, 9, 10, 11, 12, 13, 14, 15, 16, 17, 19, 20, 21, 22], [0, 1, 2, 3, 4, 5, 6, 7, 8, 9, 10, 11, 12, 13, 14, 15, 16, 17, 19, 20, 21, 22, 23], [0, 1, 2, 3, 4, 5, 6, 7, 8, 9, 10, 11, 12, 13, 14, 15, 16, 17], [0, 1, 2, 3, 4, 5, 6, 7, 8, 9, 10, 11, 12, 13, 14, 15, 16, 17, 25], [0, 1, 2, 3, 4, 5, 6, 7, 8, 9, 10, 11, 12, 13, 14, 15, 16, 17, 25, 26], [0, 1, 2, 3, 4, 5, 6, 7, 8, 9, 10, 11, 12, 13, 14, 15, 16, 17, 25, 26, 27], [0, 1, 2, 3, 4, 5, 6, 7, 8, 9, 10, 11, 12, 13, 14, 15, 16, 17, 18, 19, 20, 21, 22, 23, 24, 25, 26, 27, 28], [0, 1, 2, 3, 4, 5, 6, 7, 8, 9, 10, 11, 12, 13, 14, 15, 16, 17, 18, 19, 20, 21, 22, 23, 24, 25, 26, 27, 28, 29], [0, 1, 2, 3, 4, 5, 6, 7, 8, 9, 10, 11, 12, 13, 14, 15, 16, 17, 18, 19, 20, 21, 22, 23, 24, 25, 26, 27, 28, 29, 30]]) arV) .skip)
def arX : IR := (.cond (.t 78) (.reg [Ld 80 1 true 3, Ld 81 10 true 7, Fa 82 2 5, Ld 83 1 false 82, Pp (.call (some 84) 54 [(.t 80), (.t 81), (.t 83)]), Mv 9 84, Fa 85 2 8, Pp (.st none 1 (.t 85) (.c (.sl .aval .own ([] : List ab))))] []) (.seq (.reg [Bc 87 .eql 21 14, Mv 86 87] []) arW))
def arY : IR := (.cond (.t 54) (.seq (.reg [Fa 56 3 5, Ld 57 1 false 56, Pp (.lenl 58 (.t 57)), Fa 59 2 5, Ld 60 1 false 59, Pp (.lenl 61 (.t 60)), Bi 62 .eql 58 61, Mv 63 62, Pg (63, true) (.fad 64 3 (.t 5)), Pg (63, true) (.lde 65 1 false (.t 64)), Pg (63, true) (.call (some 66) 53 [(.t 65)]), Pa 67 63 66, Mv 68 67, Pg (68, true) (.lde 69 1 true (.t 3)), Pg (68, true) (.fad 70 3 (.t 7)), Pg (68, true) (.lde 71 1 false (.t 70)), Pg (68, true) (.fad 72 2 (.t 5)), Pg (68, true) (.lde 73 1 false (.t 72)), Pg (68, true) (.call (some 74) 52 [(.t 69), (.t 71), (.t 73)]), Pa 75 68 74, Mv 9 75] []) arU) (.seq (.reg [Bc 79 .eql 21 9, Mv 78 79] []) arX))
def arZ : IR := (.cond (.t 45) (.reg [Ld 47 1 true 3, Fa 48 3 7, Ld 49 1 false 48, Fa 50 2 5, Ld 51 1 false 50, Pp (.call (some 52) 52 [(.t 47), (.t 49), (.t 51)]), Mv 9 52, Fa 53 2 8, Pp (.st none 1 (.t 53) (.c (.sl .aval .own ([] : List ab))))] []) (.seq (.reg [Bc 55 .eql 21 13, Mv 54 55] []) arY))
def pC : IR := (.cond (.t 36) (.reg [Ld 40 10 true 7, Fa 41 1 5, Ld 42 1 false 41, Pp (.call (some 43) 51 [(.t 40), (.t 42)]), Mv 9 43, Fa 44 1 8, Pp (.st none 1 (.t 44) (.c (.str ([] : Bs))))] []) (.seq (.reg [Bc 46 .eql 21 12, Mv 45 46] []) arZ))
def ar0 : IR := (.cut [3, 5, 7, 8, 9, 21, 36, 1000002] 1 pC)
def pD : IR := (.cond (.t 24) (.reg [Ld 31 10 true 7, Fa 32 0 5, Ld 33 1 false 32, Pp (.call (some 34) 50 [(.t 31), (.t 33)]), Mv 9 34, Fa 35 0 8, Pp (.st none 1 (.t 35) (.c (.int .u64 0)))] []) (.seq (.seq (.reg [Bc 37 .eql 21 7, Mv 36 37] []) avO) ar0))
def ar1 : IR := (.cut [3, 5, 7, 8, 9, 21, 24, 1000003] 1 pD)
def ar2 : IR := (.cond (.t 22) (.reg [Pp (.mov 9 (.c (.bool true)))] []) (.seq (.seq (.reg [Bc 25 .eql 21 2, Mv 24 25] []) avM) ar1))
def ar3 : IR := (.block 0 (.seq (.reg [Bc 23 .eql 21 1, Mv 22 23] []) ar2))
def ar4 : IR := .ret
def gg : IR := (.seq (.reg [Mv 121 9, Mv 122 121, Pg (122, true) (.ld 123 5 true false (.t 8)), Pg (122, true) (.call (some 124) 55 [(.t 123)]), Pa 125 122 124, Mv 6 125] []) ar4)
def jx : IR := (.cut [8, 9, 1000004] 1 gg)
def ar5 : IR := (.seq (.seq (.reg [Fa 20 0 7, Ld 21 1 false 20] []) ar3) jx)
def ar6 : IR := (.seq (.reg [Pp (.mov 9 (.c (.bool false)))] []) ar5)
def ar7 : IR := (.seq (.reg [Fa 14 0 3, Ld 15 1 false 14, Mv 16 1, Pp (.ixa 17 .atype (.t 15) (.t 16)), Ld 18 10 true 17, Ld 19 5 true 5, Pp (.alr 7 10), Pp (.new 8 [.int .u64 0, .str ([] : Bs), .sl .aval .own ([] : List ab), .sl .str .own ([] : Bss), .int .i64 0]), Pp (.frz none 7 10 (.t 18)), ⟨none, .st none 5 (.t 8) (.t 19), some ([], [0])⟩] [[], [0], [], [0, 1, 2], [0, 1, 2, 3], [], [], [], [0, 1, 2, 3, 4, 6, 7], [0, 1, 2, 3, 4, 5, 6, 7, 8]]) ar6)
def ar8 : IR := (.seq (.seq (.reg [Ld 10 1 true 3, Mv 11 1, Pp (.call (some 12) 49 [(.t 10), (.t 11)]), Pp (.un 13 .not (.t 12))] []) avH) ar7)
def yZ : IR := (.seq (.reg [Pp (.boxe 3 (.t 0)), Pp (.boxe 5 (.t 2)), Pp (.mov 6 (.c (.bool false)))] []) ar8)
def cE : List RV := [.t 6]
theorem ayt : (aZ Try.prog [] 0 yZ (Try.f21.body.getD .skip) && cQ Try.prog cE Try.f21.results.toList) = true := by kernel_rfl
theorem avP : Try.f21.body = some (Try.f21.body.getD .skip) := by kernel_rfl
abbrev sC : Type := (Bool × Int × Bs × List ab × Bss × Int)
def vA (x : sC) : St := { env := (U 8 (.ptr 0 0 :: .bool x.1 :: (U 116 []))), hp := [some [.int .u64 x.2.1, .str x.2.2.1, .sl .aval (.may false) x.2.2.2.1, .sl .str (.may false) x.2.2.2.2.1, .int .i64 x.2.2.2.2.2]] }
def ajg (N : Nat) : St → Ro := fun s => run (aC N) N gg (fin cE) s
def wY (N : Nat) (x : sC) : Ro :=
 let v9 : Bool := x.1
 let o0_0 : Int := x.2.1
 let o0_1 : Bs := x.2.2.1
 let o0_2 : List ab := x.2.2.2.1
 let o0_3 : Bss := x.2.2.2.2.1
 let o0_4 : Int := x.2.2.2.2.2
 cond v9 (
  let x11 : Bool := (cz o0_0 o0_1 o0_2 o0_3 o0_4)
  some (.bool x11, [some [.int .u64 o0_0, .str o0_1, .sl .aval (.may false) o0_2, .sl .str (.may false) o0_3, .int .i64 o0_4]])) (
  some (.bool false, [some [.int .u64 o0_0, .str o0_1, .sl .aval (.may false) o0_2, .sl .str (.may false) o0_3, .int .i64 o0_4]]))
theorem avQ (N : Nat) : ∀ (x : sC), ajg N (vA x) = wY N x := by
 intro x
 kernel_rfl
abbrev oG : Type := (List ac × Int × Bs × List ab × Bss × Int × Int × Bs × Bss × Int × Bss × Bool × Bs × Int × List ao × List Int × Bool × Int × Bool × Int × Bs × List ab × Bss × Int)
def mR (x : oG) : St := { env := (U 3 (.ea [.sl .atype (.may false) x.1] :: .undef :: .ea [.int .u64 x.2.1, .str x.2.2.1, .sl .aval (.may false) x.2.2.2.1, .sl .str (.may false) x.2.2.2.2.1, .int .i64 x.2.2.2.2.2.1] :: .undef :: .ea [.int .i64 x.2.2.2.2.2.2.1, .str x.2.2.2.2.2.2.2.1, .sl .str (.may false) x.2.2.2.2.2.2.2.2.1, .int .i64 x.2.2.2.2.2.2.2.2.2.1, .sl .str (.may false) x.2.2.2.2.2.2.2.2.2.2.1, .bool x.2.2.2.2.2.2.2.2.2.2.2.1, .str x.2.2.2.2.2.2.2.2.2.2.2.2.1, .int .i64 x.2.2.2.2.2.2.2.2.2.2.2.2.2.1, .sl .afield (.may false) x.2.2.2.2.2.2.2.2.2.2.2.2.2.2.1, .sl (.num .i64) (.may false) x.2.2.2.2.2.2.2.2.2.2.2.2.2.2.2.1] :: .ptr 0 0 :: .bool x.2.2.2.2.2.2.2.2.2.2.2.2.2.2.2.2.1 :: (U 11 (.int .i64 x.2.2.2.2.2.2.2.2.2.2.2.2.2.2.2.2.2.1 :: .undef :: .undef :: .bool x.2.2.2.2.2.2.2.2.2.2.2.2.2.2.2.2.2.2.1 :: (U 101 []))))), hp := [some [.int .u64 x.2.2.2.2.2.2.2.2.2.2.2.2.2.2.2.2.2.2.2.1, .str x.2.2.2.2.2.2.2.2.2.2.2.2.2.2.2.2.2.2.2.2.1, .sl .aval (.may false) x.2.2.2.2.2.2.2.2.2.2.2.2.2.2.2.2.2.2.2.2.2.1, .sl .str (.may false) x.2.2.2.2.2.2.2.2.2.2.2.2.2.2.2.2.2.2.2.2.2.2.1, .int .i64 x.2.2.2.2.2.2.2.2.2.2.2.2.2.2.2.2.2.2.2.2.2.2.2]] }
def cO (R : IR → (Ex → St → Ro) → St → Ro) : Ex → St → Ro := (aD 0 (bo (R jx) (fin cE)))
abbrev sD : Type := (Bool × Int × Bs × List ab × Bss × Int)
def qY (x : sD) : St := { env := (U 8 (.ptr 0 0 :: .bool x.1 :: (U 116 []))), hp := [some [.int .u64 x.2.1, .str x.2.2.1, .sl .aval (.may false) x.2.2.2.1, .sl .str (.may false) x.2.2.2.2.1, .int .i64 x.2.2.2.2.2]] }
def wZ (N : Nat) : St → Ro := fun s => run (aC N) N gg (fin cE) s
def sE (N : Nat) (x : sD) : Ro :=
 let v9 : Bool := x.1
 let o0_0 : Int := x.2.1
 let o0_1 : Bs := x.2.2.1
 let o0_2 : List ab := x.2.2.2.1
 let o0_3 : Bss := x.2.2.2.2.1
 let o0_4 : Int := x.2.2.2.2.2
 cond v9 (
  let x12 : Bool := (cz o0_0 o0_1 o0_2 o0_3 o0_4)
  some (.bool x12, [some [.int .u64 o0_0, .str o0_1, .sl .aval (.may false) o0_2, .sl .str (.may false) o0_3, .int .i64 o0_4]])) (
  some (.bool false, [some [.int .u64 o0_0, .str o0_1, .sl .aval (.may false) o0_2, .sl .str (.may false) o0_3, .int .i64 o0_4]]))
theorem avR (N : Nat) : ∀ (x : sD), wZ N (qY x) = sE N x := by
 intro x
 kernel_rfl
abbrev oH : Type := (List ac × Int × Bs × List ab × Bss × Int × Int × Bs × Bss × Int × Bss × Bool × Bs × Int × List ao × List Int × Bool × Int × Bool × Int × Bs × List ab × Bss × Int)
def kK (x : oH) : St := { env := (U 3 (.ea [.sl .atype (.may false) x.1] :: .undef :: .ea [.int .u64 x.2.1, .str x.2.2.1, .sl .aval (.may false) x.2.2.2.1, .sl .str (.may false) x.2.2.2.2.1, .int .i64 x.2.2.2.2.2.1] :: .undef :: .ea [.int .i64 x.2.2.2.2.2.2.1, .str x.2.2.2.2.2.2.2.1, .sl .str (.may false) x.2.2.2.2.2.2.2.2.1, .int .i64 x.2.2.2.2.2.2.2.2.2.1, .sl .str (.may false) x.2.2.2.2.2.2.2.2.2.2.1, .bool x.2.2.2.2.2.2.2.2.2.2.2.1, .str x.2.2.2.2.2.2.2.2.2.2.2.2.1, .int .i64 x.2.2.2.2.2.2.2.2.2.2.2.2.2.1, .sl .afield (.may false) x.2.2.2.2.2.2.2.2.2.2.2.2.2.2.1, .sl (.num .i64) (.may false) x.2.2.2.2.2.2.2.2.2.2.2.2.2.2.2.1] :: .ptr 0 0 :: .bool x.2.2.2.2.2.2.2.2.2.2.2.2.2.2.2.2.1 :: (U 11 (.int .i64 x.2.2.2.2.2.2.2.2.2.2.2.2.2.2.2.2.2.1 :: (U 14 (.bool x.2.2.2.2.2.2.2.2.2.2.2.2.2.2.2.2.2.2.1 :: (U 89 []))))))), hp := [some [.int .u64 x.2.2.2.2.2.2.2.2.2.2.2.2.2.2.2.2.2.2.2.1, .str x.2.2.2.2.2.2.2.2.2.2.2.2.2.2.2.2.2.2.2.2.1, .sl .aval (.may false) x.2.2.2.2.2.2.2.2.2.2.2.2.2.2.2.2.2.2.2.2.2.1, .sl .str (.may false) x.2.2.2.2.2.2.2.2.2.2.2.2.2.2.2.2.2.2.2.2.2.2.1, .int .i64 x.2.2.2.2.2.2.2.2.2.2.2.2.2.2.2.2.2.2.2.2.2.2.2]] }
abbrev sF : Type := (Bool × Int × Bs × List ab × Bss × Int)
def qZ (x : sF) : St := { env := (U 8 (.ptr 0 0 :: .bool x.1 :: (U 116 []))), hp := [some [.int .u64 x.2.1, .str x.2.2.1, .sl .aval (.may false) x.2.2.2.1, .sl .str (.may false) x.2.2.2.2.1, .int .i64 x.2.2.2.2.2]] }
def w5 (N : Nat) : St → Ro := fun s => run (aC N) N gg (fin cE) s
def sG (N : Nat) (x : sF) : Ro :=
 let v9 : Bool := x.1
 let o0_0 : Int := x.2.1
 let o0_1 : Bs := x.2.2.1
 let o0_2 : List ab := x.2.2.2.1
 let o0_3 : Bss := x.2.2.2.2.1
 let o0_4 : Int := x.2.2.2.2.2
 cond v9 (
  let x13 : Bool := (cz o0_0 o0_1 o0_2 o0_3 o0_4)
  some (.bool x13, [some [.int .u64 o0_0, .str o0_1, .sl .aval (.may false) o0_2, .sl .str (.may false) o0_3, .int .i64 o0_4]])) (
  some (.bool false, [some [.int .u64 o0_0, .str o0_1, .sl .aval (.may false) o0_2, .sl .str (.may false) o0_3, .int .i64 o0_4]]))
theorem avS (N : Nat) : ∀ (x : sF), w5 N (qZ x) = sG N x := by
 intro x
 kernel_rfl
abbrev sH : Type := (Bool × Int × Bs × List ab × Bss × Int)
def ra (x : sH) : St := { env := (U 8 (.ptr 0 0 :: .bool x.1 :: (U 116 []))), hp := [some [.int .u64 x.2.1, .str x.2.2.1, .sl .aval .own x.2.2.2.1, .sl .str (.may false) x.2.2.2.2.1, .int .i64 x.2.2.2.2.2]] }
def w6 (N : Nat) : St → Ro := fun s => run (aC N) N gg (fin cE) s
def sI (N : Nat) (x : sH) : Ro :=
 let v9 : Bool := x.1
 let o0_0 : Int := x.2.1
 let o0_1 : Bs := x.2.2.1
 let o0_2 : List ab := x.2.2.2.1
 let o0_3 : Bss := x.2.2.2.2.1
 let o0_4 : Int := x.2.2.2.2.2
 cond v9 (
  let x14 : Bool := (cz o0_0 o0_1 o0_2 o0_3 o0_4)
  some (.bool x14, [some [.int .u64 o0_0, .str o0_1, .sl .aval .own o0_2, .sl .str (.may false) o0_3, .int .i64 o0_4]])) (
  some (.bool false, [some [.int .u64 o0_0, .str o0_1, .sl .aval .own o0_2, .sl .str (.may false) o0_3, .int .i64 o0_4]]))
theorem avT (N : Nat) : ∀ (x : sH), w6 N (ra x) = sI N x := by
 intro x
 kernel_rfl
abbrev oJ : Type := (Bool × Int × Bs × List ab × Bss × Int)
def kL (x : oJ) : St := { env := (U 8 (.ptr 0 0 :: .bool x.1 :: (U 116 []))), hp := [some [.int .u64 x.2.1, .str x.2.2.1, .sl .aval (.may false) x.2.2.2.1, .sl .str (.may false) x.2.2.2.2.1, .int .i64 x.2.2.2.2.2]] }
abbrev sJ : Type := (Bool × Int × Bs × List ab × Bss × Int)
def rc (x : sJ) : St := { env := (U 8 (.ptr 0 0 :: .bool x.1 :: (U 116 []))), hp := [some [.int .u64 x.2.1, .str x.2.2.1, .sl .aval .own x.2.2.2.1, .sl .str .own x.2.2.2.2.1, .int .i64 x.2.2.2.2.2]] }
def w7 (N : Nat) : St → Ro := fun s => run (aC N) N gg (fin cE) s
def w9 (N : Nat) (x : sJ) : Ro :=
 let v9 : Bool := x.1
 let o0_0 : Int := x.2.1
 let o0_1 : Bs := x.2.2.1
 let o0_2 : List ab := x.2.2.2.1
 let o0_3 : Bss := x.2.2.2.2.1
 let o0_4 : Int := x.2.2.2.2.2
 cond v9 (
  let x17 : Bool := (cz o0_0 o0_1 o0_2 o0_3 o0_4)
  some (.bool x17, [some [.int .u64 o0_0, .str o0_1, .sl .aval .own o0_2, .sl .str .own o0_3, .int .i64 o0_4]])) (
  some (.bool false, [some [.int .u64 o0_0, .str o0_1, .sl .aval .own o0_2, .sl .str .own o0_3, .int .i64 o0_4]]))
theorem avU (N : Nat) : ∀ (x : sJ), w7 N (rc x) = w9 N x := by
 intro x
 kernel_rfl
def sK (N : Nat) : St → Ro := fun s => run (aC N) N qX (cO (run (aC N) N)) s
def vB (N : Nat) (q7 : sJ → Ro) (x : oJ) : Ro :=
 let v9 : Bool := x.1
 let o0_0 : Int := x.2.1
 let o0_1 : Bs := x.2.2.1
 let o0_2 : List ab := x.2.2.2.1
 let o0_3 : Bss := x.2.2.2.2.1
 let o0_4 : Int := x.2.2.2.2.2
 q7 (v9, o0_0, o0_1, ([] : List ab), ([] : Bss), o0_4)
def sL (N : Nat) (x : oJ) : Ro := vB N (fun z => w9 N z) x
def xa (N : Nat) : List (Nat × (St → Ro)) := (aI (aC N) N qX (cO (run (aC N) N)) ++ (aI (aC N) N jx (fin cE) ++ []))
theorem avV (N : Nat) : ∀ (x : oJ), sK N (kL x) = sL N x := by
 intro x
 have hX : ∀ C : Nat → St → Ro, bI C (aC N) N qX (cO (bI C (aC N) N)) (kL x) = vB N (fun z => C 1000004 (rc z)) x := by
  intro C
  kernel_rfl
 have h : sK N (kL x) = vB N (fun z => w7 N (rc z)) x := (cA (C := ec (xa N)) (bL (aL (l := (xa N)) (by kernel_rfl))) (cL (f8 (bL (dz (aL (l := (xa N)) (by kernel_rfl)))) rfl)) _).trans ((hX _).trans (by kernel_rfl))
 have e7 : (fun z => w7 N (rc z)) = (fun z => w9 N z) := funext fun z => avU N z
 rw [h, e7]
 rfl
abbrev oK : Type := (Bool × Int × Bs × List ab × Bss × Int)
def kM (x : oK) : St := { env := (U 8 (.ptr 0 0 :: .bool x.1 :: (U 116 []))), hp := [some [.int .u64 x.2.1, .str x.2.2.1, .sl .aval (.may false) x.2.2.2.1, .sl .str (.may false) x.2.2.2.2.1, .int .i64 x.2.2.2.2.2]] }
abbrev sM : Type := (Bool × Int × Bs × List ab × Bss × Int)
def re (x : sM) : St := { env := (U 8 (.ptr 0 0 :: .bool x.1 :: (U 116 []))), hp := [some [.int .u64 x.2.1, .str x.2.2.1, .sl .aval .own x.2.2.2.1, .sl .str (.may false) x.2.2.2.2.1, .int .i64 x.2.2.2.2.2]] }
def xb (N : Nat) : St → Ro := fun s => run (aC N) N gg (fin cE) s
def xc (N : Nat) (x : sM) : Ro :=
 let v9 : Bool := x.1
 let o0_0 : Int := x.2.1
 let o0_1 : Bs := x.2.2.1
 let o0_2 : List ab := x.2.2.2.1
 let o0_3 : Bss := x.2.2.2.2.1
 let o0_4 : Int := x.2.2.2.2.2
 cond v9 (
  let x28 : Bool := (cz o0_0 o0_1 o0_2 o0_3 o0_4)
  some (.bool x28, [some [.int .u64 o0_0, .str o0_1, .sl .aval .own o0_2, .sl .str (.may false) o0_3, .int .i64 o0_4]])) (
  some (.bool false, [some [.int .u64 o0_0, .str o0_1, .sl .aval .own o0_2, .sl .str (.may false) o0_3, .int .i64 o0_4]]))
theorem avW (N : Nat) : ∀ (x : sM), xb N (re x) = xc N x := by
 intro x
 kernel_rfl
def sN (N : Nat) : St → Ro := fun s => run (aC N) N pB (cO (run (aC N) N)) s
def vC (N : Nat) (q9 : sM → Ro) (x : oK) : Ro :=
 let v9 : Bool := x.1
 let o0_0 : Int := x.2.1
 let o0_1 : Bs := x.2.2.1
 let o0_2 : List ab := x.2.2.2.1
 let o0_3 : Bss := x.2.2.2.2.1
 let o0_4 : Int := x.2.2.2.2.2
 q9 (v9, o0_0, o0_1, ([] : List ab), o0_3, 0)
def sO (N : Nat) (x : oK) : Ro := vC N (fun z => xc N z) x
def xd (N : Nat) : List (Nat × (St → Ro)) := (aI (aC N) N pB (cO (run (aC N) N)) ++ (aI (aC N) N jx (fin cE) ++ []))
theorem avX (N : Nat) : ∀ (x : oK), sN N (kM x) = sO N x := by
 intro x
 have hX : ∀ C : Nat → St → Ro, bI C (aC N) N pB (cO (bI C (aC N) N)) (kM x) = vC N (fun z => C 1000004 (re z)) x := by
  intro C
  kernel_rfl
 have h : sN N (kM x) = vC N (fun z => xb N (re z)) x := (cA (C := ec (xd N)) (bL (aL (l := (xd N)) (by kernel_rfl))) (cL (f8 (bL (dz (aL (l := (xd N)) (by kernel_rfl)))) rfl)) _).trans ((hX _).trans (by kernel_rfl))
 have e9 : (fun z => xb N (re z)) = (fun z => xc N z) := funext fun z => avW N z
 rw [h, e9]
 rfl
def sP (N : Nat) : St → Ro := fun s => run (aC N) N pC (cO (run (aC N) N)) s
def mS (N : Nat) (q4 : sF → Ro) (q5 : sH → Ro) (q6 : oJ → Ro) (q8 : oK → Ro) (x : oH) : Ro :=
 let v3_0 : List ac := x.1
 let v5_0 : Int := x.2.1
 let v5_1 : Bs := x.2.2.1
 let v5_2 : List ab := x.2.2.2.1
 let v5_3 : Bss := x.2.2.2.2.1
 let v5_4 : Int := x.2.2.2.2.2.1
 let v7_0 : Int := x.2.2.2.2.2.2.1
 let v7_1 : Bs := x.2.2.2.2.2.2.2.1
 let v7_2 : Bss := x.2.2.2.2.2.2.2.2.1
 let v7_3 : Int := x.2.2.2.2.2.2.2.2.2.1
 let v7_4 : Bss := x.2.2.2.2.2.2.2.2.2.2.1
 let v7_5 : Bool := x.2.2.2.2.2.2.2.2.2.2.2.1
 let v7_6 : Bs := x.2.2.2.2.2.2.2.2.2.2.2.2.1
 let v7_7 : Int := x.2.2.2.2.2.2.2.2.2.2.2.2.2.1
 let v7_8 : List ao := x.2.2.2.2.2.2.2.2.2.2.2.2.2.2.1
 let v7_9 : List Int := x.2.2.2.2.2.2.2.2.2.2.2.2.2.2.2.1
 let v9 : Bool := x.2.2.2.2.2.2.2.2.2.2.2.2.2.2.2.2.1
 let v21 : Int := x.2.2.2.2.2.2.2.2.2.2.2.2.2.2.2.2.2.1
 let v36 : Bool := x.2.2.2.2.2.2.2.2.2.2.2.2.2.2.2.2.2.2.1
 let o0_0 : Int := x.2.2.2.2.2.2.2.2.2.2.2.2.2.2.2.2.2.2.2.1
 let o0_1 : Bs := x.2.2.2.2.2.2.2.2.2.2.2.2.2.2.2.2.2.2.2.2.1
 let o0_2 : List ab := x.2.2.2.2.2.2.2.2.2.2.2.2.2.2.2.2.2.2.2.2.2.1
 let o0_3 : Bss := x.2.2.2.2.2.2.2.2.2.2.2.2.2.2.2.2.2.2.2.2.2.2.1
 let o0_4 : Int := x.2.2.2.2.2.2.2.2.2.2.2.2.2.2.2.2.2.2.2.2.2.2.2
 cond v36 (
  q4 ((ah4 v7_0 v7_7 v5_1), o0_0, ([] : Bs), o0_2, o0_3, o0_4)) (
  cond (v21 == 12) (
   chk (decide (1000000 ≤ N - szL v5_2)) (
    q5 ((dI v3_0 v7_3 v5_2), o0_0, o0_1, ([] : List ab), o0_3, o0_4))) (
   cond (v21 == 13) (
    let x15 : Int := (↑(List.length v5_3) : Int)
    let x16 : Int := (↑(List.length v5_2) : Int)
    cond (x15 == x16) (
     cond (qO v5_3) (
      chk (decide (1000000 ≤ N - szL v5_2)) (
       q6 ((dI v3_0 v7_3 v5_2), o0_0, o0_1, o0_2, o0_3, o0_4))) (
      q6 (false, o0_0, o0_1, o0_2, o0_3, o0_4))) (
     q6 (false, o0_0, o0_1, o0_2, o0_3, o0_4))) (
    cond (v21 == 9) (
     chk (decide (1000000 ≤ N - szL v5_2)) (
      let x18 : Bool := (decide (List.length v5_2 = List.length v7_8) && ua v3_0 v7_8 v5_2)
      q5 (x18, o0_0, o0_1, ([] : List ab), o0_3, o0_4))) (
     cond (v21 == 14) (
      cond (decide (0 ≤ v5_4)) (
       let x19 : Int := (↑(List.length v7_9) : Int)
       cond (decide (v5_4 < x19)) (
        let x20 : Int := (↑(List.length v5_2) : Int)
        cond (x20 == 1) (
         chk ((decide (0 ≤ v5_4) && decide (v5_4 < ↑(List.length v7_9)))) (
          let x21 : Int := List.getD v7_9 (Int.toNat v5_4) (af (.num .i64))
          chk (decide ((0 : Int) < ↑(List.length v5_2))) (
           let x22 : Int := (List.getD v5_2 (Int.toNat 0) (af .aval)).n
           let x23 : Bs := (List.getD v5_2 (Int.toNat 0) (af .aval)).s
           let x24 : List ab := (List.getD v5_2 (Int.toNat 0) (af .aval)).l
           let x25 : Bss := (List.getD v5_2 (Int.toNat 0) (af .aval)).keys
           let x26 : Int := (List.getD v5_2 (Int.toNat 0) (af .aval)).branch
           chk (decide (1000000 ≤ N - (szL x24 + 1))) (
            let x27 : Bool := (cn v3_0 x21 (.mk x22 x23 x24 x25 x26))
            q8 (x27, o0_0, o0_1, o0_2, o0_3, o0_4))))) (
         q8 (false, o0_0, o0_1, o0_2, o0_3, o0_4))) (
        q8 (false, o0_0, o0_1, o0_2, o0_3, o0_4))) (
       q8 (false, o0_0, o0_1, o0_2, o0_3, o0_4))) (
      q4 (v9, o0_0, o0_1, o0_2, o0_3, o0_4))))))
def oL (N : Nat) (x : oH) : Ro := mS N (fun z => sG N z) (fun z => sI N z) (fun z => sL N z) (fun z => sO N z) x
def xe (N : Nat) : List (Nat × (St → Ro)) := (aI (aC N) N pC (cO (run (aC N) N)) ++ (aI (aC N) N jx (fin cE) ++ []))
theorem avY (N : Nat) : ∀ (x : oH), sP N (kK x) = oL N x := by
 intro x
 have hX : ∀ C : Nat → St → Ro, bI C (aC N) N pC (cO (bI C (aC N) N)) (kK x) = mS N (fun z => C 1000004 (qZ z)) (fun z => C 1000004 (ra z)) (fun z => C 1000000 (kL z)) (fun z => C 1000001 (kM z)) x := by
  intro C
  kernel_rfl
 have h : sP N (kK x) = mS N (fun z => w5 N (qZ z)) (fun z => w6 N (ra z)) (fun z => sK N (kL z)) (fun z => sN N (kM z)) x := (cA (C := ec (xe N)) (bL (aL (l := (xe N)) (by kernel_rfl))) (cL (f8 (bL (dz (aL (l := (xe N)) (by kernel_rfl)))) rfl)) _).trans ((hX _).trans (by kernel_rfl))
 have e4 : (fun z => w5 N (qZ z)) = (fun z => sG N z) := funext fun z => avS N z
 have e5 : (fun z => w6 N (ra z)) = (fun z => sI N z) := funext fun z => avT N z
 have e6 : (fun z => sK N (kL z)) = (fun z => sL N z) := funext fun z => avV N z
 have e8 : (fun z => sN N (kM z)) = (fun z => sO N z) := funext fun z => avX N z
 rw [h, e4, e5, e6, e8]
 rfl
def xf (N : Nat) : St → Ro := fun s => run (aC N) N pD (cO (run (aC N) N)) s
def mT (N : Nat) (q2 : sD → Ro) (q3 : oH → Ro) (x : oG) : Ro :=
 let v3_0 : List ac := x.1
 let v5_0 : Int := x.2.1
 let v5_1 : Bs := x.2.2.1
 let v5_2 : List ab := x.2.2.2.1
 let v5_3 : Bss := x.2.2.2.2.1
 let v5_4 : Int := x.2.2.2.2.2.1
 let v7_0 : Int := x.2.2.2.2.2.2.1
 let v7_1 : Bs := x.2.2.2.2.2.2.2.1
 let v7_2 : Bss := x.2.2.2.2.2.2.2.2.1
 let v7_3 : Int := x.2.2.2.2.2.2.2.2.2.1
 let v7_4 : Bss := x.2.2.2.2.2.2.2.2.2.2.1
 let v7_5 : Bool := x.2.2.2.2.2.2.2.2.2.2.2.1
 let v7_6 : Bs := x.2.2.2.2.2.2.2.2.2.2.2.2.1
 let v7_7 : Int := x.2.2.2.2.2.2.2.2.2.2.2.2.2.1
 let v7_8 : List ao := x.2.2.2.2.2.2.2.2.2.2.2.2.2.2.1
 let v7_9 : List Int := x.2.2.2.2.2.2.2.2.2.2.2.2.2.2.2.1
 let v9 : Bool := x.2.2.2.2.2.2.2.2.2.2.2.2.2.2.2.2.1
 let v21 : Int := x.2.2.2.2.2.2.2.2.2.2.2.2.2.2.2.2.2.1
 let v24 : Bool := x.2.2.2.2.2.2.2.2.2.2.2.2.2.2.2.2.2.2.1
 let o0_0 : Int := x.2.2.2.2.2.2.2.2.2.2.2.2.2.2.2.2.2.2.2.1
 let o0_1 : Bs := x.2.2.2.2.2.2.2.2.2.2.2.2.2.2.2.2.2.2.2.2.1
 let o0_2 : List ab := x.2.2.2.2.2.2.2.2.2.2.2.2.2.2.2.2.2.2.2.2.2.1
 let o0_3 : Bss := x.2.2.2.2.2.2.2.2.2.2.2.2.2.2.2.2.2.2.2.2.2.2.1
 let o0_4 : Int := x.2.2.2.2.2.2.2.2.2.2.2.2.2.2.2.2.2.2.2.2.2.2.2
 cond v24 (
  q2 ((adv v7_0 v7_4 v5_0), 0, o0_1, o0_2, o0_3, o0_4)) (
  cond (v21 == 7) (
   q3 (v3_0, v5_0, v5_1, v5_2, v5_3, v5_4, v7_0, v7_1, v7_2, v7_3, v7_4, v7_5, v7_6, v7_7, v7_8, v7_9, v9, v21, (v21 == 7), o0_0, o0_1, o0_2, o0_3, o0_4)) (
   cond (v21 == 8) (
    q3 (v3_0, v5_0, v5_1, v5_2, v5_3, v5_4, v7_0, v7_1, v7_2, v7_3, v7_4, v7_5, v7_6, v7_7, v7_8, v7_9, v9, v21, (v21 == 8), o0_0, o0_1, o0_2, o0_3, o0_4)) (
    q3 (v3_0, v5_0, v5_1, v5_2, v5_3, v5_4, v7_0, v7_1, v7_2, v7_3, v7_4, v7_5, v7_6, v7_7, v7_8, v7_9, v9, v21, (v21 == 11), o0_0, o0_1, o0_2, o0_3, o0_4))))
def sQ (N : Nat) (x : oG) : Ro := mT N (fun z => sE N z) (fun z => oL N z) x
def xg (N : Nat) : List (Nat × (St → Ro)) := (aI (aC N) N pD (cO (run (aC N) N)) ++ (aI (aC N) N jx (fin cE) ++ []))
theorem avZ (N : Nat) : ∀ (x : oG), xf N (mR x) = sQ N x := by
 intro x
 have hX : ∀ C : Nat → St → Ro, bI C (aC N) N pD (cO (bI C (aC N) N)) (mR x) = mT N (fun z => C 1000004 (qY z)) (fun z => C 1000002 (kK z)) x := by
  intro C
  kernel_rfl
 have h : xf N (mR x) = mT N (fun z => wZ N (qY z)) (fun z => sP N (kK z)) x := (cA (C := ec (xg N)) (bL (aL (l := (xg N)) (by kernel_rfl))) (cL (f8 (bL (dz (aL (l := (xg N)) (by kernel_rfl)))) rfl)) _).trans ((hX _).trans (by kernel_rfl))
 have e2 : (fun z => wZ N (qY z)) = (fun z => sE N z) := funext fun z => avR N z
 have e3 : (fun z => sP N (kK z)) = (fun z => oL N z) := funext fun z => avY N z
 rw [h, e2, e3]
 rfl
def p9 (N : Nat) (p0_0 : List ac) (p1 : Int) (p2_0 : Int) (p2_1 : Bs) (p2_2 : List ab) (p2_3 : Bss) (p2_4 : Int) (q0 : sC → Ro) (q1 : oG → Ro) : Ro :=
 cond (!(isT p0_0 p1)) (
  some (.bool false, [])) (
  chk ((decide (0 ≤ p1) && decide (p1 < ↑(List.length p0_0)))) (
   let x1 : Int := (List.getD p0_0 (Int.toNat p1) (af .atype)).kind
   let x2 : Bs := (List.getD p0_0 (Int.toNat p1) (af .atype)).name
   let x3 : Bss := (List.getD p0_0 (Int.toNat p1) (af .atype)).aliases
   let x4 : Int := (List.getD p0_0 (Int.toNat p1) (af .atype)).items
   let x5 : Bss := (List.getD p0_0 (Int.toNat p1) (af .atype)).syms
   let x6 : Bool := (List.getD p0_0 (Int.toNat p1) (af .atype)).hasdef
   let x7 : Bs := (List.getD p0_0 (Int.toNat p1) (af .atype)).df
   let x8 : Int := (List.getD p0_0 (Int.toNat p1) (af .atype)).size
   let x9 : List ao := (List.getD p0_0 (Int.toNat p1) (af .atype)).fields
   let x10 : List Int := (List.getD p0_0 (Int.toNat p1) (af .atype)).branches
   cond (x1 == 1) (
    q0 (true, p2_0, p2_1, p2_2, p2_3, p2_4)) (
    cond (x1 == 2) (
     q1 (p0_0, p2_0, p2_1, p2_2, p2_3, p2_4, x1, x2, x3, x4, x5, x6, x7, x8, x9, x10, false, x1, (x1 == 2), p2_0, p2_1, p2_2, p2_3, p2_4)) (
     cond (x1 == 3) (
      q1 (p0_0, p2_0, p2_1, p2_2, p2_3, p2_4, x1, x2, x3, x4, x5, x6, x7, x8, x9, x10, false, x1, (x1 == 3), p2_0, p2_1, p2_2, p2_3, p2_4)) (
      cond (x1 == 4) (
       q1 (p0_0, p2_0, p2_1, p2_2, p2_3, p2_4, x1, x2, x3, x4, x5, x6, x7, x8, x9, x10, false, x1, (x1 == 4), p2_0, p2_1, p2_2, p2_3, p2_4)) (
       cond (x1 == 5) (
        q1 (p0_0, p2_0, p2_1, p2_2, p2_3, p2_4, x1, x2, x3, x4, x5, x6, x7, x8, x9, x10, false, x1, (x1 == 5), p2_0, p2_1, p2_2, p2_3, p2_4)) (
        cond (x1 == 6) (
         q1 (p0_0, p2_0, p2_1, p2_2, p2_3, p2_4, x1, x2, x3, x4, x5, x6, x7, x8, x9, x10, false, x1, (x1 == 6), p2_0, p2_1, p2_2, p2_3, p2_4)) (
         q1 (p0_0, p2_0, p2_1, p2_2, p2_3, p2_4, x1, x2, x3, x4, x5, x6, x7, x8, x9, x10, false, x1, (x1 == 10), p2_0, p2_1, p2_2, p2_3, p2_4)))))))))
def uz (N : Nat) (p0_0 : List ac) (p1 : Int) (p2_0 : Int) (p2_1 : Bs) (p2_2 : List ab) (p2_3 : Bss) (p2_4 : Int) : Ro := p9 N p0_0 p1 p2_0 p2_1 p2_2 p2_3 p2_4 (fun z => wY N z) (fun z => sQ N z)
def aBt (N : Nat) : List (Nat × (St → Ro)) := aI (aC N) N yZ (fin cE) ++ []
theorem ayu (N : Nat) (p0_0 : List ac) (p1 : Int) (p2_0 : Int) (p2_1 : Bs) (p2_2 : List ab) (p2_3 : Bss) (p2_4 : Int) : aE (aC N) N 126 cE yZ [.agg [.sl .atype (.may false) p0_0], .int .i64 p1, .agg [.int .u64 p2_0, .str p2_1, .sl .aval (.may false) p2_2, .sl .str (.may false) p2_3, .int .i64 p2_4]] [] = uz N p0_0 p1 p2_0 p2_1 p2_2 p2_3 p2_4 :=
 (bx (aBt N) (by kernel_rfl) rfl (fun C => p9 N p0_0 p1 p2_0 p2_1 p2_2 p2_3 p2_4 (fun z => C 1000004 (vA z)) (fun z => C 1000003 (mR z))) (fun C => by kernel_rfl)).trans (Eq.trans (b := p9 N p0_0 p1 p2_0 p2_1 p2_2 p2_3 p2_4 (fun z => ajg N (vA z)) (fun z => xf N (mR z))) (by kernel_rfl) (congr (congrArg (p9 N p0_0 p1 p2_0 p2_1 p2_2 p2_3 p2_4) (funext fun z => avQ N z)) (funext fun z => avZ N z)))
theorem aAj (N : Nat) (hΓ : aS Try.prog (aC N)) (p0_0 : List ac) (p1 : Int) (p2_0 : Int) (p2_1 : Bs) (p2_2 : List ab) (p2_3 : Bss) (p2_4 : Int) {v : V} {hp : List an} (h : uz N p0_0 p1 p2_0 p2_1 p2_2 p2_3 p2_4 = some (v, hp)) : aj Try.prog mc [.agg [.sl .atype (.may false) p0_0], .int .i64 p1, .agg [.int .u64 p2_0, .str p2_1, .sl .aval (.may false) p2_2, .sl .str (.may false) p2_3, .int .i64 p2_4]] v := by
 have hc := ayt
 simp only [Bool.and_eq_true] at hc
 exact ⟨hp, dL hΓ (arT N) Try.func21 avP hc.1 hc.2 (by decide) ((ayu N p0_0 p1 p2_0 p2_1 p2_2 p2_3 p2_4).trans h)⟩
end Go.Proofs.Ytdpajabhmmmjoaa
end
section
namespace Go.Proofs.Ytdpajabhmmmjoaa
open Go.AM
set_option autoImplicit false
set_option linter.unusedSimpArgs false
set_option linter.unusedVariables false
theorem amN (N : Nat) (s : List UInt8) (hs : s.length ≤ 9223372036854775807) (hN : s.length < N) : vx N s = some (.bool (el s), []) := by
 show aB N (lL N) s = _
 refine lH (fun x : List UInt8 => x.length ≤ 9223372036854775807) (fun x => x.length) (fun x => (V.bool (el x), ([] : List an))) ?_ N s hs hN
 rintro rec x hx hrec
 match x with
 | [] => rfl
 | c :: t =>
   have hle := az8 (c :: t)
   have hg : (dq (c :: t)).2 = ((eh (c :: t)).2 : Int) := rfl
   have h0 : decide (c :: t = []) = false := by simp
   have hcl : (c :: t).length = t.length + 1 := rfl
   have hx' : (c :: t).length ≤ 9223372036854775807 := hx
   simp only [lL, anH]
   generalize (dq (c :: t)).2 = p at hg
   by_cases hp : (eh (c :: t)).2 = 0
   ·rw [if_pos hp]
    simp (disch := omega) only [aA, h0]
   ·rw [if_neg hp]
    have e : p.toNat = (eh (c :: t)).2 := by omega
    simp (disch := omega) only [aA, h0, e]
    exact hrec ((c :: t).drop (eh (c :: t)).2) (by simp only [List.length_drop]; omega) (by simp only [List.length_drop]; omega)
theorem ab.eta (v : ab) : ab.mk v.n v.s v.l v.keys v.branch = v := by cases v; rfl
theorem dG {α : Type} (l : List α) (i : Nat) (d : α) (h : i < l.length) : l.drop i = l.getD i d :: l.drop (i + 1) := by
 rw [List.drop_eq_getElem_cons h, List.getD_eq_getElem?_getD, List.getElem?_eq_getElem h]
 rfl
theorem aAk : ∀ (l : List ab) (i : Nat), szL (l.drop i) ≤ szL l
 | [], i => by simp
 | v :: l, 0 => by simp
 | v :: l, i + 1 => by
   have := aAk l i
   simp only [List.drop_succ_cons, szL]
   omega
theorem tu (l : List ab) (i : Nat) (h : i < l.length) : szV (l.getD i (af .aval)) ≤ szL l := by
 have h1 := aAk l i
 rw [dG l i (af .aval) h, szL] at h1
 omega
theorem qa (v : ab) : szV v = szL v.l + 1 := by cases v; rfl
theorem ayv (N : Nat) (ts : List ac) (t : Int) : yb N ts t = some (.bool (isT ts t), []) := by
 simp only [yb, arD, isT]
 by_cases h : 0 ≤ t
 ·simp (disch := omega) only [aA, ]
 ·simp (disch := omega) only [aA, ]
theorem ar9 (N : Nat) (n : Int) (s : List UInt8) (l : List ab) (ks : List (List UInt8)) (b : Int) : ug N n s l ks b = some (.bool (cz n s l ks b), []) := by
 simp only [ug, akX, cz]
 cases n == 0 <;> cases decide (s = ([] : List UInt8)) <;> cases (l.length : Int) == 0 <;> cases (ks.length : Int) == 0 <;> rfl
theorem amO (N : Nat) (a0 : Int) (a1 : List UInt8) (a2 : List (List UInt8)) (a3 : Int) (a4 : List (List UInt8)) (a5 : Bool) (a6 : List UInt8) (a7 : Int) (a8 : List ao) (a9 : List Int) (n : Int) :
  qT N a0 a1 a2 a3 a4 a5 a6 a7 a8 a9 n = some (.bool (adv a0 a4 n), []) := by
 simp only [qT, afE, adv]
 cases a0 == 2 <;> cases a0 == 3 <;> cases a0 == 5 <;> cases a0 == 10 <;> rfl
theorem asa (N : Nat) (a0 : Int) (a1 : List UInt8) (a2 : List (List UInt8)) (a3 : Int) (a4 : List (List UInt8)) (a5 : Bool) (a6 : List UInt8) (a7 : Int) (a8 : List ao) (a9 : List Int) (s : List UInt8) :
  uh N a0 a1 a2 a3 a4 a5 a6 a7 a8 a9 s = some (.bool (ah4 a0 a7 s), []) := by
 simp only [uh, ak0, ah4]
 cases a0 == 8 <;> cases a0 == 11 <;> rfl
def mf (l : List (List UInt8)) (i : Nat) : Bool := match i with | 0 => qO l | i + 1 => azI (l.getD i []) (l.drop (i + 1))
theorem ak9 (l : List (List UInt8)) : mf l l.length = true := by
 unfold mf
 split
 ·rename_i h
  rw [List.length_eq_zero_iff.1 h]; rfl
 ·rename_i i h
  rw [show l.drop (i + 1) = [] from List.drop_eq_nil_of_le (by omega)]
  rfl
theorem ajh (l : List (List UInt8)) (i : Nat) (h : i < l.length) :
  mf l i = (el (l.getD i []) && ((decide (i = 0) || Op.bytesLess (l.getD (i - 1) []) (l.getD i [])) && mf l (i + 1))) := by
 cases i with
 | zero =>
   have := dG l 0 [] h
   rw [List.drop_zero] at this
   simp only [mf]
   conv => lhs; rw [this]
   simp [qO]
 | succ i =>
   simp only [mf]
   rw [dG l (i + 1) [] h]
   simp [azI]
theorem asb (N : Nat) (l : List (List UInt8)) (hl : l.length ≤ 9223372036854775807) (hN : l.length < N) : yW N l = some (.bool (qO l), []) := by
 show aB N (oE N) (l, l, (l.length : Int), 0) = some (.bool (mf l 0), [])
 refine lH (fun x : List (List UInt8) × List (List UInt8) × Int × Int => l = x.1 ∧ l = x.2.1 ∧ x.2.2.1 = (l.length : Int) ∧ ∃ i : Nat, x.2.2.2 = (i : Int) ∧ i ≤ l.length) (fun x => l.length - x.2.2.2.toNat)
  (fun x => (V.bool (mf l x.2.2.2.toNat), ([] : List an))) ?_ N _ ⟨rfl, rfl, rfl, 0, rfl, by omega⟩ (by simp; omega)
 rintro rec ⟨x1, x2, x3, x4⟩ ⟨e1, e2, e3, i, e4, hi⟩ hrec
 simp only at e1 e2 e3 e4
 subst e1 e2 e3 e4
 simp only [oE, Int.toNat_natCast]
 rcases Nat.lt_or_ge i l.length with hlt | hge
 ·rw [ajh l i hlt]
  have hr := hrec (l, l, (l.length : Int), ((i + 1 : Nat) : Int)) ⟨rfl, rfl, rfl, i + 1, rfl, by omega⟩ (by simp only [Int.toNat_natCast]; omega)
  simp only [Int.toNat_natCast] at hr
  have e5 : IntKind.wrap .i64 ((i : Int) + 1) = ((i + 1 : Nat) : Int) := by rw [ap _ (by omega)]; rfl
  show cond _ _ _ = _
  simp only [af]
  cases hv : el (l.getD i [])
  ·simp (disch := omega) only [aA, ]
  ·rcases Nat.eq_zero_or_pos i with h0 | h0
   ·subst h0
    simp (disch := omega) only [aA, e5, hr, decide_true]
   ·have e6 : IntKind.wrap .i64 ((i : Int) - 1) = ((i - 1 : Nat) : Int) := by rw [ap _ (by omega)]; omega
    cases hb : Op.bytesLess (l.getD (i - 1) []) (l.getD i [])
    ·simp (disch := omega) only [aA, e6, hb]
    ·simp (disch := omega) only [aA, e5, e6, hb, hr]
 ·have : i = l.length := by omega
  subst this
  rw [ak9]
  simp (disch := omega) only [aA, ]
theorem axV (ts : List ac) (t : Int) : ∀ (l : List ab) (i : Nat), (0 ≤ vu ts t l i) ↔ dI ts t l = false
 | [], i => by simp [vu, dI]
 | v :: l, i => by
   have := axV ts t l (i + 1)
   simp only [vu, dI]
   cases h : cn ts t v <;> simp [h, this]
theorem asc (N : Nat) (ts : List ac) (t : Int) (l : List ab) (h : szL l + 1000000 ≤ N) : uk N ts t l = some (.bool (dI ts t l), []) := by
 simp only [uk, ak3]
 simp (disch := omega) only [aA, Bool.not_not]
theorem aD1 (N : Nat) (ts : List ac) (t : Int) (l : List ab) (h : szL l + 1000000 ≤ N) : bp N l ts t = some (.bool (!dI ts t l), []) := by
 simp only [bp, dm]
 have := axV ts t l 0
 cases hb : dI ts t l
 ·rw [hb] at this
  have := this.2 rfl
  simp (disch := omega) only [aA, ]
 ·rw [hb] at this
  have : ¬ 0 ≤ vu ts t l 0 := fun h => by simpa using this.1 h
  simp (disch := omega) only [aA, ]
theorem aBu (N : Nat) (ts : List ac) (t : Int) (n : Int) (s : List UInt8) (l : List ab) (ks : List (List UInt8)) (b : Int) (h : szL l + 1 + 1000000 ≤ N) :
  pA N n s l ks b ts t = some (.bool (!cn ts t (.mk n s l ks b)), []) := by
 simp only [pA, ada]
 simp (disch := omega) only [aA, ]
theorem aD2 (N : Nat) (ts : List ac) (t : Int) (l : List ab) (hl : l.length ≤ 9223372036854775807) (h : szL l + 1000000 ≤ N) (hN : l.length < N) :
  ca N l ts t = some (.int .i64 (vu ts t l 0), []) := by
 show aB N (bh N) (l, ts, t, (l.length : Int), 0) = _
 refine lH (fun x : List ab × List ac × Int × Int × Int => l = x.1 ∧ ts = x.2.1 ∧ t = x.2.2.1 ∧ x.2.2.2.1 = (l.length : Int) ∧ ∃ i : Nat, x.2.2.2.2 = (i : Int) ∧ i ≤ l.length) (fun x => l.length - x.2.2.2.2.toNat)
  (fun x => (V.int .i64 (vu ts t (l.drop x.2.2.2.2.toNat) x.2.2.2.2.toNat), ([] : List an))) ?_ N _ ⟨rfl, rfl, rfl, rfl, 0, rfl, by omega⟩ (by simp; omega)
 rintro rec ⟨x1, x2, x3, x4, x5⟩ ⟨e1, e2, e3, e4, i, e5, hi⟩ hrec
 simp only at e1 e2 e3 e4 e5
 subst e1 e2 e3 e4 e5
 simp only [bh, Int.toNat_natCast]
 rcases Nat.lt_or_ge i l.length with hlt | hge
 ·have hr := hrec (l, ts, t, (l.length : Int), ((i + 1 : Nat) : Int)) ⟨rfl, rfl, rfl, rfl, i + 1, rfl, by omega⟩ (by simp only [Int.toNat_natCast]; omega)
  simp only [Int.toNat_natCast] at hr
  have e6 : IntKind.wrap .i64 ((i : Int) + 1) = ((i + 1 : Nat) : Int) := by rw [ap _ (by omega)]; rfl
  have hz := tu l i hlt
  rw [qa] at hz
  rw [dG l i (af .aval) hlt, vu]
  simp only [ab.eta]
  cases hv : cn ts t (l.getD i (af .aval))
  ·simp (disch := omega) only [aA, hv, Bool.false_eq_true]
  ·simp (disch := omega) only [aA, hv, e6, hr]
 ·have : i = l.length := by omega
  subst this
  rw [List.drop_length, vu]
  simp (disch := omega) only [aA, ]
theorem aAl (N : Nat) (ts : List ac) (a0 : Int) (a1 : List UInt8) (a2 : List (List UInt8)) (a3 : Int) (a4 : List (List UInt8)) (a5 : Bool) (a6 : List UInt8) (a7 : Int) (fs : List ao) (a9 : List Int) (l : List ab)
  (hl : fs.length ≤ 9223372036854775807) (h : szL l + 1000000 ≤ N) (hN : l.length < N) :
  qV N ts a0 a1 a2 a3 a4 a5 a6 a7 fs a9 l = some (.bool (decide (List.length l = List.length fs) && ua ts fs l), []) := by
 simp only [qV, mO]
 by_cases he : l.length = fs.length
 rotate_left
 ·have e1 : decide (l.length = fs.length) = false := decide_eq_false he
  simp (disch := omega) only [aA, e1]
 have e1 : decide (l.length = fs.length) = true := decide_eq_true he
 simp (disch := omega) only [aA, e1]
 refine lH (fun x : List ab × List ac × List ao × Int × Int => l = x.1 ∧ ts = x.2.1 ∧ fs = x.2.2.1 ∧ x.2.2.2.1 = (fs.length : Int) ∧ ∃ i : Nat, x.2.2.2.2 = (i : Int) ∧ i ≤ fs.length) (fun x => fs.length - x.2.2.2.2.toNat)
  (fun x => (V.bool (ua ts (fs.drop x.2.2.2.2.toNat) (l.drop x.2.2.2.2.toNat)), ([] : List an))) ?_ N _ ⟨rfl, rfl, rfl, rfl, 0, rfl, by omega⟩ (by simp; omega)
 rintro rec ⟨x1, x2, x3, x4, x5⟩ ⟨e1, e2, e3, e4, i, e5, hi⟩ hrec
 simp only at e1 e2 e3 e4 e5
 subst e1 e2 e3 e4 e5
 simp only [pz, Int.toNat_natCast]
 rcases Nat.lt_or_ge i fs.length with hlt | hge
 ·have hr := hrec (l, ts, fs, (fs.length : Int), ((i + 1 : Nat) : Int)) ⟨rfl, rfl, rfl, rfl, i + 1, rfl, by omega⟩ (by simp only [Int.toNat_natCast]; omega)
  simp only [Int.toNat_natCast] at hr
  have e6 : IntKind.wrap .i64 ((i : Int) + 1) = ((i + 1 : Nat) : Int) := by rw [ap _ (by omega)]; rfl
  have hlt' : i < l.length := by omega
  have hz := tu l i hlt'
  rw [qa] at hz
  rw [dG l i (af .aval) hlt', dG fs i (af .afield) hlt, ua]
  simp only [ab.eta, List.headD_cons, List.tail_cons]
  cases hv : cn ts (fs.getD i (af .afield)).typ (l.getD i (af .aval))
  ·simp (disch := omega) only [aA, hv]
  ·simp (disch := omega) only [aA, hv, e6, hr]
 ·have : i = fs.length := by omega
  subst this
  rw [List.drop_length, ← he, List.drop_length, ua]
  simp (disch := omega) only [aA, ]
def adA (a b : List (List UInt8)) : Bool := decide (a = b)
theorem axW (a b : List (List UInt8)) (i : Nat) (h : i < a.length) (h' : i < b.length) : adA (a.drop i) (b.drop i) = (decide (a.getD i (af .str) = b.getD i (af .str)) && adA (a.drop (i + 1)) (b.drop (i + 1))) := by
 unfold adA
 rw [← Bool.decide_and, decide_eq_decide, dG a i (af .str) h, dG b i (af .str) h', List.cons.injEq]
theorem aBv (N : Nat) (a b : List (List UInt8)) (hl : a.length ≤ 9223372036854775807) (hN : a.length < N) : dU N a b = some (.bool (decide (a = b)), []) := by
 simp only [dU, cM]
 by_cases he : a.length = b.length
 rotate_left
 ·have e1 : decide (a = b) = false := decide_eq_false (fun h => he (by rw [h]))
  simp (disch := omega) only [aA, e1]
 simp (disch := omega) only [aA, ]
 refine lH (fun x : List (List UInt8) × List (List UInt8) × Int × Int => a = x.1 ∧ b = x.2.1 ∧ x.2.2.1 = (a.length : Int) ∧ ∃ i : Nat, x.2.2.2 = (i : Int) ∧ i ≤ a.length) (fun x => a.length - x.2.2.2.toNat)
  (fun x => (V.bool (adA (a.drop x.2.2.2.toNat) (b.drop x.2.2.2.toNat)), ([] : List an))) ?_ N _ ⟨rfl, rfl, rfl, 0, rfl, by omega⟩ (by simp; omega)
 rintro rec ⟨x1, x2, x3, x4⟩ ⟨e1, e2, e3, i, e4, hi⟩ hrec
 simp only at e1 e2 e3 e4
 subst e1 e2 e3 e4
 simp only [dJ, Int.toNat_natCast]
 rcases Nat.lt_or_ge i a.length with hlt | hge
 ·have hr := hrec (a, b, (a.length : Int), ((i + 1 : Nat) : Int)) ⟨rfl, rfl, rfl, i + 1, rfl, by omega⟩ (by simp only [Int.toNat_natCast]; omega)
  simp only [Int.toNat_natCast] at hr
  have e6 : IntKind.wrap .i64 ((i : Int) + 1) = ((i + 1 : Nat) : Int) := by rw [ap _ (by omega)]; rfl
  rw [axW a b i hlt (by omega)]
  by_cases hv : a.getD i (af .str) = b.getD i (af .str)
  ·have e8 : decide (a.getD i (af .str) = b.getD i (af .str)) = true := decide_eq_true hv
   simp (disch := omega) only [aA, e8, e6, hr]
  ·have e8 : decide (a.getD i (af .str) = b.getD i (af .str)) = false := decide_eq_false hv
   simp (disch := omega) only [aA, e8]
 ·have : i = a.length := by omega
  subst this
  have e9 : adA (a.drop a.length) (b.drop a.length) = true := by rw [List.drop_length, he, List.drop_length]; rfl
  rw [e9]
  simp (disch := omega) only [aA, ]
theorem ala : ∀ (l m : List ab), l.length ≠ m.length → f9 l m = false
 | [], m, h => by
   have : ¬ m.length = 0 := fun e => h (by simp [e])
   simp only [f9, decide_eq_false this]
 | v :: l, [], h => by simp [f9]
 | v :: l, w :: m, h => by
   simp only [f9, List.tail_cons, ala l m (by simpa using h), Bool.and_false]
theorem asd (N : Nat) (a b : List ab) (hl : a.length ≤ 9223372036854775807) (h : szL a + 1000000 ≤ N) (hN : a.length < N) :
  aY N a b = some (.bool (f9 a b), []) := by
 simp only [aY, aN]
 by_cases he : a.length = b.length
 rotate_left
 ·rw [ala a b he]
  simp (disch := omega) only [aA, ]
 simp (disch := omega) only [aA, ]
 refine lH (fun x : List ab × List ab × Int × Int => b = x.1 ∧ a = x.2.1 ∧ x.2.2.1 = (a.length : Int) ∧ ∃ i : Nat, x.2.2.2 = (i : Int) ∧ i ≤ a.length) (fun x => a.length - x.2.2.2.toNat)
  (fun x => (V.bool (f9 (a.drop x.2.2.2.toNat) (b.drop x.2.2.2.toNat)), ([] : List an))) ?_ N _ ⟨rfl, rfl, rfl, 0, rfl, by omega⟩ (by simp; omega)
 rintro rec ⟨x1, x2, x3, x4⟩ ⟨e1, e2, e3, i, e4, hi⟩ hrec
 simp only at e1 e2 e3 e4
 subst e1 e2 e3 e4
 simp only [aV, Int.toNat_natCast]
 rcases Nat.lt_or_ge i a.length with hlt | hge
 ·have hr := hrec (b, a, (a.length : Int), ((i + 1 : Nat) : Int)) ⟨rfl, rfl, rfl, i + 1, rfl, by omega⟩ (by simp only [Int.toNat_natCast]; omega)
  simp only [Int.toNat_natCast] at hr
  have e6 : IntKind.wrap .i64 ((i : Int) + 1) = ((i + 1 : Nat) : Int) := by rw [ap _ (by omega)]; rfl
  have hz := tu a i hlt
  rw [qa] at hz
  rw [dG a i (af .aval) hlt, dG b i (af .aval) (by omega), f9]
  simp only [ab.eta, List.headD_cons, List.tail_cons]
  have e9 : decide (0 < (b.getD i (af .aval) :: b.drop (i + 1)).length) = true := by simp
  cases hv : lI (a.getD i (af .aval)) (b.getD i (af .aval))
  ·simp (disch := omega) only [aA, hv, e9]
  ·simp (disch := omega) only [aA, hv, e6, hr, e9]
 ·have : i = a.length := by omega
  subst this
  rw [List.drop_length, he, List.drop_length, f9]
  simp (disch := omega) only [aA, List.length_nil, decide_true]
theorem aCA (N : Nat) (n : Int) (s : List UInt8) (l : List ab) (ks : List (List UInt8)) (b : Int) (n2 : Int) (s2 : List UInt8) (l2 : List ab) (ks2 : List (List UInt8)) (b2 : Int) (h : szL l + 1000000 ≤ N) :
  uu N n s l ks b n2 s2 l2 ks2 b2 = some (.bool (lI (.mk n s l ks b) (.mk n2 s2 l2 ks2 b2)), []) := by
 simp only [uu, ak7, lI, ab.n, ab.s, ab.l, ab.keys, ab.branch]
 by_cases h1 : n = n2
 rotate_left
 ·simp (disch := omega) only [aA, ]
 by_cases h2 : s = s2
 rotate_left
 ·simp (disch := omega) only [aA, decide_eq_false h2]
  simp [h2]
 by_cases h3 : b = b2
 rotate_left
 ·simp (disch := omega) only [aA, decide_eq_true h2]
 by_cases h4 : ks = ks2
 ·simp (disch := omega) only [aA, decide_eq_true h2, decide_eq_true h4]
  simp [h2, h4]
 ·simp (disch := omega) only [aA, decide_eq_true h2, decide_eq_false h4]
  simp [h4]
theorem aCB (N : Nat) (n : Int) (s : List UInt8) (l : List ab) (ks : List (List UInt8)) (b : Int) (hl : l.length ≤ 9223372036854775807) (h : szL l + 1000000 ≤ N) (hN : l.length < N) :
  uw N n s l ks b = some (.tup [.int .i64 (ee (.mk n s l ks b)).1, .int .i64 (ee (.mk n s l ks b)).2], []) := by
 simp only [uw, p8, ee]
 refine lH (fun x : Int × Int × List ab × Int × Int => l = x.2.2.1 ∧ x.2.2.2.1 = (l.length : Int) ∧ ∃ i : Nat, x.2.2.2.2 = (i : Int) ∧ i ≤ l.length) (fun x => l.length - x.2.2.2.2.toNat)
  (fun x => (V.tup [.int .i64 (lk (l.drop x.2.2.2.2.toNat) x.1 x.2.1).1, .int .i64 (lk (l.drop x.2.2.2.2.toNat) x.1 x.2.1).2], ([] : List an))) ?_ N _ ⟨rfl, rfl, 0, rfl, by omega⟩ (by simp; omega)
 rintro rec ⟨x1, x2, x3, x4, x5⟩ ⟨e3, e4, i, e5, hi⟩ hrec
 simp only at e3 e4 e5
 subst e3 e4 e5
 simp only [sB, Int.toNat_natCast]
 rcases Nat.lt_or_ge i l.length with hlt | hge
 ·have e6 : IntKind.wrap .i64 ((i : Int) + 1) = ((i + 1 : Nat) : Int) := by rw [ap _ (by omega)]; rfl
  have hz := tu l i hlt
  rw [qa] at hz
  rw [dG l i (af .aval) hlt, lk]
  simp only [ab.eta]
  have e10 : decide ((i : Int) < (l.length : Int)) = true := decide_eq_true (by omega)
  have e11 : (decide ((0 : Int) ≤ (i : Int)) && decide ((i : Int) < (l.length : Int))) = true := by rw [e10]; simp
  have e12 : decide (1000000 ≤ N - (szL (l.getD i (af .aval)).l + 1)) = true := decide_eq_true (by omega)
  simp only [e10, e11, e12, ari, cond_true, e6]
  exact hrec (_, _, l, (l.length : Int), ((i + 1 : Nat) : Int)) ⟨rfl, rfl, i + 1, rfl, by omega⟩ (by simp only [Int.toNat_natCast]; omega)
 ·have : i = l.length := by omega
  subst this
  rw [List.drop_length, lk]
  simp (disch := omega) only [aA, ]
end Go.Proofs.Ytdpajabhmmmjoaa
end
section
namespace Go.Proofs.Ytdpajabhmmmjoaa
open Go.AM
set_option autoImplicit false
set_option linter.unusedSimpArgs false
set_option linter.unusedVariables false
set_option maxRecDepth 100000
theorem aFn (N : Nat) (v : Bool) (n : Int) (s : List UInt8) (l : List ab) (ks : List (List UInt8)) (b : Int) : (wY N (v, n, s, l, ks, b)).map (·.1) = some (.bool (v && cz n s l ks b)) := by
 cases v <;> rfl
theorem aFo (N : Nat) (v : Bool) (n : Int) (s : List UInt8) (l : List ab) (ks : List (List UInt8)) (b : Int) : (sE N (v, n, s, l, ks, b)).map (·.1) = some (.bool (v && cz n s l ks b)) := by
 cases v <;> rfl
theorem aEi (N : Nat) (v : Bool) (n : Int) (s : List UInt8) (l : List ab) (ks : List (List UInt8)) (b : Int) : (sG N (v, n, s, l, ks, b)).map (·.1) = some (.bool (v && cz n s l ks b)) := by
 cases v <;> rfl
theorem aEj (N : Nat) (v : Bool) (n : Int) (s : List UInt8) (l : List ab) (ks : List (List UInt8)) (b : Int) : (sI N (v, n, s, l, ks, b)).map (·.1) = some (.bool (v && cz n s l ks b)) := by
 cases v <;> rfl
theorem aFp (N : Nat) (v : Bool) (n : Int) (s : List UInt8) (l : List ab) (ks : List (List UInt8)) (b : Int) : (sL N (v, n, s, l, ks, b)).map (·.1) = some (.bool (v && cz n s [] [] b)) := by
 cases v <;> rfl
theorem ase (N : Nat) (v : Bool) (n : Int) (s : List UInt8) (l : List ab) (ks : List (List UInt8)) (b : Int) : (sO N (v, n, s, l, ks, b)).map (·.1) = some (.bool (v && cz n s [] ks 0)) := by
 cases v <;> rfl
theorem aCC (N : Nat) (ts : List ac) (t : Int) (n : Int) (s : List UInt8) (l : List ab) (ks : List (List UInt8)) (b : Int) (h : szL l + 1000000 ≤ N) :
  (uz N ts t n s l ks b).map (·.1) = some (.bool (cn ts t (.mk n s l ks b))) := by
 simp only [uz, p9, cn]
 by_cases ht : isT ts t = true
 rotate_left
 ·simp only [Bool.not_eq_true] at ht
  simp only [ht, Bool.not_false, cond_true, Bool.false_and, Option.map_some]
 have ht' := ht
 simp only [isT, Bool.and_eq_true, decide_eq_true_eq] at ht'
 have e0 : (decide (0 ≤ t) && decide (t < (ts.length : Int))) = true := ht
 simp only [ht, e0, Bool.not_true, cond_false, ari, Bool.true_and]
 generalize ts.getD t.toNat (af .atype) = k
 have c1 : decide (1000000 ≤ N - szL l) = true := decide_eq_true (by omega)
 by_cases h1 : k.kind = 1
 ·simp (disch := omega) only [aA, h1, aFn]
 have h1' : (k.kind == 1) = false := by simpa using h1
 simp only [h1', cond_false]
 by_cases hn : k.kind = 2 ∨ k.kind = 3 ∨ k.kind = 4 ∨ k.kind = 5 ∨ k.kind = 6 ∨ k.kind = 10
 ·rcases hn with e | e | e | e | e | e <;>
   (simp only [e]
    simp (disch := omega) only [aA, sQ, mT, aFo])
 have d2 : (k.kind == 2) = false := by simp; omega
 have d3 : (k.kind == 3) = false := by simp; omega
 have d4 : (k.kind == 4) = false := by simp; omega
 have d5 : (k.kind == 5) = false := by simp; omega
 have d6 : (k.kind == 6) = false := by simp; omega
 have d10 : (k.kind == 10) = false := by simp; omega
 simp only [d2, d3, d4, d5, d6, d10, cond_false, sQ, mT, Bool.or_false, Bool.false_or]
 by_cases hx : k.kind = 7 ∨ k.kind = 8 ∨ k.kind = 11
 ·rcases hx with e | e | e <;>
   (simp only [e]
    simp (disch := omega) only [aA, oL, mS, aEi])
 have d7 : (k.kind == 7) = false := by simp; omega
 have d8 : (k.kind == 8) = false := by simp; omega
 have d11 : (k.kind == 11) = false := by simp; omega
 simp only [d7, d8, d11, cond_false, oL, mS, Bool.or_false, Bool.false_or]
 by_cases h12 : k.kind = 12
 ·simp only [h12]
  simp (disch := omega) only [aA, c1, aEj]
 have d12 : (k.kind == 12) = false := by simp; omega
 simp only [d12, cond_false]
 by_cases h13 : k.kind = 13
 ·simp only [h13]
  simp (disch := omega) only [aA, c1]
  cases (ks.length : Int) == (l.length : Int) <;> cases qO ks <;> simp only [cond_true, cond_false, aFp, Bool.false_and, Bool.true_and]
 have d13 : (k.kind == 13) = false := by simp; omega
 simp only [d13, cond_false]
 by_cases h9 : k.kind = 9
 ·simp only [h9]
  simp (disch := omega) only [aA, c1, aEj]
 have d9 : (k.kind == 9) = false := by simp; omega
 simp only [d9, cond_false]
 by_cases h14 : k.kind = 14
 ·simp only [h14]
  simp (disch := omega) only [aA, ]
  by_cases b0 : 0 ≤ b
  rotate_left
  ·simp (disch := omega) only [aA, ase]
  by_cases b1 : b < (k.branches.length : Int)
  rotate_left
  ·simp (disch := omega) only [aA, ase]
  match l, h, c1 with
  | [], h, c1 =>
    have e1 : ((List.length ([] : List ab) : Int) == 1) = false := rfl
    have e2 : decide (0 ≤ b) = true := decide_eq_true b0
    have e3 : decide (b < (k.branches.length : Int)) = true := decide_eq_true b1
    simp only [e1, e2, e3, cond_true, cond_false, ase, Bool.false_and, Bool.and_false, Bool.true_and]
  | [v], h, c1 =>
    have hz : szV v = szL v.l + 1 := qa v
    simp only [szL] at h
    have e1 : (decide ((0 : Int) ≤ b) && decide (b < (k.branches.length : Int))) = true := by simp [b0, b1]
    have e2 : decide (1000000 ≤ N - (szL v.l + 1)) = true := decide_eq_true (by omega)
    have e3 : ([v] : List ab).getD (Int.toNat 0) (af .aval) = v := rfl
    simp only [e1, e3, ab.eta, ari, e2]
    simp (disch := omega) only [aA, ase, List.length_singleton, dI]
    rfl
  | v :: w :: l, h, c1 =>
    have e1 : (((v :: w :: l).length : Int) == 1) = false := by simp; omega
    simp (disch := omega) only [aA, ase, e1]
 have d14 : (k.kind == 14) = false := by simp; omega
 simp only [d14, cond_false, aEi, Bool.false_and]
theorem adc (a0 : Int) (a1 : Int) (hc : (decide (0 ≤ (a1 : Int)) && decide ((a1 : Int) ≤ 32)) = true) : aj Try.prog yS [.int .u32 a0, .int .i64 a1] (.int .u8 (gW a0 a1)) := by
 refine aj.fits fun hf => ?_
 have r0 := az4 (hf (.int .u32 a0) (by simp))
 have hc1 : 0 ≤ a1 ∧ a1 ≤ 32 := by simpa using hc
 exact ax8 aro 1000 a0 a1 (apf 1000 a0 a1 r0 hc1)
theorem ajR : aj Try.prog rQ [.int .u32 65533] (.str (vt 65533)) :=
 akU 0 (afB 0 (by intro a0 h; simp at h) adc) 65533 (adb 0 65533 (by omega) (.inl (by omega)))
theorem av0 (a0 : Int) : aj Try.prog rQ [.int .u32 a0] (.str (vt a0)) := by
 refine aj.fits fun hf => ?_
 have r0 := az4 (hf (.int .u32 a0) (by simp))
 refine akU 1 (afB 1 (fun b h => ?_) adc) a0 (adb 1 a0 r0 (.inr (by omega)))
 have hb : b = 65533 := by simpa using h
 subst hb
 exact ajR
theorem apg (a0 : List UInt8) (hc : (!decide (a0 = [])) = true) : aj Try.prog wV [.str a0] (.tup [.int .u32 ((dq a0).1), .int .i64 ((dq a0).2)]) := by
 refine aj.fits fun hf => ?_
 have r0 := az5 (hf (.str a0) (by simp))
 have hc1 : a0 ≠ [] := by simpa using hc
 exact auT (aor av0) 1000 a0 (amM 995 a0 hc1 r0)
theorem y8 (a0 : List UInt8) : aj Try.prog su [.str a0] (.bool (el a0)) := by
 refine aj.fits fun hf => ?_
 have r0 := az5 (hf (.str a0) (by simp))
 exact auU (aoE apg) (a0.length + 1) a0 (amN (a0.length + 1) a0 r0 (by omega))
theorem aEB (ts : List ac) (t : Int) : aj Try.prog akP [.agg [.sl .atype (.may false) ts], .int .i64 t] (.bool (isT ts t)) :=
 aCz az9 0 _ _ (ayv 0 ts t)
theorem aDc (n : Int) (s : List UInt8) (l : List ab) (ks : List (List UInt8)) (b : Int) : aj Try.prog adw [.agg [.int .u64 n, .str s, .sl .aval (.may false) l, .sl .str (.may false) ks, .int .i64 b]] (.bool (cz n s l ks b)) :=
 aAd auV 0 _ _ _ _ _ (ar9 0 n s l ks b)
theorem aBw (a0 : Int) (a1 : List UInt8) (a2 : List (List UInt8)) (a3 : Int) (a4 : List (List UInt8)) (a5 : Bool) (a6 : List UInt8) (a7 : Int) (a8 : List ao) (a9 : List Int) (n : Int) :
  aj Try.prog wT [.agg [.int .i64 a0, .str a1, .sl .str (.may false) a2, .int .i64 a3, .sl .str (.may false) a4, .bool a5, .str a6, .int .i64 a7, .sl .afield (.may false) a8, .sl (.num .i64) (.may false) a9], .int .u64 n] (.bool (adv a0 a4 n)) :=
 auZ aoP 0 _ _ _ _ _ _ _ _ _ _ _ (amO 0 a0 a1 a2 a3 a4 a5 a6 a7 a8 a9 n)
theorem aDd (a0 : Int) (a1 : List UInt8) (a2 : List (List UInt8)) (a3 : Int) (a4 : List (List UInt8)) (a5 : Bool) (a6 : List UInt8) (a7 : Int) (a8 : List ao) (a9 : List Int) (s : List UInt8) :
  aj Try.prog adz [.agg [.int .i64 a0, .str a1, .sl .str (.may false) a2, .int .i64 a3, .sl .str (.may false) a4, .bool a5, .str a6, .int .i64 a7, .sl .afield (.may false) a8, .sl (.num .i64) (.may false) a9], .str s] (.bool (ah4 a0 a7 s)) :=
 aAe (au0 y8) 0 _ _ _ _ _ _ _ _ _ _ _ (asa 0 a0 a1 a2 a3 a4 a5 a6 a7 a8 a9 s)
theorem aDe (l : List (List UInt8)) : aj Try.prog ady [.sl .str (.may false) l] (.bool (qO l)) := by
 refine aj.fits fun hf => ?_
 have r0 := amn (hf (.sl .str (.may false) l) (by simp))
 exact aAf (ava y8) (l.length + 1) l (asb _ l r0 (by omega))
def aAm (n : Nat) : Prop := ∀ (ts : List ac) (t : Int) (m : Int) (s : List UInt8) (l : List ab) (ks : List (List UInt8)) (b : Int), szL l + 1 ≤ n →
 aj Try.prog mc [.agg [.sl .atype (.may false) ts], .int .i64 t, .agg [.int .u64 m, .str s, .sl .aval (.may false) l, .sl .str (.may false) ks, .int .i64 b]] (.bool (cn ts t (.mk m s l ks b)))
def aFg (n : Nat) : Prop := ∀ (ts : List ac) (t : Int) (l : List ab), szL l ≤ n → aj Try.prog adx [.agg [.sl .atype (.may false) ts], .int .i64 t, .sl .aval (.may false) l] (.bool (dI ts t l))
def aFq (n : Nat) : Prop := ∀ (ts : List ac) (a0 : Int) (a1 : List UInt8) (a2 : List (List UInt8)) (a3 : Int) (a4 : List (List UInt8)) (a5 : Bool) (a6 : List UInt8) (a7 : Int) (a8 : List ao) (a9 : List Int) (l : List ab), szL l ≤ n →
 aj Try.prog wU [.agg [.sl .atype (.may false) ts], .agg [.int .i64 a0, .str a1, .sl .str (.may false) a2, .int .i64 a3, .sl .str (.may false) a4, .bool a5, .str a6, .int .i64 a7, .sl .afield (.may false) a8, .sl (.num .i64) (.may false) a9], .sl .aval (.may false) l] (.bool (decide (List.length l = List.length a8) && ua ts a8 l))
theorem afK : ∀ l : List ab, l.length ≤ szL l
 | [] => by simp
 | v :: l => by simp only [List.length_cons, szL]; have := qa v; have := afK l; omega
theorem aEC (n : Nat) (hF : aAm n) : aFg n := by
 have h1 : ∀ (m : Int) (s : List UInt8) (l : List ab) (ks : List (List UInt8)) (b : Int) (ts : List ac) (t : Int), szL l + 1 ≤ n →
   aj Try.prog mL [.agg [.int .u64 m, .str s, .sl .aval (.may false) l, .sl .str (.may false) ks, .int .i64 b], .ea [.sl .atype (.may false) ts], .ea [.int .i64 t]] (.bool (!cn ts t (.mk m s l ks b))) := by
  intro m s l ks b ts t hs
  refine arO (n + 1000000) (amI _ ?_) m s l ks b ts t (aBu _ ts t m s l ks b (by omega))
  intro ts t m s l ks b hd
  have := of_decide_eq_true hd
  exact hF ts t m s l ks b (by omega)
 have h2 : ∀ (l : List ab) (ts : List ac) (t : Int), szL l ≤ n → aj Try.prog cg [.sl .aval (.may false) l, .fn mL [.ea [.sl .atype (.may false) ts], .ea [.int .i64 t]]] (.int .i64 (vu ts t l 0)) := by
  intro l ts t hs
  refine aj.fits fun hf => ?_
  have r0 := amn (hf (.sl .aval (.may false) l) (by simp))
  have hlen : l.length ≤ szL l := afK l
  refine kj (n + 1000000) (jS _ ?_) l ts t (aD2 _ ts t l r0 (by omega) (by omega))
  intro m s l ks b ts t hd
  have := of_decide_eq_true hd
  exact h1 m s l ks b ts t (by omega)
 have h3 : ∀ (l : List ab) (ts : List ac) (t : Int), szL l ≤ n → aj Try.prog bV [.sl .aval (.may false) l, .fn mL [.ea [.sl .atype (.may false) ts], .ea [.int .i64 t]]] (.bool (!dI ts t l)) := by
  intro l ts t hs
  refine jt (n + 1000000) (iL _ ?_) l ts t (aD1 _ ts t l (by omega))
  intro l ts t hd
  have := of_decide_eq_true hd
  exact h2 l ts t (by omega)
 intro ts t l hs
 refine aAg (n + 1000000) (avl _ ?_) ts t l (asc _ ts t l (by omega))
 intro l ts t hd
 have := of_decide_eq_true hd
 exact h3 l ts t (by omega)
theorem aFh (n : Nat) (hF : aAm n) : aFq n := by
 intro ts a0 a1 a2 a3 a4 a5 a6 a7 a8 a9 l hs
 refine aj.fits fun hf => ?_
 have r0 := hf (.agg [.int .i64 a0, .str a1, .sl .str (.may false) a2, .int .i64 a3, .sl .str (.may false) a4, .bool a5, .str a6, .int .i64 a7, .sl .afield (.may false) a8, .sl (.num .i64) (.may false) a9]) (by simp)
 have r1 : a8.length ≤ 9223372036854775807 := r0 (.sl .afield (.may false) a8) (by simp)
 have hlen : l.length ≤ szL l := afK l
 refine avp (n + 1000000) (ao1 _ ?_) ts a0 a1 a2 a3 a4 a5 a6 a7 a8 a9 l (aAl _ ts a0 a1 a2 a3 a4 a5 a6 a7 a8 a9 l r1 (by omega) (by omega))
 intro ts t m s l ks b hd
 have := of_decide_eq_true hd
 exact hF ts t m s l ks b (by omega)
theorem aCb : ∀ n, aAm n
 | 0 => fun ts t m s l ks b h => by omega
 | n + 1 => by
   have hF := aCb n
   intro ts t m s l ks b hs
   obtain ⟨hp, h⟩ := aFd (aCC (n + 1000000) ts t m s l ks b (by omega))
   refine aAj (n + 1000000) (avF _ ?_ aEB aBw aDd ?_ aDe ?_ aDc) ts t m s l ks b h
   ·intro ts t m s l ks b hd
    have := of_decide_eq_true hd
    exact hF ts t m s l ks b (by omega)
   ·intro ts t l hd
    have := of_decide_eq_true hd
    exact aEC n hF ts t l (by omega)
   ·intro ts a0 a1 a2 a3 a4 a5 a6 a7 a8 a9 l hd
    have := of_decide_eq_true hd
    exact aFh n hF ts a0 a1 a2 a3 a4 a5 a6 a7 a8 a9 l (by omega)
theorem aDf (ts : List ac) (t : Int) (m : Int) (s : List UInt8) (l : List ab) (ks : List (List UInt8)) (b : Int) :
  aj Try.prog mc [.agg [.sl .atype (.may false) ts], .int .i64 t, .agg [.int .u64 m, .str s, .sl .aval (.may false) l, .sl .str (.may false) ks, .int .i64 b]] (.bool (cn ts t (.mk m s l ks b))) :=
 aCb (szL l + 1) ts t m s l ks b (Nat.le_refl _)
theorem aCD (a b : List (List UInt8)) : aj Try.prog iC [.sl .str (.may false) a, .sl .str (.may false) b] (.bool (decide (a = b))) := by
 refine aj.fits fun hf => ?_
 have r0 := amn (hf (.sl .str (.may false) a) (by simp))
 exact u4 tG (a.length + 1) a b (aBv _ a b r0 (by omega))
def aDg (n : Nat) : Prop := ∀ (m : Int) (s : List UInt8) (l : List ab) (ks : List (List UInt8)) (b : Int) (m2 : Int) (s2 : List UInt8) (l2 : List ab) (ks2 : List (List UInt8)) (b2 : Int), szL l + 1 ≤ n →
 aj Try.prog pg [.agg [.int .u64 m, .str s, .sl .aval (.may false) l, .sl .str (.may false) ks, .int .i64 b], .agg [.int .u64 m2, .str s2, .sl .aval (.may false) l2, .sl .str (.may false) ks2, .int .i64 b2]] (.bool (lI (.mk m s l ks b) (.mk m2 s2 l2 ks2 b2)))
theorem aDh (n : Nat) (hS : aDg n) (a b : List ab) (hs : szL a ≤ n) :
  aj Try.prog bz [.sl .aval (.may false) a, .sl .aval (.may false) b, .fn pg []] (.bool (f9 a b)) := by
 refine aj.fits fun hf => ?_
 have r0 := amn (hf (.sl .aval (.may false) a) (by simp))
 have hlen : a.length ≤ szL a := afK a
 refine fG (n + 1000000) (eK _ ?_) a b (asd _ a b r0 (by omega) (by omega))
 intro m s l ks b m2 s2 l2 ks2 b2 hd
 have := of_decide_eq_true hd
 exact hS m s l ks b m2 s2 l2 ks2 b2 (by omega)
theorem aCc : ∀ n, aDg n
 | 0 => fun m s l ks b m2 s2 l2 ks2 b2 h => by omega
 | n + 1 => by
   have hS := aCc n
   intro m s l ks b m2 s2 l2 ks2 b2 hs
   refine aAh (n + 1000000) (avq _ aCD ?_) m s l ks b m2 s2 l2 ks2 b2 (aCA _ m s l ks b m2 s2 l2 ks2 b2 (by omega))
   intro a b hd
   have := of_decide_eq_true hd
   exact aDh n hS a b (by omega)
theorem aDi (m : Int) (s : List UInt8) (l : List ab) (ks : List (List UInt8)) (b : Int) (m2 : Int) (s2 : List UInt8) (l2 : List ab) (ks2 : List (List UInt8)) (b2 : Int) :
  aj Try.prog pg [.agg [.int .u64 m, .str s, .sl .aval (.may false) l, .sl .str (.may false) ks, .int .i64 b], .agg [.int .u64 m2, .str s2, .sl .aval (.may false) l2, .sl .str (.may false) ks2, .int .i64 b2]] (.bool (lI (.mk m s l ks b) (.mk m2 s2 l2 ks2 b2))) :=
 aCc (szL l + 1) m s l ks b m2 s2 l2 ks2 b2 (Nat.le_refl _)
def aFi (n : Nat) : Prop := ∀ (m : Int) (s : List UInt8) (l : List ab) (ks : List (List UInt8)) (b : Int), szL l + 1 ≤ n →
 aj Try.prog rP [.agg [.int .u64 m, .str s, .sl .aval (.may false) l, .sl .str (.may false) ks, .int .i64 b]] (.tup [.int .i64 (ee (.mk m s l ks b)).1, .int .i64 (ee (.mk m s l ks b)).2])
theorem aCd : ∀ n, aFi n
 | 0 => fun m s l ks b h => by omega
 | n + 1 => by
   have hS := aCd n
   intro m s l ks b hs
   refine aj.fits fun hf => ?_
   have r0 : l.length ≤ 9223372036854775807 := hf (.agg [.int .u64 m, .str s, .sl .aval (.may false) l, .sl .str (.may false) ks, .int .i64 b]) (by simp) (.sl .aval (.may false) l) (by simp)
   have hlen : l.length ≤ szL l := afK l
   refine aAi (n + 1000000) (avu _ ?_) m s l ks b (aCB _ m s l ks b r0 (by omega) (by omega))
   intro m s l ks b hd
   have := of_decide_eq_true hd
   exact hS m s l ks b (by omega)
theorem aDj (m : Int) (s : List UInt8) (l : List ab) (ks : List (List UInt8)) (b : Int) :
  aj Try.prog rP [.agg [.int .u64 m, .str s, .sl .aval (.may false) l, .sl .str (.may false) ks, .int .i64 b]] (.tup [.int .i64 (ee (.mk m s l ks b)).1, .int .i64 (ee (.mk m s l ks b)).2]) :=
 aCd (szL l + 1) m s l ks b (Nat.le_refl _)
end Go.Proofs.Ytdpajabhmmmjoaa
end
section
namespace Go.Proofs.Ytdpajabhmmmjoaa
open Go.ChangeShapes Go.WideShapes Go.AM
set_option autoImplicit false
set_option linter.unusedVariables false
set_option maxRecDepth 100000
theorem aCe {α : Type} {p : Nat → α → Prop} : ∀ n, (∀ i, i < n → ∃ x, p i x) → ∃ l : List α, l.length = n ∧ ∀ i x, l[i]? = some x → p i x
 | 0, _ => ⟨[], rfl, by simp⟩
 | n + 1, h => by
   obtain ⟨l, h1, h2⟩ := aCe n fun i hi => h i (by omega)
   obtain ⟨x, hx⟩ := h n (by omega)
   refine ⟨l ++ [x], by simp [h1], fun i y hy => ?_⟩
   rcases Nat.lt_or_ge i l.length with hi | hi
   ·rw [List.getElem?_append_left hi] at hy
    exact h2 i y hy
   ·rw [List.getElem?_append_right hi] at hy
    have h3 : i = n := by
     have := (List.getElem?_eq_some_iff.1 hy).1
     simp at this
     omega
    subst h3
    have : x = y := by simpa [h1] using hy
    exact this ▸ hx
section
variable {H : Type} {enc : TypeId × Value → H} {w : World} {base : Nat} {held : Bool}
theorem av1 (k : EK) {t e : TypeId} (ht : Try.prog.underlying t = some (.slice e)) (hc : Try.prog.cellsOf e = k.sz) {n : Nat} {cs : List Value} {x : DataW H × List MemPlace}
  (elem : ∀ m, m + 1 = n → ∀ es y, DataW.trod enc Try.prog w base (fun _ => true) held m e es = some y → ∃ x : Ty k, ∀ (j : Nat) v u, (AM.enc k x)[j]? = some v → es[j]? = some u → VRel (dM w).I id 0 w v u)
  (h : DataW.trod enc Try.prog w base (fun _ => true) held n t cs = some x) : ∃ (xs : List (Ty k)) (cv : Value), cs = [cv] ∧ VRel (dM w).I id 0 w (.sl k (.may false) xs) cv := by
 have hk0 : 0 < k.sz := by cases k <;> simp [EK.sz]
 rcases DataW.trod_slice ht h with ⟨rfl, -⟩ | ⟨a, len, cap, elems, rest, m, rfl, rfl, -, hb, hl, hm, hlen, hel, hsp, -⟩
 ·exact ⟨[], _, rfl, .sln _ _⟩
 obtain ⟨hrl, hr⟩ := hsp rfl
 rw [hc] at hel hr
 by_cases h0 : cap = 0
 ·subst h0
  obtain rfl : len = 0 := by omega
  exact ⟨[], _, rfl, .sle _ _ a (by simp)⟩
 have first : ∃ es y, w.cells? base (a.add (0 * k.sz)) k.sz = some es ∧ DataW.trod enc Try.prog w base (fun _ => true) held m e es = some y := by
  by_cases hl0 : len = 0
  ·have h1 := hr 0 (by omega)
   rw [hl0] at h1
   have h2 : 0 < rest.length := by omega
   rw [List.getElem?_eq_getElem h2, Option.bind_eq_some_iff] at h1
   obtain ⟨es, h3, h4⟩ := h1
   exact ⟨es, _, h3, h4⟩
  ·have h1 := hel 0 (by omega)
   have h2 : 0 < elems.length := by omega
   rw [List.getElem?_eq_getElem h2, Option.bind_eq_some_iff] at h1
   obtain ⟨es, h3, h4⟩ := h1
   exact ⟨es, _, h3, h4⟩
 have hspot : a.spot = none := by
  obtain ⟨es, y, h1, -⟩ := first
  obtain ⟨h2, h3, h4⟩ := World.cells?_some h1
  have h5 := h4 0 hk0
  rw [List.getElem?_eq_getElem (by omega)] at h5
  simp only [Nat.zero_mul, Addr.add, if_true, World.cell?] at h5
  split at h5
  ·cases hs : a.spot with
   | none => rfl
   | some s => simp [hs] at h5
  ·cases h5
 obtain ⟨b, off, spot⟩ := a
 simp only at hspot
 subst hspot
 obtain ⟨xs, hxl, hxs⟩ := aCe (α := Ty k) (p := fun i x => ∀ j v, (AM.enc k x)[j]? = some v → ∃ u, w.cell? ⟨b, off + i * k.sz + j, none⟩ = some u ∧ VRel (dM w).I id 0 w v u) len (by
  intro i hi
  have h1 := hel i hi
  rw [List.getElem?_eq_getElem (by omega), Option.bind_eq_some_iff] at h1
  obtain ⟨es, h2, h3⟩ := h1
  obtain ⟨x, hx⟩ := elem m rfl es _ h3
  obtain ⟨h4, h5, h6⟩ := World.cells?_some h2
  refine ⟨x, fun j v hv => ?_⟩
  have hj : j < k.sz := by
   have := (List.getElem?_eq_some_iff.1 hv).1
   rwa [bM] at this
  have h7 := h6 j hj
  rw [List.getElem?_eq_getElem (by omega), add_plain, add_plain] at h7
  exact ⟨_, h7, hx j v _ hv (List.getElem?_eq_getElem (by omega))⟩)
 refine ⟨xs, _, rfl, .sl k (.may false) xs b off len cap hxl (by omega) (by unfold maxLen at hm; unfold dn; exact hm) (by simp) (fun i j => (w.cell? ⟨b, off + i * k.sz + j, none⟩).getD undef) ?_ ?_ ?_⟩
 ·intro i x j h1 h2
  obtain ⟨u, h3, -⟩ := hxs i x h1 j _ (List.getElem?_eq_getElem h2)
  show (w.cell? _).isSome = true
  rw [h3]; rfl
 ·intro i x j h1 h2
  obtain ⟨u, h3, -⟩ := hxs i x h1 j _ (List.getElem?_eq_getElem h2)
  rw [h3]; rfl
 ·intro i x j v h1 h2
  obtain ⟨u, h3, h4⟩ := hxs i x h1 j v h2
  rw [h3]; exact h4
theorem aCE {n : Nat} {cs : List Value} {x : DataW H × List MemPlace} (h : DataW.trod enc Try.prog w base (fun _ => true) held n 22 cs = some x) :
  ∃ (xs : List UInt8) (cv : Value), cs = [cv] ∧ VRel (dM w).I id 0 w (.sl .u8 (.may false) xs) cv :=
 av1 .u8 Try.underlying22 (by kernel_rfl) (fun m hm es y hy => by
  obtain ⟨c, rfl, -, hw⟩ := DataW.trod_int Try.underlying5 hy
  have hr : 0 ≤ c ∧ c ≤ 255 := by simpa [Lit.wf, IntKind.min, IntKind.max, IntKind.signed, IntKind.bits] using hw
  refine ⟨UInt8.ofNat c.toNat, fun j v u h1 h2 => ?_⟩
  obtain rfl : j = 0 := by
   have := (List.getElem?_eq_some_iff.1 h2).1
   simpa using this
  simp only [AM.enc, List.getElem?_cons_zero, Option.some.injEq] at h1 h2
  subst h1 h2
  have : ((UInt8.ofNat c.toNat).toNat : Int) = c := by
   rw [UInt8.toNat_ofNat']
   omega
  rw [this]
  exact .int _ _ (by simpa [Lit.wf] using hw)) h
theorem aDk {n : Nat} {cs : List Value} {x : DataW H × List MemPlace} (h : DataW.trod enc Try.prog w base (fun _ => true) held n 35 cs = some x) :
  ∃ (xs : List (List UInt8)) (cv : Value), cs = [cv] ∧ VRel (dM w).I id 0 w (.sl .str (.may false) xs) cv :=
 av1 .str Try.underlying35 (by kernel_rfl) (fun m hm es y hy => by
  obtain ⟨s, rfl, -, hw⟩ := DataW.trod_string Try.underlying9 hy
  refine ⟨s.data.toList, fun j v u h1 h2 => ?_⟩
  obtain rfl : j = 0 := by
   have := (List.getElem?_eq_some_iff.1 h2).1
   simpa using this
  simp only [AM.enc, List.getElem?_cons_zero, Option.some.injEq] at h1 h2
  subst h1 h2
  exact aB5 s hw) h
theorem aDl : ∀ (n : Nat) (cs : List Value) (x : DataW H × List MemPlace), DataW.trod enc Try.prog w base (fun _ => true) held n 37 cs = some x →
  ∃ (m : Int) (s : List UInt8) (l : List ab) (ks : List (List UInt8)) (b : Int) (c0 c1 c2 c3 c4 : Value), cs = [c0, c1, c2, c3, c4] ∧
    VRel (dM w).I id 0 w (.int .u64 m) c0 ∧ VRel (dM w).I id 0 w (.str s) c1 ∧ VRel (dM w).I id 0 w (.sl .aval (.may false) l) c2 ∧ VRel (dM w).I id 0 w (.sl .str (.may false) ks) c3 ∧ VRel (dM w).I id 0 w (.int .i64 b) c4 := by
 intro n
 induction n using Nat.strongRecOn with
 | ind n ih =>
 intro cs x h
 obtain ⟨xs, n', rfl, -, hsz, hxl, hfs⟩ := DataW.trod_struct Try.underlying37 h
 have hC : Try.prog.cellsOf 37 = 5 := by kernel_rfl
 rw [hC] at hsz
 obtain ⟨c0, c1, c2, c3, c4, rfl⟩ : ∃ c0 c1 c2 c3 c4, cs = [c0, c1, c2, c3, c4] := by
  match cs, hsz with
  | [c0, c1, c2, c3, c4], _ => exact ⟨c0, c1, c2, c3, c4, rfl⟩
 obtain ⟨y0, y1, y2, y3, y4, rfl⟩ : ∃ y0 y1 y2 y3 y4, xs = [y0, y1, y2, y3, y4] := by
  match xs, hxl with
  | [y0, y1, y2, y3, y4], _ => exact ⟨y0, y1, y2, y3, y4, rfl⟩
 have k0 : Try.prog.cellsOf 33 = 1 := by kernel_rfl
 have k1 : Try.prog.cellsOf 9 = 1 := by kernel_rfl
 have k2 : Try.prog.cellsOf 34 = 1 := by kernel_rfl
 have k3 : Try.prog.cellsOf 35 = 1 := by kernel_rfl
 have k4 : Try.prog.cellsOf 3 = 1 := by kernel_rfl
 have g0 : DataW.trod enc Try.prog w base (fun _ => true) held n' 33 (([c0, c1, c2, c3, c4].drop 0).take (Try.prog.cellsOf 33)) = some y0 := hfs 0 _ rfl
 rw [k0] at g0
 have g1 : DataW.trod enc Try.prog w base (fun _ => true) held n' 9 (([c0, c1, c2, c3, c4].drop 1).take (Try.prog.cellsOf 9)) = some y1 := hfs 1 _ rfl
 rw [k1] at g1
 have g2 : DataW.trod enc Try.prog w base (fun _ => true) held n' 34 (([c0, c1, c2, c3, c4].drop 2).take (Try.prog.cellsOf 34)) = some y2 := hfs 2 _ rfl
 rw [k2] at g2
 have g3 : DataW.trod enc Try.prog w base (fun _ => true) held n' 35 (([c0, c1, c2, c3, c4].drop 3).take (Try.prog.cellsOf 35)) = some y3 := hfs 3 _ rfl
 rw [k3] at g3
 have g4 : DataW.trod enc Try.prog w base (fun _ => true) held n' 3 (([c0, c1, c2, c3, c4].drop 4).take (Try.prog.cellsOf 3)) = some y4 := hfs 4 _ rfl
 rw [k4] at g4
 obtain ⟨m, e0, -, w0⟩ := DataW.trod_int Try.underlying33 g0
 obtain ⟨s, e1, -, w1⟩ := DataW.trod_string Try.underlying9 g1
 obtain ⟨b, e4, -, w4⟩ := DataW.trod_int Try.underlying3 g4
 obtain ⟨ks, u3, e3, r3⟩ := aDk g3
 obtain ⟨l, u2, e2, r2⟩ := av1 .aval Try.underlying34 hC (fun q hq es y hy => by
  obtain ⟨m', s', l', ks', b', d0, d1, d2, d3, d4, rfl, v0, v1, v2, v3, v4⟩ := ih q (by omega) es y hy
  refine ⟨.mk m' s' l' ks' b', fun j v u h1 h2 => ?_⟩
  match j, h1, h2 with
  | 0, h1, h2 => simp only [AM.enc, List.getElem?_cons_zero, Option.some.injEq] at h1 h2; subst h1 h2; exact v0
  | 1, h1, h2 => simp only [AM.enc, List.getElem?_cons_zero, List.getElem?_cons_succ, Option.some.injEq] at h1 h2; subst h1 h2; exact v1
  | 2, h1, h2 => simp only [AM.enc, List.getElem?_cons_zero, List.getElem?_cons_succ, Option.some.injEq] at h1 h2; subst h1 h2; exact v2
  | 3, h1, h2 => simp only [AM.enc, List.getElem?_cons_zero, List.getElem?_cons_succ, Option.some.injEq] at h1 h2; subst h1 h2; exact v3
  | 4, h1, h2 => simp only [AM.enc, List.getElem?_cons_zero, List.getElem?_cons_succ, Option.some.injEq] at h1 h2; subst h1 h2; exact v4
  | (j + 5), h1, h2 => simp at h2) g2
 simp only [List.drop_zero, List.drop_succ_cons, List.take_succ_cons, List.take_zero, List.cons.injEq, and_true] at e0 e1 e2 e3 e4
 subst e0 e1 e2 e3 e4
 exact ⟨m, s.data.toList, l, ks, b, _, _, _, _, _, rfl, auD .u64 m w0, aB5 s w1, r2, r3, auD .i64 b w4⟩
theorem aAn {r : Reach} {b0 : Nat} {v : Value} {d : DataW H} {p : List MemPlace} (hv : Value.okWide Try.prog w r b0 37 v) (h : DataW.Trod enc Try.prog w base (fun _ => true) held 37 v d p) :
  ∃ (m : Int) (s : List UInt8) (l : List ab) (ks : List (List UInt8)) (b : Int), VRel (dM w).I id 0 w (.agg [.int .u64 m, .str s, .sl .aval (.may false) l, .sl .str (.may false) ks, .int .i64 b]) v := by
 obtain ⟨cs, rfl, hsz⟩ := okWide_struct Try.underlying37 hv
 obtain ⟨fuel, hf⟩ := h
 obtain ⟨m, s, l, ks, b, c0, c1, c2, c3, c4, e, v0, v1, v2, v3, v4⟩ := aDl fuel _ _ hf
 have e : cs = #[c0, c1, c2, c3, c4] := by
  have : cs.toList = [c0, c1, c2, c3, c4] := e
  rw [← Array.toArray_toList (xs := cs), this]
 subst e
 refine ⟨m, s, l, ks, b, .agg _ _ rfl (by simp [V.one]) ?_ ?_⟩
 ·intro j c cv hc hv
  match j, hc, hv with
  | 0, hc, hv => simp at hc hv; subst hc hv; trivial
  | 1, hc, hv => simp at hc hv; subst hc hv; trivial
  | 2, hc, hv => simp at hc hv; subst hc hv; trivial
  | 3, hc, hv => simp at hc hv; subst hc hv; trivial
  | 4, hc, hv => simp at hc hv; subst hc hv; trivial
  | (j + 5), hc, hv => simp at hc
 ·intro j c cv hc hv
  match j, hc, hv with
  | 0, hc, hv => simp at hc hv; subst hc hv; exact v0
  | 1, hc, hv => simp at hc hv; subst hc hv; exact v1
  | 2, hc, hv => simp at hc hv; subst hc hv; exact v2
  | 3, hc, hv => simp at hc hv; subst hc hv; exact v3
  | 4, hc, hv => simp at hc hv; subst hc hv; exact v4
  | (j + 5), hc, hv => simp at hc
theorem aCF {r : Reach} {b0 : Nat} {v : Value} {d : DataW H} {p : List MemPlace} (hv : Value.okWide Try.prog w r b0 22 v) (h : DataW.Trod enc Try.prog w base (fun _ => true) held 22 v d p) :
  ∃ xs : List UInt8, VRel (dM w).I id 0 w (.sl .u8 (.may false) xs) v := by
 obtain ⟨a, len, cap, rfl⟩ := okWide_slice Try.underlying22 hv
 obtain ⟨fuel, hf⟩ := h
 obtain ⟨xs, cv, e, hr⟩ := aCE hf
 have e : [Value.slice a len cap] = [cv] := e
 cases e
 exact ⟨xs, hr⟩
end
end Go.Proofs.Ytdpajabhmmmjoaa
end
section
namespace Go.Proofs.Ytdpajabhmmmjoaa
open Go.AM
set_option autoImplicit false
set_option linter.unusedVariables false
inductive aK : ae → Prop where
 | mk (k n : Int) (s : List UInt8) (l : List ae) (names : List (List UInt8)) (h1 : s.length ≤ 100) (h2 : l.length ≤ 100) (h3 : names.length ≤ l.length)
   (h4 : ∀ x ∈ names, x.length ≤ 100) (h5 : k = 6 → names.length = l.length) (h6 : ∀ c ∈ l, aK c) : aK (.mk k n s l names)
structure qb (m : Nat) (t : ac) : Prop where
 items : 0 ≤ t.items ∧ t.items < m
 fields : ∀ f ∈ t.fields, 0 ≤ f.typ ∧ f.typ < m ∧ aK f.df
 nf : t.fields.length ≤ 100
 branches : ∀ b ∈ t.branches, 0 ≤ b ∧ b < (m : Int)
 nb : t.branches.length ≤ 100
 ns : t.syms.length ≤ 100
 size : 0 ≤ t.size ∧ t.size ≤ 5000
 done : t.kind = 14 → t.branches ≠ []
 kind : 1 ≤ t.kind ∧ t.kind ≤ 14
 enum : t.kind = 10 → t.syms ≠ []
def wh (ts : List ac) : Prop := ts.length ≤ 60 ∧ ∀ t ∈ ts, qb ts.length t
structure bj (ts : List ac) (e : Int) (ts' : List ac) (e' : Int) : Prop where
 len : ts.length ≤ ts'.length
 cap : ts'.length ≤ 60
 err : e' = 0 → e = 0
 old : e' = 0 → ∀ i, i < ts.length → ts'[i]? = ts[i]?
 new : e' = 0 → ∀ (i : Nat) t, ts.length ≤ i → ts'[i]? = some t → qb ts'.length t
def nU (l : List UInt8) (n : Int) : Prop := 0 ≤ n ∧ n ≤ l.length ∧ l.length ≤ 1000
def mg : List (List UInt8) → List ae → List UInt8 → Option ae
 | x :: ns, c :: l, name => if x = name then some c else mg ns l name
 | _, _, _ => none
def qc : Nat → Nat
 | 0 => 1
 | k + 1 => 1 + 4 * qc k
def bP (l : List (List UInt8)) : Prop := ∀ x ∈ l, x.length ≤ 100
def u5 (l : List UInt8) (n m : Int) (r : Int × List UInt8 × Int) : Prop := 0 ≤ r.1 ∧ r.1 < m ∧ r.2.1 = l ∧ nU l r.2.2
def uA (l : List UInt8) (n : Int) (r : Bool × List UInt8 × Int) : Prop := r.2.1 = l ∧ r.2.2 = n
def afL (l : List UInt8) (r : List UInt8 × Int) : Prop := r = (l, 0)
def afM (s : List UInt8) (r : Int × Int × List UInt8 × List ae × List (List UInt8)) : Prop := r = (4, 0, s, [], [])
def ade (f0 : Bool) (names : List (List UInt8)) (f1 : Bool) (l : List ae) (r : Int × Int × List UInt8 × Bool × List ae × Bool × List (List UInt8)) : Prop := r = (6, 0, [], f1, l, f0, names)
def xh (o : Option ae) : Int × Int × List UInt8 × List ae × List (List UInt8) × Bool := match o with
 | some c => (c.kind, c.n, c.s, c.l, c.names, true)
 | none => (0, 0, [], [], [], false)
def sR (k n : Int) (s : List UInt8) (l : List ae) (names : List (List UInt8)) (name : List UInt8) (r : Int × Int × List UInt8 × List ae × List (List UInt8) × Bool) : Prop := r = xh (mg names l name)
def bW (k n : Int) (s : List UInt8) (l : List ae) (names : List (List UInt8)) (name : List UInt8) (r : Int × Int × List UInt8 × List ae × List (List UInt8) × Bool) : Prop := r = xh (if k = 6 then mg names l name else none)
def aEk (a : List UInt8) (r : Int × Int × List UInt8 × List ae × List (List UInt8) × List UInt8 × Int) : Prop :=
 aK (.mk r.1 r.2.1 r.2.2.1 r.2.2.2.1 r.2.2.2.2.1) ∧ r.2.2.2.2.2.1 = a ∧ nU a r.2.2.2.2.2.2
def aCG (k : Nat) (a : List UInt8) (ns : List (List UInt8)) (r : Int × Int × List UInt8 × List ae × List (List UInt8) × List UInt8 × Int × List (List UInt8)) : Prop :=
 aK (.mk r.1 r.2.1 r.2.2.1 r.2.2.2.1 r.2.2.2.2.1) ∧ r.2.2.2.2.2.1 = a ∧ nU a r.2.2.2.2.2.2.1 ∧ bP r.2.2.2.2.2.2.2 ∧ r.2.2.2.2.2.2.2.length ≤ ns.length + qc k
def ef (a : List UInt8) (n : Int) (ns : List (List UInt8)) (deep : Int) (r : Int × Int × List UInt8 × List ae × List (List UInt8) × List UInt8 × Int × List (List UInt8)) : Prop := aCG (5 - deep.toNat) a ns r
def tv (a : List UInt8) (n : Int) (ns : List (List UInt8)) (deep : Int) (r : Int × Int × List UInt8 × List ae × List (List UInt8) × List UInt8 × Int × List (List UInt8)) : Prop := aCG (5 - deep.toNat) a ns r
def rR (a : List UInt8) (n : Int) (ns : List (List UInt8)) (name : List UInt8) (deep : Int) (r : Int × Int × List UInt8 × List ae × List (List UInt8) × List UInt8 × Int × List (List UInt8)) : Prop :=
 aCG (5 - deep.toNat) a ns r ∧ r.2.2.2.2.2.2.2.length + 1 ≤ ns.length + qc (5 - deep.toNat)
def en (a : List UInt8) (n : Int) (c0 c1 : Int) (c2 : List UInt8) (c3 : List ae) (c4 : List (List UInt8)) (r : Int × Int × List UInt8 × List ae × List (List UInt8) × List UInt8 × Int) : Prop := aEk a r
def rS (a : List UInt8) (n : Int) (r : Int × Int × List UInt8 × List ae × List (List UInt8) × List UInt8 × Int) : Prop := aEk a r
def jy (ts : List ac) (e c : Int) (r : Int × List ac × Int) : Prop := r = (0, ts, if e = 0 then c else e)
def kn (ts : List ac) (e : Int) (a0 : Int) (a1 : List UInt8) (a2 : List (List UInt8)) (a3 : Int) (a4 : List (List UInt8)) (a5 : Bool) (a6 : List UInt8) (a7 : Int) (a8 : List ao) (a9 : List Int) (r : Int × List ac × Int) : Prop :=
 r = if 60 ≤ ts.length then (0, ts, if e = 0 then 3 else e) else ((ts.length : Int), ts ++ [⟨a0, a1, a2, a3, a4, a5, a6, a7, a8, a9⟩], e)
def tw (ts : List ac) (e : Int) (s : List UInt8) (r : Int × Bool × List ac × Int) : Prop := r.2.2 = (ts, e) ∧ (r.2.1 = true → 0 ≤ r.1 ∧ r.1 < ts.length)
def mU (ts : List ac) (e : Int) (s space : List UInt8) (r : Int × List ac × Int) : Prop := bj ts e r.2.1 r.2.2 ∧ (r.2.2 = 0 → 0 ≤ r.1 ∧ r.1 < r.2.1.length)
def dO (ts : List ac) (e : Int) (c0 c1 : Int) (c2 : List UInt8) (c3 : List ae) (c4 : List (List UInt8)) (space : List UInt8) (deep : Int) (r : Int × List ac × Int) : Prop := bj ts e r.2.1 r.2.2 ∧ (r.2.2 = 0 → 0 ≤ r.1 ∧ r.1 < r.2.1.length)
def rT (ts : List ac) (e : Int) (c0 c1 : Int) (c2 : List UInt8) (c3 : List ae) (c4 : List (List UInt8)) (space : List UInt8) (deep : Int) (r : Int × List ac × Int) : Prop := bj ts e r.2.1 r.2.2 ∧ (r.2.2 = 0 → 0 ≤ r.1 ∧ r.1 < r.2.1.length)
def fe (ts : List ac) (e : Int) (c0 c1 : Int) (c2 : List UInt8) (c3 : List ae) (c4 : List (List UInt8)) (k : Int) (space : List UInt8) (deep : Int) (r : Int × List ac × Int) : Prop := bj ts e r.2.1 r.2.2 ∧ (r.2.2 = 0 → 0 ≤ r.1 ∧ r.1 < r.2.1.length)
def tx (ts : List ac) (e : Int) (c0 c1 : Int) (c2 : List UInt8) (c3 : List ae) (c4 : List (List UInt8)) (name : List UInt8) (must : Bool) (r : List UInt8 × List ac × Int) : Prop := r.1.length ≤ 100 ∧ r.2.1 = ts ∧ (r.2.2 = 0 → e = 0)
def rU (ts : List ac) (e : Int) (name space : List UInt8) (r : List UInt8 × List ac × Int) : Prop := r.1.length ≤ name.length + space.length + 1 ∧ r.2.1 = ts ∧ (r.2.2 = 0 → e = 0)
def mh (ts : List ac) (e : Int) (c0 c1 : Int) (c2 : List UInt8) (c3 : List ae) (c4 : List (List UInt8)) (name : List UInt8) (r : List (List UInt8) × Bool × List ac × Int) : Prop := r.1.length ≤ 100 ∧ bP r.1 ∧ r.2.2.1 = ts ∧ (r.2.2.2 = 0 → e = 0)
def cS (ts : List ac) (e : Int) (c0 c1 : Int) (c2 : List UInt8) (c3 : List ae) (c4 : List (List UInt8)) (at_ : Int) (r : List ac × Int) : Prop :=
 (r.2 = 0 → e = 0) ∧ (r.2 ≠ 0 → r.1 = ts) ∧ (r.2 = 0 → ∃ l h d, l ≠ [] ∧ l.length ≤ 100 ∧ ∃ t, ts[at_.toNat]? = some t ∧ r.1 = ts.set at_.toNat { t with syms := l, hasdef := h, df := d })
def da (ts : List ac) (e : Int) (c0 c1 : Int) (c2 : List UInt8) (c3 : List ae) (c4 : List (List UInt8)) (at_ : Int) (space : List UInt8) (deep : Int) (r : List ac × Int) : Prop :=
 ∃ ts2, bj ts e ts2 r.2 ∧ (r.1 = ts2 ∨ ∃ l : List ao, l.length ≤ 100 ∧ (∀ f ∈ l, 0 ≤ f.typ ∧ f.typ < ts2.length ∧ aK f.df) ∧ ∃ t, ts2[at_.toNat]? = some t ∧ r.1 = ts2.set at_.toNat { t with fields := l })
def asf : List (List UInt8) := [[110, 117, 108, 108], [98, 111, 111, 108, 101, 97, 110], [105, 110, 116], [108, 111, 110, 103], [102, 108, 111, 97, 116], [100, 111, 117, 98, 108, 101], [98, 121, 116, 101, 115], [115, 116, 114, 105, 110, 103], [114, 101, 99, 111, 114, 100], [101, 110, 117, 109], [102, 105, 120, 101, 100], [97, 114, 114, 97, 121], [109, 97, 112], [117, 110, 105, 111, 110]]
def adf (s : List UInt8) (r : Int) : Prop := 0 ≤ r ∧ r ≤ 14 ∧ (r = 14 → s = [117, 110, 105, 111, 110]) ∧ (r = 0 → ∀ i < 14, asf.getD i [] ≠ s) ∧ (r = 10 → s = [101, 110, 117, 109])
def kc (s r : List UInt8) : Prop := r.length ≤ s.length
def rf (a b r : List UInt8) : Prop := r.length ≤ a.length + b.length + 1
def uB (c0 c1 : Int) (c2 : List UInt8) (c3 : List ae) (c4 : List (List UInt8)) (r : List ac × Int) : Prop := r.2 = 0 → wh r.1
def uC (a : List UInt8) (n : Int) (r : List ac × Bool × List UInt8 × Int) : Prop := (r.2.1 = true → wh r.1) ∧ r.2.2.1 = a ∧ nU a r.2.2.2
def y9 (ts : List ac) (kind items : Int) (fields : List ao) (branches : List Int) (l : List ab) (ks : List (List UInt8)) (b : Int) : Bool :=
 cond (kind == 9) (decide (l.length = fields.length) && ua ts fields l) (
 cond (kind == 13) (((ks.length : Int) == (l.length : Int)) && (qO ks && dI ts items l)) (
 cond (kind == 14) (decide (0 ≤ b) && (decide (b < (branches.length : Int)) && (((l.length : Int) == 1) && dI ts (branches.getD b.toNat 0) l))) (
 dI ts items l)))
def pE (ts : List ac) (t n : Int) (s : List UInt8) (l : List ab) (ks : List (List UInt8)) (b : Int) (r : Bool) : Prop := r = cn ts t (.mk n s l ks b)
def cG (ts : List ac) (k0 : Int) (k1 : List UInt8) (k2 : List (List UInt8)) (k3 : Int) (k4 : List (List UInt8)) (k5 : Bool) (k6 : List UInt8) (k7 : Int) (k8 : List ao) (k9 : List Int) (n : Int) (s : List UInt8) (l : List ab) (ks : List (List UInt8)) (b : Int) (r : Bool) : Prop := r = y9 ts k0 k3 k8 k9 l ks b
def lN (n : Int) (s : List UInt8) (l : List ab) (ks : List (List UInt8)) (b : Int) (n2 : Int) (s2 : List UInt8) (l2 : List ab) (ks2 : List (List UInt8)) (b2 : Int) (r : Bool) : Prop := r = lI (.mk n s l ks b) (.mk n2 s2 l2 ks2 b2)
def lO (n : Int) (s : List UInt8) (l : List ab) (ks : List (List UInt8)) (b : Int) (r : Int × Int) : Prop := r = ee (.mk n s l ks b)
def uD (s : List UInt8) (r : Bool) : Prop := r = el s
def sS (ts : List ac) (t : Int) (r : Bool) : Prop := r = isT ts t
def adg (s : List UInt8) (r : Int × Int) : Prop := r = dq s
def adh (s : List UInt8) (r : Int × Int) : Prop := r = dq s
def afN (n : Int) (s : List UInt8) (l : List ab) (ks : List (List UInt8)) (b : Int) (key : List UInt8) (w0 : Int) (w1 : List UInt8) (w2 : List ab) (w3 : List (List UInt8)) (w4 : Int) (r : Int × List UInt8 × List ab × List (List UInt8) × Int) : Prop :=
 r.2.2.2.1.length = r.2.2.1.length ∧ r.2.2.1.length ≤ l.length + 1
def bY (ts : List ac) (all : Int) (t : Int) (c0 c1 : Int) (c2 : List UInt8) (c3 : List ae) (c4 : List (List UInt8)) (deep : Int) (r : Int × List UInt8 × List ab × List (List UInt8) × Int × Int × List ac × Int) : Prop := r.2.2.2.2.2.2.1 = ts
def ry (ts : List ac) (all : Int) (k0 : Int) (k1 : List UInt8) (k2 : List (List UInt8)) (k3 : Int) (k4 : List (List UInt8)) (k5 : Bool) (k6 : List UInt8) (k7 : Int) (k8 : List ao) (k9 : List Int) (c0 c1 : Int) (c2 : List UInt8) (c3 : List ae) (c4 : List (List UInt8)) (deep : Int) (r : Int × List UInt8 × List ab × List (List UInt8) × Int × Int × List ac × Int) : Prop := r.2.2.2.2.2.2.1 = ts
def qd (ts : List ac) (all : Int) (k0 : Int) (k1 : List UInt8) (k2 : List (List UInt8)) (k3 : Int) (k4 : List (List UInt8)) (k5 : Bool) (k6 : List UInt8) (k7 : Int) (k8 : List ao) (k9 : List Int) (c0 c1 : Int) (c2 : List UInt8) (c3 : List ae) (c4 : List (List UInt8)) (deep : Int) (r : Int × List UInt8 × List ab × List (List UInt8) × Int × Int × List ac × Int) : Prop := r.2.2.2.2.2.2.1 = ts
end Go.Proofs.Ytdpajabhmmmjoaa
end
