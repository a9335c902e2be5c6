import Derived.KernelRfl
import Derived.Test.YtdpajabhmmmjoaaZ02
import Derived.Test.YtdpajabhmmmjoaaZ04
section
namespace Go.Proofs.Ytdpajabhmmmjoaa
open Go.AM
set_option autoImplicit false
set_option linter.unusedVariables false
set_option maxRecDepth 100000
noncomputable def ne : au := tab (P := Try.prog) [] [] [] []
noncomputable def amW : IR := (.cond (.t 8) .skip (.exit 0))
noncomputable def amX : IR := .ret
noncomputable def amY : IR := (.cond (.t 14) (.seq (.reg [Mv 15 0, Mv 16 3, Pp (.subs 17 (.t 15) none (some (.t 16))), Mv 2 17] []) amX) .skip)
noncomputable def amZ : IR := (.reg [Mv 9 3, Bc 10 .sub 9 1, Mv 3 10] [])
noncomputable def am0 : IR := (.seq (.block 1 (.seq (.reg [Mv 11 0, Mv 12 3, Pp (.idx 13 (.t 11) (.t 12)), Pp (.bin 14 .eql (.t 13) (.c (.int .u8 46)))] []) amY)) amZ)
noncomputable def xT : IR := (.seq (.seq (.reg [Mv 7 3, Bc 8 .geq 7 0] []) amW) am0)
noncomputable def am1 : IR := (.block 0 (.loop [0, 3, 1000000] 0 xT))
noncomputable def am2 : IR := .ret
noncomputable def xU : IR := (.seq (.reg [Pp (.mov 2 (.c (.str ([] : Bs))))] []) am2)
noncomputable def am3 : IR := (.seq (.seq (.reg [Mv 4 0, Pp (.lens 5 (.t 4)), Bc 6 .sub 5 1, Mv 3 6] []) am1) xU)
noncomputable def uS : IR := (.seq (.reg [Pp (.mov 2 (.c (.str ([] : Bs))))] []) am3)
noncomputable def pF : List RV := [.t 2]
theorem atk : FnC Try.prog ne [] 0 afO Try.f142 uS pF := fnC (by kernel_rfl) Try.func142 (by kernel_rfl) (by kernel_rfl) (by decide)
noncomputable def apP (R : IR → (Ex → St → Ro) → St → Ro) (again0 : St → Ro) : Ex → St → Ro := (br again0 [0, 3, 1000000] 0 (aD 0 (bo (R xU) (fin pF))))
abbrev kY : Type := (Bs × Int)
noncomputable def kf (x : kY) : St := { env := (.str x.1 :: .undef :: .undef :: .int .i64 x.2 :: (U 14 [])), hp := [] }
noncomputable def tg (N : Nat) : (St → Ro) → St → Ro := fun again0 s => run ne N xT (apP (run ne N) again0) s
noncomputable def n7 (N : Nat) (again0 : kY → Ro) (x : kY) : Ro :=
 let v0 : Bs := x.1
 let v3 : Int := x.2
 cond (decide (0 ≤ v3)) (
  chk ((decide (0 ≤ v3) && decide (v3 < ↑(List.length v0)))) (
   let x3 : Int := (↑(UInt8.toNat (List.getD v0 (Int.toNat v3) 0)) : Int)
   cond (x3 == 46) (
    chk ((decide (0 ≤ v3) && decide (v3 ≤ (↑(List.length v0) : Int)))) (
     let x4 : Bs := (List.drop 0 (List.take (Int.toNat v3) v0))
     some (.str x4, []))) (
    let x5 : Int := (IntKind.wrap .i64 (v3 - 1))
    again0 (v0, x5)))) (
  some (.str ([] : Bs), []))
theorem am4 (N : Nat) : ∀ (again0 : St → Ro) (x : kY), tg N again0 (kf x) = n7 N (fun y => again0 (kf y)) x := by
 intro again0 x
 kernel_rfl
noncomputable def lT (N : Nat) (p0 : Bs) (q0 : kY → Ro) : Ro :=
 let x1 : Int := (↑(List.length p0) : Int)
 let x2 : Int := (IntKind.wrap .i64 (x1 - 1))
 q0 (p0, x2)
noncomputable def uT (N : Nat) (p0 : Bs) : Ro := lT N p0 (fun z => aB N (n7 N) z)
noncomputable def aw1 (N : Nat) : List (Nat × (St → Ro)) := aI ne N uS (fin pF) ++ []
theorem apQ (N : Nat) (p0 : Bs) : aE ne N 18 pF uS [.str p0] [] = uT N p0 :=
 (bx (aw1 N) (by kernel_rfl) rfl (fun C => lT N p0 (fun z => C 1000000 (kf z))) (fun C => by kernel_rfl)).trans (Eq.trans (b := lT N p0 (fun z => aW N (tg N) (kf z))) (by kernel_rfl) (congrArg (lT N p0) (funext fun z => aT (kf) (tg N) (n7 N) (am4 N) N z)))
theorem apR (N : Nat) (p0 : Bs) (h : Tot (uT N p0) (fun z => ∃ (y0 : Bs) (rest : List an), z.1.dimR = .str y0 ∧ z.2 = rest ∧ kc p0 (y0))) : ∃ r, mV p0 r := by
 obtain ⟨⟨v, hp⟩, hz, y0, rest, e1, e2, hq⟩ := h
 simp only at e1 e2
 subst e2
 exact ⟨(y0), aj.dimR (atk.pure (apQ N p0) hz) e1, hq⟩
noncomputable def an5 : au := tab (P := Try.prog) [] [] [] [aAA]
noncomputable def aw2 : IR := .ret
noncomputable def aw3 : IR := (.cond (.t 13) (.seq (.reg [Pp (.mov 4 (.c (.str ([] : Bs))))] []) aw2) .skip)
noncomputable def aw4 : IR := .ret
noncomputable def aw5 : IR := (.cond (.t 20) (.seq (.reg [Fa 21 0 2, Ld 22 1 false 21, Mv 23 1, Pp (.ixa 24 .atype (.t 22) (.t 23)), Fa 25 1 24, Pp (.ld 26 1 false false (.t 25)), Mv 4 26] []) aw4) .skip)
noncomputable def aw6 : IR := .ret
noncomputable def aw7 : IR := (.seq (.reg [Fa 27 0 2, Ld 28 1 false 27, Mv 29 1, Pp (.ixa 30 .atype (.t 28) (.t 29)), Fa 31 0 30, Pp (.ld 32 1 false false (.t 31)), Pp (.call (some 33) 158 [(.t 32)]), Mv 4 33] []) aw6)
noncomputable def aw8 : IR := (.seq (.seq (.reg [Fa 14 0 2, Ld 15 1 false 14, Mv 16 1, Pp (.ixa 17 .atype (.t 15) (.t 16)), Fa 18 1 17, Pp (.ld 19 1 false false (.t 18)), Pp (.bin 20 .neq (.t 19) (.c (.str ([] : Bs))))] []) aw5) aw7)
noncomputable def aw9 : IR := (.seq (.seq (.reg [Mv 5 1, Bc 6 .lss 5 0, Mv 7 6, Pg (7, false) (.mov 8 (.t 1)), Pg (7, false) (.fad 9 0 (.t 2)), Pg (7, false) (.lde 10 1 false (.t 9)), Pg (7, false) (.lenl 11 (.t 10)), Pg (7, false) (.bin 12 .geq (.t 8) (.t 11)), Po 13 7 12] []) aw3) aw8)
noncomputable def alZ : IR := (.seq (.reg [Pp (.boxe 2 (.t 0)), Pp (.mov 4 (.c (.str ([] : Bs))))] []) aw9)
noncomputable def al0 : List RV := [.t 4]
theorem aA3 : FnC Try.prog an5 [] 0 anU Try.f139 alZ al0 := fnC (by kernel_rfl) Try.func139 (by kernel_rfl) (by kernel_rfl) (by decide)
noncomputable def al1 (N : Nat) (p0_0 : List ac) (p1 : Int)  : Ro :=
 cond (decide (p1 < 0)) (
  some (.str ([] : Bs), [])) (
  let x1 : Int := (↑(List.length p0_0) : Int)
  cond (decide (x1 ≤ p1)) (
   some (.str ([] : Bs), [])) (
   chk ((decide (0 ≤ p1) && decide (p1 < ↑(List.length p0_0)))) (
    let x2 : Int := (List.getD p0_0 (Int.toNat p1) (af .atype)).kind
    let x3 : Bs := (List.getD p0_0 (Int.toNat p1) (af .atype)).name
    let x4 : Bss := (List.getD p0_0 (Int.toNat p1) (af .atype)).aliases
    let x5 : Int := (List.getD p0_0 (Int.toNat p1) (af .atype)).items
    let x6 : Bss := (List.getD p0_0 (Int.toNat p1) (af .atype)).syms
    let x7 : Bool := (List.getD p0_0 (Int.toNat p1) (af .atype)).hasdef
    let x8 : Bs := (List.getD p0_0 (Int.toNat p1) (af .atype)).df
    let x9 : Int := (List.getD p0_0 (Int.toNat p1) (af .atype)).size
    let x10 : List ao := (List.getD p0_0 (Int.toNat p1) (af .atype)).fields
    let x11 : List Int := (List.getD p0_0 (Int.toNat p1) (af .atype)).branches
    let x12 : Bool := (!decide (x3 = ([] : Bs)))
    cond x12 (
     chk ((decide (0 ≤ p1) && decide (p1 < ↑(List.length p0_0)))) (
      let x13 : Int := (List.getD p0_0 (Int.toNat p1) (af .atype)).kind
      let x14 : Bs := (List.getD p0_0 (Int.toNat p1) (af .atype)).name
      let x15 : Bss := (List.getD p0_0 (Int.toNat p1) (af .atype)).aliases
      let x16 : Int := (List.getD p0_0 (Int.toNat p1) (af .atype)).items
      let x17 : Bss := (List.getD p0_0 (Int.toNat p1) (af .atype)).syms
      let x18 : Bool := (List.getD p0_0 (Int.toNat p1) (af .atype)).hasdef
      let x19 : Bs := (List.getD p0_0 (Int.toNat p1) (af .atype)).df
      let x20 : Int := (List.getD p0_0 (Int.toNat p1) (af .atype)).size
      let x21 : List ao := (List.getD p0_0 (Int.toNat p1) (af .atype)).fields
      let x22 : List Int := (List.getD p0_0 (Int.toNat p1) (af .atype)).branches
      some (.str x14, []))) (
     chk ((decide (0 ≤ p1) && decide (p1 < ↑(List.length p0_0)))) (
      let x23 : Int := (List.getD p0_0 (Int.toNat p1) (af .atype)).kind
      let x24 : Bs := (List.getD p0_0 (Int.toNat p1) (af .atype)).name
      let x25 : Bss := (List.getD p0_0 (Int.toNat p1) (af .atype)).aliases
      let x26 : Int := (List.getD p0_0 (Int.toNat p1) (af .atype)).items
      let x27 : Bss := (List.getD p0_0 (Int.toNat p1) (af .atype)).syms
      let x28 : Bool := (List.getD p0_0 (Int.toNat p1) (af .atype)).hasdef
      let x29 : Bs := (List.getD p0_0 (Int.toNat p1) (af .atype)).df
      let x30 : Int := (List.getD p0_0 (Int.toNat p1) (af .atype)).size
      let x31 : List ao := (List.getD p0_0 (Int.toNat p1) (af .atype)).fields
      let x32 : List Int := (List.getD p0_0 (Int.toNat p1) (af .atype)).branches
      ai (qh x23) (fun (r1 : Bs) =>
       some (.str r1, [])))))))
noncomputable def zr (N : Nat) (p0_0 : List ac) (p1 : Int) : Ro := al1 N p0_0 p1
theorem azn (N : Nat) (p0_0 : List ac) (p1 : Int) : aE an5 N 34 al0 alZ [.agg [.sl .atype (.may false) p0_0], .int .i64 p1] [] = zr N p0_0 p1 := by kernel_rfl
theorem azo (N : Nat) (p0_0 : List ac) (p1 : Int) (h : Tot (zr N p0_0 p1) (fun z => ∃ (y0 : Bs) (rest : List an), z.1.dimR = .str y0 ∧ z.2 = rest)) : ∃ r, pj p0_0 p1 r := by
 obtain ⟨⟨v, hp⟩, hz, y0, rest, e1, e2⟩ := h
 simp only at e1 e2
 subst e2
 exact ⟨(y0), aj.dimR (aA3.pure (azn N p0_0 p1) hz) e1⟩
noncomputable def im : au := tab (P := Try.prog) [] [cd] [] [aBI, aAC]
noncomputable def adL : IR := (.cond (.t 15) .skip (.exit 0))
noncomputable def adM : IR := (.cond (.t 21) (.reg [Mv 22 1, Mv 7 22] []) .skip)
noncomputable def adN : IR := (.reg [Mv 16 8, Bc 17 .add 16 1, Mv 8 17] [])
noncomputable def adO : IR := (.seq (.block 1 (.seq (.reg [Mv 18 1, Mv 19 8, Pp (.idx 20 (.t 18) (.t 19)), Pp (.bin 21 .eql (.t 20) (.c (.int .u8 46)))] []) adM)) adN)
noncomputable def sd : IR := (.seq (.seq (.reg [Mv 12 8, Mv 13 1, Pp (.lens 14 (.t 13)), Bi 15 .lss 12 14] []) adL) adO)
noncomputable def adP : IR := (.block 0 (.loop [0, 1, 7, 8, 1000000] 1 sd))
noncomputable def adQ : IR := (.cond (.t 29) (.reg [Mv 30 0, Pp (.call (some 31) 110 [(.t 30), (.c (.int .i64 6))])] []) .skip)
noncomputable def adR : IR := .ret
noncomputable def adS : IR := (.seq (.reg [Mv 32 7, Mv 6 32] []) adR)
noncomputable def se : IR := (.seq (.seq (.reg [Mv 23 1, Pp (.bin 24 .eql (.t 23) (.c (.str ([] : Bs)))), Mv 25 24, Pg (25, false) (.mov 26 (.t 7)), Pg (25, false) (.call (some 27) 160 [(.t 26)]), Pg (25, false) (.un 28 .not (.t 27)), Po 29 25 28] []) adQ) adS)
noncomputable def aba : IR := (.seq (.seq (.reg [Pp (.mov 8 (.c (.int .i64 0)))] []) adP) se)
noncomputable def abb : IR := (.seq (.reg [Mv 9 2, Mv 10 1, Pp (.call (some 11) 159 [(.t 9), (.t 10)]), Mv 7 11] []) aba)
noncomputable def n8 : IR := (.seq (.reg [Pp (.mov 6 (.c (.str ([] : Bs))))] []) abb)
noncomputable def kq : List RV := [.t 6]
theorem ais : FnC Try.prog im [110, 2000110] 1 vc Try.f141 n8 kq := fnC (by kernel_rfl) Try.func141 (by kernel_rfl) (by kernel_rfl) (by decide)
noncomputable def agk (R : IR → (Ex → St → Ro) → St → Ro) (again0 : St → Ro) : Ex → St → Ro := (br again0 [0, 1, 7, 8, 1000000] 1 (aD 0 (bo (R se) (fin kq))))
abbrev fO : Type := (Bs × Bs × Int × List ac × Int)
noncomputable def ff (x : fO) : St := { env := (.ptr 0 0 :: .str x.1 :: (U 5 (.str x.2.1 :: .int .i64 x.2.2.1 :: (U 24 [])))), hp := [some [.ul .atype x.2.2.2.1, .int .i64 x.2.2.2.2]] }
noncomputable def ng (N : Nat) : (St → Ro) → St → Ro := fun again0 s => run im N sd (agk (run im N) again0) s
noncomputable def jz (N : Nat) (again0 : fO → Ro) (x : fO) : Ro :=
 let v1 : Bs := x.1
 let v7 : Bs := x.2.1
 let v8 : Int := x.2.2.1
 let o0_0 : List ac := x.2.2.2.1
 let o0_1 : Int := x.2.2.2.2
 let x1 : Int := (↑(List.length v1) : Int)
 cond (decide (v8 < x1)) (
  chk ((decide (0 ≤ v8) && decide (v8 < ↑(List.length v1)))) (
   let x2 : Int := (↑(UInt8.toNat (List.getD v1 (Int.toNat v8) 0)) : Int)
   cond (x2 == 46) (
    let x3 : Int := (IntKind.wrap .i64 (v8 + 1))
    again0 (v1, v1, x3, o0_0, o0_1)) (
    let x4 : Int := (IntKind.wrap .i64 (v8 + 1))
    again0 (v1, v7, x4, o0_0, o0_1)))) (
  let x5 : Bool := decide (v1 = ([] : Bs))
  cond x5 (
   ai (am o0_0 o0_1 6) (fun r2 =>
    some (.str v7, [some [.ul .atype r2.2.1, .int .i64 r2.2.2]]))) (
   ai (qi v7) (fun (r3 : Bool) =>
    cond (!r3) (
     ai (am o0_0 o0_1 6) (fun r4 =>
      some (.str v7, [some [.ul .atype r4.2.1, .int .i64 r4.2.2]]))) (
     some (.str v7, [some [.ul .atype o0_0, .int .i64 o0_1]])))))
theorem adT (N : Nat) : ∀ (again0 : St → Ro) (x : fO), ng N again0 (ff x) = jz N (fun y => again0 (ff y)) x := by
 intro again0 x
 kernel_rfl
noncomputable def gn (N : Nat) (o0_0 : List ac) (o0_1 : Int) (p1 : Bs) (p2 : Bs) (q0 : fO → Ro) : Ro :=
 ai (rX p2 p1) (fun (r1 : Bs) =>
  q0 (p1, r1, 0, o0_0, o0_1))
noncomputable def n9 (N : Nat) (o0_0 : List ac) (o0_1 : Int) (p1 : Bs) (p2 : Bs) : Ro := gn N o0_0 o0_1 p1 p2 (fun z => aB N (jz N) z)
noncomputable def ake (N : Nat) : List (Nat × (St → Ro)) := aI im N n8 (fin kq) ++ []
theorem agl (N : Nat) (o0_0 : List ac) (o0_1 : Int) (p1 : Bs) (p2 : Bs) : aE im N 33 kq n8 [.ptr 0 0, .str p1, .str p2] [some [.ul .atype o0_0, .int .i64 o0_1]] = n9 N o0_0 o0_1 p1 p2 :=
 (bx (ake N) (by kernel_rfl) rfl (fun C => gn N o0_0 o0_1 p1 p2 (fun z => C 1000000 (ff z))) (fun C => by kernel_rfl)).trans (Eq.trans (b := gn N o0_0 o0_1 p1 p2 (fun z => aW N (ng N) (ff z))) (by kernel_rfl) (congrArg (gn N o0_0 o0_1 p1 p2) (funext fun z => aT (ff) (ng N) (jz N) (adT N) N z)))
theorem agm (N : Nat) (o0_0 : List ac) (o0_1 : Int) (p1 : Bs) (p2 : Bs) (h : Tot (n9 N o0_0 o0_1 p1 p2) (fun z => ∃ (y0 : Bs) (y1 : List ac) (y2 : Int) (rest : List an), z.1.dimR = .str y0 ∧ z.2 = some [.ul .atype y1, .int .i64 y2] :: rest ∧ rU o0_0 o0_1 p1 p2 (y0, y1, y2))) : ∃ r, eY o0_0 o0_1 p1 p2 r := by
 obtain ⟨⟨v, hp⟩, hz, y0, y1, y2, rest, e1, e2, hq⟩ := h
 simp only at e1 e2
 subst e2
 exact ⟨(y0, y1, y2), aP.dimR (FnC.objs (css := [[.ul .atype o0_0, .int .i64 o0_1]]) (css' := [[.ul .atype y1, .int .i64 y2]]) ais (agl N o0_0 o0_1 p1 p2) hz rfl) e1, hq⟩
noncomputable def wL : au := tab (P := Try.prog) [] [cd] [] [nW]
noncomputable def agn : IR := .ret
noncomputable def ago : IR := (.cond (.t 22) (.seq (.reg [Pp (.mov 8 (.c (.str ([] : Bs))))] []) agn) .skip)
noncomputable def agp : IR := .ret
noncomputable def agq : IR := (.seq (.reg [Pp (.mov 8 (.c (.str ([] : Bs))))] []) agp)
noncomputable def agr : IR := (.cond (.t 29) (.seq (.reg [Mv 30 0, Pp (.call (some 31) 110 [(.t 30), (.c (.int .i64 2))])] []) agq) .skip)
noncomputable def ags : IR := .ret
noncomputable def agt : IR := (.seq (.reg [Fa 32 2 9, Ld 33 1 false 32, Mv 8 33] []) ags)
noncomputable def agu : IR := (.seq (.seq (.reg [Mv 23 10, Pp (.un 24 .not (.t 23)), Mv 25 24, Pg (25, false) (.fad 26 0 (.t 9)), Pg (25, false) (.lde 27 1 false (.t 26)), Pg (25, false) (.bin 28 .neq (.t 27) (.c (.int .i64 4))), Po 29 25 28] []) agr) agt)
noncomputable def agv : IR := (.seq (.seq (.reg [Mv 17 10, Pp (.un 18 .not (.t 17)), Mv 19 18, Pg (19, true) (.mov 20 (.t 3)), Pg (19, true) (.un 21 .not (.t 20)), Pa 22 19 21] []) ago) agu)
noncomputable def agw : IR := (.seq (.reg [Ld 12 5 true 5, Mv 13 2, Pp (.call (some 14) 113 [(.t 12), (.t 13)]), Mv 11 14, Ex_ 15 0 11, Ex_ 16 1 11, Pp (.alr 9 5), Pp (.frz none 9 5 (.t 15)), Mv 10 16] []) agv)
noncomputable def vi : IR := (.seq (.reg [Pp (.boxe 5 (.t 1)), Pp (.mov 8 (.c (.str ([] : Bs))))] []) agw)
noncomputable def vj : List RV := [.t 8]
theorem akf : FnC Try.prog wL [110, 2000110] 1 wB Try.f140 vi vj := fnC (by kernel_rfl) Try.func140 (by kernel_rfl) (by kernel_rfl) (by decide)
noncomputable def vk (N : Nat) (o0_0 : List ac) (o0_1 : Int) (p1_0 : Int) (p1_1 : Int) (p1_2 : Bs) (p1_3 : List ae) (p1_4 : Bss) (p2 : Bs) (p3 : Bool)  : Ro :=
 ai (co p1_0 p1_1 p1_2 p1_3 p1_4 p2) (fun r1 =>
  cond (!r1.2.2.2.2.2) (
   cond (!p3) (
    some (.str ([] : Bs), [some [.ul .atype o0_0, .int .i64 o0_1]])) (
    cond (!r1.2.2.2.2.2) (
     ai (am o0_0 o0_1 2) (fun r2 =>
      some (.str ([] : Bs), [some [.ul .atype r2.2.1, .int .i64 r2.2.2]]))) (
     cond (!(r1.1 == 4)) (
      ai (am o0_0 o0_1 2) (fun r3 =>
       some (.str ([] : Bs), [some [.ul .atype r3.2.1, .int .i64 r3.2.2]]))) (
      some (.str r1.2.2.1, [some [.ul .atype o0_0, .int .i64 o0_1]]))))) (
   cond (!r1.2.2.2.2.2) (
    ai (am o0_0 o0_1 2) (fun r4 =>
     some (.str ([] : Bs), [some [.ul .atype r4.2.1, .int .i64 r4.2.2]]))) (
    cond (!(r1.1 == 4)) (
     ai (am o0_0 o0_1 2) (fun r5 =>
      some (.str ([] : Bs), [some [.ul .atype r5.2.1, .int .i64 r5.2.2]]))) (
     some (.str r1.2.2.1, [some [.ul .atype o0_0, .int .i64 o0_1]])))))
noncomputable def po (N : Nat) (o0_0 : List ac) (o0_1 : Int) (p1_0 : Int) (p1_1 : Int) (p1_2 : Bs) (p1_3 : List ae) (p1_4 : Bss) (p2 : Bs) (p3 : Bool) : Ro := vk N o0_0 o0_1 p1_0 p1_1 p1_2 p1_3 p1_4 p2 p3
theorem ait (N : Nat) (o0_0 : List ac) (o0_1 : Int) (p1_0 : Int) (p1_1 : Int) (p1_2 : Bs) (p1_3 : List ae) (p1_4 : Bss) (p2 : Bs) (p3 : Bool) : aE wL N 34 vj vi [.ptr 0 0, .agg [.int .i64 p1_0, .int .i64 p1_1, .str p1_2, .sl .jnode (.may false) p1_3, .sl .str (.may false) p1_4], .str p2, .bool p3] [some [.ul .atype o0_0, .int .i64 o0_1]] = po N o0_0 o0_1 p1_0 p1_1 p1_2 p1_3 p1_4 p2 p3 := by kernel_rfl
theorem aiu (N : Nat) (o0_0 : List ac) (o0_1 : Int) (p1_0 : Int) (p1_1 : Int) (p1_2 : Bs) (p1_3 : List ae) (p1_4 : Bss) (p2 : Bs) (p3 : Bool) (h : Tot (po N o0_0 o0_1 p1_0 p1_1 p1_2 p1_3 p1_4 p2 p3) (fun z => ∃ (y0 : Bs) (y1 : List ac) (y2 : Int) (rest : List an), z.1.dimR = .str y0 ∧ z.2 = some [.ul .atype y1, .int .i64 y2] :: rest ∧ tx o0_0 o0_1 p1_0 p1_1 p1_2 p1_3 p1_4 p2 p3 (y0, y1, y2))) : ∃ r, cZ o0_0 o0_1 p1_0 p1_1 p1_2 p1_3 p1_4 p2 p3 r := by
 obtain ⟨⟨v, hp⟩, hz, y0, y1, y2, rest, e1, e2, hq⟩ := h
 simp only at e1 e2
 subst e2
 exact ⟨(y0, y1, y2), aP.dimR (FnC.objs (css := [[.ul .atype o0_0, .int .i64 o0_1]]) (css' := [[.ul .atype y1, .int .i64 y2]]) akf (ait N o0_0 o0_1 p1_0 p1_1 p1_2 p1_3 p1_4 p2 p3) hz rfl) e1, hq⟩
noncomputable def io : au := tab (P := Try.prog) [] [cd] [] [nW]
noncomputable def adU : IR := .ret
noncomputable def adV : IR := (.cond (.t 19) (.seq (.reg [Pp (.mov 6 (.c (.sl .str .own ([] : Bss)))), Pp (.mov 7 (.c (.bool false)))] []) adU) .skip)
noncomputable def adW : IR := (.cond (.t 22) (.reg [Mv 23 0, Pp (.call (some 24) 110 [(.t 23), (.c (.int .i64 2))])] []) .skip)
noncomputable def adX : IR := (.cond (.t 36) .skip (.exit 0))
noncomputable def adY : IR := (.cond (.t 45) (.reg [Mv 46 0, Pp (.call (some 47) 110 [(.t 46), (.c (.int .i64 2))])] []) .skip)
noncomputable def adZ : IR := (.reg [Pp (.mov 48 (.tk 10)), Fa 49 3 8, Ld 50 1 false 49, Mv 51 11, Pp (.ixa 52 .jnode (.t 50) (.t 51)), Fa 53 2 52, Pp (.ld 54 1 false false (.t 53)), Pp (.bsl 55 .str [(.t 54)] true), Pp (.app 56 .str (.tk 48) (.t 55)), Pp (.mov 10 (.tk 56))] [])
noncomputable def ad0 : IR := (.reg [Mv 37 11, Bc 38 .add 37 1, Mv 11 38] [])
noncomputable def ad1 : IR := (.seq (.block 1 (.seq (.seq (.reg [Fa 39 3 8, Ld 40 1 false 39, Mv 41 11, Pp (.ixa 42 .jnode (.t 40) (.t 41)), Fa 43 0 42, Pp (.ld 44 1 false false (.t 43)), Bc 45 .neq 44 4] []) adY) adZ)) ad0)
noncomputable def sf : IR := (.seq (.seq (.reg [Mv 25 11, Fa 26 3 8, Ld 27 1 false 26, Pp (.lenl 28 (.t 27)), Bi 29 .lss 25 28, Mv 30 29, Pg (30, true) (.mov 31 (.t 0)), Pg (30, true) (.nck (some 32) (.t 31)), Pg (30, true) (.fad 33 1 (.t 32)), Pg (30, true) (.ld 34 1 false false (.t 33)), Pg (30, true) (.bin 35 .eql (.t 34) (.c (.int .i64 0))), Pa 36 30 35] []) adX) ad1)
noncomputable def ad2 : IR := (.block 0 (.loop [0, 8, 10, 11, 1000000] 1 sf))
noncomputable def abc : IR := .ret
noncomputable def rz : IR := (.seq (.reg [Mv 57 10, Mv 6 57, Pp (.mov 7 (.c (.bool true)))] []) abc)
noncomputable def abd : IR := (.seq (.seq (.reg [Pp (.mov 11 (.c (.int .i64 0)))] []) ad2) rz)
noncomputable def abe : IR := (.seq (.reg [Pp (.mov 10 (.c (.sl .str .own ([] : Bss))))] []) abd)
noncomputable def abf : IR := (.seq (.seq (.reg [Fa 20 0 8, Ld 21 1 false 20, Bc 22 .neq 21 5] []) adW) abe)
noncomputable def abg : IR := (.seq (.seq (.reg [Mv 18 9, Pp (.un 19 .not (.t 18))] []) adV) abf)
noncomputable def abh : IR := (.seq (.reg [Ld 13 5 true 4, Mv 14 2, Pp (.call (some 15) 113 [(.t 13), (.t 14)]), Mv 12 15, Ex_ 16 0 12, Ex_ 17 1 12, Pp (.alr 8 5), Pp (.frz none 8 5 (.t 16)), Mv 9 17] []) abg)
noncomputable def oa : IR := (.seq (.reg [Pp (.boxe 4 (.t 1)), Pp (.mov 6 (.c (.sl .str .own ([] : Bss)))), Pp (.mov 7 (.c (.bool false)))] []) abh)
noncomputable def kr : List RV := [.t 6, .t 7]
theorem aiv : FnC Try.prog io [110, 2000110] 1 va Try.f143 oa kr := fnC (by kernel_rfl) Try.func143 (by kernel_rfl) (by kernel_rfl) (by decide)
noncomputable def agx (R : IR → (Ex → St → Ro) → St → Ro) (again0 : St → Ro) : Ex → St → Ro := (br again0 [0, 8, 10, 11, 1000000] 1 (aD 0 (bo (R rz) (fin kr))))
abbrev fP : Type := (Int × Int × Bs × List ae × Bss × Bss × Int × List ac × Int)
noncomputable def fg (x : fP) : St := { env := (.ptr 0 0 :: (U 7 (.ea [.int .i64 x.1, .int .i64 x.2.1, .str x.2.2.1, .sl .jnode (.may false) x.2.2.2.1, .sl .str (.may false) x.2.2.2.2.1] :: .undef :: .sl .str .own x.2.2.2.2.2.1 :: .int .i64 x.2.2.2.2.2.2.1 :: (U 46 [])))), hp := [some [.ul .atype x.2.2.2.2.2.2.2.1, .int .i64 x.2.2.2.2.2.2.2.2]] }
noncomputable def nh (N : Nat) : (St → Ro) → St → Ro := fun again0 s => run io N sf (agx (run io N) again0) s
noncomputable def fQ (N : Nat) (again0 : fP → Ro) (x : fP) : Ro :=
 let v8_0 : Int := x.1
 let v8_1 : Int := x.2.1
 let v8_2 : Bs := x.2.2.1
 let v8_3 : List ae := x.2.2.2.1
 let v8_4 : Bss := x.2.2.2.2.1
 let v10 : Bss := x.2.2.2.2.2.1
 let v11 : Int := x.2.2.2.2.2.2.1
 let o0_0 : List ac := x.2.2.2.2.2.2.2.1
 let o0_1 : Int := x.2.2.2.2.2.2.2.2
 let x1 : Int := (↑(List.length v8_3) : Int)
 cond (decide (v11 < x1)) (
  cond (o0_1 == 0) (
   chk ((decide (0 ≤ v11) && decide (v11 < ↑(List.length v8_3)))) (
    let x2 : Int := (List.getD v8_3 (Int.toNat v11) (af .jnode)).kind
    let x3 : Int := (List.getD v8_3 (Int.toNat v11) (af .jnode)).n
    let x4 : Bs := (List.getD v8_3 (Int.toNat v11) (af .jnode)).s
    let x5 : List ae := (List.getD v8_3 (Int.toNat v11) (af .jnode)).l
    let x6 : Bss := (List.getD v8_3 (Int.toNat v11) (af .jnode)).names
    cond (!(x2 == 4)) (
     ai (am o0_0 o0_1 2) (fun r3 =>
      chk ((decide (0 ≤ v11) && decide (v11 < ↑(List.length v8_3)))) (
       let x7 : Int := (List.getD v8_3 (Int.toNat v11) (af .jnode)).kind
       let x8 : Int := (List.getD v8_3 (Int.toNat v11) (af .jnode)).n
       let x9 : Bs := (List.getD v8_3 (Int.toNat v11) (af .jnode)).s
       let x10 : List ae := (List.getD v8_3 (Int.toNat v11) (af .jnode)).l
       let x11 : Bss := (List.getD v8_3 (Int.toNat v11) (af .jnode)).names
       chk (decide ((List.length v10 + List.length ([x9] : Bss)) * 16 ≤ 140737488355328)) (
        let x12 : Bss := (v10 ++ ([x9] : Bss))
        let x13 : Int := (IntKind.wrap .i64 (v11 + 1))
        again0 (v8_0, v8_1, v8_2, v8_3, v8_4, x12, x13, r3.2.1, r3.2.2))))) (
     chk ((decide (0 ≤ v11) && decide (v11 < ↑(List.length v8_3)))) (
      let x14 : Int := (List.getD v8_3 (Int.toNat v11) (af .jnode)).kind
      let x15 : Int := (List.getD v8_3 (Int.toNat v11) (af .jnode)).n
      let x16 : Bs := (List.getD v8_3 (Int.toNat v11) (af .jnode)).s
      let x17 : List ae := (List.getD v8_3 (Int.toNat v11) (af .jnode)).l
      let x18 : Bss := (List.getD v8_3 (Int.toNat v11) (af .jnode)).names
      chk (decide ((List.length v10 + List.length ([x16] : Bss)) * 16 ≤ 140737488355328)) (
       let x19 : Bss := (v10 ++ ([x16] : Bss))
       let x20 : Int := (IntKind.wrap .i64 (v11 + 1))
       again0 (v8_0, v8_1, v8_2, v8_3, v8_4, x19, x20, o0_0, o0_1)))))) (
   some (.tup [.sl .str (.may false) v10, .bool true], [some [.ul .atype o0_0, .int .i64 o0_1]]))) (
  some (.tup [.sl .str (.may false) v10, .bool true], [some [.ul .atype o0_0, .int .i64 o0_1]]))
theorem ad3 (N : Nat) : ∀ (again0 : St → Ro) (x : fP), nh N again0 (fg x) = fQ N (fun y => again0 (fg y)) x := by
 intro again0 x
 kernel_rfl
noncomputable def gp (N : Nat) (o0_0 : List ac) (o0_1 : Int) (p1_0 : Int) (p1_1 : Int) (p1_2 : Bs) (p1_3 : List ae) (p1_4 : Bss) (p2 : Bs) (q0 : fP → Ro) : Ro :=
 ai (co p1_0 p1_1 p1_2 p1_3 p1_4 p2) (fun r1 =>
  cond (!r1.2.2.2.2.2) (
   some (.tup [.sl .str (.may false) ([] : Bss), .bool false], [some [.ul .atype o0_0, .int .i64 o0_1]])) (
   cond (!(r1.1 == 5)) (
    ai (am o0_0 o0_1 2) (fun r2 =>
     q0 (r1.1, r1.2.1, r1.2.2.1, r1.2.2.2.1, r1.2.2.2.2.1, ([] : Bss), 0, r2.2.1, r2.2.2))) (
    q0 (r1.1, r1.2.1, r1.2.2.1, r1.2.2.2.1, r1.2.2.2.2.1, ([] : Bss), 0, o0_0, o0_1))))
noncomputable def od (N : Nat) (o0_0 : List ac) (o0_1 : Int) (p1_0 : Int) (p1_1 : Int) (p1_2 : Bs) (p1_3 : List ae) (p1_4 : Bss) (p2 : Bs) : Ro := gp N o0_0 o0_1 p1_0 p1_1 p1_2 p1_3 p1_4 p2 (fun z => aB N (fQ N) z)
noncomputable def akg (N : Nat) : List (Nat × (St → Ro)) := aI io N oa (fin kr) ++ []
theorem agy (N : Nat) (o0_0 : List ac) (o0_1 : Int) (p1_0 : Int) (p1_1 : Int) (p1_2 : Bs) (p1_3 : List ae) (p1_4 : Bss) (p2 : Bs) : aE io N 58 kr oa [.ptr 0 0, .agg [.int .i64 p1_0, .int .i64 p1_1, .str p1_2, .sl .jnode (.may false) p1_3, .sl .str (.may false) p1_4], .str p2] [some [.ul .atype o0_0, .int .i64 o0_1]] = od N o0_0 o0_1 p1_0 p1_1 p1_2 p1_3 p1_4 p2 :=
 (bx (akg N) (by kernel_rfl) rfl (fun C => gp N o0_0 o0_1 p1_0 p1_1 p1_2 p1_3 p1_4 p2 (fun z => C 1000000 (fg z))) (fun C => by kernel_rfl)).trans (Eq.trans (b := gp N o0_0 o0_1 p1_0 p1_1 p1_2 p1_3 p1_4 p2 (fun z => aW N (nh N) (fg z))) (by kernel_rfl) (congrArg (gp N o0_0 o0_1 p1_0 p1_1 p1_2 p1_3 p1_4 p2) (funext fun z => aT (fg) (nh N) (fQ N) (ad3 N) N z)))
theorem agz (N : Nat) (o0_0 : List ac) (o0_1 : Int) (p1_0 : Int) (p1_1 : Int) (p1_2 : Bs) (p1_3 : List ae) (p1_4 : Bss) (p2 : Bs) (h : Tot (od N o0_0 o0_1 p1_0 p1_1 p1_2 p1_3 p1_4 p2) (fun z => ∃ (y0 : Bss) (y1 : Bool) (y2 : List ac) (y3 : Int) (rest : List an), z.1.dimR = .tup [.sl .str (.may false) y0, .bool y1] ∧ z.2 = some [.ul .atype y2, .int .i64 y3] :: rest ∧ mh o0_0 o0_1 p1_0 p1_1 p1_2 p1_3 p1_4 p2 (y0, y1, y2, y3))) : ∃ r, cp o0_0 o0_1 p1_0 p1_1 p1_2 p1_3 p1_4 p2 r := by
 obtain ⟨⟨v, hp⟩, hz, y0, y1, y2, y3, rest, e1, e2, hq⟩ := h
 simp only at e1 e2
 subst e2
 exact ⟨(y0, y1, y2, y3), aP.dimR (FnC.objs (css := [[.ul .atype o0_0, .int .i64 o0_1]]) (css' := [[.ul .atype y2, .int .i64 y3]]) aiv (agy N o0_0 o0_1 p1_0 p1_1 p1_2 p1_3 p1_4 p2) hz rfl) e1, hq⟩
noncomputable def bb : au := tab (P := Try.prog) [] [cd, qg, pk] [] [nW, adB]
noncomputable def zt : IR := (.cond (.t 22) (.reg [Mv 23 0, Pp (.call (some 24) 110 [(.t 23), (.c (.int .i64 2))])] []) .skip)
noncomputable def zu : IR := (.cond (.t 27) (.reg [Mv 28 0, Pp (.call (some 29) 110 [(.t 28), (.c (.int .i64 6))])] []) .skip)
noncomputable def zv : IR := (.cond (.t 32) (.reg [Mv 33 0, Pp (.call (some 34) 110 [(.t 33), (.c (.int .i64 3))])] []) .skip)
noncomputable def zw : IR := (.cond (.t 45) .skip (.exit 0))
noncomputable def zx : IR := (.cond (.t 53) (.reg [Mv 54 0, Pp (.call (some 55) 110 [(.t 54), (.c (.int .i64 6))])] []) .skip)
noncomputable def zy : IR := (.cond (.t 58) .skip (.exit 2))
noncomputable def zz : IR := (.cond (.t 69) (.reg [Mv 70 0, Pp (.call (some 71) 110 [(.t 70), (.c (.int .i64 5))])] []) .skip)
noncomputable def zA : IR := (.reg [Mv 59 9, Bc 60 .add 59 1, Mv 9 60] [])
noncomputable def zB : IR := (.seq (.block 3 (.seq (.reg [Mv 61 6, Mv 62 9, Pp (.ixa 63 .str (.t 61) (.t 62)), Ld 64 1 false 63, Mv 65 6, Mv 66 8, Pp (.ixa 67 .str (.t 65) (.t 66)), Ld 68 1 false 67, Bi 69 .eql 64 68] [[], [], [0, 1], [0, 1, 2], [], [], [4, 5], [4, 5, 6], [0, 1, 2, 3, 4, 5, 6, 7]]) zz)) zA)
noncomputable def qw : IR := (.seq (.seq (.reg [Mv 56 9, Mv 57 8, Bi 58 .lss 56 57] []) zy) zB)
noncomputable def yc : IR := (.block 2 (.loop [0, 2, 4, 6, 8, 9, 1000000] 1 qw))
noncomputable def yd : IR := (.seq (.reg [Pp (.mov 9 (.c (.int .i64 0)))] []) yc)
noncomputable def pG : IR := (.reg [Mv 46 8, Bc 47 .add 46 1, Mv 8 47] [])
noncomputable def ye : IR := (.seq (.block 1 (.seq (.seq (.reg [Mv 48 6, Mv 49 8, Pp (.ixa 50 .str (.t 48) (.t 49)), Ld 51 1 false 50, Pp (.call (some 52) 161 [(.t 51)]), Pp (.un 53 .not (.t 52))] []) zx) yd)) pG)
noncomputable def ga : IR := (.seq (.seq (.reg [Mv 35 8, Mv 36 6, Pp (.lenl 37 (.t 36)), Bi 38 .lss 35 37, Mv 39 38, Pg (39, true) (.mov 40 (.t 0)), Pg (39, true) (.nck (some 41) (.t 40)), Pg (39, true) (.fad 42 1 (.t 41)), Pg (39, true) (.ld 43 1 false false (.t 42)), Pg (39, true) (.bin 44 .eql (.t 43) (.c (.int .i64 0))), Pa 45 39 44] []) zw) ye)
noncomputable def yf : IR := (.block 0 (.loop [0, 2, 4, 6, 8, 1000001] 1 ga))
noncomputable def yg : IR := (.cond (.t 83) .skip (.exit 4))
noncomputable def yh : IR := (.reg [Mv 84 14, Bc 85 .add 84 1, Mv 14 85] [])
noncomputable def yi : IR := (.seq (.block 5 (.reg [Mv 86 13, Mv 87 86, Pg (87, false) (.mov 88 (.t 6)), Pg (87, false) (.mov 89 (.t 14)), Pg (87, false) (.ixa 90 .str (.t 88) (.t 89)), Pg (87, false) (.lde 91 1 false (.t 90)), Pg (87, false) (.mov 92 (.t 12)), Pg (87, false) (.bin 93 .eql (.t 91) (.t 92)), Po 94 87 93, Mv 13 94] [])) yh)
noncomputable def pH : IR := (.seq (.seq (.reg [Mv 80 14, Mv 81 6, Pp (.lenl 82 (.t 81)), Bi 83 .lss 80 82] []) yg) yi)
noncomputable def yj : IR := (.block 4 (.loop [0, 2, 6, 11, 12, 13, 14, 1000002] 1 pH))
noncomputable def yk : IR := (.cond (.t 99) (.reg [Mv 100 0, Pp (.call (some 101) 110 [(.t 100), (.c (.int .i64 6))])] []) .skip)
noncomputable def yl : IR := (.cond (.t 106) (.gh (.opn (.cell 0 0)) (.ghp (.cls (.cell 0 0)) (.reg [Mv 107 0, Nk 108 107, Fa 109 0 108, Fa 110 0 109, ⟨none, .ld 111 1 false false (.t 110), some ([0], [])⟩, Mv 112 2, Mv 113 0, Nk 114 113, Fa 115 0 114, Fa 116 0 115, ⟨none, .ld 117 1 false false (.t 116), some ([0], [])⟩, Mv 118 2, Mv 119 0, Nk 120 119, Fa 121 0 120, Fa 122 0 121, ⟨none, .ld 123 1 false false (.t 122), some ([0], [])⟩, Mv 124 2, Mv 125 6, Mv 126 11, Mv 127 12, Pp (.ixw 128 .atype (.t 111) (.t 112)), Pp (.fdw 129 4 (.t 128)), ⟨none, .stw none 1 (.t 129) (.t 125), some ([], [1])⟩, Pp (.ixw 130 .atype (.t 117) (.t 118)), Pp (.fdw 131 5 (.t 130)), ⟨none, .stw none 1 (.t 131) (.t 126), some ([], [1])⟩, Pp (.ixw 132 .atype (.t 123) (.t 124)), Pp (.fdw 133 6 (.t 132)), ⟨none, .stw none 1 (.t 133) (.t 127), some ([], [1])⟩] [[], [0], [0, 1], [0, 1, 2], [0, 1, 2, 3], [], [], [6], [6, 7], [6, 7, 8], [6, 7, 8, 9], [], [], [12], [12, 13], [12, 13, 14], [12, 13, 14, 15], [], [], [], [], [0, 1, 2, 3, 4, 5, 6, 7, 8, 9, 10, 12, 13, 14, 15, 16, 18], [0, 1, 2, 3, 4, 5, 6, 7, 8, 9, 10, 12, 13, 14, 15, 16, 18, 21], [0, 1, 2, 3, 4, 5, 6, 7, 8, 9, 10, 12, 13, 14, 15, 16, 18, 21, 22], [0, 1, 2, 3, 4, 5, 6, 7, 8, 9, 10, 11, 12, 13, 14, 15, 16, 18, 19, 21, 22, 23], [0, 1, 2, 3, 4, 5, 6, 7, 8, 9, 10, 11, 12, 13, 14, 15, 16, 18, 19, 21, 22, 23, 24], [0, 1, 2, 3, 4, 5, 6, 7, 8, 9, 10, 11, 12, 13, 14, 15, 16, 18, 19, 21, 22, 23, 24, 25], [0, 1, 2, 3, 4, 5, 6, 7, 8, 9, 10, 11, 12, 13, 14, 15, 16, 17, 18, 19, 20, 21, 22, 23, 24, 25, 26], [0, 1, 2, 3, 4, 5, 6, 7, 8, 9, 10, 11, 12, 13, 14, 15, 16, 17, 18, 19, 20, 21, 22, 23, 24, 25, 26, 27], [0, 1, 2, 3, 4, 5, 6, 7, 8, 9, 10, 11, 12, 13, 14, 15, 16, 17, 18, 19, 20, 21, 22, 23, 24, 25, 26, 27, 28]]))) .skip)
noncomputable def ym : IR := (.seq (.reg [Mv 102 0, Nk 103 102, Fa 104 1 103, Pp (.ld 105 1 false false (.t 104)), Bc 106 .eql 105 0] []) yl)
noncomputable def pI : IR := (.seq (.seq (.reg [Mv 95 11, Mv 96 95, Pg (96, true) (.mov 97 (.t 13)), Pg (96, true) (.un 98 .not (.t 97)), Pa 99 96 98] []) yk) ym)
noncomputable def yn : IR := (.seq (.seq (.reg [Pp (.mov 14 (.c (.int .i64 0)))] []) yj) pI)
noncomputable def yo : IR := (.seq (.reg [Pp (.mov 13 (.c (.bool false)))] []) yn)
noncomputable def yp : IR := (.seq (.reg [Mv 77 0, Ld 78 5 true 4, Pp (.call (some 79) 140 [(.t 77), (.t 78), (.c (.str ([100, 101, 102, 97, 117, 108, 116] : Bs))), (.c (.bool false))]), Mv 12 79] []) yo)
noncomputable def kt : IR := (.seq (.reg [Ld 73 5 true 4, Pp (.call (some 74) 113 [(.t 73), (.c (.str ([100, 101, 102, 97, 117, 108, 116] : Bs)))]), Mv 72 74, Ex_ 75 0 72, Ex_ 76 1 72, Pp (.alr 10 5), Pp (.frz none 10 5 (.t 75)), Mv 11 76] []) yp)
noncomputable def yq : IR := (.seq (.seq (.reg [Pp (.mov 8 (.c (.int .i64 0)))] []) yf) kt)
noncomputable def yr : IR := (.seq (.seq (.reg [Mv 30 6, Pp (.lenl 31 (.t 30)), Bc 32 .gtr 31 30] []) zv) yq)
noncomputable def yt : IR := (.seq (.seq (.reg [Mv 25 6, Pp (.lenl 26 (.t 25)), Bc 27 .eql 26 0] []) zu) yr)
noncomputable def yu : IR := (.seq (.seq (.reg [Mv 21 7, Pp (.un 22 .not (.t 21))] []) zt) yt)
noncomputable def yv : IR := (.seq (.reg [Mv 16 0, Ld 17 5 true 4, Pp (.call (some 18) 143 [(.t 16), (.t 17), (.c (.str ([115, 121, 109, 98, 111, 108, 115] : Bs)))]), Mv 15 18, Ex_ 19 0 15, Ex_ 20 1 15, Mv 6 19, Mv 7 20] []) yu)
noncomputable def mi : IR := (.seq (.reg [Pp (.boxe 4 (.t 1))] []) yv)
noncomputable def dC : List RV := []
theorem ad4 : FnC Try.prog bb [110, 140, 143, 2000110, 2000140, 2000143] 1 tz Try.f145 mi dC := fnC (by kernel_rfl) Try.func145 (by kernel_rfl) (by kernel_rfl) (by decide)
noncomputable def gX (R : IR → (Ex → St → Ro) → St → Ro) (again0 : St → Ro) : Ex → St → Ro := (br again0 [0, 2, 4, 6, 8, 1000001] 1 (aD 0 (bo (R kt) (fin dC))))
abbrev bZ : Type := (Int × Int × Int × Bs × List ae × Bss × Bss × Int × List ac × Int)
noncomputable def bd (x : bZ) : St := { env := (.ptr 0 0 :: .undef :: .int .i64 x.1 :: .undef :: .ea [.int .i64 x.2.1, .int .i64 x.2.2.1, .str x.2.2.2.1, .sl .jnode (.may false) x.2.2.2.2.1, .sl .str (.may false) x.2.2.2.2.2.1] :: .undef :: .sl .str (.may false) x.2.2.2.2.2.2.1 :: .undef :: .int .i64 x.2.2.2.2.2.2.2.1 :: (U 125 [])), hp := [some [.ul .atype x.2.2.2.2.2.2.2.2.1, .int .i64 x.2.2.2.2.2.2.2.2.2]] }
noncomputable def abi (R : IR → (Ex → St → Ro) → St → Ro) (again0 : St → Ro) (again1 : St → Ro) : Ex → St → Ro := (br again1 [0, 2, 4, 6, 8, 9, 1000000] 1 (aD 2 (aD 1 (bo (R pG) (gX R again0)))))
abbrev eo : Type := (Int × Int × Int × Bs × List ae × Bss × Bss × Int × Int × List ac × Int)
noncomputable def cU (x : eo) : St := { env := (.ptr 0 0 :: .undef :: .int .i64 x.1 :: .undef :: .ea [.int .i64 x.2.1, .int .i64 x.2.2.1, .str x.2.2.2.1, .sl .jnode (.may false) x.2.2.2.2.1, .sl .str (.may false) x.2.2.2.2.2.1] :: .undef :: .sl .str (.may false) x.2.2.2.2.2.2.1 :: .undef :: .int .i64 x.2.2.2.2.2.2.2.1 :: .int .i64 x.2.2.2.2.2.2.2.2.1 :: (U 124 [])), hp := [some [.ul .atype x.2.2.2.2.2.2.2.2.2.1, .int .i64 x.2.2.2.2.2.2.2.2.2.2]] }
noncomputable def gY (N : Nat) (again0 : St → Ro) : (St → Ro) → St → Ro := fun again1 s => run bb N qw (abi (run bb N) again0 again1) s
noncomputable def db (N : Nat) (again0 : bZ → Ro) (again1 : eo → Ro) (x : eo) : Ro :=
 let v2 : Int := x.1
 let v4_0 : Int := x.2.1
 let v4_1 : Int := x.2.2.1
 let v4_2 : Bs := x.2.2.2.1
 let v4_3 : List ae := x.2.2.2.2.1
 let v4_4 : Bss := x.2.2.2.2.2.1
 let v6 : Bss := x.2.2.2.2.2.2.1
 let v8 : Int := x.2.2.2.2.2.2.2.1
 let v9 : Int := x.2.2.2.2.2.2.2.2.1
 let o0_0 : List ac := x.2.2.2.2.2.2.2.2.2.1
 let o0_1 : Int := x.2.2.2.2.2.2.2.2.2.2
 cond (decide (v9 < v8)) (
  chk ((decide (0 ≤ v9) && decide (v9 < ↑(List.length v6)))) (
   let x5 : Bs := List.getD v6 (Int.toNat v9) (af .str)
   chk ((decide (0 ≤ v8) && decide (v8 < ↑(List.length v6)))) (
    let x6 : Bs := List.getD v6 (Int.toNat v8) (af .str)
    cond (decide (x5 = x6)) (
     ai (am o0_0 o0_1 5) (fun r7 =>
      let x7 : Int := (IntKind.wrap .i64 (v9 + 1))
      again1 (v2, v4_0, v4_1, v4_2, v4_3, v4_4, v6, v8, x7, r7.2.1, r7.2.2))) (
     let x8 : Int := (IntKind.wrap .i64 (v9 + 1))
     again1 (v2, v4_0, v4_1, v4_2, v4_3, v4_4, v6, v8, x8, o0_0, o0_1))))) (
  let x9 : Int := (IntKind.wrap .i64 (v8 + 1))
  again0 (v2, v4_0, v4_1, v4_2, v4_3, v4_4, v6, x9, o0_0, o0_1))
theorem zC (N : Nat) (again0 : St → Ro) : ∀ (again1 : St → Ro) (x : eo), gY N again0 again1 (cU x) = db N (fun y => again0 (bd y)) (fun y => again1 (cU y)) x := by
 intro again1 x
 kernel_rfl
noncomputable def abj (R : IR → (Ex → St → Ro) → St → Ro) (again2 : St → Ro) : Ex → St → Ro := (br again2 [0, 2, 6, 11, 12, 13, 14, 1000002] 1 (aD 4 (bo (R pI) (fin dC))))
abbrev ep : Type := (Int × Bss × Bool × Bs × Bool × Int × List ac × Int)
noncomputable def cV (x : ep) : St := { env := (.ptr 0 0 :: .undef :: .int .i64 x.1 :: (U 3 (.sl .str (.may false) x.2.1 :: (U 4 (.bool x.2.2.1 :: .str x.2.2.2.1 :: .bool x.2.2.2.2.1 :: .int .i64 x.2.2.2.2.2.1 :: (U 119 [])))))), hp := [some [.ul .atype x.2.2.2.2.2.2.1, .int .i64 x.2.2.2.2.2.2.2]] }
noncomputable def gZ (N : Nat) : (St → Ro) → St → Ro := fun again2 s => run bb N pH (abj (run bb N) again2) s
noncomputable def dc (N : Nat) (again2 : ep → Ro) (x : ep) : Ro :=
 let v2 : Int := x.1
 let v6 : Bss := x.2.1
 let v11 : Bool := x.2.2.1
 let v12 : Bs := x.2.2.2.1
 let v13 : Bool := x.2.2.2.2.1
 let v14 : Int := x.2.2.2.2.2.1
 let o0_0 : List ac := x.2.2.2.2.2.2.1
 let o0_1 : Int := x.2.2.2.2.2.2.2
 let x10 : Int := (↑(List.length v6) : Int)
 cond (decide (v14 < x10)) (
  cond v13 (
   let x11 : Int := (IntKind.wrap .i64 (v14 + 1))
   again2 (v2, v6, v11, v12, true, x11, o0_0, o0_1)) (
   chk ((decide (0 ≤ v14) && decide (v14 < ↑(List.length v6)))) (
    let x12 : Bs := List.getD v6 (Int.toNat v14) (af .str)
    let x13 : Int := (IntKind.wrap .i64 (v14 + 1))
    again2 (v2, v6, v11, v12, decide (x12 = v12), x13, o0_0, o0_1)))) (
  cond v11 (
   cond (!v13) (
    ai (am o0_0 o0_1 6) (fun r10 =>
     cond (r10.2.2 == 0) (
      chk (decide (0 < List.length r10.2.1)) (
       chk ((decide (0 ≤ v2) && decide (v2 < ↑(List.length r10.2.1)))) (
        chk (decide ((Int.toNat v2) < List.length r10.2.1)) (
         let x14 : List ac := (List.set r10.2.1 (Int.toNat v2) (let e_ := List.getD r10.2.1 (Int.toNat v2) (af .atype); ⟨(e_).kind, (e_).name, (e_).aliases, (e_).items, v6, (e_).hasdef, (e_).df, (e_).size, (e_).fields, (e_).branches⟩))
         chk ((decide (0 ≤ v2) && decide (v2 < ↑(List.length r10.2.1)))) (
          chk (decide ((Int.toNat v2) < List.length x14)) (
           let x15 : List ac := (List.set x14 (Int.toNat v2) (let e_ := List.getD x14 (Int.toNat v2) (af .atype); ⟨(e_).kind, (e_).name, (e_).aliases, (e_).items, (e_).syms, v11, (e_).df, (e_).size, (e_).fields, (e_).branches⟩))
           chk ((decide (0 ≤ v2) && decide (v2 < ↑(List.length r10.2.1)))) (
            chk (decide ((Int.toNat v2) < List.length x15)) (
             let x16 : List ac := (List.set x15 (Int.toNat v2) (let e_ := List.getD x15 (Int.toNat v2) (af .atype); ⟨(e_).kind, (e_).name, (e_).aliases, (e_).items, (e_).syms, (e_).hasdef, v12, (e_).size, (e_).fields, (e_).branches⟩))
             chk (Nat.beq (List.length r10.2.1) (List.length x16)) (
              some (.tup [], [some [.ul .atype x16, .int .i64 r10.2.2], none, none])))))))))) (
      some (.tup [], [some [.ul .atype r10.2.1, .int .i64 r10.2.2]])))) (
    cond (o0_1 == 0) (
     chk (decide (0 < List.length o0_0)) (
      chk ((decide (0 ≤ v2) && decide (v2 < ↑(List.length o0_0)))) (
       chk (decide ((Int.toNat v2) < List.length o0_0)) (
        let x17 : List ac := (List.set o0_0 (Int.toNat v2) (let e_ := List.getD o0_0 (Int.toNat v2) (af .atype); ⟨(e_).kind, (e_).name, (e_).aliases, (e_).items, v6, (e_).hasdef, (e_).df, (e_).size, (e_).fields, (e_).branches⟩))
        chk ((decide (0 ≤ v2) && decide (v2 < ↑(List.length o0_0)))) (
         chk (decide ((Int.toNat v2) < List.length x17)) (
          let x18 : List ac := (List.set x17 (Int.toNat v2) (let e_ := List.getD x17 (Int.toNat v2) (af .atype); ⟨(e_).kind, (e_).name, (e_).aliases, (e_).items, (e_).syms, v11, (e_).df, (e_).size, (e_).fields, (e_).branches⟩))
          chk ((decide (0 ≤ v2) && decide (v2 < ↑(List.length o0_0)))) (
           chk (decide ((Int.toNat v2) < List.length x18)) (
            let x19 : List ac := (List.set x18 (Int.toNat v2) (let e_ := List.getD x18 (Int.toNat v2) (af .atype); ⟨(e_).kind, (e_).name, (e_).aliases, (e_).items, (e_).syms, (e_).hasdef, v12, (e_).size, (e_).fields, (e_).branches⟩))
            chk (Nat.beq (List.length o0_0) (List.length x19)) (
             some (.tup [], [some [.ul .atype x19, .int .i64 o0_1], none, none])))))))))) (
     some (.tup [], [some [.ul .atype o0_0, .int .i64 o0_1]])))) (
   cond (o0_1 == 0) (
    chk (decide (0 < List.length o0_0)) (
     chk ((decide (0 ≤ v2) && decide (v2 < ↑(List.length o0_0)))) (
      chk (decide ((Int.toNat v2) < List.length o0_0)) (
       let x20 : List ac := (List.set o0_0 (Int.toNat v2) (let e_ := List.getD o0_0 (Int.toNat v2) (af .atype); ⟨(e_).kind, (e_).name, (e_).aliases, (e_).items, v6, (e_).hasdef, (e_).df, (e_).size, (e_).fields, (e_).branches⟩))
       chk ((decide (0 ≤ v2) && decide (v2 < ↑(List.length o0_0)))) (
        chk (decide ((Int.toNat v2) < List.length x20)) (
         let x21 : List ac := (List.set x20 (Int.toNat v2) (let e_ := List.getD x20 (Int.toNat v2) (af .atype); ⟨(e_).kind, (e_).name, (e_).aliases, (e_).items, (e_).syms, v11, (e_).df, (e_).size, (e_).fields, (e_).branches⟩))
         chk ((decide (0 ≤ v2) && decide (v2 < ↑(List.length o0_0)))) (
          chk (decide ((Int.toNat v2) < List.length x21)) (
           let x22 : List ac := (List.set x21 (Int.toNat v2) (let e_ := List.getD x21 (Int.toNat v2) (af .atype); ⟨(e_).kind, (e_).name, (e_).aliases, (e_).items, (e_).syms, (e_).hasdef, v12, (e_).size, (e_).fields, (e_).branches⟩))
           chk (Nat.beq (List.length o0_0) (List.length x22)) (
            some (.tup [], [some [.ul .atype x22, .int .i64 o0_1], none, none])))))))))) (
    some (.tup [], [some [.ul .atype o0_0, .int .i64 o0_1]]))))
theorem zD (N : Nat) : ∀ (again2 : St → Ro) (x : ep), gZ N again2 (cV x) = dc N (fun y => again2 (cV y)) x := by
 intro again2 x
 kernel_rfl
noncomputable def g8 (N : Nat) : (St → Ro) → St → Ro := fun again0 s => run bb N ga (gX (run bb N) again0) s
noncomputable def gq (N : Nat) (again0 : bZ → Ro) (q1 : eo → Ro) (q2 : ep → Ro) (x : bZ) : Ro :=
 let v2 : Int := x.1
 let v4_0 : Int := x.2.1
 let v4_1 : Int := x.2.2.1
 let v4_2 : Bs := x.2.2.2.1
 let v4_3 : List ae := x.2.2.2.2.1
 let v4_4 : Bss := x.2.2.2.2.2.1
 let v6 : Bss := x.2.2.2.2.2.2.1
 let v8 : Int := x.2.2.2.2.2.2.2.1
 let o0_0 : List ac := x.2.2.2.2.2.2.2.2.1
 let o0_1 : Int := x.2.2.2.2.2.2.2.2.2
 let x3 : Int := (↑(List.length v6) : Int)
 cond (decide (v8 < x3)) (
  cond (o0_1 == 0) (
   chk ((decide (0 ≤ v8) && decide (v8 < ↑(List.length v6)))) (
    let x4 : Bs := List.getD v6 (Int.toNat v8) (af .str)
    ai (iP x4) (fun (r5 : Bool) =>
     cond (!r5) (
      ai (am o0_0 o0_1 6) (fun r6 =>
       q1 (v2, v4_0, v4_1, v4_2, v4_3, v4_4, v6, v8, 0, r6.2.1, r6.2.2))) (
      q1 (v2, v4_0, v4_1, v4_2, v4_3, v4_4, v6, v8, 0, o0_0, o0_1))))) (
   ai (co v4_0 v4_1 v4_2 v4_3 v4_4 ([100, 101, 102, 97, 117, 108, 116] : Bs)) (fun r8 =>
    ai (cZ o0_0 o0_1 v4_0 v4_1 v4_2 v4_3 v4_4 ([100, 101, 102, 97, 117, 108, 116] : Bs) false) (fun r9 =>
     q2 (v2, v6, r8.2.2.2.2.2, r9.1, false, 0, r9.2.1, r9.2.2))))) (
  ai (co v4_0 v4_1 v4_2 v4_3 v4_4 ([100, 101, 102, 97, 117, 108, 116] : Bs)) (fun r11 =>
   ai (cZ o0_0 o0_1 v4_0 v4_1 v4_2 v4_3 v4_4 ([100, 101, 102, 97, 117, 108, 116] : Bs) false) (fun r12 =>
    q2 (v2, v6, r11.2.2.2.2.2, r12.1, false, 0, r12.2.1, r12.2.2))))
noncomputable def eq (N : Nat) (again0 : bZ → Ro) (x : bZ) : Ro := gq N again0 (fun z => aB N (db N again0) z) (fun z => aB N (dc N) z) x
noncomputable def lu (N : Nat) (again0 : St → Ro) : List (Nat × (St → Ro)) := (aI bb N ga (gX (run bb N) again0) ++ (aI bb N kt (fin dC) ++ []))
theorem zE (N : Nat) : ∀ (again0 : St → Ro) (x : bZ), g8 N again0 (bd x) = eq N (fun y => again0 (bd y)) x := by
 intro again0 x
 have hX : ∀ C : Nat → St → Ro, bI C bb N ga (gX (bI C bb N) again0) (bd x) = gq N (fun y => again0 (bd y)) (fun z => C 1000000 (cU z)) (fun z => C 1000002 (cV z)) x := by
  intro C
  kernel_rfl
 have h : g8 N again0 (bd x) = gq N (fun y => again0 (bd y)) (fun z => aW N (gY N again0) (cU z)) (fun z => aW N (gZ N) (cV z)) x := (cA (C := ec (lu N again0)) (bL (aL (l := (lu N again0)) (by kernel_rfl))) (t9 (cL (f8 (bL (dz (aL (l := (lu N again0)) (by kernel_rfl)))) rfl))) _).trans ((hX _).trans (by kernel_rfl))
 have e1 : (fun z => aW N (gY N again0) (cU z)) = (fun z => aB N (db N (fun y => again0 (bd y))) z) := funext fun z => aT (cU) (gY N again0) (db N (fun y => again0 (bd y))) (zC N again0) N z
 have e2 : (fun z => aW N (gZ N) (cV z)) = (fun z => aB N (dc N) z) := funext fun z => aT (cV) (gZ N) (dc N) (zD N) N z
 rw [h, e1, e2]
 rfl
noncomputable def fh (N : Nat) (o0_0 : List ac) (o0_1 : Int) (p1_0 : Int) (p1_1 : Int) (p1_2 : Bs) (p1_3 : List ae) (p1_4 : Bss) (p2 : Int) (q0 : bZ → Ro) : Ro :=
 ai (cp o0_0 o0_1 p1_0 p1_1 p1_2 p1_3 p1_4 ([115, 121, 109, 98, 111, 108, 115] : Bs)) (fun r1 =>
  cond (!r1.2.1) (
   ai (am r1.2.2.1 r1.2.2.2 2) (fun r2 =>
    let x1 : Int := (↑(List.length r1.1) : Int)
    cond (x1 == 0) (
     ai (am r2.2.1 r2.2.2 6) (fun r3 =>
      let x2 : Int := (↑(List.length r1.1) : Int)
      cond (decide (30 < x2)) (
       ai (am r3.2.1 r3.2.2 3) (fun r4 =>
        q0 (p2, p1_0, p1_1, p1_2, p1_3, p1_4, r1.1, 0, r4.2.1, r4.2.2))) (
       q0 (p2, p1_0, p1_1, p1_2, p1_3, p1_4, r1.1, 0, r3.2.1, r3.2.2)))) (
     let x23 : Int := (↑(List.length r1.1) : Int)
     cond (decide (30 < x23)) (
      ai (am r2.2.1 r2.2.2 3) (fun r13 =>
       q0 (p2, p1_0, p1_1, p1_2, p1_3, p1_4, r1.1, 0, r13.2.1, r13.2.2))) (
      q0 (p2, p1_0, p1_1, p1_2, p1_3, p1_4, r1.1, 0, r2.2.1, r2.2.2))))) (
   let x24 : Int := (↑(List.length r1.1) : Int)
   cond (x24 == 0) (
    ai (am r1.2.2.1 r1.2.2.2 6) (fun r14 =>
     let x25 : Int := (↑(List.length r1.1) : Int)
     cond (decide (30 < x25)) (
      ai (am r14.2.1 r14.2.2 3) (fun r15 =>
       q0 (p2, p1_0, p1_1, p1_2, p1_3, p1_4, r1.1, 0, r15.2.1, r15.2.2))) (
      q0 (p2, p1_0, p1_1, p1_2, p1_3, p1_4, r1.1, 0, r14.2.1, r14.2.2)))) (
    let x26 : Int := (↑(List.length r1.1) : Int)
    cond (decide (30 < x26)) (
     ai (am r1.2.2.1 r1.2.2.2 3) (fun r16 =>
      q0 (p2, p1_0, p1_1, p1_2, p1_3, p1_4, r1.1, 0, r16.2.1, r16.2.2))) (
     q0 (p2, p1_0, p1_1, p1_2, p1_3, p1_4, r1.1, 0, r1.2.2.1, r1.2.2.2)))))
noncomputable def mj (N : Nat) (o0_0 : List ac) (o0_1 : Int) (p1_0 : Int) (p1_1 : Int) (p1_2 : Bs) (p1_3 : List ae) (p1_4 : Bss) (p2 : Int) : Ro := fh N o0_0 o0_1 p1_0 p1_1 p1_2 p1_3 p1_4 p2 (fun z => aB N (eq N) z)
noncomputable def agA (N : Nat) : List (Nat × (St → Ro)) := aI bb N mi (fin dC) ++ []
theorem abk (N : Nat) (o0_0 : List ac) (o0_1 : Int) (p1_0 : Int) (p1_1 : Int) (p1_2 : Bs) (p1_3 : List ae) (p1_4 : Bss) (p2 : Int) : aE bb N 134 dC mi [.ptr 0 0, .agg [.int .i64 p1_0, .int .i64 p1_1, .str p1_2, .sl .jnode (.may false) p1_3, .sl .str (.may false) p1_4], .int .i64 p2] [some [.ul .atype o0_0, .int .i64 o0_1]] = mj N o0_0 o0_1 p1_0 p1_1 p1_2 p1_3 p1_4 p2 :=
 (bx (agA N) (by kernel_rfl) rfl (fun C => fh N o0_0 o0_1 p1_0 p1_1 p1_2 p1_3 p1_4 p2 (fun z => C 1000001 (bd z))) (fun C => by kernel_rfl)).trans (Eq.trans (b := fh N o0_0 o0_1 p1_0 p1_1 p1_2 p1_3 p1_4 p2 (fun z => aW N (g8 N) (bd z))) (by kernel_rfl) (congrArg (fh N o0_0 o0_1 p1_0 p1_1 p1_2 p1_3 p1_4 p2) (funext fun z => aT (bd) (g8 N) (eq N) (zE N) N z)))
theorem abl (N : Nat) (o0_0 : List ac) (o0_1 : Int) (p1_0 : Int) (p1_1 : Int) (p1_2 : Bs) (p1_3 : List ae) (p1_4 : Bss) (p2 : Int) (h : Tot (mj N o0_0 o0_1 p1_0 p1_1 p1_2 p1_3 p1_4 p2) (fun z => ∃ (y0 : List ac) (y1 : Int) (rest : List an), z.1.dimR = .tup [] ∧ z.2 = some [.ul .atype y0, .int .i64 y1] :: rest ∧ cS o0_0 o0_1 p1_0 p1_1 p1_2 p1_3 p1_4 p2 (y0, y1))) : ∃ r, fL o0_0 o0_1 p1_0 p1_1 p1_2 p1_3 p1_4 p2 r := by
 obtain ⟨⟨v, hp⟩, hz, y0, y1, rest, e1, e2, hq⟩ := h
 simp only at e1 e2
 subst e2
 exact ⟨(y0, y1), aP.dimR (FnC.objs (css := [[.ul .atype o0_0, .int .i64 o0_1]]) (css' := [[.ul .atype y0, .int .i64 y1]]) ad4 (abk N o0_0 o0_1 p1_0 p1_1 p1_2 p1_3 p1_4 p2) hz rfl) e1, hq⟩
noncomputable def jq : au := tab (P := Try.prog) [] [cd, mF, wC] [] [alz]
noncomputable def agB : IR := .ret
noncomputable def agC : IR := (.cond (.t 21) (.seq (.reg [Mv 22 0, Mv 23 7, Pp (.bld 24 [.int .i64 0, .str ([] : Bs), .sl .str (.may true) ([] : Bss), .int .i64 0, .sl .str (.may true) ([] : Bss), .bool false, .str ([] : Bs), .int .i64 0, .sl .afield (.may true) ([] : List ao), .sl (.num .i64) (.may true) ([] : List Int)] [(0, 1, (.t 23))]), Pp (.call (some 25) 116 [(.t 22), (.t 24)]), Mv 6 25] []) agB) .skip)
noncomputable def agD : IR := (.cond (.t 29) .skip (.exit 0))
noncomputable def agE : IR := (.reg [Mv 30 9, Bc 31 .add 30 1, Mv 9 31] [])
noncomputable def agF : IR := (.seq (.block 1 (.reg [Mv 32 8, Mv 33 32, Pg (33, false) (.mov 34 (.t 1)), Pg (33, false) (.mov 35 (.t 9)), Pg (33, false) (.idx 36 (.t 34) (.t 35)), Pg (33, false) (.bin 37 .eql (.t 36) (.c (.int .u8 46))), Po 38 33 37, Mv 8 38] [])) agE)
noncomputable def tD : IR := (.seq (.seq (.reg [Mv 26 9, Mv 27 1, Pp (.lens 28 (.t 27)), Bi 29 .lss 26 28] []) agD) agF)
noncomputable def agG : IR := (.block 0 (.loop [0, 1, 2, 8, 9, 1000000] 1 tD))
noncomputable def agH : IR := .ret
noncomputable def agI : IR := (.cond (.t 54) (.seq (.reg [Mv 55 10, Mv 6 55] []) agH) .skip)
noncomputable def agJ : IR := (.seq (.reg [Mv 54 11] []) agI)
noncomputable def ad5 : IR := (.cond (.t 44) (.seq (.reg [Mv 46 0, Mv 47 2, Pp (.bin 48 .add (.t 47) (.c (.str ([46] : Bs)))), Mv 49 1, Bi 50 .add 48 49, Pp (.call (some 51) 138 [(.t 46), (.t 50)]), Mv 45 51, Ex_ 52 0 45, Ex_ 53 1 45, Mv 10 52, Mv 11 53] []) agJ) .skip)
noncomputable def ad6 : IR := .ret
noncomputable def ad7 : IR := (.cond (.t 63) (.seq (.reg [Mv 64 0, Pp (.call (some 65) 110 [(.t 64), (.c (.int .i64 4))]), Mv 6 65] []) ad6) .skip)
noncomputable def ad8 : IR := .ret
noncomputable def ad9 : IR := (.seq (.reg [Mv 66 12, Mv 6 66] []) ad8)
noncomputable def aea : IR := (.seq (.seq (.reg [Mv 62 13, Pp (.un 63 .not (.t 62))] []) ad7) ad9)
noncomputable def aeb : IR := (.seq (.reg [Mv 57 0, Mv 58 1, Pp (.call (some 59) 138 [(.t 57), (.t 58)]), Mv 56 59, Ex_ 60 0 56, Ex_ 61 1 56, Mv 12 60, Mv 13 61] []) aea)
noncomputable def sg : IR := (.seq (.seq (.reg [Mv 39 8, Pp (.un 40 .not (.t 39)), Mv 41 40, Pg (41, true) (.mov 42 (.t 2)), Pg (41, true) (.bin 43 .neq (.t 42) (.c (.str ([] : Bs)))), Pa 44 41 43] []) ad5) aeb)
noncomputable def aec : IR := (.seq (.seq (.reg [Pp (.mov 9 (.c (.int .i64 0)))] []) agG) sg)
noncomputable def aed : IR := (.seq (.reg [Pp (.mov 8 (.c (.bool false)))] []) aec)
noncomputable def aee : IR := (.seq (.seq (.reg [Mv 16 7, Bc 17 .geq 16 1, Mv 18 17, Pg (18, true) (.mov 19 (.t 7)), Pg (18, true) (.bin 20 .leq (.t 19) (.c (.int .i64 8))), Pa 21 18 20] []) agC) aed)
noncomputable def aef : IR := (.seq (.reg [Mv 14 1, Pp (.call (some 15) 115 [(.t 14)]), Mv 7 15] []) aee)
noncomputable def pp : IR := (.seq (.reg [Pp (.mov 6 (.c (.int .i64 0)))] []) aef)
noncomputable def lm : List RV := [.t 6]
theorem akh : FnC Try.prog jq [110, 116, 138, 2000110, 2000116, 2000138] 1 wz Try.f111 pp lm := fnC (by kernel_rfl) Try.func111 (by kernel_rfl) (by kernel_rfl) (by decide)
noncomputable def aiw (R : IR → (Ex → St → Ro) → St → Ro) (again0 : St → Ro) : Ex → St → Ro := (br again0 [0, 1, 2, 8, 9, 1000000] 1 (aD 0 (bo (R sg) (fin lm))))
abbrev gr : Type := (Bs × Bs × Bool × Int × List ac × Int)
noncomputable def fR (x : gr) : St := { env := (.ptr 0 0 :: .str x.1 :: .str x.2.1 :: (U 5 (.bool x.2.2.1 :: .int .i64 x.2.2.2.1 :: (U 57 [])))), hp := [some [.ul .atype x.2.2.2.2.1, .int .i64 x.2.2.2.2.2]] }
noncomputable def oe (N : Nat) : (St → Ro) → St → Ro := fun again0 s => run jq N tD (aiw (run jq N) again0) s
noncomputable def gt (N : Nat) (again0 : gr → Ro) (x : gr) : Ro :=
 let v1 : Bs := x.1
 let v2 : Bs := x.2.1
 let v8 : Bool := x.2.2.1
 let v9 : Int := x.2.2.2.1
 let o0_0 : List ac := x.2.2.2.2.1
 let o0_1 : Int := x.2.2.2.2.2
 let x1 : Int := (↑(List.length v1) : Int)
 cond (decide (v9 < x1)) (
  cond v8 (
   let x2 : Int := (IntKind.wrap .i64 (v9 + 1))
   again0 (v1, v2, true, x2, o0_0, o0_1)) (
   chk ((decide (0 ≤ v9) && decide (v9 < ↑(List.length v1)))) (
    let x3 : Int := (↑(UInt8.toNat (List.getD v1 (Int.toNat v9) 0)) : Int)
    let x4 : Int := (IntKind.wrap .i64 (v9 + 1))
    again0 (v1, v2, (x3 == 46), x4, o0_0, o0_1)))) (
  cond (!v8) (
   let x5 : Bool := (!decide (v2 = ([] : Bs)))
   cond x5 (
    chk (decide (List.length v2 + List.length ([46] : Bs) ≤ 9223372036854775807)) (
     let x6 : Bs := (v2 ++ ([46] : Bs))
     chk (decide (List.length x6 + List.length v1 ≤ 9223372036854775807)) (
      ai (ce o0_0 o0_1 (x6 ++ v1)) (fun r3 =>
       cond r3.2.1 (
        some (.int .i64 r3.1, [some [.ul .atype r3.2.2.1, .int .i64 r3.2.2.2]])) (
        ai (ce r3.2.2.1 r3.2.2.2 v1) (fun r4 =>
         cond (!r4.2.1) (
          ai (am r4.2.2.1 r4.2.2.2 4) (fun r5 =>
           some (.int .i64 r5.1, [some [.ul .atype r5.2.1, .int .i64 r5.2.2]]))) (
          some (.int .i64 r4.1, [some [.ul .atype r4.2.2.1, .int .i64 r4.2.2.2]])))))))) (
    ai (ce o0_0 o0_1 v1) (fun r6 =>
     cond (!r6.2.1) (
      ai (am r6.2.2.1 r6.2.2.2 4) (fun r7 =>
       some (.int .i64 r7.1, [some [.ul .atype r7.2.1, .int .i64 r7.2.2]]))) (
      some (.int .i64 r6.1, [some [.ul .atype r6.2.2.1, .int .i64 r6.2.2.2]]))))) (
   ai (ce o0_0 o0_1 v1) (fun r8 =>
    cond (!r8.2.1) (
     ai (am r8.2.2.1 r8.2.2.2 4) (fun r9 =>
      some (.int .i64 r9.1, [some [.ul .atype r9.2.1, .int .i64 r9.2.2]]))) (
     some (.int .i64 r8.1, [some [.ul .atype r8.2.2.1, .int .i64 r8.2.2.2]])))))
theorem agK (N : Nat) : ∀ (again0 : St → Ro) (x : gr), oe N again0 (fR x) = gt N (fun y => again0 (fR y)) x := by
 intro again0 x
 kernel_rfl
noncomputable def ip (N : Nat) (o0_0 : List ac) (o0_1 : Int) (p1 : Bs) (p2 : Bs) (q0 : gr → Ro) : Ro :=
 ai (kX p1) (fun (r1 : Int) =>
  cond (decide (1 ≤ r1)) (
   cond (decide (r1 ≤ 8)) (
    ai (dH o0_0 o0_1 r1 ([] : Bs) ([] : Bss) 0 ([] : Bss) false ([] : Bs) 0 ([] : List ao) ([] : List Int)) (fun r2 =>
     some (.int .i64 r2.1, [some [.ul .atype r2.2.1, .int .i64 r2.2.2]]))) (
    q0 (p1, p2, false, 0, o0_0, o0_1))) (
   q0 (p1, p2, false, 0, o0_0, o0_1)))
noncomputable def pq (N : Nat) (o0_0 : List ac) (o0_1 : Int) (p1 : Bs) (p2 : Bs) : Ro := ip N o0_0 o0_1 p1 p2 (fun z => aB N (gt N) z)
noncomputable def al3 (N : Nat) : List (Nat × (St → Ro)) := aI jq N pp (fin lm) ++ []
theorem aix (N : Nat) (o0_0 : List ac) (o0_1 : Int) (p1 : Bs) (p2 : Bs) : aE jq N 67 lm pp [.ptr 0 0, .str p1, .str p2] [some [.ul .atype o0_0, .int .i64 o0_1]] = pq N o0_0 o0_1 p1 p2 :=
 (bx (al3 N) (by kernel_rfl) rfl (fun C => ip N o0_0 o0_1 p1 p2 (fun z => C 1000000 (fR z))) (fun C => by kernel_rfl)).trans (Eq.trans (b := ip N o0_0 o0_1 p1 p2 (fun z => aW N (oe N) (fR z))) (by kernel_rfl) (congrArg (ip N o0_0 o0_1 p1 p2) (funext fun z => aT (fR) (oe N) (gt N) (agK N) N z)))
theorem aiy (N : Nat) (o0_0 : List ac) (o0_1 : Int) (p1 : Bs) (p2 : Bs) (h : Tot (pq N o0_0 o0_1 p1 p2) (fun z => ∃ (y0 : Int) (y1 : List ac) (y2 : Int) (rest : List an), z.1.dimR = .int .i64 y0 ∧ z.2 = some [.ul .atype y1, .int .i64 y2] :: rest ∧ mU o0_0 o0_1 p1 p2 (y0, y1, y2))) : ∃ r, fK o0_0 o0_1 p1 p2 r := by
 obtain ⟨⟨v, hp⟩, hz, y0, y1, y2, rest, e1, e2, hq⟩ := h
 simp only at e1 e2
 subst e2
 exact ⟨(y0, y1, y2), aP.dimR (FnC.objs (css := [[.ul .atype o0_0, .int .i64 o0_1]]) (css' := [[.ul .atype y1, .int .i64 y2]]) akh (aix N o0_0 o0_1 p1 p2) hz rfl) e1, hq⟩
noncomputable def bF : au := tab (P := Try.prog) [] [lP, cd, mF] [139] [aBD]
noncomputable def aeg : IR := .ret
noncomputable def aeh : IR := (.cond (.t 20) (.seq (.reg [Mv 21 0, Pp (.call (some 22) 110 [(.t 21), (.c (.int .i64 6))]), Mv 8 22] []) aeg) .skip)
noncomputable def aei : IR := .ret
noncomputable def aej : IR := (.cond (.t 26) (.seq (.reg [Mv 27 0, Pp (.call (some 28) 110 [(.t 27), (.c (.int .i64 3))]), Mv 8 28] []) aei) .skip)
noncomputable def aek : IR := (.cond (.t 40) .skip (.exit 0))
noncomputable def ael : IR := .ret
noncomputable def aem : IR := (.cond (.t 57) (.seq (.reg [Pp (.mov 8 (.c (.int .i64 0)))] []) ael) .skip)
noncomputable def aen : IR := .ret
noncomputable def aeo : IR := (.cond (.t 67) (.seq (.reg [Mv 68 0, Pp (.call (some 69) 110 [(.t 68), (.c (.int .i64 6))]), Mv 8 69] []) aen) .skip)
noncomputable def aep : IR := (.cond (.t 73) .skip (.exit 2))
noncomputable def abm : IR := .ret
noncomputable def abn : IR := (.cond (.t 91) (.seq (.reg [Mv 92 0, Pp (.call (some 93) 110 [(.t 92), (.c (.int .i64 6))]), Mv 8 93] []) abm) .skip)
noncomputable def abo : IR := (.reg [Mv 74 13, Bc 75 .add 74 1, Mv 13 75] [])
noncomputable def abp : IR := (.seq (.block 3 (.seq (.gh (.opn (.cell 0 0)) (.ghp (.cls (.cell 0 0)) (.reg [Mv 76 0, Nk 77 76, Fa 78 0 77, ⟨none, .ld 79 1 true false (.t 78), some ([0], [])⟩, Mv 80 10, Mv 81 13, Pp (.ixa 82 (.num .i64) (.t 80) (.t 81)), Ld 83 1 false 82, ⟨none, .call (some 84) 139 [(.t 79), (.t 83)], some ([1], [])⟩, Mv 85 0, Nk 86 85, Fa 87 0 86, ⟨none, .ld 88 1 true false (.t 87), some ([0], [])⟩, Mv 89 12, ⟨none, .call (some 90) 139 [(.t 88), (.t 89)], some ([1], [])⟩, Bi 91 .eql 84 90] [[], [0], [0, 1], [0, 1, 2], [], [], [4, 5], [4, 5, 6], [0, 1, 2, 3, 4, 5, 6, 7], [], [9], [9, 10], [9, 10, 11], [], [0, 1, 2, 3, 4, 5, 6, 7, 8, 9, 10, 11, 12, 13], [0, 1, 2, 3, 4, 5, 6, 7, 8, 9, 10, 11, 12, 13, 14]]))) abn)) abo)
noncomputable def rA : IR := (.seq (.seq (.reg [Mv 70 13, Mv 71 10, Pp (.lenl 72 (.t 71)), Bi 73 .lss 70 72] []) aep) abp)
noncomputable def abq : IR := (.block 2 (.loop [0, 2, 3, 5, 9, 10, 11, 12, 13, 1000000] 1 rA))
noncomputable def rB : IR := (.reg [Pp (.mov 94 (.tk 10)), Mv 95 12, Pp (.bsl 96 (.num .i64) [(.t 95)] true), Pp (.app 97 (.num .i64) (.tk 94) (.t 96)), Pp (.mov 10 (.tk 97))] [])
noncomputable def abr : IR := (.seq (.seq (.reg [Pp (.mov 13 (.c (.int .i64 0)))] []) abq) rB)
noncomputable def abt : IR := (.seq (.seq (.gh (.opn (.cell 0 0)) (.ghp (.cls (.cell 0 0)) (.reg [Mv 58 0, Nk 59 58, Fa 60 0 59, Fa 61 0 60, Pp (.ld 62 1 false false (.t 61)), Mv 63 12, Pp (.ixw 64 .atype (.t 62) (.t 63)), Pp (.fdw 65 0 (.t 64)), Pp (.ldw 66 1 false (.t 65)), Bc 67 .eql 66 14] []))) aeo) abr)
noncomputable def abu : IR := (.seq (.seq (.reg [Mv 53 0, Nk 54 53, Fa 55 1 54, Pp (.ld 56 1 false false (.t 55)), Bc 57 .neq 56 0] []) aem) abt)
noncomputable def rC : IR := (.reg [Mv 41 11, Bc 42 .add 41 1, Mv 11 42] [])
noncomputable def abv : IR := (.seq (.block 1 (.seq (.reg [Mv 43 0, Fa 44 3 5, Ld 45 1 false 44, Mv 46 11, Pp (.ixa 47 .jnode (.t 45) (.t 46)), Ld 48 5 true 47, Mv 49 2, Mv 50 3, Bc 51 .add 50 1, Pp (.call (some 52) 72 [(.t 43), (.t 48), (.t 49), (.t 51)]), Mv 12 52] []) abu)) rC)
noncomputable def g9 : IR := (.seq (.seq (.reg [Mv 29 11, Fa 30 3 5, Ld 31 1 false 30, Pp (.lenl 32 (.t 31)), Bi 33 .lss 29 32, Mv 34 33, Pg (34, true) (.mov 35 (.t 0)), Pg (34, true) (.nck (some 36) (.t 35)), Pg (34, true) (.fad 37 1 (.t 36)), Pg (34, true) (.ld 38 1 false false (.t 37)), Pg (34, true) (.bin 39 .eql (.t 38) (.c (.int .i64 0))), Pa 40 34 39] []) aek) abv)
noncomputable def abw : IR := (.block 0 (.loop [0, 2, 3, 5, 9, 10, 11, 1000001] 1 g9))
noncomputable def abx : IR := (.cond (.t 102) (.gh (.opn (.cell 0 0)) (.ghp (.cls (.cell 0 0)) (.reg [Mv 103 0, Nk 104 103, Fa 105 0 104, Fa 106 0 105, Pp (.ld 107 1 false false (.t 106)), Mv 108 9, Mv 109 10, Pp (.ixw 110 .atype (.t 107) (.t 108)), Pp (.fdw 111 9 (.t 110)), Pp (.stw none 1 (.t 111) (.t 109))] []))) .skip)
noncomputable def aby : IR := .ret
noncomputable def abz : IR := (.seq (.reg [Mv 112 9, Mv 8 112] []) aby)
noncomputable def lv : IR := (.seq (.seq (.reg [Mv 98 0, Nk 99 98, Fa 100 1 99, Pp (.ld 101 1 false false (.t 100)), Bc 102 .eql 101 0] []) abx) abz)
noncomputable def abA : IR := (.seq (.seq (.reg [Pp (.mov 11 (.c (.int .i64 0)))] []) abw) lv)
noncomputable def abB : IR := (.seq (.reg [Pp (.mov 10 (.c (.sl (.num .i64) .own ([] : List Int))))] []) abA)
noncomputable def abC : IR := (.seq (.seq (.reg [Fa 23 3 5, Ld 24 1 false 23, Pp (.lenl 25 (.t 24)), Bc 26 .gtr 25 30] []) aej) abB)
noncomputable def abD : IR := (.seq (.seq (.reg [Fa 17 3 5, Ld 18 1 false 17, Pp (.lenl 19 (.t 18)), Bc 20 .eql 19 0] []) aeh) abC)
noncomputable def abE : IR := (.seq (.reg [Mv 14 0, Pp (.bld 15 [.int .i64 0, .str ([] : Bs), .sl .str (.may true) ([] : Bss), .int .i64 0, .sl .str (.may true) ([] : Bss), .bool false, .str ([] : Bs), .int .i64 0, .sl .afield (.may true) ([] : List ao), .sl (.num .i64) (.may true) ([] : List Int)] [(0, 1, (.c (.int .i64 14)))]), Pp (.call (some 16) 116 [(.t 14), (.t 15)]), Mv 9 16] []) abD)
noncomputable def og : IR := (.seq (.reg [Pp (.boxe 5 (.t 1)), Pp (.mov 8 (.c (.int .i64 0)))] []) abE)
noncomputable def gu : List RV := [.t 8]
theorem aiz : FnC Try.prog bF [72, 110, 116, 139, 2000072, 2000110, 2000116, 2000139] 1 vb Try.f112 og gu := fnC (by kernel_rfl) Try.func112 (by kernel_rfl) (by kernel_rfl) (by decide)
noncomputable def jA (R : IR → (Ex → St → Ro) → St → Ro) (again0 : St → Ro) : Ex → St → Ro := (br again0 [0, 2, 3, 5, 9, 10, 11, 1000001] 1 (aD 0 (bo (R lv) (fin gu))))
abbrev ct : Type := (Bs × Int × Int × Int × Bs × List ae × Bss × Int × List Int × Int × List ac × Int)
noncomputable def bl (x : ct) : St := { env := (.ptr 0 0 :: .undef :: .str x.1 :: .int .i64 x.2.1 :: .undef :: .ea [.int .i64 x.2.2.1, .int .i64 x.2.2.2.1, .str x.2.2.2.2.1, .sl .jnode (.may false) x.2.2.2.2.2.1, .sl .str (.may false) x.2.2.2.2.2.2.1] :: (U 3 (.int .i64 x.2.2.2.2.2.2.2.1 :: .sl (.num .i64) .own x.2.2.2.2.2.2.2.2.1 :: .int .i64 x.2.2.2.2.2.2.2.2.2.1 :: (U 101 [])))), hp := [some [.ul .atype x.2.2.2.2.2.2.2.2.2.2.1, .int .i64 x.2.2.2.2.2.2.2.2.2.2.2]] }
noncomputable def agL (R : IR → (Ex → St → Ro) → St → Ro) (again0 : St → Ro) (again1 : St → Ro) : Ex → St → Ro := (br again1 [0, 2, 3, 5, 9, 10, 11, 12, 13, 1000000] 1 (aD 2 (bo (R rB) (aD 1 (bo (R rC) (jA R again0))))))
abbrev fS : Type := (Bs × Int × Int × Int × Bs × List ae × Bss × Int × List Int × Int × Int × Int × List ac × Int)
noncomputable def dD (x : fS) : St := { env := (.ptr 0 0 :: .undef :: .str x.1 :: .int .i64 x.2.1 :: .undef :: .ea [.int .i64 x.2.2.1, .int .i64 x.2.2.2.1, .str x.2.2.2.2.1, .sl .jnode (.may false) x.2.2.2.2.2.1, .sl .str (.may false) x.2.2.2.2.2.2.1] :: (U 3 (.int .i64 x.2.2.2.2.2.2.2.1 :: .sl (.num .i64) .own x.2.2.2.2.2.2.2.2.1 :: .int .i64 x.2.2.2.2.2.2.2.2.2.1 :: .int .i64 x.2.2.2.2.2.2.2.2.2.2.1 :: .int .i64 x.2.2.2.2.2.2.2.2.2.2.2.1 :: (U 99 [])))), hp := [some [.ul .atype x.2.2.2.2.2.2.2.2.2.2.2.2.1, .int .i64 x.2.2.2.2.2.2.2.2.2.2.2.2.2]] }
noncomputable def jB (N : Nat) (again0 : St → Ro) : (St → Ro) → St → Ro := fun again1 s => run bF N rA (agL (run bF N) again0 again1) s
noncomputable def fT (N : Nat) (again0 : ct → Ro) (again1 : fS → Ro) (x : fS) : Ro :=
 let v2 : Bs := x.1
 let v3 : Int := x.2.1
 let v5_0 : Int := x.2.2.1
 let v5_1 : Int := x.2.2.2.1
 let v5_2 : Bs := x.2.2.2.2.1
 let v5_3 : List ae := x.2.2.2.2.2.1
 let v5_4 : Bss := x.2.2.2.2.2.2.1
 let v9 : Int := x.2.2.2.2.2.2.2.1
 let v10 : List Int := x.2.2.2.2.2.2.2.2.1
 let v11 : Int := x.2.2.2.2.2.2.2.2.2.1
 let v12 : Int := x.2.2.2.2.2.2.2.2.2.2.1
 let v13 : Int := x.2.2.2.2.2.2.2.2.2.2.2.1
 let o0_0 : List ac := x.2.2.2.2.2.2.2.2.2.2.2.2.1
 let o0_1 : Int := x.2.2.2.2.2.2.2.2.2.2.2.2.2
 let x11 : Int := (↑(List.length v10) : Int)
 cond (decide (v13 < x11)) (
  chk (decide (0 < List.length o0_0)) (
   chk ((decide (0 ≤ v13) && decide (v13 < ↑(List.length v10)))) (
    let x12 : Int := List.getD v10 (Int.toNat v13) (af (.num .i64))
    aCy (pj o0_0 x12) ((Nat.beq (List.length o0_0) (List.length o0_0) && true)) (fun (r6 : Bs) =>
     aCy (pj o0_0 v12) ((Nat.beq (List.length o0_0) (List.length o0_0) && true)) (fun (r7 : Bs) =>
      chk (Nat.beq (List.length o0_0) (List.length o0_0)) (
       cond (decide (r6 = r7)) (
        ai (am o0_0 o0_1 6) (fun r8 =>
         some (.int .i64 r8.1, [some [.ul .atype r8.2.1, .int .i64 r8.2.2], none, none]))) (
        let x13 : Int := (IntKind.wrap .i64 (v13 + 1))
        again1 (v2, v3, v5_0, v5_1, v5_2, v5_3, v5_4, v9, v10, v11, v12, x13, o0_0, o0_1)))))))) (
  chk (decide ((List.length v10 + List.length ([v12] : List Int)) * 8 ≤ 140737488355328)) (
   let x14 : List Int := (v10 ++ ([v12] : List Int))
   let x15 : Int := (IntKind.wrap .i64 (v11 + 1))
   again0 (v2, v3, v5_0, v5_1, v5_2, v5_3, v5_4, v9, x14, x15, o0_0, o0_1)))
theorem aeq (N : Nat) (again0 : St → Ro) : ∀ (again1 : St → Ro) (x : fS), jB N again0 again1 (dD x) = fT N (fun y => again0 (bl y)) (fun y => again1 (dD y)) x := by
 intro again1 x
 kernel_rfl
noncomputable def jC (N : Nat) : (St → Ro) → St → Ro := fun again0 s => run bF N g9 (jA (run bF N) again0) s
noncomputable def iQ (N : Nat) (again0 : ct → Ro) (q1 : fS → Ro) (x : ct) : Ro :=
 let v2 : Bs := x.1
 let v3 : Int := x.2.1
 let v5_0 : Int := x.2.2.1
 let v5_1 : Int := x.2.2.2.1
 let v5_2 : Bs := x.2.2.2.2.1
 let v5_3 : List ae := x.2.2.2.2.2.1
 let v5_4 : Bss := x.2.2.2.2.2.2.1
 let v9 : Int := x.2.2.2.2.2.2.2.1
 let v10 : List Int := x.2.2.2.2.2.2.2.2.1
 let v11 : Int := x.2.2.2.2.2.2.2.2.2.1
 let o0_0 : List ac := x.2.2.2.2.2.2.2.2.2.2.1
 let o0_1 : Int := x.2.2.2.2.2.2.2.2.2.2.2
 let x3 : Int := (↑(List.length v5_3) : Int)
 cond (decide (v11 < x3)) (
  cond (o0_1 == 0) (
   chk ((decide (0 ≤ v11) && decide (v11 < ↑(List.length v5_3)))) (
    let x4 : Int := (List.getD v5_3 (Int.toNat v11) (af .jnode)).kind
    let x5 : Int := (List.getD v5_3 (Int.toNat v11) (af .jnode)).n
    let x6 : Bs := (List.getD v5_3 (Int.toNat v11) (af .jnode)).s
    let x7 : List ae := (List.getD v5_3 (Int.toNat v11) (af .jnode)).l
    let x8 : Bss := (List.getD v5_3 (Int.toNat v11) (af .jnode)).names
    let x9 : Int := (IntKind.wrap .i64 (v3 + 1))
    ai (bQ o0_0 o0_1 x4 x5 x6 x7 x8 v2 x9) (fun r4 =>
     cond (!(r4.2.2 == 0)) (
      some (.int .i64 0, [some [.ul .atype r4.2.1, .int .i64 r4.2.2]])) (
      chk (decide (0 < List.length r4.2.1)) (
       chk ((decide (0 ≤ r4.1) && decide (r4.1 < ↑(List.length r4.2.1)))) (
        chk (decide ((Int.toNat r4.1) < List.length r4.2.1)) (
         let x10 : Int := (List.getD r4.2.1 (Int.toNat r4.1) (af .atype)).kind
         chk (Nat.beq (List.length r4.2.1) (List.length r4.2.1)) (
          cond (x10 == 14) (
           ai (am r4.2.1 r4.2.2 6) (fun r5 =>
            some (.int .i64 r5.1, [some [.ul .atype r5.2.1, .int .i64 r5.2.2], none, none]))) (
           q1 (v2, v3, v5_0, v5_1, v5_2, v5_3, v5_4, v9, v10, v11, r4.1, 0, r4.2.1, r4.2.2)))))))))) (
   cond (o0_1 == 0) (
    chk (decide (0 < List.length o0_0)) (
     chk ((decide (0 ≤ v9) && decide (v9 < ↑(List.length o0_0)))) (
      chk (decide ((Int.toNat v9) < List.length o0_0)) (
       let x16 : List ac := (List.set o0_0 (Int.toNat v9) (let e_ := List.getD o0_0 (Int.toNat v9) (af .atype); ⟨(e_).kind, (e_).name, (e_).aliases, (e_).items, (e_).syms, (e_).hasdef, (e_).df, (e_).size, (e_).fields, v10⟩))
       chk (Nat.beq (List.length o0_0) (List.length x16)) (
        some (.int .i64 v9, [some [.ul .atype x16, .int .i64 o0_1], none, none])))))) (
    some (.int .i64 v9, [some [.ul .atype o0_0, .int .i64 o0_1]])))) (
  cond (o0_1 == 0) (
   chk (decide (0 < List.length o0_0)) (
    chk ((decide (0 ≤ v9) && decide (v9 < ↑(List.length o0_0)))) (
     chk (decide ((Int.toNat v9) < List.length o0_0)) (
      let x17 : List ac := (List.set o0_0 (Int.toNat v9) (let e_ := List.getD o0_0 (Int.toNat v9) (af .atype); ⟨(e_).kind, (e_).name, (e_).aliases, (e_).items, (e_).syms, (e_).hasdef, (e_).df, (e_).size, (e_).fields, v10⟩))
      chk (Nat.beq (List.length o0_0) (List.length x17)) (
       some (.int .i64 v9, [some [.ul .atype x17, .int .i64 o0_1], none, none])))))) (
   some (.int .i64 v9, [some [.ul .atype o0_0, .int .i64 o0_1]])))
noncomputable def jD (N : Nat) (again0 : ct → Ro) (x : ct) : Ro := iQ N again0 (fun z => aB N (fT N again0) z) x
noncomputable def ni (N : Nat) (again0 : St → Ro) : List (Nat × (St → Ro)) := (aI bF N g9 (jA (run bF N) again0) ++ (aI bF N lv (fin gu) ++ []))
theorem aer (N : Nat) : ∀ (again0 : St → Ro) (x : ct), jC N again0 (bl x) = jD N (fun y => again0 (bl y)) x := by
 intro again0 x
 have hX : ∀ C : Nat → St → Ro, bI C bF N g9 (jA (bI C bF N) again0) (bl x) = iQ N (fun y => again0 (bl y)) (fun z => C 1000000 (dD z)) x := by
  intro C
  kernel_rfl
 have h : jC N again0 (bl x) = iQ N (fun y => again0 (bl y)) (fun z => aW N (jB N again0) (dD z)) x := (cA (C := ec (ni N again0)) (bL (aL (l := (ni N again0)) (by kernel_rfl))) (t9 (cL (f8 (bL (dz (aL (l := (ni N again0)) (by kernel_rfl)))) rfl))) _).trans ((hX _).trans (by kernel_rfl))
 have e1 : (fun z => aW N (jB N again0) (dD z)) = (fun z => aB N (fT N (fun y => again0 (bl y))) z) := funext fun z => aT (dD) (jB N again0) (fT N (fun y => again0 (bl y))) (aeq N again0) N z
 rw [h, e1]
 rfl
noncomputable def gv (N : Nat) (o0_0 : List ac) (o0_1 : Int) (p1_0 : Int) (p1_1 : Int) (p1_2 : Bs) (p1_3 : List ae) (p1_4 : Bss) (p2 : Bs) (p3 : Int) (q0 : ct → Ro) : Ro :=
 ai (dH o0_0 o0_1 14 ([] : Bs) ([] : Bss) 0 ([] : Bss) false ([] : Bs) 0 ([] : List ao) ([] : List Int)) (fun r1 =>
  let x1 : Int := (↑(List.length p1_3) : Int)
  cond (x1 == 0) (
   ai (am r1.2.1 r1.2.2 6) (fun r2 =>
    some (.int .i64 r2.1, [some [.ul .atype r2.2.1, .int .i64 r2.2.2]]))) (
   let x2 : Int := (↑(List.length p1_3) : Int)
   cond (decide (30 < x2)) (
    ai (am r1.2.1 r1.2.2 3) (fun r3 =>
     some (.int .i64 r3.1, [some [.ul .atype r3.2.1, .int .i64 r3.2.2]]))) (
    q0 (p2, p3, p1_0, p1_1, p1_2, p1_3, p1_4, r1.1, ([] : List Int), 0, r1.2.1, r1.2.2))))
noncomputable def oh (N : Nat) (o0_0 : List ac) (o0_1 : Int) (p1_0 : Int) (p1_1 : Int) (p1_2 : Bs) (p1_3 : List ae) (p1_4 : Bss) (p2 : Bs) (p3 : Int) : Ro := gv N o0_0 o0_1 p1_0 p1_1 p1_2 p1_3 p1_4 p2 p3 (fun z => aB N (jD N) z)
noncomputable def aki (N : Nat) : List (Nat × (St → Ro)) := aI bF N og (fin gu) ++ []
theorem agM (N : Nat) (o0_0 : List ac) (o0_1 : Int) (p1_0 : Int) (p1_1 : Int) (p1_2 : Bs) (p1_3 : List ae) (p1_4 : Bss) (p2 : Bs) (p3 : Int) : aE bF N 113 gu og [.ptr 0 0, .agg [.int .i64 p1_0, .int .i64 p1_1, .str p1_2, .sl .jnode (.may false) p1_3, .sl .str (.may false) p1_4], .str p2, .int .i64 p3] [some [.ul .atype o0_0, .int .i64 o0_1]] = oh N o0_0 o0_1 p1_0 p1_1 p1_2 p1_3 p1_4 p2 p3 :=
 (bx (aki N) (by kernel_rfl) rfl (fun C => gv N o0_0 o0_1 p1_0 p1_1 p1_2 p1_3 p1_4 p2 p3 (fun z => C 1000001 (bl z))) (fun C => by kernel_rfl)).trans (Eq.trans (b := gv N o0_0 o0_1 p1_0 p1_1 p1_2 p1_3 p1_4 p2 p3 (fun z => aW N (jC N) (bl z))) (by kernel_rfl) (congrArg (gv N o0_0 o0_1 p1_0 p1_1 p1_2 p1_3 p1_4 p2 p3) (funext fun z => aT (bl) (jC N) (jD N) (aer N) N z)))
theorem agN (N : Nat) (o0_0 : List ac) (o0_1 : Int) (p1_0 : Int) (p1_1 : Int) (p1_2 : Bs) (p1_3 : List ae) (p1_4 : Bss) (p2 : Bs) (p3 : Int) (h : Tot (oh N o0_0 o0_1 p1_0 p1_1 p1_2 p1_3 p1_4 p2 p3) (fun z => ∃ (y0 : Int) (y1 : List ac) (y2 : Int) (rest : List an), z.1.dimR = .int .i64 y0 ∧ z.2 = some [.ul .atype y1, .int .i64 y2] :: rest ∧ rT o0_0 o0_1 p1_0 p1_1 p1_2 p1_3 p1_4 p2 p3 (y0, y1, y2))) : ∃ r, ij o0_0 o0_1 p1_0 p1_1 p1_2 p1_3 p1_4 p2 p3 r := by
 obtain ⟨⟨v, hp⟩, hz, y0, y1, y2, rest, e1, e2, hq⟩ := h
 simp only at e1 e2
 subst e2
 exact ⟨(y0, y1, y2), aP.dimR (FnC.objs (css := [[.ul .atype o0_0, .int .i64 o0_1]]) (css' := [[.ul .atype y1, .int .i64 y2]]) aiz (agM N o0_0 o0_1 p1_0 p1_1 p1_2 p1_3 p1_4 p2 p3) hz rfl) e1, hq⟩
noncomputable def ay : au := tab (P := Try.prog) [] [lP, cd, qg, pk] [] [nW, adB]
noncomputable def abF : IR := .ret
noncomputable def abG : IR := (.cond (.t 31) (.seq (.reg [Mv 32 0, Pp (.call (some 33) 110 [(.t 32), (.c (.int .i64 2))])] []) abF) .skip)
noncomputable def abH : IR := .ret
noncomputable def abI : IR := (.cond (.t 37) (.seq (.reg [Mv 38 0, Pp (.call (some 39) 110 [(.t 38), (.c (.int .i64 3))])] []) abH) .skip)
noncomputable def abJ : IR := (.cond (.t 51) .skip (.exit 0))
noncomputable def abK : IR := .ret
noncomputable def abL : IR := (.cond (.t 61) (.seq (.reg [Mv 62 0, Pp (.call (some 63) 110 [(.t 62), (.c (.int .i64 2))])] []) abK) .skip)
noncomputable def abM : IR := (.cond (.t 78) (.reg [Mv 79 0, Pp (.call (some 80) 110 [(.t 79), (.c (.int .i64 6))])] []) .skip)
noncomputable def abN : IR := (.cond (.t 84) .skip (.exit 2))
noncomputable def abO : IR := (.cond (.t 94) (.reg [Mv 95 0, Pp (.call (some 96) 110 [(.t 95), (.c (.int .i64 5))])] []) .skip)
noncomputable def zF : IR := (.reg [Mv 85 16, Bc 86 .add 85 1, Mv 16 86] [])
noncomputable def zG : IR := (.seq (.block 3 (.seq (.reg [Mv 87 12, Mv 88 16, Pp (.ixa 89 .afield (.t 87) (.t 88)), Fa 90 0 89, ⟨none, .ld 91 1 false false (.t 90), some ([], [])⟩, Fa 92 0 15, ⟨none, .ld 93 1 false false (.t 92), some ([1], [])⟩, Bi 94 .eql 91 93] [[], [], [0, 1], [0, 1, 2], [0, 1, 2, 3], [], [5], [0, 1, 2, 3, 4, 5, 6]]) abO)) zF)
noncomputable def gw : IR := (.seq (.seq (.reg [Mv 81 16, Mv 82 12, Pp (.lenl 83 (.t 82)), Bi 84 .lss 81 83] []) abN) zG)
noncomputable def zH : IR := (.block 2 (.loop [0, 2, 3, 4, 10, 12, 13, 14, 15, 16, 1000000] 2 gw))
noncomputable def zI : IR := (.cond (.t 103) (.reg [Mv 104 0, Pp (.call (some 105) 110 [(.t 104), (.c (.int .i64 2))])] []) .skip)
noncomputable def zJ : IR := (.cond (.t 138) .skip (.exit 4))
noncomputable def zK : IR := (.cond (.t 147) (.reg [Mv 148 0, Pp (.call (some 149) 110 [(.t 148), (.c (.int .i64 6))])] []) .skip)
noncomputable def zL : IR := (.reg [Mv 139 19, Bc 140 .add 139 1, Mv 19 140] [])
noncomputable def zM : IR := (.seq (.block 5 (.seq (.reg [Fa 141 1 15, Pp (.ld 142 1 false false (.t 141)), Mv 143 19, Pp (.ixa 144 .str (.t 142) (.t 143)), Ld 145 1 false 144, Pp (.call (some 146) 161 [(.t 145)]), Pp (.un 147 .not (.t 146))] []) zK)) zL)
noncomputable def qz : IR := (.seq (.seq (.reg [Mv 127 19, Fa 128 1 15, Pp (.ld 129 1 false false (.t 128)), Pp (.lenl 130 (.t 129)), Bi 131 .lss 127 130, Mv 132 131, Pg (132, true) (.mov 133 (.t 0)), Pg (132, true) (.nck (some 134) (.t 133)), Pg (132, true) (.fad 135 1 (.t 134)), Pg (132, true) (.ld 136 1 false false (.t 135)), Pg (132, true) (.bin 137 .eql (.t 136) (.c (.int .i64 0))), Pa 138 132 137] []) zJ) zM)
noncomputable def zN : IR := (.block 4 (.loop [0, 2, 3, 4, 10, 12, 13, 15, 19, 1000001] 2 qz))
noncomputable def qA : IR := (.reg [Pp (.mov 150 (.tk 12)), Pp (.ld 151 9 true false (.t 15)), Pp (.bsl 152 .afield [(.t 151)] true), Pp (.app 153 .afield (.tk 150) (.t 152)), Pp (.mov 12 (.tk 153))] [])
noncomputable def zO : IR := (.seq (.seq (.reg [Pp (.mov 19 (.c (.int .i64 0)))] []) zN) qA)
noncomputable def zP : IR := (.seq (.reg [Mv 121 0, Ld 122 5 true 14, Pp (.call (some 123) 143 [(.t 121), (.t 122), (.c (.str ([97, 108, 105, 97, 115, 101, 115] : Bs)))]), Mv 120 123, Ex_ 124 0 120, Ex_ 125 1 120, Fa 126 1 15, Pp (.st none 1 (.t 126) (.tk 124))] []) zO)
noncomputable def zQ : IR := (.seq (.reg [Ld 114 5 true 14, Pp (.call (some 115) 113 [(.t 114), (.c (.str ([100, 101, 102, 97, 117, 108, 116] : Bs)))]), Mv 113 115, Ex_ 116 0 113, Ex_ 117 1 113, Fa 118 4 15, Pp (.st none 5 (.t 118) (.t 116)), Fa 119 3 15, Pp (.st none 1 (.t 119) (.t 117))] []) zP)
noncomputable def zR : IR := (.seq (.reg [Mv 106 0, Ld 107 5 true 17, Mv 108 3, Mv 109 4, Bc 110 .add 109 1, Pp (.call (some 111) 72 [(.t 106), (.t 107), (.t 108), (.t 110)]), Fa 112 2 15, Pp (.st none 1 (.t 112) (.t 111))] []) zQ)
noncomputable def zS : IR := (.seq (.seq (.reg [Mv 102 18, Pp (.un 103 .not (.t 102))] []) zI) zR)
noncomputable def kZ : IR := (.seq (.reg [Ld 98 5 true 14, Pp (.call (some 99) 113 [(.t 98), (.c (.str ([116, 121, 112, 101] : Bs)))]), Mv 97 99, Ex_ 100 0 97, Ex_ 101 1 97, Pp (.alr 17 5), Pp (.frz none 17 5 (.t 100)), Mv 18 101] []) zS)
noncomputable def zT : IR := (.seq (.seq (.reg [Pp (.mov 16 (.c (.int .i64 0)))] []) zH) kZ)
noncomputable def zU : IR := (.seq (.seq (.reg [Mv 68 0, Nk 69 68, Fa 70 1 69, Pp (.ld 71 1 false false (.t 70)), Bc 72 .eql 71 0, Mv 73 72, Pg (73, true) (.fad 74 0 (.t 15)), Pg (73, true) (.ld 75 1 false false (.t 74)), Pg (73, true) (.call (some 76) 161 [(.t 75)]), Pg (73, true) (.un 77 .not (.t 76)), Pa 78 73 77] []) abM) zT)
noncomputable def zV : IR := (.seq (.reg [Mv 64 0, Ld 65 5 true 14, Pp (.call (some 66) 140 [(.t 64), (.t 65), (.c (.str ([110, 97, 109, 101] : Bs))), (.c (.bool true))]), Pp (.bld 67 [.str ([] : Bs), .sl .str .own ([] : Bss), .int .i64 0, .bool false, .int .i64 0, .int .i64 0, .str ([] : Bs), .sl .jnode .own ([] : List ae), .sl .str .own ([] : Bss)] [(0, 1, (.t 66))]), Pp (.new 15 [.str ([] : Bs), .sl .str .own ([] : Bss), .int .i64 0, .bool false, .int .i64 0, .int .i64 0, .str ([] : Bs), .sl .jnode .own ([] : List ae), .sl .str .own ([] : Bss)]), Pp (.st none 9 (.t 15) (.t 67))] []) zU)
noncomputable def zW : IR := (.seq (.seq (.reg [Fa 59 0 14, Ld 60 1 false 59, Bc 61 .neq 60 6] []) abL) zV)
noncomputable def dZ : IR := (.reg [Mv 52 13, Bc 53 .add 52 1, Mv 13 53] [])
noncomputable def zX : IR := (.seq (.block 1 (.seq (.reg [Fa 54 3 10, Ld 55 1 false 54, Mv 56 13, Pp (.ixa 57 .jnode (.t 55) (.t 56)), Ld 58 5 true 57, Pp (.alr 14 5), Pp (.frz none 14 5 (.t 58))] []) zW)) dZ)
noncomputable def gz : IR := (.seq (.seq (.reg [Mv 40 13, Fa 41 3 10, Ld 42 1 false 41, Pp (.lenl 43 (.t 42)), Bi 44 .lss 40 43, Mv 45 44, Pg (45, true) (.mov 46 (.t 0)), Pg (45, true) (.nck (some 47) (.t 46)), Pg (45, true) (.fad 48 1 (.t 47)), Pg (45, true) (.ld 49 1 false false (.t 48)), Pg (45, true) (.bin 50 .eql (.t 49) (.c (.int .i64 0))), Pa 51 45 50] []) abJ) zX)
noncomputable def zY : IR := (.block 0 (.loop [0, 2, 3, 4, 10, 12, 13, 1000002] 1 gz))
noncomputable def zZ : IR := (.cond (.t 158) (.gh (.opn (.cell 0 0)) (.ghp (.cls (.cell 0 0)) (.reg [Mv 159 0, Nk 160 159, Fa 161 0 160, Fa 162 0 161, Pp (.ld 163 1 false false (.t 162)), Mv 164 2, Mv 165 12, Pp (.ixw 166 .atype (.t 163) (.t 164)), Pp (.fdw 167 8 (.t 166)), Pp (.stw none 1 (.t 167) (.t 165))] []))) .skip)
noncomputable def gA : IR := (.seq (.reg [Mv 154 0, Nk 155 154, Fa 156 1 155, Pp (.ld 157 1 false false (.t 156)), Bc 158 .eql 157 0] []) zZ)
noncomputable def z0 : IR := (.seq (.seq (.reg [Pp (.mov 13 (.c (.int .i64 0)))] []) zY) gA)
noncomputable def z1 : IR := (.seq (.reg [Pp (.mov 12 (.c (.sl .afield .own ([] : List ao))))] []) z0)
noncomputable def z2 : IR := (.seq (.seq (.reg [Fa 34 3 10, Ld 35 1 false 34, Pp (.lenl 36 (.t 35)), Bc 37 .gtr 36 30] []) abI) z1)
noncomputable def z3 : IR := (.seq (.seq (.reg [Mv 25 11, Pp (.un 26 .not (.t 25)), Mv 27 26, Pg (27, false) (.fad 28 0 (.t 10)), Pg (27, false) (.lde 29 1 false (.t 28)), Pg (27, false) (.bin 30 .neq (.t 29) (.c (.int .i64 5))), Po 31 27 30] []) abG) z2)
noncomputable def z4 : IR := (.seq (.reg [Ld 21 5 true 6, Pp (.call (some 22) 113 [(.t 21), (.c (.str ([102, 105, 101, 108, 100, 115] : Bs)))]), Mv 20 22, Ex_ 23 0 20, Ex_ 24 1 20, Pp (.alr 10 5), Pp (.frz none 10 5 (.t 23)), Mv 11 24] []) z3)
noncomputable def nj : IR := (.seq (.reg [Pp (.boxe 6 (.t 1))] []) z4)
noncomputable def dP : List RV := []
theorem agO : FnC Try.prog ay [72, 110, 140, 143, 2000072, 2000110, 2000140, 2000143] 1 uF Try.f144 nj dP := fnC (by kernel_rfl) Try.func144 (by kernel_rfl) (by kernel_rfl) (by decide)
noncomputable def cH (R : IR → (Ex → St → Ro) → St → Ro) (again0 : St → Ro) : Ex → St → Ro := (br again0 [0, 2, 3, 4, 10, 12, 13, 1000002] 1 (aD 0 (bo (R gA) (fin dP))))
abbrev bG : Type := (Int × Bs × Int × Int × Int × Bs × List ae × Bss × List ao × Int × List ac × Int)
noncomputable def aF (x : bG) : St := { env := (.ptr 0 0 :: .undef :: .int .i64 x.1 :: .str x.2.1 :: .int .i64 x.2.2.1 :: (U 5 (.ea [.int .i64 x.2.2.2.1, .int .i64 x.2.2.2.2.1, .str x.2.2.2.2.2.1, .sl .jnode (.may false) x.2.2.2.2.2.2.1, .sl .str (.may false) x.2.2.2.2.2.2.2.1] :: .undef :: .sl .afield .own x.2.2.2.2.2.2.2.2.1 :: .int .i64 x.2.2.2.2.2.2.2.2.2.1 :: (U 154 [])))), hp := [some [.ul .atype x.2.2.2.2.2.2.2.2.2.2.1, .int .i64 x.2.2.2.2.2.2.2.2.2.2.2]] }
noncomputable def ml (R : IR → (Ex → St → Ro) → St → Ro) (again0 : St → Ro) (again1 : St → Ro) : Ex → St → Ro := (br again1 [0, 2, 3, 4, 10, 12, 13, 14, 15, 16, 1000000] 2 (aD 2 (bo (R kZ) (aD 1 (bo (R dZ) (cH R again0))))))
abbrev cI : Type := (Int × Bs × Int × Int × Int × Bs × List ae × Bss × List ao × Int × Int × Int × Bs × List ae × Bss × Int × List ac × Int × Bs × Bss × Int × Bool × Int × Int × Bs × List ae × Bss)
noncomputable def bB (x : cI) : St := { env := (.ptr 0 0 :: .undef :: .int .i64 x.1 :: .str x.2.1 :: .int .i64 x.2.2.1 :: (U 5 (.ea [.int .i64 x.2.2.2.1, .int .i64 x.2.2.2.2.1, .str x.2.2.2.2.2.1, .sl .jnode (.may false) x.2.2.2.2.2.2.1, .sl .str (.may false) x.2.2.2.2.2.2.2.1] :: .undef :: .sl .afield .own x.2.2.2.2.2.2.2.2.1 :: .int .i64 x.2.2.2.2.2.2.2.2.2.1 :: .ea [.int .i64 x.2.2.2.2.2.2.2.2.2.2.1, .int .i64 x.2.2.2.2.2.2.2.2.2.2.2.1, .str x.2.2.2.2.2.2.2.2.2.2.2.2.1, .sl .jnode (.may false) x.2.2.2.2.2.2.2.2.2.2.2.2.2.1, .sl .str (.may false) x.2.2.2.2.2.2.2.2.2.2.2.2.2.2.1] :: .ptr 1 0 :: .int .i64 x.2.2.2.2.2.2.2.2.2.2.2.2.2.2.2.1 :: (U 151 [])))), hp := [some [.ul .atype x.2.2.2.2.2.2.2.2.2.2.2.2.2.2.2.2.1, .int .i64 x.2.2.2.2.2.2.2.2.2.2.2.2.2.2.2.2.2.1], some [.str x.2.2.2.2.2.2.2.2.2.2.2.2.2.2.2.2.2.2.1, .sl .str .own x.2.2.2.2.2.2.2.2.2.2.2.2.2.2.2.2.2.2.2.1, .int .i64 x.2.2.2.2.2.2.2.2.2.2.2.2.2.2.2.2.2.2.2.2.1, .bool x.2.2.2.2.2.2.2.2.2.2.2.2.2.2.2.2.2.2.2.2.2.1, .int .i64 x.2.2.2.2.2.2.2.2.2.2.2.2.2.2.2.2.2.2.2.2.2.2.1, .int .i64 x.2.2.2.2.2.2.2.2.2.2.2.2.2.2.2.2.2.2.2.2.2.2.2.1, .str x.2.2.2.2.2.2.2.2.2.2.2.2.2.2.2.2.2.2.2.2.2.2.2.2.1, .sl .jnode .own x.2.2.2.2.2.2.2.2.2.2.2.2.2.2.2.2.2.2.2.2.2.2.2.2.2.1, .sl .str .own x.2.2.2.2.2.2.2.2.2.2.2.2.2.2.2.2.2.2.2.2.2.2.2.2.2.2]] }
noncomputable def aes (R : IR → (Ex → St → Ro) → St → Ro) (again0 : St → Ro) (again2 : St → Ro) : Ex → St → Ro := (br again2 [0, 2, 3, 4, 10, 12, 13, 15, 19, 1000001] 2 (aD 4 (bo (R qA) (aD 1 (bo (R dZ) (cH R again0))))))
abbrev fj : Type := (Int × Bs × Int × Int × Int × Bs × List ae × Bss × List ao × Int × Int × List ac × Int × Bs × Bss × Int × Bool × Int × Int × Bs × List ae × Bss)
noncomputable def dd (x : fj) : St := { env := (.ptr 0 0 :: .undef :: .int .i64 x.1 :: .str x.2.1 :: .int .i64 x.2.2.1 :: (U 5 (.ea [.int .i64 x.2.2.2.1, .int .i64 x.2.2.2.2.1, .str x.2.2.2.2.2.1, .sl .jnode (.may false) x.2.2.2.2.2.2.1, .sl .str (.may false) x.2.2.2.2.2.2.2.1] :: .undef :: .sl .afield .own x.2.2.2.2.2.2.2.2.1 :: .int .i64 x.2.2.2.2.2.2.2.2.2.1 :: .undef :: .ptr 1 0 :: (U 3 (.int .i64 x.2.2.2.2.2.2.2.2.2.2.1 :: (U 148 [])))))), hp := [some [.ul .atype x.2.2.2.2.2.2.2.2.2.2.2.1, .int .i64 x.2.2.2.2.2.2.2.2.2.2.2.2.1], some [.str x.2.2.2.2.2.2.2.2.2.2.2.2.2.1, .sl .str (.may false) x.2.2.2.2.2.2.2.2.2.2.2.2.2.2.1, .int .i64 x.2.2.2.2.2.2.2.2.2.2.2.2.2.2.2.1, .bool x.2.2.2.2.2.2.2.2.2.2.2.2.2.2.2.2.1, .int .i64 x.2.2.2.2.2.2.2.2.2.2.2.2.2.2.2.2.2.1, .int .i64 x.2.2.2.2.2.2.2.2.2.2.2.2.2.2.2.2.2.2.1, .str x.2.2.2.2.2.2.2.2.2.2.2.2.2.2.2.2.2.2.2.1, .sl .jnode (.may false) x.2.2.2.2.2.2.2.2.2.2.2.2.2.2.2.2.2.2.2.2.1, .sl .str (.may false) x.2.2.2.2.2.2.2.2.2.2.2.2.2.2.2.2.2.2.2.2.2]] }
noncomputable def iR (N : Nat) (again0 : St → Ro) : (St → Ro) → St → Ro := fun again2 s => run ay N qz (aes (run ay N) again0 again2) s
noncomputable def cJ (N : Nat) (again0 : bG → Ro) (again2 : fj → Ro) (x : fj) : Ro :=
 let v2 : Int := x.1
 let v3 : Bs := x.2.1
 let v4 : Int := x.2.2.1
 let v10_0 : Int := x.2.2.2.1
 let v10_1 : Int := x.2.2.2.2.1
 let v10_2 : Bs := x.2.2.2.2.2.1
 let v10_3 : List ae := x.2.2.2.2.2.2.1
 let v10_4 : Bss := x.2.2.2.2.2.2.2.1
 let v12 : List ao := x.2.2.2.2.2.2.2.2.1
 let v13 : Int := x.2.2.2.2.2.2.2.2.2.1
 let v19 : Int := x.2.2.2.2.2.2.2.2.2.2.1
 let o0_0 : List ac := x.2.2.2.2.2.2.2.2.2.2.2.1
 let o0_1 : Int := x.2.2.2.2.2.2.2.2.2.2.2.2.1
 let o1_0 : Bs := x.2.2.2.2.2.2.2.2.2.2.2.2.2.1
 let o1_1 : Bss := x.2.2.2.2.2.2.2.2.2.2.2.2.2.2.1
 let o1_2 : Int := x.2.2.2.2.2.2.2.2.2.2.2.2.2.2.2.1
 let o1_3 : Bool := x.2.2.2.2.2.2.2.2.2.2.2.2.2.2.2.2.1
 let o1_4 : Int := x.2.2.2.2.2.2.2.2.2.2.2.2.2.2.2.2.2.1
 let o1_5 : Int := x.2.2.2.2.2.2.2.2.2.2.2.2.2.2.2.2.2.2.1
 let o1_6 : Bs := x.2.2.2.2.2.2.2.2.2.2.2.2.2.2.2.2.2.2.2.1
 let o1_7 : List ae := x.2.2.2.2.2.2.2.2.2.2.2.2.2.2.2.2.2.2.2.2.1
 let o1_8 : Bss := x.2.2.2.2.2.2.2.2.2.2.2.2.2.2.2.2.2.2.2.2.2
 let x21 : Int := (↑(List.length o1_1) : Int)
 cond (decide (v19 < x21)) (
  cond (o0_1 == 0) (
   chk ((decide (0 ≤ v19) && decide (v19 < ↑(List.length o1_1)))) (
    let x22 : Bs := List.getD o1_1 (Int.toNat v19) (af .str)
    ai (iP x22) (fun (r15 : Bool) =>
     cond (!r15) (
      ai (am o0_0 o0_1 6) (fun r16 =>
       let x23 : Int := (IntKind.wrap .i64 (v19 + 1))
       again2 (v2, v3, v4, v10_0, v10_1, v10_2, v10_3, v10_4, v12, v13, x23, r16.2.1, r16.2.2, o1_0, o1_1, o1_2, o1_3, o1_4, o1_5, o1_6, o1_7, o1_8))) (
      let x24 : Int := (IntKind.wrap .i64 (v19 + 1))
      again2 (v2, v3, v4, v10_0, v10_1, v10_2, v10_3, v10_4, v12, v13, x24, o0_0, o0_1, o1_0, o1_1, o1_2, o1_3, o1_4, o1_5, o1_6, o1_7, o1_8))))) (
   chk (decide ((List.length v12 + List.length ([⟨o1_0, o1_1, o1_2, o1_3, ⟨o1_4, o1_5, o1_6, o1_7, o1_8⟩⟩] : List ao)) * 136 ≤ 140737488355328)) (
    let x25 : List ao := (v12 ++ ([⟨o1_0, o1_1, o1_2, o1_3, ⟨o1_4, o1_5, o1_6, o1_7, o1_8⟩⟩] : List ao))
    let x26 : Int := (IntKind.wrap .i64 (v13 + 1))
    again0 (v2, v3, v4, v10_0, v10_1, v10_2, v10_3, v10_4, x25, x26, o0_0, o0_1)))) (
  chk (decide ((List.length v12 + List.length ([⟨o1_0, o1_1, o1_2, o1_3, ⟨o1_4, o1_5, o1_6, o1_7, o1_8⟩⟩] : List ao)) * 136 ≤ 140737488355328)) (
   let x27 : List ao := (v12 ++ ([⟨o1_0, o1_1, o1_2, o1_3, ⟨o1_4, o1_5, o1_6, o1_7, o1_8⟩⟩] : List ao))
   let x28 : Int := (IntKind.wrap .i64 (v13 + 1))
   again0 (v2, v3, v4, v10_0, v10_1, v10_2, v10_3, v10_4, x27, x28, o0_0, o0_1)))
theorem abP (N : Nat) (again0 : St → Ro) : ∀ (again2 : St → Ro) (x : fj), iR N again0 again2 (dd x) = cJ N (fun y => again0 (aF y)) (fun y => again2 (dd y)) x := by
 intro again2 x
 kernel_rfl
noncomputable def fk (N : Nat) (again0 : St → Ro) : (St → Ro) → St → Ro := fun again1 s => run ay N gw (ml (run ay N) again0 again1) s
noncomputable def hH (N : Nat) (again0 : bG → Ro) (again1 : cI → Ro) (q2 : fj → Ro) (x : cI) : Ro :=
 let v2 : Int := x.1
 let v3 : Bs := x.2.1
 let v4 : Int := x.2.2.1
 let v10_0 : Int := x.2.2.2.1
 let v10_1 : Int := x.2.2.2.2.1
 let v10_2 : Bs := x.2.2.2.2.2.1
 let v10_3 : List ae := x.2.2.2.2.2.2.1
 let v10_4 : Bss := x.2.2.2.2.2.2.2.1
 let v12 : List ao := x.2.2.2.2.2.2.2.2.1
 let v13 : Int := x.2.2.2.2.2.2.2.2.2.1
 let v14_0 : Int := x.2.2.2.2.2.2.2.2.2.2.1
 let v14_1 : Int := x.2.2.2.2.2.2.2.2.2.2.2.1
 let v14_2 : Bs := x.2.2.2.2.2.2.2.2.2.2.2.2.1
 let v14_3 : List ae := x.2.2.2.2.2.2.2.2.2.2.2.2.2.1
 let v14_4 : Bss := x.2.2.2.2.2.2.2.2.2.2.2.2.2.2.1
 let v16 : Int := x.2.2.2.2.2.2.2.2.2.2.2.2.2.2.2.1
 let o0_0 : List ac := x.2.2.2.2.2.2.2.2.2.2.2.2.2.2.2.2.1
 let o0_1 : Int := x.2.2.2.2.2.2.2.2.2.2.2.2.2.2.2.2.2.1
 let o1_0 : Bs := x.2.2.2.2.2.2.2.2.2.2.2.2.2.2.2.2.2.2.1
 let o1_1 : Bss := x.2.2.2.2.2.2.2.2.2.2.2.2.2.2.2.2.2.2.2.1
 let o1_2 : Int := x.2.2.2.2.2.2.2.2.2.2.2.2.2.2.2.2.2.2.2.2.1
 let o1_3 : Bool := x.2.2.2.2.2.2.2.2.2.2.2.2.2.2.2.2.2.2.2.2.2.1
 let o1_4 : Int := x.2.2.2.2.2.2.2.2.2.2.2.2.2.2.2.2.2.2.2.2.2.2.1
 let o1_5 : Int := x.2.2.2.2.2.2.2.2.2.2.2.2.2.2.2.2.2.2.2.2.2.2.2.1
 let o1_6 : Bs := x.2.2.2.2.2.2.2.2.2.2.2.2.2.2.2.2.2.2.2.2.2.2.2.2.1
 let o1_7 : List ae := x.2.2.2.2.2.2.2.2.2.2.2.2.2.2.2.2.2.2.2.2.2.2.2.2.2.1
 let o1_8 : Bss := x.2.2.2.2.2.2.2.2.2.2.2.2.2.2.2.2.2.2.2.2.2.2.2.2.2.2
 let x8 : Int := (↑(List.length v12) : Int)
 cond (decide (v16 < x8)) (
  chk ((decide (0 ≤ v16) && decide (v16 < ↑(List.length v12)))) (
   let x9 : Bs := (List.getD v12 (Int.toNat v16) (af .afield)).name
   let x10 : Bss := (List.getD v12 (Int.toNat v16) (af .afield)).aliases
   let x11 : Int := (List.getD v12 (Int.toNat v16) (af .afield)).typ
   let x12 : Bool := (List.getD v12 (Int.toNat v16) (af .afield)).hasdef
   let x13 : Int := (List.getD v12 (Int.toNat v16) (af .afield)).df.kind
   let x14 : Int := (List.getD v12 (Int.toNat v16) (af .afield)).df.n
   let x15 : Bs := (List.getD v12 (Int.toNat v16) (af .afield)).df.s
   let x16 : List ae := (List.getD v12 (Int.toNat v16) (af .afield)).df.l
   let x17 : Bss := (List.getD v12 (Int.toNat v16) (af .afield)).df.names
   cond (decide (x9 = o1_0)) (
    ai (am o0_0 o0_1 5) (fun r9 =>
     let x18 : Int := (IntKind.wrap .i64 (v16 + 1))
     again1 (v2, v3, v4, v10_0, v10_1, v10_2, v10_3, v10_4, v12, v13, v14_0, v14_1, v14_2, v14_3, v14_4, x18, r9.2.1, r9.2.2, o1_0, o1_1, o1_2, o1_3, o1_4, o1_5, o1_6, o1_7, o1_8))) (
    let x19 : Int := (IntKind.wrap .i64 (v16 + 1))
    again1 (v2, v3, v4, v10_0, v10_1, v10_2, v10_3, v10_4, v12, v13, v14_0, v14_1, v14_2, v14_3, v14_4, x19, o0_0, o0_1, o1_0, o1_1, o1_2, o1_3, o1_4, o1_5, o1_6, o1_7, o1_8)))) (
  ai (co v14_0 v14_1 v14_2 v14_3 v14_4 ([116, 121, 112, 101] : Bs)) (fun r10 =>
   cond (!r10.2.2.2.2.2) (
    ai (am o0_0 o0_1 2) (fun r11 =>
     let x20 : Int := (IntKind.wrap .i64 (v4 + 1))
     ai (bQ r11.2.1 r11.2.2 r10.1 r10.2.1 r10.2.2.1 r10.2.2.2.1 r10.2.2.2.2.1 v3 x20) (fun r12 =>
      ai (co v14_0 v14_1 v14_2 v14_3 v14_4 ([100, 101, 102, 97, 117, 108, 116] : Bs)) (fun r13 =>
       ai (cp r12.2.1 r12.2.2 v14_0 v14_1 v14_2 v14_3 v14_4 ([97, 108, 105, 97, 115, 101, 115] : Bs)) (fun r14 =>
        q2 (v2, v3, v4, v10_0, v10_1, v10_2, v10_3, v10_4, v12, v13, 0, r14.2.2.1, r14.2.2.2, o1_0, r14.1, r12.1, r13.2.2.2.2.2, r13.1, r13.2.1, r13.2.2.1, r13.2.2.2.1, r13.2.2.2.2.1)))))) (
    let x29 : Int := (IntKind.wrap .i64 (v4 + 1))
    ai (bQ o0_0 o0_1 r10.1 r10.2.1 r10.2.2.1 r10.2.2.2.1 r10.2.2.2.2.1 v3 x29) (fun r17 =>
     ai (co v14_0 v14_1 v14_2 v14_3 v14_4 ([100, 101, 102, 97, 117, 108, 116] : Bs)) (fun r18 =>
      ai (cp r17.2.1 r17.2.2 v14_0 v14_1 v14_2 v14_3 v14_4 ([97, 108, 105, 97, 115, 101, 115] : Bs)) (fun r19 =>
       q2 (v2, v3, v4, v10_0, v10_1, v10_2, v10_3, v10_4, v12, v13, 0, r19.2.2.1, r19.2.2.2, o1_0, r19.1, r17.1, r18.2.2.2.2.2, r18.1, r18.2.1, r18.2.2.1, r18.2.2.2.1, r18.2.2.2.2.1)))))))
noncomputable def dE (N : Nat) (again0 : bG → Ro) (again1 : cI → Ro) (x : cI) : Ro := hH N again0 again1 (fun z => aB N (cJ N again0) z) x
noncomputable def fl (N : Nat) (again0 : St → Ro) (again1 : St → Ro) : List (Nat × (St → Ro)) := (aI ay N gw (ml (run ay N) again0 again1) ++ (aI ay N kZ (aD 1 (bo (run ay N dZ) (cH (run ay N) again0))) ++ (aI ay N dZ (cH (run ay N) again0) ++ (aI ay N gA (fin dP) ++ []))))
theorem abQ (N : Nat) (again0 : St → Ro) : ∀ (again1 : St → Ro) (x : cI), fk N again0 again1 (bB x) = dE N (fun y => again0 (aF y)) (fun y => again1 (bB y)) x := by
 intro again1 x
 have hX : ∀ C : Nat → St → Ro, bI C ay N gw (ml (bI C ay N) again0 again1) (bB x) = hH N (fun y => again0 (aF y)) (fun y => again1 (bB y)) (fun z => C 1000001 (dd z)) x := by
  intro C
  kernel_rfl
 have h : fk N again0 again1 (bB x) = hH N (fun y => again0 (aF y)) (fun y => again1 (bB y)) (fun z => aW N (iR N again0) (dd z)) x := (cA (C := ec (fl N again0 again1)) (bL (aL (l := (fl N again0 again1)) (by kernel_rfl))) (t9 (cL (f8 (bL (dz (aL (l := (fl N again0 again1)) (by kernel_rfl)))) (cL (f8 (bL (dz (dz (aL (l := (fl N again0 again1)) (by kernel_rfl))))) (t9 (cL (f8 (bL (dz (dz (dz (aL (l := (fl N again0 again1)) (by kernel_rfl)))))) rfl)))))))) _).trans ((hX _).trans (by kernel_rfl))
 have e2 : (fun z => aW N (iR N again0) (dd z)) = (fun z => aB N (cJ N (fun y => again0 (aF y))) z) := funext fun z => aT (dd) (iR N again0) (cJ N (fun y => again0 (aF y))) (abP N again0) N z
 rw [h, e2]
 rfl
noncomputable def iS (N : Nat) : (St → Ro) → St → Ro := fun again0 s => run ay N gz (cH (run ay N) again0) s
noncomputable def hJ (N : Nat) (again0 : bG → Ro) (q1 : cI → Ro) (x : bG) : Ro :=
 let v2 : Int := x.1
 let v3 : Bs := x.2.1
 let v4 : Int := x.2.2.1
 let v10_0 : Int := x.2.2.2.1
 let v10_1 : Int := x.2.2.2.2.1
 let v10_2 : Bs := x.2.2.2.2.2.1
 let v10_3 : List ae := x.2.2.2.2.2.2.1
 let v10_4 : Bss := x.2.2.2.2.2.2.2.1
 let v12 : List ao := x.2.2.2.2.2.2.2.2.1
 let v13 : Int := x.2.2.2.2.2.2.2.2.2.1
 let o0_0 : List ac := x.2.2.2.2.2.2.2.2.2.2.1
 let o0_1 : Int := x.2.2.2.2.2.2.2.2.2.2.2
 let x2 : Int := (↑(List.length v10_3) : Int)
 cond (decide (v13 < x2)) (
  cond (o0_1 == 0) (
   chk ((decide (0 ≤ v13) && decide (v13 < ↑(List.length v10_3)))) (
    let x3 : Int := (List.getD v10_3 (Int.toNat v13) (af .jnode)).kind
    let x4 : Int := (List.getD v10_3 (Int.toNat v13) (af .jnode)).n
    let x5 : Bs := (List.getD v10_3 (Int.toNat v13) (af .jnode)).s
    let x6 : List ae := (List.getD v10_3 (Int.toNat v13) (af .jnode)).l
    let x7 : Bss := (List.getD v10_3 (Int.toNat v13) (af .jnode)).names
    cond (!(x3 == 6)) (
     ai (am o0_0 o0_1 2) (fun r5 =>
      some (.tup [], [some [.ul .atype r5.2.1, .int .i64 r5.2.2]]))) (
     ai (cZ o0_0 o0_1 x3 x4 x5 x6 x7 ([110, 97, 109, 101] : Bs) true) (fun r6 =>
      cond (r6.2.2 == 0) (
       ai (iP r6.1) (fun (r7 : Bool) =>
        cond (!r7) (
         ai (am r6.2.1 r6.2.2 6) (fun r8 =>
          q1 (v2, v3, v4, v10_0, v10_1, v10_2, v10_3, v10_4, v12, v13, x3, x4, x5, x6, x7, 0, r8.2.1, r8.2.2, r6.1, ([] : Bss), 0, false, 0, 0, ([] : Bs), ([] : List ae), ([] : Bss)))) (
         q1 (v2, v3, v4, v10_0, v10_1, v10_2, v10_3, v10_4, v12, v13, x3, x4, x5, x6, x7, 0, r6.2.1, r6.2.2, r6.1, ([] : Bss), 0, false, 0, 0, ([] : Bs), ([] : List ae), ([] : Bss))))) (
       q1 (v2, v3, v4, v10_0, v10_1, v10_2, v10_3, v10_4, v12, v13, x3, x4, x5, x6, x7, 0, r6.2.1, r6.2.2, r6.1, ([] : Bss), 0, false, 0, 0, ([] : Bs), ([] : List ae), ([] : Bss))))))) (
   cond (o0_1 == 0) (
    chk (decide (0 < List.length o0_0)) (
     chk ((decide (0 ≤ v2) && decide (v2 < ↑(List.length o0_0)))) (
      chk (decide ((Int.toNat v2) < List.length o0_0)) (
       let x30 : List ac := (List.set o0_0 (Int.toNat v2) (let e_ := List.getD o0_0 (Int.toNat v2) (af .atype); ⟨(e_).kind, (e_).name, (e_).aliases, (e_).items, (e_).syms, (e_).hasdef, (e_).df, (e_).size, v12, (e_).branches⟩))
       chk (Nat.beq (List.length o0_0) (List.length x30)) (
        some (.tup [], [some [.ul .atype x30, .int .i64 o0_1], none, none])))))) (
    some (.tup [], [some [.ul .atype o0_0, .int .i64 o0_1]])))) (
  cond (o0_1 == 0) (
   chk (decide (0 < List.length o0_0)) (
    chk ((decide (0 ≤ v2) && decide (v2 < ↑(List.length o0_0)))) (
     chk (decide ((Int.toNat v2) < List.length o0_0)) (
      let x31 : List ac := (List.set o0_0 (Int.toNat v2) (let e_ := List.getD o0_0 (Int.toNat v2) (af .atype); ⟨(e_).kind, (e_).name, (e_).aliases, (e_).items, (e_).syms, (e_).hasdef, (e_).df, (e_).size, v12, (e_).branches⟩))
      chk (Nat.beq (List.length o0_0) (List.length x31)) (
       some (.tup [], [some [.ul .atype x31, .int .i64 o0_1], none, none])))))) (
   some (.tup [], [some [.ul .atype o0_0, .int .i64 o0_1]])))
noncomputable def iT (N : Nat) (again0 : bG → Ro) (x : bG) : Ro := hJ N again0 (fun z => aB N (dE N again0) z) x
noncomputable def mo (N : Nat) (again0 : St → Ro) : List (Nat × (St → Ro)) := (aI ay N gz (cH (run ay N) again0) ++ (aI ay N gA (fin dP) ++ []))
theorem abR (N : Nat) : ∀ (again0 : St → Ro) (x : bG), iS N again0 (aF x) = iT N (fun y => again0 (aF y)) x := by
 intro again0 x
 have hX : ∀ C : Nat → St → Ro, bI C ay N gz (cH (bI C ay N) again0) (aF x) = hJ N (fun y => again0 (aF y)) (fun z => C 1000000 (bB z)) x := by
  intro C
  kernel_rfl
 have h : iS N again0 (aF x) = hJ N (fun y => again0 (aF y)) (fun z => aW N (fk N again0) (bB z)) x := (cA (C := ec (mo N again0)) (bL (aL (l := (mo N again0)) (by kernel_rfl))) (t9 (cL (f8 (bL (dz (aL (l := (mo N again0)) (by kernel_rfl)))) rfl))) _).trans ((hX _).trans (by kernel_rfl))
 have e1 : (fun z => aW N (fk N again0) (bB z)) = (fun z => aB N (dE N (fun y => again0 (aF y))) z) := funext fun z => aT (bB) (fk N again0) (dE N (fun y => again0 (aF y))) (abQ N again0) N z
 rw [h, e1]
 rfl
noncomputable def fU (N : Nat) (o0_0 : List ac) (o0_1 : Int) (p1_0 : Int) (p1_1 : Int) (p1_2 : Bs) (p1_3 : List ae) (p1_4 : Bss) (p2 : Int) (p3 : Bs) (p4 : Int) (q0 : bG → Ro) : Ro :=
 ai (co p1_0 p1_1 p1_2 p1_3 p1_4 ([102, 105, 101, 108, 100, 115] : Bs)) (fun r1 =>
  cond (!r1.2.2.2.2.2) (
   ai (am o0_0 o0_1 2) (fun r2 =>
    some (.tup [], [some [.ul .atype r2.2.1, .int .i64 r2.2.2]]))) (
   cond (!(r1.1 == 5)) (
    ai (am o0_0 o0_1 2) (fun r3 =>
     some (.tup [], [some [.ul .atype r3.2.1, .int .i64 r3.2.2]]))) (
    let x1 : Int := (↑(List.length r1.2.2.2.1) : Int)
    cond (decide (30 < x1)) (
     ai (am o0_0 o0_1 3) (fun r4 =>
      some (.tup [], [some [.ul .atype r4.2.1, .int .i64 r4.2.2]]))) (
     q0 (p2, p3, p4, r1.1, r1.2.1, r1.2.2.1, r1.2.2.2.1, r1.2.2.2.2.1, ([] : List ao), 0, o0_0, o0_1)))))
noncomputable def nk (N : Nat) (o0_0 : List ac) (o0_1 : Int) (p1_0 : Int) (p1_1 : Int) (p1_2 : Bs) (p1_3 : List ae) (p1_4 : Bss) (p2 : Int) (p3 : Bs) (p4 : Int) : Ro := fU N o0_0 o0_1 p1_0 p1_1 p1_2 p1_3 p1_4 p2 p3 p4 (fun z => aB N (iT N) z)
noncomputable def aiA (N : Nat) : List (Nat × (St → Ro)) := aI ay N nj (fin dP) ++ []
theorem aet (N : Nat) (o0_0 : List ac) (o0_1 : Int) (p1_0 : Int) (p1_1 : Int) (p1_2 : Bs) (p1_3 : List ae) (p1_4 : Bss) (p2 : Int) (p3 : Bs) (p4 : Int) : aE ay N 168 dP nj [.ptr 0 0, .agg [.int .i64 p1_0, .int .i64 p1_1, .str p1_2, .sl .jnode (.may false) p1_3, .sl .str (.may false) p1_4], .int .i64 p2, .str p3, .int .i64 p4] [some [.ul .atype o0_0, .int .i64 o0_1]] = nk N o0_0 o0_1 p1_0 p1_1 p1_2 p1_3 p1_4 p2 p3 p4 :=
 (bx (aiA N) (by kernel_rfl) rfl (fun C => fU N o0_0 o0_1 p1_0 p1_1 p1_2 p1_3 p1_4 p2 p3 p4 (fun z => C 1000002 (aF z))) (fun C => by kernel_rfl)).trans (Eq.trans (b := fU N o0_0 o0_1 p1_0 p1_1 p1_2 p1_3 p1_4 p2 p3 p4 (fun z => aW N (iS N) (aF z))) (by kernel_rfl) (congrArg (fU N o0_0 o0_1 p1_0 p1_1 p1_2 p1_3 p1_4 p2 p3 p4) (funext fun z => aT (aF) (iS N) (iT N) (abR N) N z)))
theorem aeu (N : Nat) (o0_0 : List ac) (o0_1 : Int) (p1_0 : Int) (p1_1 : Int) (p1_2 : Bs) (p1_3 : List ae) (p1_4 : Bss) (p2 : Int) (p3 : Bs) (p4 : Int) (h : Tot (nk N o0_0 o0_1 p1_0 p1_1 p1_2 p1_3 p1_4 p2 p3 p4) (fun z => ∃ (y0 : List ac) (y1 : Int) (rest : List an), z.1.dimR = .tup [] ∧ z.2 = some [.ul .atype y0, .int .i64 y1] :: rest ∧ da o0_0 o0_1 p1_0 p1_1 p1_2 p1_3 p1_4 p2 p3 p4 (y0, y1))) : ∃ r, gj o0_0 o0_1 p1_0 p1_1 p1_2 p1_3 p1_4 p2 p3 p4 r := by
 obtain ⟨⟨v, hp⟩, hz, y0, y1, rest, e1, e2, hq⟩ := h
 simp only at e1 e2
 subst e2
 exact ⟨(y0, y1), aP.dimR (FnC.objs (css := [[.ul .atype o0_0, .int .i64 o0_1]]) (css' := [[.ul .atype y0, .int .i64 y1]]) agO (aet N o0_0 o0_1 p1_0 p1_1 p1_2 p1_3 p1_4 p2 p3 p4) hz rfl) e1, hq⟩
noncomputable def bm : au := tab (P := Try.prog) [] [cd, mF, wC, qg, aj0, pk, ah9, afQ] [] [nW, av3]
noncomputable def aev : IR := (.cond (.t 34) (.reg [Mv 35 0, Pp (.call (some 36) 110 [(.t 35), (.c (.int .i64 2))])] []) .skip)
noncomputable def aew : IR := (.reg [Fa 37 2 12, Ld 38 1 false 37, Mv 3 38] [])
noncomputable def aex : IR := (.cond (.t 31) (.seq (.seq (.reg [Fa 32 0 12, Ld 33 1 false 32, Bc 34 .neq 33 4] []) aev) aew) .skip)
noncomputable def aey : IR := .ret
noncomputable def aez : IR := (.cond (.t 43) (.seq (.reg [Pp (.mov 10 (.c (.int .i64 0)))] []) aey) .skip)
noncomputable def aeA : IR := (.cond (.t 69) .skip (.exit 0))
noncomputable def aeB : IR := (.reg [Mv 70 17, Bc 71 .add 70 1, Mv 17 71] [])
noncomputable def aeC : IR := (.seq (.block 1 (.reg [Fa 72 2 14, ⟨none, .ld 73 1 false true (.t 72), some ([], [1])⟩, Mv 74 0, Mv 75 15, Mv 76 17, Pp (.ixa 77 .str (.t 75) (.t 76)), Ld 78 1 false 77, Mv 79 3, ⟨none, .call (some 80) 141 [(.t 74), (.t 78), (.t 79)], some ([], [0])⟩, Pp (.bsl 81 .str [(.t 80)] true), Pp (.app 82 .str (.tk 73) (.t 81)), Fa 83 2 14, ⟨none, .st none 1 (.t 83) (.tk 82), some ([], [1])⟩] [[], [0], [], [], [], [3, 4], [3, 4, 5], [], [2, 3, 4, 5, 6, 7], [2, 3, 4, 5, 6, 7, 8], [0, 1, 2, 3, 4, 5, 6, 7, 8, 9], [0, 1, 2, 3, 4, 5, 6, 7, 8, 9, 10], [0, 1, 2, 3, 4, 5, 6, 7, 8, 9, 10, 11]])) aeB)
noncomputable def iU : IR := (.seq (.seq (.reg [Mv 59 17, Mv 60 15, Pp (.lenl 61 (.t 60)), Bi 62 .lss 59 61, Mv 63 62, Pg (63, true) (.mov 64 (.t 0)), Pg (63, true) (.nck (some 65) (.t 64)), Pg (63, true) (.fad 66 1 (.t 65)), Pg (63, true) (.ld 67 1 false false (.t 66)), Pg (63, true) (.bin 68 .eql (.t 67) (.c (.int .i64 0))), Pa 69 63 68] []) aeA) aeC)
noncomputable def aeD : IR := (.block 0 (.loop [0, 2, 3, 4, 6, 14, 15, 17, 1000000] 2 iU))
noncomputable def abS : IR := (.cond (.t 98) (.reg [Mv 99 0, Pp (.call (some 100) 110 [(.t 99), (.c (.int .i64 5))])] []) .skip)
noncomputable def abT : IR := .ret
noncomputable def abU : IR := (.cond (.t 105) (.seq (.reg [Pp (.mov 10 (.c (.int .i64 0)))] []) abT) .skip)
noncomputable def abV : IR := .ret
noncomputable def abW : IR := (.cond (.t 121) (.seq (.reg [Mv 122 0, Pp (.call (some 123) 110 [(.t 122), (.c (.int .i64 2))]), Mv 10 123] []) abV) .skip)
noncomputable def abX : IR := .ret
noncomputable def abY : IR := (.cond (.t 131) (.seq (.reg [Mv 132 0, Pp (.call (some 133) 110 [(.t 132), (.c (.int .i64 6))]), Mv 10 133] []) abX) .skip)
noncomputable def abZ : IR := (.cond (.t 138) (.gh (.opn (.cell 0 0)) (.ghp (.cls (.cell 0 0)) (.reg [Mv 139 0, Nk 140 139, Fa 141 0 140, Fa 142 0 141, ⟨none, .ld 143 1 false false (.t 142), some ([0], [])⟩, Mv 144 20, Fa 145 1 21, Ld 146 1 false 145, Pp (.ixw 147 .atype (.t 143) (.t 144)), Pp (.fdw 148 7 (.t 147)), ⟨none, .stw none 1 (.t 148) (.t 146), some ([], [2])⟩] [[], [0], [0, 1], [0, 1, 2], [0, 1, 2, 3], [], [], [6], [0, 1, 2, 3, 4, 5, 6, 7], [0, 1, 2, 3, 4, 5, 6, 7, 8], [0, 1, 2, 3, 4, 5, 6, 7, 8, 9]]))) .skip)
noncomputable def ab0 : IR := (.seq (.reg [Mv 134 0, Nk 135 134, Fa 136 1 135, Pp (.ld 137 1 false false (.t 136)), Bc 138 .eql 137 0] []) abZ)
noncomputable def ab1 : IR := (.seq (.seq (.reg [Fa 124 1 21, Ld 125 1 false 124, Bc 126 .lss 125 0, Mv 127 126, Pg (127, false) (.fad 128 1 (.t 21)), Pg (127, false) (.lde 129 1 false (.t 128)), Pg (127, false) (.bin 130 .gtr (.t 129) (.c (.int .i64 5000))), Po 131 127 130] []) abY) ab0)
noncomputable def ab2 : IR := (.seq (.seq (.reg [Mv 115 22, Pp (.un 116 .not (.t 115)), Mv 117 116, Pg (117, false) (.fad 118 0 (.t 21)), Pg (117, false) (.lde 119 1 false (.t 118)), Pg (117, false) (.bin 120 .neq (.t 119) (.c (.int .i64 3))), Po 121 117 120] []) abW) ab1)
noncomputable def ab3 : IR := (.cond (.t 157) (.reg [Mv 159 0, Ld 160 5 true 6, Mv 161 20, Pp (.call (some 162) 145 [(.t 159), (.t 160), (.t 161)])] []) (.seq (.reg [Ld 111 5 true 6, Pp (.call (some 112) 113 [(.t 111), (.c (.str ([115, 105, 122, 101] : Bs)))]), Mv 110 112, Ex_ 113 0 110, Ex_ 114 1 110, Pp (.alr 21 5), Pp (.frz none 21 5 (.t 113)), Mv 22 114] []) ab2))
noncomputable def ab4 : IR := (.cond (.t 149) (.reg [Mv 151 0, Ld 152 5 true 6, Mv 153 20, Mv 154 3, Mv 155 4, Pp (.call (some 156) 144 [(.t 151), (.t 152), (.t 153), (.t 154), (.t 155)])] []) (.seq (.reg [Bc 158 .eql 109 10, Mv 157 158] []) ab3))
noncomputable def ab5 : IR := (.block 2 (.seq (.reg [Bc 150 .eql 109 9, Mv 149 150] []) ab4))
noncomputable def ab6 : IR := .ret
noncomputable def ab7 : IR := (.seq (.reg [Mv 163 20, Mv 10 163] []) ab6)
noncomputable def ab8 : IR := (.seq (.seq (.reg [Mv 109 2] []) ab5) ab7)
noncomputable def ab9 : IR := (.seq (.reg [Mv 106 0, Pp (.ld 107 10 true false (.t 14)), Pp (.call (some 108) 116 [(.t 106), (.t 107)]), Mv 20 108] []) ab8)
noncomputable def rD : IR := (.seq (.seq (.reg [Mv 101 0, Nk 102 101, Fa 103 1 102, Pp (.ld 104 1 false false (.t 103)), Bc 105 .neq 104 0] []) abU) ab9)
noncomputable def aca : IR := (.cut [0, 2, 3, 4, 6, 14, 1000001] 2 rD)
noncomputable def acb : IR := (.seq (.seq (.reg [Mv 91 0, Nk 92 91, Fa 93 1 92, Pp (.ld 94 1 false false (.t 93)), Bc 95 .eql 94 0, Mv 96 95, Pg (96, true) (.mov 97 (.t 19)), Pa 98 96 97] []) abS) aca)
noncomputable def lw : IR := (.seq (.reg [Mv 85 0, Fa 86 1 14, Pp (.ld 87 1 false false (.t 86)), Pp (.call (some 88) 138 [(.t 85), (.t 87)]), Mv 84 88, Ex_ 89 0 84, Ex_ 90 1 84, Mv 18 89, Mv 19 90] []) acb)
noncomputable def acc : IR := (.seq (.seq (.reg [Pp (.mov 17 (.c (.int .i64 0)))] []) aeD) lw)
noncomputable def acd : IR := (.seq (.reg [Mv 54 0, Ld 55 5 true 6, Pp (.call (some 56) 143 [(.t 54), (.t 55), (.c (.str ([97, 108, 105, 97, 115, 101, 115] : Bs)))]), Mv 53 56, Ex_ 57 0 53, Ex_ 58 1 53, Mv 15 57, Mv 16 58] []) acc)
noncomputable def ace : IR := (.seq (.reg [Fa 50 1 14, Pp (.ld 51 1 false false (.t 50)), Pp (.call (some 52) 142 [(.t 51)]), Mv 3 52] []) acd)
noncomputable def acf : IR := (.seq (.reg [Mv 44 2, Mv 45 0, Mv 46 11, Mv 47 3, Pp (.call (some 48) 141 [(.t 45), (.t 46), (.t 47)]), Pp (.bld 49 [.int .i64 0, .str ([] : Bs), .sl .str .own ([] : Bss), .int .i64 0, .sl .str .own ([] : Bss), .bool false, .str ([] : Bs), .int .i64 0, .sl .afield .own ([] : List ao), .sl (.num .i64) .own ([] : List Int)] [(0, 1, (.t 44)), (1, 1, (.t 48))]), Pp (.new 14 [.int .i64 0, .str ([] : Bs), .sl .str .own ([] : Bss), .int .i64 0, .sl .str .own ([] : Bss), .bool false, .str ([] : Bs), .int .i64 0, .sl .afield .own ([] : List ao), .sl (.num .i64) .own ([] : List Int)]), Pp (.st none 10 (.t 14) (.t 49))] []) ace)
noncomputable def hM : IR := (.seq (.seq (.reg [Mv 39 0, Nk 40 39, Fa 41 1 40, Pp (.ld 42 1 false false (.t 41)), Bc 43 .neq 42 0] []) aez) acf)
noncomputable def acg : IR := (.cut [0, 2, 3, 4, 6, 11, 1000002] 1 hM)
noncomputable def ach : IR := (.seq (.seq (.reg [Mv 31 13] []) aex) acg)
noncomputable def aci : IR := (.seq (.reg [Ld 27 5 true 6, Pp (.call (some 28) 113 [(.t 27), (.c (.str ([110, 97, 109, 101, 115, 112, 97, 99, 101] : Bs)))]), Mv 26 28, Ex_ 29 0 26, Ex_ 30 1 26, Pp (.alr 12 5), Pp (.frz none 12 5 (.t 29)), Mv 13 30] []) ach)
noncomputable def acj : IR := (.seq (.reg [Mv 23 0, Ld 24 5 true 6, Pp (.call (some 25) 140 [(.t 23), (.t 24), (.c (.str ([110, 97, 109, 101] : Bs))), (.c (.bool true))]), Mv 11 25] []) aci)
noncomputable def oi : IR := (.seq (.reg [Pp (.boxe 6 (.t 1)), Pp (.mov 10 (.c (.int .i64 0)))] []) acj)
noncomputable def cb : List RV := [.t 10]
theorem aiB : FnC Try.prog bm [110, 116, 138, 140, 141, 143, 144, 145, 2000110, 2000116, 2000138, 2000140, 2000141, 2000143, 2000144, 2000145] 1 u9 Try.f114 oi cb := fnC (by kernel_rfl) Try.func114 (by kernel_rfl) (by kernel_rfl) (by decide)
abbrev fV : Type := (Int × Bs × Int × Int × Int × Bs × List ae × Bss × Bs × List ac × Int)
noncomputable def fm (x : fV) : St := { env := (.ptr 0 0 :: .undef :: .int .i64 x.1 :: .str x.2.1 :: .int .i64 x.2.2.1 :: .undef :: .ea [.int .i64 x.2.2.2.1, .int .i64 x.2.2.2.2.1, .str x.2.2.2.2.2.1, .sl .jnode (.may false) x.2.2.2.2.2.2.1, .sl .str (.may false) x.2.2.2.2.2.2.2.1] :: (U 4 (.str x.2.2.2.2.2.2.2.2.1 :: (U 152 [])))), hp := [some [.ul .atype x.2.2.2.2.2.2.2.2.2.1, .int .i64 x.2.2.2.2.2.2.2.2.2.2]] }
noncomputable def nl (R : IR → (Ex → St → Ro) → St → Ro) (again1 : St → Ro) : Ex → St → Ro := (br again1 [0, 2, 3, 4, 6, 14, 15, 17, 1000000] 2 (aD 0 (bo (R lw) (fin cb))))
abbrev cW : Type := (Int × Bs × Int × Int × Int × Bs × List ae × Bss × Bss × Int × List ac × Int × Int × Bs × Bss × Int × Bss × Bool × Bs × Int × List ao × List Int)
noncomputable def bH (x : cW) : St := { env := (.ptr 0 0 :: .undef :: .int .i64 x.1 :: .str x.2.1 :: .int .i64 x.2.2.1 :: .undef :: .ea [.int .i64 x.2.2.2.1, .int .i64 x.2.2.2.2.1, .str x.2.2.2.2.2.1, .sl .jnode (.may false) x.2.2.2.2.2.2.1, .sl .str (.may false) x.2.2.2.2.2.2.2.1] :: (U 7 (.ptr 1 0 :: .sl .str (.may false) x.2.2.2.2.2.2.2.2.1 :: .undef :: .int .i64 x.2.2.2.2.2.2.2.2.2.1 :: (U 146 [])))), hp := [some [.ul .atype x.2.2.2.2.2.2.2.2.2.2.1, .int .i64 x.2.2.2.2.2.2.2.2.2.2.2.1], some [.int .i64 x.2.2.2.2.2.2.2.2.2.2.2.2.1, .str x.2.2.2.2.2.2.2.2.2.2.2.2.2.1, .sl .str .own x.2.2.2.2.2.2.2.2.2.2.2.2.2.2.1, .int .i64 x.2.2.2.2.2.2.2.2.2.2.2.2.2.2.2.1, .sl .str .own x.2.2.2.2.2.2.2.2.2.2.2.2.2.2.2.2.1, .bool x.2.2.2.2.2.2.2.2.2.2.2.2.2.2.2.2.2.1, .str x.2.2.2.2.2.2.2.2.2.2.2.2.2.2.2.2.2.2.1, .int .i64 x.2.2.2.2.2.2.2.2.2.2.2.2.2.2.2.2.2.2.2.1, .sl .afield .own x.2.2.2.2.2.2.2.2.2.2.2.2.2.2.2.2.2.2.2.2.1, .sl (.num .i64) .own x.2.2.2.2.2.2.2.2.2.2.2.2.2.2.2.2.2.2.2.2.2]] }
abbrev jE : Type := (Int × Bs × Int × Int × Int × Bs × List ae × Bss × List ac × Int × Int × Bs × Bss × Int × Bss × Bool × Bs × Int × List ao × List Int)
noncomputable def iV (x : jE) : St := { env := (.ptr 0 0 :: .undef :: .int .i64 x.1 :: .str x.2.1 :: .int .i64 x.2.2.1 :: .undef :: .ea [.int .i64 x.2.2.2.1, .int .i64 x.2.2.2.2.1, .str x.2.2.2.2.2.1, .sl .jnode (.may false) x.2.2.2.2.2.2.1, .sl .str (.may false) x.2.2.2.2.2.2.2.1] :: (U 7 (.ptr 1 0 :: (U 149 [])))), hp := [some [.ul .atype x.2.2.2.2.2.2.2.2.1, .int .i64 x.2.2.2.2.2.2.2.2.2.1], some [.int .i64 x.2.2.2.2.2.2.2.2.2.2.1, .str x.2.2.2.2.2.2.2.2.2.2.2.1, .sl .str .own x.2.2.2.2.2.2.2.2.2.2.2.2.1, .int .i64 x.2.2.2.2.2.2.2.2.2.2.2.2.2.1, .sl .str .own x.2.2.2.2.2.2.2.2.2.2.2.2.2.2.1, .bool x.2.2.2.2.2.2.2.2.2.2.2.2.2.2.2.1, .str x.2.2.2.2.2.2.2.2.2.2.2.2.2.2.2.2.1, .int .i64 x.2.2.2.2.2.2.2.2.2.2.2.2.2.2.2.2.2.1, .sl .afield .own x.2.2.2.2.2.2.2.2.2.2.2.2.2.2.2.2.2.2.1, .sl (.num .i64) .own x.2.2.2.2.2.2.2.2.2.2.2.2.2.2.2.2.2.2.2]] }
noncomputable def no (N : Nat) : St → Ro := fun s => run bm N rD (fin cb) s
noncomputable def dQ (N : Nat) (x : jE) : Ro :=
 let v2 : Int := x.1
 let v3 : Bs := x.2.1
 let v4 : Int := x.2.2.1
 let v6_0 : Int := x.2.2.2.1
 let v6_1 : Int := x.2.2.2.2.1
 let v6_2 : Bs := x.2.2.2.2.2.1
 let v6_3 : List ae := x.2.2.2.2.2.2.1
 let v6_4 : Bss := x.2.2.2.2.2.2.2.1
 let o0_0 : List ac := x.2.2.2.2.2.2.2.2.1
 let o0_1 : Int := x.2.2.2.2.2.2.2.2.2.1
 let o1_0 : Int := x.2.2.2.2.2.2.2.2.2.2.1
 let o1_1 : Bs := x.2.2.2.2.2.2.2.2.2.2.2.1
 let o1_2 : Bss := x.2.2.2.2.2.2.2.2.2.2.2.2.1
 let o1_3 : Int := x.2.2.2.2.2.2.2.2.2.2.2.2.2.1
 let o1_4 : Bss := x.2.2.2.2.2.2.2.2.2.2.2.2.2.2.1
 let o1_5 : Bool := x.2.2.2.2.2.2.2.2.2.2.2.2.2.2.2.1
 let o1_6 : Bs := x.2.2.2.2.2.2.2.2.2.2.2.2.2.2.2.2.1
 let o1_7 : Int := x.2.2.2.2.2.2.2.2.2.2.2.2.2.2.2.2.2.1
 let o1_8 : List ao := x.2.2.2.2.2.2.2.2.2.2.2.2.2.2.2.2.2.2.1
 let o1_9 : List Int := x.2.2.2.2.2.2.2.2.2.2.2.2.2.2.2.2.2.2.2
 cond (!(o0_1 == 0)) (
  some (.int .i64 0, [some [.ul .atype o0_0, .int .i64 o0_1], some [.int .i64 o1_0, .str o1_1, .sl .str .own o1_2, .int .i64 o1_3, .sl .str .own o1_4, .bool o1_5, .str o1_6, .int .i64 o1_7, .sl .afield .own o1_8, .sl (.num .i64) .own o1_9]])) (
  ai (dH o0_0 o0_1 o1_0 o1_1 o1_2 o1_3 o1_4 o1_5 o1_6 o1_7 o1_8 o1_9) (fun r10 =>
   cond (v2 == 9) (
    ai (gj r10.2.1 r10.2.2 v6_0 v6_1 v6_2 v6_3 v6_4 r10.1 v3 v4) (fun r11 =>
     some (.int .i64 r10.1, [some [.ul .atype r11.1, .int .i64 r11.2], some [.int .i64 o1_0, .str o1_1, .sl .str .own o1_2, .int .i64 o1_3, .sl .str .own o1_4, .bool o1_5, .str o1_6, .int .i64 o1_7, .sl .afield .own o1_8, .sl (.num .i64) .own o1_9]]))) (
    cond (v2 == 10) (
     ai (fL r10.2.1 r10.2.2 v6_0 v6_1 v6_2 v6_3 v6_4 r10.1) (fun r12 =>
      some (.int .i64 r10.1, [some [.ul .atype r12.1, .int .i64 r12.2], some [.int .i64 o1_0, .str o1_1, .sl .str .own o1_2, .int .i64 o1_3, .sl .str .own o1_4, .bool o1_5, .str o1_6, .int .i64 o1_7, .sl .afield .own o1_8, .sl (.num .i64) .own o1_9]]))) (
     ai (co v6_0 v6_1 v6_2 v6_3 v6_4 ([115, 105, 122, 101] : Bs)) (fun r13 =>
      cond (!r13.2.2.2.2.2) (
       ai (am r10.2.1 r10.2.2 2) (fun r14 =>
        some (.int .i64 r14.1, [some [.ul .atype r14.2.1, .int .i64 r14.2.2], some [.int .i64 o1_0, .str o1_1, .sl .str .own o1_2, .int .i64 o1_3, .sl .str .own o1_4, .bool o1_5, .str o1_6, .int .i64 o1_7, .sl .afield .own o1_8, .sl (.num .i64) .own o1_9]]))) (
       cond (!(r13.1 == 3)) (
        ai (am r10.2.1 r10.2.2 2) (fun r15 =>
         some (.int .i64 r15.1, [some [.ul .atype r15.2.1, .int .i64 r15.2.2], some [.int .i64 o1_0, .str o1_1, .sl .str .own o1_2, .int .i64 o1_3, .sl .str .own o1_4, .bool o1_5, .str o1_6, .int .i64 o1_7, .sl .afield .own o1_8, .sl (.num .i64) .own o1_9]]))) (
        cond (decide (r13.2.1 < 0)) (
         ai (am r10.2.1 r10.2.2 6) (fun r16 =>
          some (.int .i64 r16.1, [some [.ul .atype r16.2.1, .int .i64 r16.2.2], some [.int .i64 o1_0, .str o1_1, .sl .str .own o1_2, .int .i64 o1_3, .sl .str .own o1_4, .bool o1_5, .str o1_6, .int .i64 o1_7, .sl .afield .own o1_8, .sl (.num .i64) .own o1_9]]))) (
         cond (decide (5000 < r13.2.1)) (
          ai (am r10.2.1 r10.2.2 6) (fun r17 =>
           some (.int .i64 r17.1, [some [.ul .atype r17.2.1, .int .i64 r17.2.2], some [.int .i64 o1_0, .str o1_1, .sl .str .own o1_2, .int .i64 o1_3, .sl .str .own o1_4, .bool o1_5, .str o1_6, .int .i64 o1_7, .sl .afield .own o1_8, .sl (.num .i64) .own o1_9]]))) (
          cond (r10.2.2 == 0) (
           chk (decide (0 < List.length r10.2.1)) (
            chk ((decide (0 ≤ r10.1) && decide (r10.1 < ↑(List.length r10.2.1)))) (
             chk (decide ((Int.toNat r10.1) < List.length r10.2.1)) (
              let x5 : List ac := (List.set r10.2.1 (Int.toNat r10.1) (let e_ := List.getD r10.2.1 (Int.toNat r10.1) (af .atype); ⟨(e_).kind, (e_).name, (e_).aliases, (e_).items, (e_).syms, (e_).hasdef, (e_).df, r13.2.1, (e_).fields, (e_).branches⟩))
              chk (Nat.beq (List.length r10.2.1) (List.length x5)) (
               some (.int .i64 r10.1, [some [.ul .atype x5, .int .i64 r10.2.2], some [.int .i64 o1_0, .str o1_1, .sl .str .own o1_2, .int .i64 o1_3, .sl .str .own o1_4, .bool o1_5, .str o1_6, .int .i64 o1_7, .sl .afield .own o1_8, .sl (.num .i64) .own o1_9], none, none])))))) (
           some (.int .i64 r10.1, [some [.ul .atype r10.2.1, .int .i64 r10.2.2], some [.int .i64 o1_0, .str o1_1, .sl .str .own o1_2, .int .i64 o1_3, .sl .str .own o1_4, .bool o1_5, .str o1_6, .int .i64 o1_7, .sl .afield .own o1_8, .sl (.num .i64) .own o1_9]])))))))))))
theorem aeE (N : Nat) : ∀ (x : jE), no N (iV x) = dQ N x := by
 intro x
 kernel_rfl
noncomputable def fW (N : Nat) : (St → Ro) → St → Ro := fun again1 s => run bm N iU (nl (run bm N) again1) s
noncomputable def iW (N : Nat) (again1 : cW → Ro) (q2 : jE → Ro) (x : cW) : Ro :=
 let v2 : Int := x.1
 let v3 : Bs := x.2.1
 let v4 : Int := x.2.2.1
 let v6_0 : Int := x.2.2.2.1
 let v6_1 : Int := x.2.2.2.2.1
 let v6_2 : Bs := x.2.2.2.2.2.1
 let v6_3 : List ae := x.2.2.2.2.2.2.1
 let v6_4 : Bss := x.2.2.2.2.2.2.2.1
 let v15 : Bss := x.2.2.2.2.2.2.2.2.1
 let v17 : Int := x.2.2.2.2.2.2.2.2.2.1
 let o0_0 : List ac := x.2.2.2.2.2.2.2.2.2.2.1
 let o0_1 : Int := x.2.2.2.2.2.2.2.2.2.2.2.1
 let o1_0 : Int := x.2.2.2.2.2.2.2.2.2.2.2.2.1
 let o1_1 : Bs := x.2.2.2.2.2.2.2.2.2.2.2.2.2.1
 let o1_2 : Bss := x.2.2.2.2.2.2.2.2.2.2.2.2.2.2.1
 let o1_3 : Int := x.2.2.2.2.2.2.2.2.2.2.2.2.2.2.2.1
 let o1_4 : Bss := x.2.2.2.2.2.2.2.2.2.2.2.2.2.2.2.2.1
 let o1_5 : Bool := x.2.2.2.2.2.2.2.2.2.2.2.2.2.2.2.2.2.1
 let o1_6 : Bs := x.2.2.2.2.2.2.2.2.2.2.2.2.2.2.2.2.2.2.1
 let o1_7 : Int := x.2.2.2.2.2.2.2.2.2.2.2.2.2.2.2.2.2.2.2.1
 let o1_8 : List ao := x.2.2.2.2.2.2.2.2.2.2.2.2.2.2.2.2.2.2.2.2.1
 let o1_9 : List Int := x.2.2.2.2.2.2.2.2.2.2.2.2.2.2.2.2.2.2.2.2.2
 let x1 : Int := (↑(List.length v15) : Int)
 cond (decide (v17 < x1)) (
  cond (o0_1 == 0) (
   chk ((decide (0 ≤ v17) && decide (v17 < ↑(List.length v15)))) (
    let x2 : Bs := List.getD v15 (Int.toNat v17) (af .str)
    ai (eY o0_0 o0_1 x2 v3) (fun r7 =>
     chk (decide ((List.length o1_2 + List.length ([r7.1] : Bss)) * 16 ≤ 140737488355328)) (
      let x3 : Bss := (o1_2 ++ ([r7.1] : Bss))
      let x4 : Int := (IntKind.wrap .i64 (v17 + 1))
      again1 (v2, v3, v4, v6_0, v6_1, v6_2, v6_3, v6_4, v15, x4, r7.2.1, r7.2.2, o1_0, o1_1, x3, o1_3, o1_4, o1_5, o1_6, o1_7, o1_8, o1_9))))) (
   ai (ce o0_0 o0_1 o1_1) (fun r8 =>
    cond (r8.2.2.2 == 0) (
     cond r8.2.1 (
      ai (am r8.2.2.1 r8.2.2.2 5) (fun r9 =>
       q2 (v2, v3, v4, v6_0, v6_1, v6_2, v6_3, v6_4, r9.2.1, r9.2.2, o1_0, o1_1, o1_2, o1_3, o1_4, o1_5, o1_6, o1_7, o1_8, o1_9))) (
      q2 (v2, v3, v4, v6_0, v6_1, v6_2, v6_3, v6_4, r8.2.2.1, r8.2.2.2, o1_0, o1_1, o1_2, o1_3, o1_4, o1_5, o1_6, o1_7, o1_8, o1_9))) (
     q2 (v2, v3, v4, v6_0, v6_1, v6_2, v6_3, v6_4, r8.2.2.1, r8.2.2.2, o1_0, o1_1, o1_2, o1_3, o1_4, o1_5, o1_6, o1_7, o1_8, o1_9))))) (
  ai (ce o0_0 o0_1 o1_1) (fun r18 =>
   cond (r18.2.2.2 == 0) (
    cond r18.2.1 (
     ai (am r18.2.2.1 r18.2.2.2 5) (fun r19 =>
      q2 (v2, v3, v4, v6_0, v6_1, v6_2, v6_3, v6_4, r19.2.1, r19.2.2, o1_0, o1_1, o1_2, o1_3, o1_4, o1_5, o1_6, o1_7, o1_8, o1_9))) (
     q2 (v2, v3, v4, v6_0, v6_1, v6_2, v6_3, v6_4, r18.2.2.1, r18.2.2.2, o1_0, o1_1, o1_2, o1_3, o1_4, o1_5, o1_6, o1_7, o1_8, o1_9))) (
    q2 (v2, v3, v4, v6_0, v6_1, v6_2, v6_3, v6_4, r18.2.2.1, r18.2.2.2, o1_0, o1_1, o1_2, o1_3, o1_4, o1_5, o1_6, o1_7, o1_8, o1_9))))
noncomputable def dR (N : Nat) (again1 : cW → Ro) (x : cW) : Ro := iW N again1 (fun z => dQ N z) x
noncomputable def np (N : Nat) (again1 : St → Ro) : List (Nat × (St → Ro)) := (aI bm N iU (nl (run bm N) again1) ++ (aI bm N lw (fin cb) ++ []))
theorem aeF (N : Nat) : ∀ (again1 : St → Ro) (x : cW), fW N again1 (bH x) = dR N (fun y => again1 (bH y)) x := by
 intro again1 x
 have hX : ∀ C : Nat → St → Ro, bI C bm N iU (nl (bI C bm N) again1) (bH x) = iW N (fun y => again1 (bH y)) (fun z => C 1000001 (iV z)) x := by
  intro C
  kernel_rfl
 have h : fW N again1 (bH x) = iW N (fun y => again1 (bH y)) (fun z => no N (iV z)) x := (cA (C := ec (np N again1)) (bL (aL (l := (np N again1)) (by kernel_rfl))) (t9 (cL (f8 (bL (dz (aL (l := (np N again1)) (by kernel_rfl)))) rfl))) _).trans ((hX _).trans (by kernel_rfl))
 have e2 : (fun z => no N (iV z)) = (fun z => dQ N z) := funext fun z => aeE N z
 rw [h, e2]
 rfl
noncomputable def nq (N : Nat) : St → Ro := fun s => run bm N hM (fin cb) s
noncomputable def iX (N : Nat) (q1 : cW → Ro) (x : fV) : Ro :=
 let v2 : Int := x.1
 let v3 : Bs := x.2.1
 let v4 : Int := x.2.2.1
 let v6_0 : Int := x.2.2.2.1
 let v6_1 : Int := x.2.2.2.2.1
 let v6_2 : Bs := x.2.2.2.2.2.1
 let v6_3 : List ae := x.2.2.2.2.2.2.1
 let v6_4 : Bss := x.2.2.2.2.2.2.2.1
 let v11 : Bs := x.2.2.2.2.2.2.2.2.1
 let o0_0 : List ac := x.2.2.2.2.2.2.2.2.2.1
 let o0_1 : Int := x.2.2.2.2.2.2.2.2.2.2
 cond (!(o0_1 == 0)) (
  some (.int .i64 0, [some [.ul .atype o0_0, .int .i64 o0_1]])) (
  ai (eY o0_0 o0_1 v11 v3) (fun r4 =>
   ai (mV r4.1) (fun (r5 : Bs) =>
    ai (cp r4.2.1 r4.2.2 v6_0 v6_1 v6_2 v6_3 v6_4 ([97, 108, 105, 97, 115, 101, 115] : Bs)) (fun r6 =>
     q1 (v2, r5, v4, v6_0, v6_1, v6_2, v6_3, v6_4, r6.1, 0, r6.2.2.1, r6.2.2.2, v2, r4.1, ([] : Bss), 0, ([] : Bss), false, ([] : Bs), 0, ([] : List ao), ([] : List Int))))))
noncomputable def jF (N : Nat) (x : fV) : Ro := iX N (fun z => aB N (dR N) z) x
noncomputable def tE (N : Nat) : List (Nat × (St → Ro)) := (aI bm N hM (fin cb) ++ [])
theorem aeG (N : Nat) : ∀ (x : fV), nq N (fm x) = jF N x := by
 intro x
 have hX : ∀ C : Nat → St → Ro, bI C bm N hM (fin cb) (fm x) = iX N (fun z => C 1000000 (bH z)) x := by
  intro C
  kernel_rfl
 have h : nq N (fm x) = iX N (fun z => aW N (fW N) (bH z)) x := (cA (C := ec (tE N)) (bL (aL (l := (tE N)) (by kernel_rfl))) rfl _).trans ((hX _).trans (by kernel_rfl))
 have e1 : (fun z => aW N (fW N) (bH z)) = (fun z => aB N (dR N) z) := funext fun z => aT (bH) (fW N) (dR N) (aeF N) N z
 rw [h, e1]
 rfl
noncomputable def gB (N : Nat) (o0_0 : List ac) (o0_1 : Int) (p1_0 : Int) (p1_1 : Int) (p1_2 : Bs) (p1_3 : List ae) (p1_4 : Bss) (p2 : Int) (p3 : Bs) (p4 : Int) (q0 : fV → Ro) : Ro :=
 ai (cZ o0_0 o0_1 p1_0 p1_1 p1_2 p1_3 p1_4 ([110, 97, 109, 101] : Bs) true) (fun r1 =>
  ai (co p1_0 p1_1 p1_2 p1_3 p1_4 ([110, 97, 109, 101, 115, 112, 97, 99, 101] : Bs)) (fun r2 =>
   cond r2.2.2.2.2.2 (
    cond (!(r2.1 == 4)) (
     ai (am r1.2.1 r1.2.2 2) (fun r3 =>
      q0 (p2, r2.2.2.1, p4, p1_0, p1_1, p1_2, p1_3, p1_4, r1.1, r3.2.1, r3.2.2))) (
     q0 (p2, r2.2.2.1, p4, p1_0, p1_1, p1_2, p1_3, p1_4, r1.1, r1.2.1, r1.2.2))) (
    q0 (p2, p3, p4, p1_0, p1_1, p1_2, p1_3, p1_4, r1.1, r1.2.1, r1.2.2))))
noncomputable def oj (N : Nat) (o0_0 : List ac) (o0_1 : Int) (p1_0 : Int) (p1_1 : Int) (p1_2 : Bs) (p1_3 : List ae) (p1_4 : Bss) (p2 : Int) (p3 : Bs) (p4 : Int) : Ro := gB N o0_0 o0_1 p1_0 p1_1 p1_2 p1_3 p1_4 p2 p3 p4 (fun z => jF N z)
noncomputable def akj (N : Nat) : List (Nat × (St → Ro)) := aI bm N oi (fin cb) ++ []
theorem agP (N : Nat) (o0_0 : List ac) (o0_1 : Int) (p1_0 : Int) (p1_1 : Int) (p1_2 : Bs) (p1_3 : List ae) (p1_4 : Bss) (p2 : Int) (p3 : Bs) (p4 : Int) : aE bm N 164 cb oi [.ptr 0 0, .agg [.int .i64 p1_0, .int .i64 p1_1, .str p1_2, .sl .jnode (.may false) p1_3, .sl .str (.may false) p1_4], .int .i64 p2, .str p3, .int .i64 p4] [some [.ul .atype o0_0, .int .i64 o0_1]] = oj N o0_0 o0_1 p1_0 p1_1 p1_2 p1_3 p1_4 p2 p3 p4 :=
 (bx (akj N) (by kernel_rfl) rfl (fun C => gB N o0_0 o0_1 p1_0 p1_1 p1_2 p1_3 p1_4 p2 p3 p4 (fun z => C 1000002 (fm z))) (fun C => by kernel_rfl)).trans (Eq.trans (b := gB N o0_0 o0_1 p1_0 p1_1 p1_2 p1_3 p1_4 p2 p3 p4 (fun z => nq N (fm z))) (by kernel_rfl) (congrArg (gB N o0_0 o0_1 p1_0 p1_1 p1_2 p1_3 p1_4 p2 p3 p4) (funext fun z => aeG N z)))
theorem agQ (N : Nat) (o0_0 : List ac) (o0_1 : Int) (p1_0 : Int) (p1_1 : Int) (p1_2 : Bs) (p1_3 : List ae) (p1_4 : Bss) (p2 : Int) (p3 : Bs) (p4 : Int) (h : Tot (oj N o0_0 o0_1 p1_0 p1_1 p1_2 p1_3 p1_4 p2 p3 p4) (fun z => ∃ (y0 : Int) (y1 : List ac) (y2 : Int) (rest : List an), z.1.dimR = .int .i64 y0 ∧ z.2 = some [.ul .atype y1, .int .i64 y2] :: rest ∧ fe o0_0 o0_1 p1_0 p1_1 p1_2 p1_3 p1_4 p2 p3 p4 (y0, y1, y2))) : ∃ r, ik o0_0 o0_1 p1_0 p1_1 p1_2 p1_3 p1_4 p2 p3 p4 r := by
 obtain ⟨⟨v, hp⟩, hz, y0, y1, y2, rest, e1, e2, hq⟩ := h
 simp only at e1 e2
 subst e2
 exact ⟨(y0, y1, y2), aP.dimR (FnC.objs (css := [[.ul .atype o0_0, .int .i64 o0_1]]) (css' := [[.ul .atype y1, .int .i64 y2]]) aiB (agP N o0_0 o0_1 p1_0 p1_1 p1_2 p1_3 p1_4 p2 p3 p4) hz rfl) e1, hq⟩
noncomputable def az : au := tab (P := Try.prog) [] [lP, cd, aly, ajW, ajY, mF] [] [nW, alz]
noncomputable def agR : IR := .ret
noncomputable def agS : IR := (.cond (.t 20) (.seq (.reg [Pp (.mov 8 (.c (.int .i64 0)))] []) agR) .skip)
noncomputable def agT : IR := .ret
noncomputable def agU : IR := (.cond (.t 22) (.seq (.reg [Mv 23 0, Pp (.call (some 24) 110 [(.t 23), (.c (.int .i64 3))]), Mv 8 24] []) agT) .skip)
noncomputable def agV : IR := .ret
noncomputable def agW : IR := .ret
noncomputable def agX : IR := .ret
noncomputable def agY : IR := (.cond (.t 49) (.seq (.reg [Mv 50 0, Pp (.call (some 51) 110 [(.t 50), (.c (.int .i64 2))]), Mv 8 51] []) agX) .skip)
noncomputable def agZ : IR := .ret
noncomputable def ag0 : IR := (.cond (.t 54) (.seq (.reg [Mv 55 0, Ld 56 5 true 9, Mv 57 2, Mv 58 3, Bc 59 .add 58 1, Pp (.call (some 60) 72 [(.t 55), (.t 56), (.t 57), (.t 59)]), Mv 8 60] []) agZ) .skip)
noncomputable def aeH : IR := (.cond (.t 63) .skip (.reg [Pp (.bin 66 .eql (.t 62) (.c (.str ([102, 105, 120, 101, 100] : Bs)))), Mv 63 66] []))
noncomputable def aeI : IR := (.cond (.t 63) .skip (.seq (.reg [Pp (.bin 65 .eql (.t 62) (.c (.str ([101, 110, 117, 109] : Bs)))), Mv 63 65] []) aeH))
noncomputable def aeJ : IR := .ret
noncomputable def aeK : IR := (.cond (.t 75) .skip (.reg [Pp (.bin 77 .eql (.t 62) (.c (.str ([109, 97, 112] : Bs)))), Mv 75 77] []))
noncomputable def aeL : IR := (.cond (.t 86) (.reg [Pp (.mov 12 (.c (.str ([118, 97, 108, 117, 101, 115] : Bs))))] []) .skip)
noncomputable def aeM : IR := .ret
noncomputable def aeN : IR := (.cond (.t 94) (.seq (.reg [Mv 95 0, Pp (.call (some 96) 110 [(.t 95), (.c (.int .i64 2))]), Mv 8 96] []) aeM) .skip)
noncomputable def aeO : IR := (.cond (.t 107) (.gh (.opn (.cell 0 0)) (.ghp (.cls (.cell 0 0)) (.reg [Mv 108 0, Nk 109 108, Fa 110 0 109, Fa 111 0 110, Pp (.ld 112 1 false false (.t 111)), Mv 113 11, Mv 114 15, Pp (.ixw 115 .atype (.t 112) (.t 113)), Pp (.fdw 116 3 (.t 115)), Pp (.stw none 1 (.t 116) (.t 114))] []))) .skip)
noncomputable def aeP : IR := .ret
noncomputable def aeQ : IR := (.seq (.reg [Mv 117 11, Mv 8 117] []) aeP)
noncomputable def aeR : IR := (.seq (.seq (.reg [Mv 103 0, Nk 104 103, Fa 105 1 104, Pp (.ld 106 1 false false (.t 105)), Bc 107 .eql 106 0] []) aeO) aeQ)
noncomputable def aeS : IR := (.seq (.reg [Mv 97 0, Ld 98 5 true 13, Mv 99 2, Mv 100 3, Bc 101 .add 100 1, Pp (.call (some 102) 72 [(.t 97), (.t 98), (.t 99), (.t 101)]), Mv 15 102] []) aeR)
noncomputable def aeT : IR := (.seq (.seq (.reg [Mv 93 14, Pp (.un 94 .not (.t 93))] []) aeN) aeS)
noncomputable def sh : IR := (.seq (.reg [Ld 88 5 true 5, Mv 89 12, Pp (.call (some 90) 113 [(.t 88), (.t 89)]), Mv 87 90, Ex_ 91 0 87, Ex_ 92 1 87, Pp (.alr 13 5), Pp (.frz none 13 5 (.t 91)), Mv 14 92] []) aeT)
noncomputable def aeU : IR := (.cut [0, 2, 3, 5, 11, 12, 1000000] 1 sh)
noncomputable def aeV : IR := (.seq (.seq (.reg [Fa 84 2 9, Ld 85 1 false 84, Pp (.bin 86 .eql (.t 85) (.c (.str ([109, 97, 112] : Bs))))] []) aeL) aeU)
noncomputable def aeW : IR := (.seq (.reg [Pp (.mov 12 (.c (.str ([105, 116, 101, 109, 115] : Bs))))] []) aeV)
noncomputable def iY : IR := (.cond (.t 75) (.seq (.reg [Mv 78 0, Fa 79 2 9, Ld 80 1 false 79, Pp (.call (some 81) 115 [(.t 80)]), Pp (.bld 82 [.int .i64 0, .str ([] : Bs), .sl .str (.may true) ([] : Bss), .int .i64 0, .sl .str (.may true) ([] : Bss), .bool false, .str ([] : Bs), .int .i64 0, .sl .afield (.may true) ([] : List ao), .sl (.num .i64) (.may true) ([] : List Int)] [(0, 1, (.t 81))]), Pp (.call (some 83) 116 [(.t 78), (.t 82)]), Mv 11 83] []) aeW) .skip)
noncomputable def aeX : IR := (.cut [0, 2, 3, 5, 9, 75, 1000001] 1 iY)
noncomputable def iZ : IR := (.cond (.t 63) (.seq (.reg [Mv 67 0, Ld 68 5 true 5, Fa 69 2 9, Ld 70 1 false 69, Pp (.call (some 71) 115 [(.t 70)]), Mv 72 2, Mv 73 3, ⟨none, .call (some 74) 114 [(.t 67), (.t 68), (.t 71), (.t 72), (.t 73)], some ([], [0])⟩, Mv 8 74] [[], [], [], [2], [2, 3], [], [], [0, 1, 2, 3, 4, 5, 6], [0, 1, 2, 3, 4, 5, 6, 7]]) aeJ) (.seq (.seq (.reg [Pp (.bin 76 .eql (.t 62) (.c (.str ([97, 114, 114, 97, 121] : Bs)))), Mv 75 76] []) aeK) aeX))
noncomputable def aeY : IR := (.cut [0, 2, 3, 5, 9, 62, 63, 1000002] 1 iZ)
noncomputable def aeZ : IR := (.block 1 (.seq (.seq (.reg [Pp (.bin 64 .eql (.t 62) (.c (.str ([114, 101, 99, 111, 114, 100] : Bs)))), Mv 63 64] []) aeI) aeY))
noncomputable def ae0 : IR := .ret
noncomputable def si : IR := (.seq (.reg [Mv 118 0, Fa 119 2 9, Ld 120 1 false 119, Mv 121 2, Pp (.call (some 122) 111 [(.t 118), (.t 120), (.t 121)]), Mv 8 122] []) ae0)
noncomputable def i9 : IR := (.cut [0, 2, 9, 1000003] 1 si)
noncomputable def ae1 : IR := (.seq (.seq (.reg [Fa 61 2 9, Ld 62 1 false 61] []) aeZ) i9)
noncomputable def ae2 : IR := (.seq (.seq (.reg [Fa 52 0 9, Ld 53 1 false 52, Bc 54 .neq 53 4] []) ag0) ae1)
noncomputable def ae3 : IR := (.seq (.seq (.reg [Mv 48 10, Pp (.un 49 .not (.t 48))] []) agY) ae2)
noncomputable def ae4 : IR := (.cond (.t 41) (.seq (.reg [Ld 44 5 true 5, Pp (.call (some 45) 113 [(.t 44), (.c (.str ([116, 121, 112, 101] : Bs)))]), Mv 43 45, Ex_ 46 0 43, Ex_ 47 1 43, Pp (.alr 9 5), Pp (.frz none 9 5 (.t 46)), Mv 10 47] []) ae3) .skip)
noncomputable def ae5 : IR := (.cond (.t 34) (.seq (.reg [Mv 36 0, Ld 37 5 true 5, Mv 38 2, Mv 39 3, Pp (.call (some 40) 112 [(.t 36), (.t 37), (.t 38), (.t 39)]), Mv 8 40] []) agW) (.seq (.reg [Bc 42 .eql 26 6, Mv 41 42] []) ae4))
noncomputable def ae6 : IR := (.cond (.t 27) (.seq (.reg [Mv 29 0, Fa 30 2 5, Ld 31 1 false 30, Mv 32 2, Pp (.call (some 33) 111 [(.t 29), (.t 31), (.t 32)]), Mv 8 33] []) agV) (.seq (.reg [Bc 35 .eql 26 5, Mv 34 35] []) ae5))
noncomputable def ae7 : IR := (.block 0 (.seq (.reg [Bc 28 .eql 26 4, Mv 27 28] []) ae6))
noncomputable def ae8 : IR := .ret
noncomputable def cK : IR := (.seq (.reg [Mv 123 0, Pp (.call (some 124) 110 [(.t 123), (.c (.int .i64 2))]), Mv 8 124] []) ae8)
noncomputable def ae9 : IR := (.seq (.seq (.reg [Fa 25 0 5, Ld 26 1 false 25] []) ae7) cK)
noncomputable def afa : IR := (.seq (.seq (.reg [Mv 21 3, Bc 22 .gtr 21 20] []) agU) ae9)
noncomputable def afb : IR := (.seq (.seq (.reg [Mv 16 0, Nk 17 16, Fa 18 1 17, Pp (.ld 19 1 false false (.t 18)), Bc 20 .neq 19 0] []) agS) afa)
noncomputable def pr : IR := (.seq (.reg [Pp (.boxe 5 (.t 1)), Pp (.mov 8 (.c (.int .i64 0)))] []) afb)
noncomputable def cq : List RV := [.t 8]
theorem akk : FnC Try.prog az [72, 110, 111, 112, 114, 116, 2000072, 2000110, 2000111, 2000112, 2000114, 2000116] 1 wA Try.f72 pr cq := fnC (by kernel_rfl) Try.func72 (by kernel_rfl) (by kernel_rfl) (by decide)
abbrev gD : Type := (Bs × Int × Int × Int × Bs × List ae × Bss × Int × Int × Bs × List ae × Bss × Bs × Bool × List ac × Int)
noncomputable def fX (x : gD) : St := { env := (.ptr 0 0 :: .undef :: .str x.1 :: .int .i64 x.2.1 :: .undef :: .ea [.int .i64 x.2.2.1, .int .i64 x.2.2.2.1, .str x.2.2.2.2.1, .sl .jnode (.may false) x.2.2.2.2.2.1, .sl .str (.may false) x.2.2.2.2.2.2.1] :: (U 3 (.ea [.int .i64 x.2.2.2.2.2.2.2.1, .int .i64 x.2.2.2.2.2.2.2.2.1, .str x.2.2.2.2.2.2.2.2.2.1, .sl .jnode (.may false) x.2.2.2.2.2.2.2.2.2.2.1, .sl .str (.may false) x.2.2.2.2.2.2.2.2.2.2.2.1] :: (U 52 (.str x.2.2.2.2.2.2.2.2.2.2.2.2.1 :: .bool x.2.2.2.2.2.2.2.2.2.2.2.2.2.1 :: (U 61 [])))))), hp := [some [.ul .atype x.2.2.2.2.2.2.2.2.2.2.2.2.2.2.1, .int .i64 x.2.2.2.2.2.2.2.2.2.2.2.2.2.2.2]] }
noncomputable def di (R : IR → (Ex → St → Ro) → St → Ro) : Ex → St → Ro := (aD 1 (bo (R i9) (aD 0 (bo (R cK) (fin cq)))))
abbrev gE : Type := (Bs × Int × Int × Int × Bs × List ae × Bss × Int × Int × Bs × List ae × Bss × Bool × List ac × Int)
noncomputable def dS (x : gE) : St := { env := (.ptr 0 0 :: .undef :: .str x.1 :: .int .i64 x.2.1 :: .undef :: .ea [.int .i64 x.2.2.1, .int .i64 x.2.2.2.1, .str x.2.2.2.2.1, .sl .jnode (.may false) x.2.2.2.2.2.1, .sl .str (.may false) x.2.2.2.2.2.2.1] :: (U 3 (.ea [.int .i64 x.2.2.2.2.2.2.2.1, .int .i64 x.2.2.2.2.2.2.2.2.1, .str x.2.2.2.2.2.2.2.2.2.1, .sl .jnode (.may false) x.2.2.2.2.2.2.2.2.2.2.1, .sl .str (.may false) x.2.2.2.2.2.2.2.2.2.2.2.1] :: (U 65 (.bool x.2.2.2.2.2.2.2.2.2.2.2.2.1 :: (U 49 [])))))), hp := [some [.ul .atype x.2.2.2.2.2.2.2.2.2.2.2.2.2.1, .int .i64 x.2.2.2.2.2.2.2.2.2.2.2.2.2.2]] }
abbrev ku : Type := (Bs × Int × Int × Int × Bs × List ae × Bss × Int × Bs × List ac × Int)
noncomputable def jG (x : ku) : St := { env := (.ptr 0 0 :: .undef :: .str x.1 :: .int .i64 x.2.1 :: .undef :: .ea [.int .i64 x.2.2.1, .int .i64 x.2.2.2.1, .str x.2.2.2.2.1, .sl .jnode (.may false) x.2.2.2.2.2.1, .sl .str (.may false) x.2.2.2.2.2.2.1] :: (U 5 (.int .i64 x.2.2.2.2.2.2.2.1 :: .str x.2.2.2.2.2.2.2.2.1 :: (U 112 [])))), hp := [some [.ul .atype x.2.2.2.2.2.2.2.2.2.1, .int .i64 x.2.2.2.2.2.2.2.2.2.2]] }
noncomputable def ol (N : Nat) : St → Ro := fun s => run az N sh (di (run az N)) s
noncomputable def gF (N : Nat) (x : ku) : Ro :=
 let v2 : Bs := x.1
 let v3 : Int := x.2.1
 let v5_0 : Int := x.2.2.1
 let v5_1 : Int := x.2.2.2.1
 let v5_2 : Bs := x.2.2.2.2.1
 let v5_3 : List ae := x.2.2.2.2.2.1
 let v5_4 : Bss := x.2.2.2.2.2.2.1
 let v11 : Int := x.2.2.2.2.2.2.2.1
 let v12 : Bs := x.2.2.2.2.2.2.2.2.1
 let o0_0 : List ac := x.2.2.2.2.2.2.2.2.2.1
 let o0_1 : Int := x.2.2.2.2.2.2.2.2.2.2
 ai (co v5_0 v5_1 v5_2 v5_3 v5_4 v12) (fun r11 =>
  cond (!r11.2.2.2.2.2) (
   ai (am o0_0 o0_1 2) (fun r12 =>
    some (.int .i64 r12.1, [some [.ul .atype r12.2.1, .int .i64 r12.2.2]]))) (
   let x5 : Int := (IntKind.wrap .i64 (v3 + 1))
   ai (bQ o0_0 o0_1 r11.1 r11.2.1 r11.2.2.1 r11.2.2.2.1 r11.2.2.2.2.1 v2 x5) (fun r13 =>
    cond (r13.2.2 == 0) (
     chk (decide (0 < List.length r13.2.1)) (
      chk ((decide (0 ≤ v11) && decide (v11 < ↑(List.length r13.2.1)))) (
       chk (decide ((Int.toNat v11) < List.length r13.2.1)) (
        let x6 : List ac := (List.set r13.2.1 (Int.toNat v11) (let e_ := List.getD r13.2.1 (Int.toNat v11) (af .atype); ⟨(e_).kind, (e_).name, (e_).aliases, r13.1, (e_).syms, (e_).hasdef, (e_).df, (e_).size, (e_).fields, (e_).branches⟩))
        chk (Nat.beq (List.length r13.2.1) (List.length x6)) (
         some (.int .i64 v11, [some [.ul .atype x6, .int .i64 r13.2.2], none, none])))))) (
     some (.int .i64 v11, [some [.ul .atype r13.2.1, .int .i64 r13.2.2]])))))
theorem ag1 (N : Nat) : ∀ (x : ku), ol N (jG x) = gF N x := by
 intro x
 kernel_rfl
abbrev kv : Type := (Bs × Int × Int × Bs × List ae × Bss × List ac × Int)
noncomputable def jH (x : kv) : St := { env := (.ptr 0 0 :: .undef :: .str x.1 :: (U 6 (.ea [.int .i64 x.2.1, .int .i64 x.2.2.1, .str x.2.2.2.1, .sl .jnode (.may false) x.2.2.2.2.1, .sl .str (.may false) x.2.2.2.2.2.1] :: (U 115 [])))), hp := [some [.ul .atype x.2.2.2.2.2.2.1, .int .i64 x.2.2.2.2.2.2.2]] }
noncomputable def aiC (R : IR → (Ex → St → Ro) → St → Ro) : Ex → St → Ro := (aD 0 (bo (R cK) (fin cq)))
noncomputable def om (N : Nat) : St → Ro := fun s => run az N si (aiC (run az N)) s
noncomputable def gG (N : Nat) (x : kv) : Ro :=
 let v2 : Bs := x.1
 let v9_0 : Int := x.2.1
 let v9_1 : Int := x.2.2.1
 let v9_2 : Bs := x.2.2.2.1
 let v9_3 : List ae := x.2.2.2.2.1
 let v9_4 : Bss := x.2.2.2.2.2.1
 let o0_0 : List ac := x.2.2.2.2.2.2.1
 let o0_1 : Int := x.2.2.2.2.2.2.2
 ai (fK o0_0 o0_1 v9_2 v2) (fun r14 =>
  some (.int .i64 r14.1, [some [.ul .atype r14.2.1, .int .i64 r14.2.2]]))
theorem ag2 (N : Nat) : ∀ (x : kv), om N (jH x) = gG N x := by
 intro x
 kernel_rfl
noncomputable def kw (N : Nat) : St → Ro := fun s => run az N iY (di (run az N)) s
noncomputable def jI (N : Nat) (q2 : ku → Ro) (q3 : kv → Ro) (x : gE) : Ro :=
 let v2 : Bs := x.1
 let v3 : Int := x.2.1
 let v5_0 : Int := x.2.2.1
 let v5_1 : Int := x.2.2.2.1
 let v5_2 : Bs := x.2.2.2.2.1
 let v5_3 : List ae := x.2.2.2.2.2.1
 let v5_4 : Bss := x.2.2.2.2.2.2.1
 let v9_0 : Int := x.2.2.2.2.2.2.2.1
 let v9_1 : Int := x.2.2.2.2.2.2.2.2.1
 let v9_2 : Bs := x.2.2.2.2.2.2.2.2.2.1
 let v9_3 : List ae := x.2.2.2.2.2.2.2.2.2.2.1
 let v9_4 : Bss := x.2.2.2.2.2.2.2.2.2.2.2.1
 let v75 : Bool := x.2.2.2.2.2.2.2.2.2.2.2.2.1
 let o0_0 : List ac := x.2.2.2.2.2.2.2.2.2.2.2.2.2.1
 let o0_1 : Int := x.2.2.2.2.2.2.2.2.2.2.2.2.2.2
 cond v75 (
  ai (kX v9_2) (fun (r9 : Int) =>
   ai (dH o0_0 o0_1 r9 ([] : Bs) ([] : Bss) 0 ([] : Bss) false ([] : Bs) 0 ([] : List ao) ([] : List Int)) (fun r10 =>
    let x4 : Bool := decide (v9_2 = ([109, 97, 112] : Bs))
    cond x4 (
     q2 (v2, v3, v5_0, v5_1, v5_2, v5_3, v5_4, r10.1, ([118, 97, 108, 117, 101, 115] : Bs), r10.2.1, r10.2.2)) (
     q2 (v2, v3, v5_0, v5_1, v5_2, v5_3, v5_4, r10.1, ([105, 116, 101, 109, 115] : Bs), r10.2.1, r10.2.2))))) (
  q3 (v2, v9_0, v9_1, v9_2, v9_3, v9_4, o0_0, o0_1))
noncomputable def gH (N : Nat) (x : gE) : Ro := jI N (fun z => gF N z) (fun z => gG N z) x
noncomputable def kz (N : Nat) : List (Nat × (St → Ro)) := (aI az N iY (di (run az N)) ++ (aI az N i9 (aD 0 (bo (run az N cK) (fin cq))) ++ (aI az N cK (fin cq) ++ [])))
theorem ag3 (N : Nat) : ∀ (x : gE), kw N (dS x) = gH N x := by
 intro x
 have hX : ∀ C : Nat → St → Ro, bI C az N iY (di (bI C az N)) (dS x) = jI N (fun z => C 1000000 (jG z)) (fun z => C 1000003 (jH z)) x := by
  intro C
  kernel_rfl
 have h : kw N (dS x) = jI N (fun z => ol N (jG z)) (fun z => om N (jH z)) x := (cA (C := ec (kz N)) (bL (aL (l := (kz N)) (by kernel_rfl))) (cL (f8 (bL (dz (aL (l := (kz N)) (by kernel_rfl)))) (cL (f8 (bL (dz (dz (aL (l := (kz N)) (by kernel_rfl))))) rfl)))) _).trans ((hX _).trans (by kernel_rfl))
 have e2 : (fun z => ol N (jG z)) = (fun z => gF N z) := funext fun z => ag1 N z
 have e3 : (fun z => om N (jH z)) = (fun z => gG N z) := funext fun z => ag2 N z
 rw [h, e2, e3]
 rfl
noncomputable def oo (N : Nat) : St → Ro := fun s => run az N iZ (di (run az N)) s
noncomputable def jJ (N : Nat) (q1 : gE → Ro) (x : gD) : Ro :=
 let v2 : Bs := x.1
 let v3 : Int := x.2.1
 let v5_0 : Int := x.2.2.1
 let v5_1 : Int := x.2.2.2.1
 let v5_2 : Bs := x.2.2.2.2.1
 let v5_3 : List ae := x.2.2.2.2.2.1
 let v5_4 : Bss := x.2.2.2.2.2.2.1
 let v9_0 : Int := x.2.2.2.2.2.2.2.1
 let v9_1 : Int := x.2.2.2.2.2.2.2.2.1
 let v9_2 : Bs := x.2.2.2.2.2.2.2.2.2.1
 let v9_3 : List ae := x.2.2.2.2.2.2.2.2.2.2.1
 let v9_4 : Bss := x.2.2.2.2.2.2.2.2.2.2.2.1
 let v62 : Bs := x.2.2.2.2.2.2.2.2.2.2.2.2.1
 let v63 : Bool := x.2.2.2.2.2.2.2.2.2.2.2.2.2.1
 let o0_0 : List ac := x.2.2.2.2.2.2.2.2.2.2.2.2.2.2.1
 let o0_1 : Int := x.2.2.2.2.2.2.2.2.2.2.2.2.2.2.2
 cond v63 (
  ai (kX v9_2) (fun (r7 : Int) =>
   ai (ik o0_0 o0_1 v5_0 v5_1 v5_2 v5_3 v5_4 r7 v2 v3) (fun r8 =>
    some (.int .i64 r8.1, [some [.ul .atype r8.2.1, .int .i64 r8.2.2]])))) (
  let x3 : Bool := decide (v62 = ([97, 114, 114, 97, 121] : Bs))
  cond x3 (
   q1 (v2, v3, v5_0, v5_1, v5_2, v5_3, v5_4, v9_0, v9_1, v9_2, v9_3, v9_4, x3, o0_0, o0_1)) (
   let x7 : Bool := decide (v62 = ([109, 97, 112] : Bs))
   q1 (v2, v3, v5_0, v5_1, v5_2, v5_3, v5_4, v9_0, v9_1, v9_2, v9_3, v9_4, x7, o0_0, o0_1)))
noncomputable def kA (N : Nat) (x : gD) : Ro := jJ N (fun z => gH N z) x
noncomputable def kB (N : Nat) : List (Nat × (St → Ro)) := (aI az N iZ (di (run az N)) ++ (aI az N i9 (aD 0 (bo (run az N cK) (fin cq))) ++ (aI az N cK (fin cq) ++ [])))
theorem ag4 (N : Nat) : ∀ (x : gD), oo N (fX x) = kA N x := by
 intro x
 have hX : ∀ C : Nat → St → Ro, bI C az N iZ (di (bI C az N)) (fX x) = jJ N (fun z => C 1000001 (dS z)) x := by
  intro C
  kernel_rfl
 have h : oo N (fX x) = jJ N (fun z => kw N (dS z)) x := (cA (C := ec (kB N)) (bL (aL (l := (kB N)) (by kernel_rfl))) (cL (f8 (bL (dz (aL (l := (kB N)) (by kernel_rfl)))) (cL (f8 (bL (dz (dz (aL (l := (kB N)) (by kernel_rfl))))) rfl)))) _).trans ((hX _).trans (by kernel_rfl))
 have e1 : (fun z => kw N (dS z)) = (fun z => gH N z) := funext fun z => ag3 N z
 rw [h, e1]
 rfl
noncomputable def iq (N : Nat) (o0_0 : List ac) (o0_1 : Int) (p1_0 : Int) (p1_1 : Int) (p1_2 : Bs) (p1_3 : List ae) (p1_4 : Bss) (p2 : Bs) (p3 : Int) (q0 : gD → Ro) : Ro :=
 cond (!(o0_1 == 0)) (
  some (.int .i64 0, [some [.ul .atype o0_0, .int .i64 o0_1]])) (
  cond (decide (20 < p3)) (
   ai (am o0_0 o0_1 3) (fun r1 =>
    some (.int .i64 r1.1, [some [.ul .atype r1.2.1, .int .i64 r1.2.2]]))) (
   cond (p1_0 == 4) (
    ai (fK o0_0 o0_1 p1_2 p2) (fun r2 =>
     some (.int .i64 r2.1, [some [.ul .atype r2.2.1, .int .i64 r2.2.2]]))) (
    cond (p1_0 == 5) (
     ai (ij o0_0 o0_1 p1_0 p1_1 p1_2 p1_3 p1_4 p2 p3) (fun r3 =>
      some (.int .i64 r3.1, [some [.ul .atype r3.2.1, .int .i64 r3.2.2]]))) (
     cond (p1_0 == 6) (
      ai (co p1_0 p1_1 p1_2 p1_3 p1_4 ([116, 121, 112, 101] : Bs)) (fun r4 =>
       cond (!r4.2.2.2.2.2) (
        ai (am o0_0 o0_1 2) (fun r5 =>
         some (.int .i64 r5.1, [some [.ul .atype r5.2.1, .int .i64 r5.2.2]]))) (
        cond (!(r4.1 == 4)) (
         let x1 : Int := (IntKind.wrap .i64 (p3 + 1))
         ai (bQ o0_0 o0_1 r4.1 r4.2.1 r4.2.2.1 r4.2.2.2.1 r4.2.2.2.2.1 p2 x1) (fun r6 =>
          some (.int .i64 r6.1, [some [.ul .atype r6.2.1, .int .i64 r6.2.2]]))) (
         let x2 : Bool := decide (r4.2.2.1 = ([114, 101, 99, 111, 114, 100] : Bs))
         cond x2 (
          q0 (p2, p3, p1_0, p1_1, p1_2, p1_3, p1_4, r4.1, r4.2.1, r4.2.2.1, r4.2.2.2.1, r4.2.2.2.2.1, r4.2.2.1, x2, o0_0, o0_1)) (
          let x8 : Bool := decide (r4.2.2.1 = ([101, 110, 117, 109] : Bs))
          cond x8 (
           q0 (p2, p3, p1_0, p1_1, p1_2, p1_3, p1_4, r4.1, r4.2.1, r4.2.2.1, r4.2.2.2.1, r4.2.2.2.2.1, r4.2.2.1, x8, o0_0, o0_1)) (
           let x9 : Bool := decide (r4.2.2.1 = ([102, 105, 120, 101, 100] : Bs))
           q0 (p2, p3, p1_0, p1_1, p1_2, p1_3, p1_4, r4.1, r4.2.1, r4.2.2.1, r4.2.2.2.1, r4.2.2.2.2.1, r4.2.2.1, x9, o0_0, o0_1))))))) (
      ai (am o0_0 o0_1 2) (fun r15 =>
       some (.int .i64 r15.1, [some [.ul .atype r15.2.1, .int .i64 r15.2.2]])))))))
noncomputable def pt (N : Nat) (o0_0 : List ac) (o0_1 : Int) (p1_0 : Int) (p1_1 : Int) (p1_2 : Bs) (p1_3 : List ae) (p1_4 : Bss) (p2 : Bs) (p3 : Int) : Ro := iq N o0_0 o0_1 p1_0 p1_1 p1_2 p1_3 p1_4 p2 p3 (fun z => kA N z)
noncomputable def al4 (N : Nat) : List (Nat × (St → Ro)) := aI az N pr (fin cq) ++ []
theorem aiD (N : Nat) (o0_0 : List ac) (o0_1 : Int) (p1_0 : Int) (p1_1 : Int) (p1_2 : Bs) (p1_3 : List ae) (p1_4 : Bss) (p2 : Bs) (p3 : Int) : aE az N 125 cq pr [.ptr 0 0, .agg [.int .i64 p1_0, .int .i64 p1_1, .str p1_2, .sl .jnode (.may false) p1_3, .sl .str (.may false) p1_4], .str p2, .int .i64 p3] [some [.ul .atype o0_0, .int .i64 o0_1]] = pt N o0_0 o0_1 p1_0 p1_1 p1_2 p1_3 p1_4 p2 p3 :=
 (bx (al4 N) (by kernel_rfl) rfl (fun C => iq N o0_0 o0_1 p1_0 p1_1 p1_2 p1_3 p1_4 p2 p3 (fun z => C 1000002 (fX z))) (fun C => by kernel_rfl)).trans (Eq.trans (b := iq N o0_0 o0_1 p1_0 p1_1 p1_2 p1_3 p1_4 p2 p3 (fun z => oo N (fX z))) (by kernel_rfl) (congrArg (iq N o0_0 o0_1 p1_0 p1_1 p1_2 p1_3 p1_4 p2 p3) (funext fun z => ag4 N z)))
theorem aiE (N : Nat) (o0_0 : List ac) (o0_1 : Int) (p1_0 : Int) (p1_1 : Int) (p1_2 : Bs) (p1_3 : List ae) (p1_4 : Bss) (p2 : Bs) (p3 : Int) (h : Tot (pt N o0_0 o0_1 p1_0 p1_1 p1_2 p1_3 p1_4 p2 p3) (fun z => ∃ (y0 : Int) (y1 : List ac) (y2 : Int) (rest : List an), z.1.dimR = .int .i64 y0 ∧ z.2 = some [.ul .atype y1, .int .i64 y2] :: rest ∧ dO o0_0 o0_1 p1_0 p1_1 p1_2 p1_3 p1_4 p2 p3 (y0, y1, y2))) : ∃ r, bQ o0_0 o0_1 p1_0 p1_1 p1_2 p1_3 p1_4 p2 p3 r := by
 obtain ⟨⟨v, hp⟩, hz, y0, y1, y2, rest, e1, e2, hq⟩ := h
 simp only at e1 e2
 subst e2
 exact ⟨(y0, y1, y2), aP.dimR (FnC.objs (css := [[.ul .atype o0_0, .int .i64 o0_1]]) (css' := [[.ul .atype y1, .int .i64 y2]]) akk (aiD N o0_0 o0_1 p1_0 p1_1 p1_2 p1_3 p1_4 p2 p3) hz rfl) e1, hq⟩
noncomputable def al5 : au := tab (P := Try.prog) [] [lP] [] []
noncomputable def atl : IR := .ret
noncomputable def atm : IR := (.cond (.t 14) (.seq (.reg [Pp (.bld 15 [.sl .atype .own ([] : List ac)] []), Mv 16 4, Nk 17 16, Fa 18 1 17, ⟨none, .ld 19 1 false false (.t 18), some ([1], [])⟩, ⟨none, .st none 1 (.t 2) (.t 15), some ([], [0])⟩, Mv 3 19] [[], [], [1], [1, 2], [1, 2, 3], [0], [0, 1, 2, 3, 4, 5]]) atl) .skip)
noncomputable def atn : IR := .ret
noncomputable def ato : IR := (.seq (.gh (.fz (.cell 1 0)) (.reg [Mv 20 4, Nk 21 20, Fa 22 0 21, Pp (.ld 23 1 true false (.t 22)), Pp (.st none 1 (.t 2) (.t 23)), Pp (.mov 3 (.c (.int .i64 0)))] [])) atn)
noncomputable def atp : IR := (.seq (.seq (.reg [Mv 10 4, Nk 11 10, Fa 12 1 11, Pp (.ld 13 1 false false (.t 12)), Bc 14 .neq 13 0] []) atm) ato)
noncomputable def atq : IR := (.seq (.reg [Mv 7 4, Ld 8 5 true 1, Pp (.call (some 9) 72 [(.t 7), (.t 8), (.c (.str ([] : Bs))), (.c (.int .i64 1))])] []) atp)
noncomputable def atr : IR := (.seq (.reg [Pp (.bld 5 [.ul .atype ([] : List ac), .int .i64 0] []), Pp (.box 6 (.t 5)), Mv 4 6] []) atq)
noncomputable def ajI : IR := (.seq (.reg [Pp (.boxe 1 (.t 0)), Pp (.new 2 [.sl .atype .own ([] : List ac)]), Pp (.mov 3 (.c (.int .i64 0)))] []) atr)
noncomputable def ajJ : List RV := [.cell 2 1 true, .t 3]
theorem azp : FnC Try.prog al5 [72, 2000072] 0 alg Try.f39 ajI ajJ := fnC (by kernel_rfl) Try.func39 (by kernel_rfl) (by kernel_rfl) (by decide)
noncomputable def ajK (N : Nat) (p0_0 : Int) (p0_1 : Int) (p0_2 : Bs) (p0_3 : List ae) (p0_4 : Bss)  : Ro :=
 ai (bQ ([] : List ac) 0 p0_0 p0_1 p0_2 p0_3 p0_4 ([] : Bs) 1) (fun r1 =>
  cond (!(r1.2.2 == 0)) (
   some (.tup [.agg [.sl .atype (.may false) ([] : List ac)], .int .i64 r1.2.2], [some [.sl .atype .own ([] : List ac)], some [.ul .atype r1.2.1, .int .i64 r1.2.2]])) (
   some (.tup [.agg [.sl .atype (.may false) r1.2.1], .int .i64 0], [some [.sl .atype (.may false) r1.2.1], some [.sl .atype .own r1.2.1, .int .i64 r1.2.2]])))
noncomputable def xw (N : Nat) (p0_0 : Int) (p0_1 : Int) (p0_2 : Bs) (p0_3 : List ae) (p0_4 : Bss) : Ro := ajK N p0_0 p0_1 p0_2 p0_3 p0_4
theorem axa (N : Nat) (p0_0 : Int) (p0_1 : Int) (p0_2 : Bs) (p0_3 : List ae) (p0_4 : Bss) : aE al5 N 24 ajJ ajI [.agg [.int .i64 p0_0, .int .i64 p0_1, .str p0_2, .sl .jnode (.may false) p0_3, .sl .str (.may false) p0_4]] [] = xw N p0_0 p0_1 p0_2 p0_3 p0_4 := by kernel_rfl
theorem axb (N : Nat) (p0_0 : Int) (p0_1 : Int) (p0_2 : Bs) (p0_3 : List ae) (p0_4 : Bss) (h : Tot (xw N p0_0 p0_1 p0_2 p0_3 p0_4) (fun z => ∃ (y0 : List ac) (y1 : Int) (rest : List an), z.1.dimR = .tup [.agg [.sl .atype (.may false) y0], .int .i64 y1] ∧ z.2 = rest ∧ uB p0_0 p0_1 p0_2 p0_3 p0_4 (y0, y1))) : ∃ r, qe p0_0 p0_1 p0_2 p0_3 p0_4 r := by
 obtain ⟨⟨v, hp⟩, hz, y0, y1, rest, e1, e2, hq⟩ := h
 simp only at e1 e2
 subst e2
 exact ⟨(y0, y1), aj.dimR (azp.pure (axa N p0_0 p0_1 p0_2 p0_3 p0_4) hz) e1, hq⟩
end Go.Proofs.Ytdpajabhmmmjoaa
end
section
namespace Go.Proofs.Ytdpajabhmmmjoaa
open Go.AM
set_option autoImplicit false
set_option linter.unusedVariables false
set_option linter.unusedSimpArgs false
set_option maxRecDepth 100000
theorem nz {e c : Int} (hc : c ≠ 0) : (if e = 0 then c else e) ≠ 0 := by split <;> assumption
theorem aCP (s : List UInt8) (hs : s.length ≤ 1000000) : ∃ r, mV s r := by
 apply apR 2000000
 unfold uT lT
 dsimp only
 refine bi (fun x => x.1 = s ∧ -1 ≤ x.2 ∧ x.2 < (s.length : Int)) (fun x => (x.2 + 1).toNat) ?_ _ _ ⟨rfl, by simp only [ap ((s.length : Int) - 1) (by omega)]; omega, by simp only [ap ((s.length : Int) - 1) (by omega)]; omega⟩ (by simp only [ap ((s.length : Int) - 1) (by omega)]; omega)
 rintro again ⟨s, i⟩ ⟨rfl, i1, i2⟩ ih
 simp only at i1 i2 ih hs ⊢
 have e := ap (i - 1) (by omega)
 unfold n7
 dsimp only
 repeat' (first | (with_reducible refine ah ?_ ?_ <;> (intro hb; (try simp only [bnl] at hb); (try revert hb; intro _))) | with_reducible refine aq ?_ ?_ | with_reducible refine ak ?_ | fail)
 ·first | (simp only [bnl, lnl]; done) | (simp only [bnl, lnl]; omega)
 ·first | (simp only [bnl, lnl]; done) | (simp only [bnl, lnl]; omega)
 ·exact ⟨_, _, rfl, rfl, by simp only [kc, List.length_drop, List.length_take]; omega⟩
 ·exact ih (s, _) ⟨rfl, by simp only [e]; omega, by simp only [e]; omega⟩ (by simp only [e]; omega)
 ·exact ⟨_, _, rfl, rfl, by simp [kc]⟩
theorem aEE (ts : List ac) (t : Int) : ∃ r, pj ts t r := by
 apply azo 1
 unfold zr al1
 dsimp only
 repeat' (first | (with_reducible refine ah ?_ ?_ <;> (intro hb; (try simp only [bnl] at hb); (try revert hb; intro _))) | with_reducible refine aq ?_ ?_ | with_reducible refine ak ?_ | (refine ag (aD8 _) ?_; intro _ _) | fail)
 all_goals first | exact ⟨_, _, rfl, rfl⟩ | (first | (simp only [bnl, lnl]; done) | (simp only [bnl, lnl]; omega))
theorem axY (ts : List ac) (e : Int) (name space : List UInt8) (h1 : name.length ≤ 100) (h2 : space.length ≤ 10000) : ∃ r, eY ts e name space r := by
 apply agm 2000
 unfold n9 gn
 refine ag (aD9 _ _ (by omega) (by omega)) ?_
 rintro j ⟨-, hj⟩
 dsimp only [rf] at hj ⊢
 refine bi (fun x => x.1 = name ∧ x.2.1.length ≤ name.length + space.length + 1 ∧ 0 ≤ x.2.2.1 ∧ x.2.2.1 ≤ (name.length : Int) ∧ x.2.2.2.1 = ts ∧ x.2.2.2.2 = e) (fun x => ((name.length : Int) - x.2.2.1).toNat) ?_ _ _ ⟨rfl, by simp only; omega, by simp, by simp, rfl, rfl⟩ (by simp; omega)
 rintro again ⟨name, w, i, ts, e⟩ ⟨rfl, i0, i1, i2, rfl, rfl⟩ ih
 simp only at i0 i1 i2 ih h1 hj ⊢
 have ew : i < name.length → IntKind.i64.wrap (i + 1) = i + 1 := fun h => ap (i + 1) (by omega)
 unfold jz
 dsimp only
 have next : ∀ q : List UInt8, i < name.length → q.length ≤ name.length + space.length + 1 → Tot (again (name, q, IntKind.i64.wrap (i + 1), ts, e)) _ := fun q h hq => ih (name, q, IntKind.i64.wrap (i + 1), ts, e)
  (by simp only [ew h]; exact ⟨trivial, hq, by omega, by omega, trivial, trivial⟩) (by simp only [ew h]; omega)
 repeat' (first | (with_reducible refine ah ?_ ?_ <;> (intro hb; (try simp only [bnl] at hb); (try revert hb; intro _))) | with_reducible refine aq ?_ ?_ | with_reducible refine ak ?_ | (refine ag (bR _ _ _) ?_; rintro _ ⟨-, rfl⟩; try dsimp only) | (refine ag (aDo _ (by omega)) ?_; intro _ _) | fail)
 all_goals first | (first | (simp only [bnl, lnl]; done) | (simp only [bnl, lnl]; omega)) | (refine next _ (by omega) (by omega)) | skip
 ·refine ⟨_, _, _, _, rfl, rfl, ?_, rfl, fun h => absurd h (nz (by decide))⟩
  simp only
  omega
 ·refine ⟨_, _, _, _, rfl, rfl, ?_, rfl, fun h => absurd h (nz (by decide))⟩
  simp only
  omega
 ·refine ⟨_, _, _, _, rfl, rfl, ?_, rfl, fun h => h⟩
  simp only
  omega
theorem apS (ts : List ac) (e : Int) (c0 c1 : Int) (c2 : List UInt8) (c3 : List ae) (c4 : List (List UInt8)) (name : List UInt8) (must : Bool) (h : aK (.mk c0 c1 c2 c3 c4)) : ∃ r, cZ ts e c0 c1 c2 c3 c4 name must r := by
 obtain ⟨k1, k2, k3, k4, k5, k6⟩ := h.kids
 apply aiu 1
 unfold po vk
 refine ag (nd _ _ _ _ _ _ (by omega)) ?_
 rintro r ⟨-, hr⟩
 have hg := rk (k := c0) (names := c4) (name := name) k6
 simp only [bW] at hr
 rw [← hr] at hg
 obtain ⟨g1, g2, g3, g4, g5, g6⟩ := hg.kids
 repeat' (first | (with_reducible refine ah ?_ ?_ <;> (intro hb; (try simp only [bnl] at hb); (try revert hb; intro _))) | with_reducible refine aq ?_ ?_ | with_reducible refine ak ?_ | (refine ag (bR _ _ _) ?_; rintro _ ⟨-, rfl⟩; try dsimp only) | fail)
 all_goals first | exact ⟨_, _, _, _, rfl, rfl, g1, rfl, fun h => h⟩ | exact ⟨_, _, _, _, rfl, rfl, Nat.zero_le _, rfl, fun h => h⟩ | exact ⟨_, _, _, _, rfl, rfl, Nat.zero_le _, rfl, fun h => absurd h (nz (by decide))⟩
theorem al6 (ts : List ac) (e : Int) (c0 c1 : Int) (c2 : List UInt8) (c3 : List ae) (c4 : List (List UInt8)) (name : List UInt8) (h : aK (.mk c0 c1 c2 c3 c4)) : ∃ r, cp ts e c0 c1 c2 c3 c4 name r := by
 obtain ⟨k1, k2, k3, k4, k5, k6⟩ := h.kids
 apply agz 2000
 unfold od gp
 refine ag (nd _ _ _ _ _ _ (by omega)) ?_
 rintro r ⟨-, hr⟩
 have hg := rk (k := c0) (names := c4) (name := name) k6
 simp only [bW] at hr
 rw [← hr] at hg
 obtain ⟨d0, d1, d2, l, d4, d5⟩ := r
 obtain ⟨g1, g2, g3, g4, g5, g6⟩ := hg.kids
 dsimp only at g2 g6 ⊢
 have loop : ∀ e1 : Int, (e1 = 0 → e = 0) → Tot (aB 2000 (fQ 2000) (d0, d1, d2, l, d4, [], 0, ts, e1)) (fun z => ∃ (y0 : List (List UInt8)) (y1 : Bool) (y2 : List ac) (y3 : Int) (rest : List an), z.1.dimR = .tup [.sl .str (.may false) y0, .bool y1] ∧ z.2 = some [.ul .atype y2, .int .i64 y3] :: rest ∧ mh ts e c0 c1 c2 c3 c4 name (y0, y1, y2, y3)) := by
  intro e1 he1
  refine bi (fun x => x.2.2.2.1 = l ∧ (x.2.2.2.2.2.1.length : Int) = x.2.2.2.2.2.2.1 ∧ x.2.2.2.2.2.2.1 ≤ (l.length : Int) ∧ bP x.2.2.2.2.2.1 ∧ x.2.2.2.2.2.2.2.1 = ts ∧ (x.2.2.2.2.2.2.2.2 = 0 → e = 0)) (fun x => ((l.length : Int) - x.2.2.2.2.2.2.1).toNat) ?_ _ _ ⟨rfl, rfl, by simp, by simp [bP], rfl, he1⟩ (by simp; omega)
  rintro again ⟨d0, d1, d2, l, d4, out, i, ts, e1⟩ ⟨rfl, i1, i2, i3, rfl, i4⟩ ih
  simp only at i1 i2 i3 i4 ih g2 g6 ⊢
  have ew : i < l.length → IntKind.i64.wrap (i + 1) = i + 1 := fun h => ap (i + 1) (by omega)
  unfold fQ
  dsimp only
  have next : ∀ e2 : Int, i < l.length → (e2 = 0 → e = 0) → Tot (again (d0, d1, d2, l, d4, out ++ [(List.getD l (Int.toNat i) (af .jnode)).s], IntKind.i64.wrap (i + 1), ts, e2)) _ := fun e2 h hq => ih (d0, d1, d2, l, d4, out ++ [(List.getD l (Int.toNat i) (af .jnode)).s], IntKind.i64.wrap (i + 1), ts, e2)
   (by
    simp only [ew h, List.length_append, List.length_cons, List.length_nil]
    refine ⟨trivial, by omega, by omega, ?_, trivial, hq⟩
    intro x hx
    rcases List.mem_append.1 hx with hx | hx
    ·exact i3 x hx
    ·simp only [List.mem_singleton] at hx
     subst hx
     exact (aK.eta.2 (aK.getD g6 i.toNat)).kids.1) (by simp only [ew h]; omega)
  repeat' (first | (with_reducible refine ah ?_ ?_ <;> (intro hb; (try simp only [bnl] at hb); (try revert hb; intro _))) | with_reducible refine aq ?_ ?_ | with_reducible refine ak ?_ | (refine ag (bR _ _ _) ?_; rintro _ ⟨-, rfl⟩; try dsimp only) | fail)
  all_goals first | (first | (simp only [bnl, lnl]; done) | (simp only [bnl, lnl]; omega)) | (refine next _ (by omega) ?_) | skip
  ·exact fun h => absurd h (nz (by decide))
  ·exact i4
  ·exact ⟨_, _, _, _, _, rfl, rfl, by simp only; omega, i3, rfl, i4⟩
  ·exact ⟨_, _, _, _, _, rfl, rfl, by simp only; omega, i3, rfl, i4⟩
 repeat' (first | (with_reducible refine ah ?_ ?_ <;> (intro hb; (try simp only [bnl] at hb); (try revert hb; intro _))) | with_reducible refine aq ?_ ?_ | with_reducible refine ak ?_ | (refine ag (bR _ _ _) ?_; rintro _ ⟨-, rfl⟩; try dsimp only) | fail)
 ·exact ⟨_, _, _, _, _, rfl, rfl, by simp, by simp [bP], rfl, fun h => h⟩
 ·exact loop _ fun h => absurd h (nz (by decide))
 ·exact loop _ fun h => h
theorem axZ (ts : List ac) (e : Int) (s space : List UInt8) (h : ts.length ≤ 60) (h1 : s.length ≤ 100) (h2 : space.length ≤ 10000) : ∃ r, fK ts e s space r := by
 apply aiy 2000
 unfold pq ip
 have loop : Tot (aB 2000 (gt 2000) (s, space, false, 0, ts, e)) (fun z => ∃ (y0 : Int) (y1 : List ac) (y2 : Int) (rest : List an), z.1.dimR = .int .i64 y0 ∧ z.2 = some [.ul .atype y1, .int .i64 y2] :: rest ∧ mU ts e s space (y0, y1, y2)) := by
  refine bi (fun x => x.1 = s ∧ x.2.1 = space ∧ 0 ≤ x.2.2.2.1 ∧ x.2.2.2.1 ≤ (s.length : Int) ∧ x.2.2.2.2.1 = ts ∧ x.2.2.2.2.2 = e) (fun x => ((s.length : Int) - x.2.2.2.1).toNat) ?_ _ _ ⟨rfl, rfl, by simp, by simp, rfl, rfl⟩ (by simp; omega)
  rintro again ⟨s, space, d, i, ts, e⟩ ⟨rfl, rfl, i1, i2, rfl, rfl⟩ ih
  simp only at i1 i2 ih h h1 h2 ⊢
  have ew : i < s.length → IntKind.i64.wrap (i + 1) = i + 1 := fun h => ap (i + 1) (by omega)
  unfold gt
  dsimp only
  have next : ∀ b : Bool, i < s.length → Tot (again (s, space, b, IntKind.i64.wrap (i + 1), ts, e)) _ := fun b h => ih (s, space, b, IntKind.i64.wrap (i + 1), ts, e)
   (by simp only [ew h]; exact ⟨trivial, trivial, by omega, by omega, trivial, trivial⟩) (by simp only [ew h]; omega)
  repeat' (first | (with_reducible refine ah ?_ ?_ <;> (intro hb; (try simp only [bnl] at hb); (try revert hb; intro _))) | with_reducible refine aq ?_ ?_ | with_reducible refine ak ?_ | (refine ag (bR _ _ _) ?_; rintro _ ⟨-, rfl⟩; try dsimp only) | (refine ag (aA1 _ _ _ h) ?_; rintro ⟨a, b, ts', e'⟩ ⟨-, hq, hf⟩; simp only [Prod.mk.injEq] at hq; obtain ⟨rfl, rfl⟩ := hq; dsimp only at hf ⊢) | fail)
  all_goals first | (first | (simp only [bnl, lnl]; done) | (simp only [bnl, lnl]; omega)) | (refine next _ (by omega)) | exact ⟨_, _, _, _, rfl, rfl, bj.bad h (nz (by decide)), fun h => absurd h (nz (by decide))⟩ | exact ⟨_, _, _, _, rfl, rfl, bj.refl h, fun _ => hf (by assumption)⟩
 refine ag (apO _) ?_
 rintro (k : Int) ⟨-, hk1, hk2, hk3⟩
 repeat' (first | (with_reducible refine ah ?_ ?_ <;> (intro hb; (try simp only [bnl] at hb); (try revert hb; intro _))) | with_reducible refine aq ?_ ?_ | with_reducible refine ak ?_ | (refine ag (amo _ _ _ _ _ _ _ _ _ _ _ _ h) ?_; rintro _ ⟨-, rfl⟩; try dsimp only) | fail)
 ·by_cases hl : 60 ≤ ts.length
  ·skip
   simp only [if_pos hl]
   exact ⟨_, _, _, _, rfl, rfl, bj.bad h (nz (by decide)), fun h => absurd h (nz (by decide))⟩
  ·simp only [if_neg hl]
   refine ⟨_, _, _, _, rfl, rfl, bj.push (by omega) _ ⟨by simp only; omega, by simp, by simp, by simp, by simp, by simp, by simp, (fun h => by simp only at h; omega), (by simp only; omega), (fun h => by simp only at h; omega)⟩, fun _ => ?_⟩
   simp only [List.length_append, List.length_cons, List.length_nil]
   omega
 ·exact loop
 ·exact loop
end Go.Proofs.Ytdpajabhmmmjoaa
end
section
namespace Go.Proofs.Ytdpajabhmmmjoaa
open Go.AM
set_option autoImplicit false
set_option linter.unusedVariables false
set_option linter.unusedSimpArgs false
set_option maxRecDepth 100000
theorem nr {α : Type} {l : List α} {i : Nat} {x d : α} (h : l[i]? = some x) : l.getD i d = x := by
 rw [List.getD_eq_getElem?_getD, h]; rfl
theorem aBQ {α : Type} {l : List α} {i : Nat} {x d : α} (h : i < l.length) : (l.set i x).getD i d = x := nr (List.getElem?_set_self h)
theorem aBR (ts : List ac) (e : Int) (c0 c1 : Int) (c2 : List UInt8) (c3 : List ae) (c4 : List (List UInt8)) (at_ : Int) (h : aK (.mk c0 c1 c2 c3 c4)) (hat : e = 0 → 0 ≤ at_ ∧ at_ < ts.length) : ∃ r, fL ts e c0 c1 c2 c3 c4 at_ r := by
 obtain ⟨k1, k2, k3, k4, k5, k6⟩ := h.kids
 apply abl 2000
 unfold mj fh
 refine ag (al6 _ _ _ _ _ _ _ _ h) ?_
 rintro ⟨l, is, ts', e1⟩ ⟨-, h1, h2, rfl, h3⟩
 dsimp only at h1 h2 h3 hat ⊢
 have loop2 : ∀ (hd : Bool) (d : List UInt8) (e1 : Int), (e1 = 0 → e = 0 ∧ l ≠ []) → Tot (aB 2000 (dc 2000) (at_, l, hd, d, false, 0, ts', e1)) (fun z => ∃ (y0 : List ac) (y1 : Int) (rest : List an), z.1.dimR = .tup [] ∧ z.2 = some [.ul .atype y0, .int .i64 y1] :: rest ∧ cS ts' e c0 c1 c2 c3 c4 at_ (y0, y1)) := by
  intro hd d e1 he1
  refine bi (fun x => match x with | (a, l', hd', d', b, i, ts2, e2) => a = at_ ∧ l' = l ∧ hd' = hd ∧ d' = d ∧ 0 ≤ i ∧ i ≤ (l.length : Int) ∧ ts2 = ts' ∧ e2 = e1) (fun x => ((l.length : Int) - x.2.2.2.2.2.1).toNat) ?_ _ _ ⟨rfl, rfl, rfl, rfl, by simp, by simp, rfl, rfl⟩ (by simp; omega)
  rintro again ⟨a, l', hd', d', b, i, ts2, e2⟩ ⟨rfl, rfl, rfl, rfl, i1, i2, rfl, rfl⟩ ih
  dsimp only at ih
  have ew : i < l'.length → IntKind.i64.wrap (i + 1) = i + 1 := fun h => ap (i + 1) (by omega)
  have next : ∀ b : Bool, i < l'.length → Tot (again (a, l', hd', d', b, IntKind.i64.wrap (i + 1), ts2, e2)) _ := fun b h => ih (a, l', hd', d', b, IntKind.i64.wrap (i + 1), ts2, e2)
   (by simp only [ew h]; exact ⟨trivial, trivial, trivial, trivial, by omega, by omega, trivial, trivial⟩) (by simp only [ew h]; omega)
  unfold dc
  dsimp only
  have fin : ∀ (h0 : e2 = 0) (e3 : Int), e3 = e2 → cS ts2 e c0 c1 c2 c3 c4 a (List.set (List.set (List.set ts2 (Int.toNat a) (let e_ := List.getD ts2 (Int.toNat a) (af .atype); ⟨(e_).kind, (e_).name, (e_).aliases, (e_).items, l', (e_).hasdef, (e_).df, (e_).size, (e_).fields, (e_).branches⟩)) (Int.toNat a) (let e_ := List.getD (List.set ts2 (Int.toNat a) (let e_ := List.getD ts2 (Int.toNat a) (af .atype); ⟨(e_).kind, (e_).name, (e_).aliases, (e_).items, l', (e_).hasdef, (e_).df, (e_).size, (e_).fields, (e_).branches⟩)) (Int.toNat a) (af .atype); ⟨(e_).kind, (e_).name, (e_).aliases, (e_).items, (e_).syms, hd', (e_).df, (e_).size, (e_).fields, (e_).branches⟩)) (Int.toNat a) (let e_ := List.getD (List.set (List.set ts2 (Int.toNat a) (let e_ := List.getD ts2 (Int.toNat a) (af .atype); ⟨(e_).kind, (e_).name, (e_).aliases, (e_).items, l', (e_).hasdef, (e_).df, (e_).size, (e_).fields, (e_).branches⟩)) (Int.toNat a) (let e_ := List.getD (List.set ts2 (Int.toNat a) (let e_ := List.getD ts2 (Int.toNat a) (af .atype); ⟨(e_).kind, (e_).name, (e_).aliases, (e_).items, l', (e_).hasdef, (e_).df, (e_).size, (e_).fields, (e_).branches⟩)) (Int.toNat a) (af .atype); ⟨(e_).kind, (e_).name, (e_).aliases, (e_).items, (e_).syms, hd', (e_).df, (e_).size, (e_).fields, (e_).branches⟩)) (Int.toNat a) (af .atype); ⟨(e_).kind, (e_).name, (e_).aliases, (e_).items, (e_).syms, (e_).hasdef, d', (e_).size, (e_).fields, (e_).branches⟩), e3) := by
   rintro h0 e3 rfl
   have ha := hat (he1 h0).1
   have hl : a.toNat < ts2.length := by omega
   refine ⟨fun h => (he1 h).1, fun h => absurd h0 h, fun _ => ⟨l', hd', d', (he1 h0).2, h1, ts2[a.toNat], List.getElem?_eq_getElem hl, ?_⟩⟩
   have g : ∀ x : ac, (ts2.set a.toNat x).getD a.toNat (af .atype) = x := fun x => aBQ hl
   have g0 : ts2.getD a.toNat (af .atype) = ts2[a.toNat] := nr (List.getElem?_eq_getElem hl)
   simp only [List.set_set, g, g0]
  repeat' (first | (with_reducible refine ah ?_ ?_ <;> (intro hb; (try simp only [bnl] at hb); (try revert hb; intro _))) | with_reducible refine aq ?_ ?_ | with_reducible refine ak ?_ | (refine ag (bR _ _ _) ?_; rintro _ ⟨-, rfl⟩; try dsimp only) | fail)
  all_goals first | (refine next _ (by omega)) | skip
  all_goals have hat' : e2 = 0 → 0 ≤ a ∧ a < ts2.length := fun h => hat (he1 h).1
  all_goals first | (first | (simp only [bnl, lnl]; done) | (simp only [bnl, lnl]; omega)) | skip
  all_goals first | exact ⟨_, _, _, rfl, rfl, fun h => (he1 h).1, fun _ => rfl, fun h => absurd h (by assumption)⟩ | exact ⟨_, _, _, rfl, rfl, fun h => absurd h (nz (by decide)), fun _ => rfl, fun h => absurd h (nz (by decide))⟩ | exact ⟨_, _, _, rfl, rfl, fin (by assumption) _ rfl⟩ | (exfalso; exact nz (by decide) (by assumption)) | skip
 have loop1 : ∀ (e1 : Int), (e1 = 0 → e = 0 ∧ l ≠ []) → Tot (aB 2000 (eq 2000) (at_, c0, c1, c2, c3, c4, l, 0, ts', e1)) (fun z => ∃ (y0 : List ac) (y1 : Int) (rest : List an), z.1.dimR = .tup [] ∧ z.2 = some [.ul .atype y0, .int .i64 y1] :: rest ∧ cS ts' e c0 c1 c2 c3 c4 at_ (y0, y1)) := by
  intro e1 he1
  refine bi (fun x => match x with | (a, d0, d1, d2, d3, d4, l', i, ts2, e2) => a = at_ ∧ d0 = c0 ∧ d1 = c1 ∧ d2 = c2 ∧ d3 = c3 ∧ d4 = c4 ∧ l' = l ∧ 0 ≤ i ∧ i ≤ (l.length : Int) ∧ ts2 = ts' ∧ (e2 = 0 → e = 0 ∧ l ≠ [])) (fun x => ((l.length : Int) - x.2.2.2.2.2.2.2.1).toNat) ?_ _ _ ⟨rfl, rfl, rfl, rfl, rfl, rfl, rfl, by simp, by simp, rfl, he1⟩ (by simp; omega)
  rintro again ⟨a, d0, d1, d2, d3, d4, l', i, ts2, e2⟩ ⟨rfl, rfl, rfl, rfl, rfl, rfl, rfl, i1, i2, rfl, i3⟩ ih
  dsimp only at ih
  have ew : i < l'.length → IntKind.i64.wrap (i + 1) = i + 1 := fun h => ap (i + 1) (by omega)
  have next : ∀ e2 : Int, i < l'.length → (e2 = 0 → e = 0 ∧ l' ≠ []) → Tot (again (a, d0, d1, d2, d3, d4, l', IntKind.i64.wrap (i + 1), ts2, e2)) _ := fun e2 h he => ih (a, d0, d1, d2, d3, d4, l', IntKind.i64.wrap (i + 1), ts2, e2)
   (by simp only [ew h]; exact ⟨trivial, trivial, trivial, trivial, trivial, trivial, trivial, by omega, by omega, trivial, he⟩) (by simp only [ew h]; omega)
  have inner : ∀ e2 : Int, i < l'.length → (e2 = 0 → e = 0 ∧ l' ≠ []) → Tot (aB 2000 (db 2000 again) (a, d0, d1, d2, d3, d4, l', i, 0, ts2, e2)) (fun z => ∃ (y0 : List ac) (y1 : Int) (rest : List an), z.1.dimR = .tup [] ∧ z.2 = some [.ul .atype y0, .int .i64 y1] :: rest ∧ cS ts2 e d0 d1 d2 d3 d4 a (y0, y1)) := by
   intro e2 hi he
   refine bi (fun x => match x with | (a', b0, b1, b2, b3, b4, l2, i', k, ts3, e3) => a' = a ∧ b0 = d0 ∧ b1 = d1 ∧ b2 = d2 ∧ b3 = d3 ∧ b4 = d4 ∧ l2 = l' ∧ i' = i ∧ 0 ≤ k ∧ k ≤ i ∧ ts3 = ts2 ∧ (e3 = 0 → e = 0 ∧ l' ≠ [])) (fun x => (i - x.2.2.2.2.2.2.2.2.1).toNat) ?_ _ _ ⟨rfl, rfl, rfl, rfl, rfl, rfl, rfl, rfl, by simp, i1, rfl, he⟩ (by simp only; omega)
   rintro again1 ⟨a', b0, b1, b2, b3, b4, l2, i', k, ts3, e3⟩ ⟨rfl, rfl, rfl, rfl, rfl, rfl, rfl, rfl, j1, j2, rfl, j3⟩ ih1
   dsimp only at ih1
   have ek : k < i' → IntKind.i64.wrap (k + 1) = k + 1 := fun h => ap (k + 1) (by omega)
   have next1 : ∀ e2 : Int, k < i' → (e2 = 0 → e = 0 ∧ l2 ≠ []) → Tot (again1 (a', b0, b1, b2, b3, b4, l2, i', IntKind.i64.wrap (k + 1), ts3, e2)) _ := fun e2 h he => ih1 (a', b0, b1, b2, b3, b4, l2, i', IntKind.i64.wrap (k + 1), ts3, e2)
    (by simp only [ek h]; exact ⟨trivial, trivial, trivial, trivial, trivial, trivial, trivial, trivial, by omega, by omega, trivial, he⟩) (by simp only [ek h]; omega)
   unfold db
   dsimp only
   repeat' (first | (with_reducible refine ah ?_ ?_ <;> (intro hb; (try simp only [bnl] at hb); (try revert hb; intro _))) | with_reducible refine aq ?_ ?_ | with_reducible refine ak ?_ | (refine ag (bR _ _ _) ?_; rintro _ ⟨-, rfl⟩; try dsimp only) | fail)
   all_goals first | (first | (simp only [bnl, lnl]; done) | (simp only [bnl, lnl]; omega)) | exact next1 _ (by omega) j3 | exact next1 _ (by omega) (fun h => absurd h (nz (by decide))) | exact next _ hi j3
  unfold eq gq
  dsimp only
  repeat' (first | (with_reducible refine ah ?_ ?_ <;> (intro hb; (try simp only [bnl] at hb); (try revert hb; intro _))) | with_reducible refine aq ?_ ?_ | with_reducible refine ak ?_ | (refine ag (bR _ _ _) ?_; rintro _ ⟨-, rfl⟩; try dsimp only) | (refine ag (air _ ?_) ?_; rotate_left; intro _ _) | (refine ag (nd _ _ _ _ _ _ (by omega)) ?_; intro _ _) | (refine ag (apS _ _ _ _ _ _ _ _ _ h) ?_; rintro ⟨w, ts4, e4⟩ ⟨-, w1, rfl, w2⟩; dsimp only at w2 ⊢) | fail)
  all_goals first | (first | (simp only [bnl, lnl]; done) | (simp only [bnl, lnl]; omega)) | exact inner _ (by omega) i3 | exact inner _ (by omega) (fun h => absurd h (nz (by decide))) | exact loop2 _ _ _ (fun h => i3 (w2 h)) | skip
  ·have : (l'.getD i.toNat (af .str)).length ≤ 100 := by
    rw [List.getD_eq_getElem?_getD]
    cases hq : l'[i.toNat]? with
    | none => exact Nat.zero_le _
    | some y => exact h2 y (List.mem_of_getElem? hq)
   omega
 have nz' : ∀ {e c : Int}, c ≠ 0 → (if e = 0 then c else e) = 0 → ∀ {p : Prop}, p := fun hc h => absurd h (nz hc)
 repeat' (first | (with_reducible refine ah ?_ ?_ <;> (intro hb; (try simp only [bnl] at hb); (try revert hb; intro _))) | with_reducible refine aq ?_ ?_ | with_reducible refine ak ?_ | (refine ag (bR _ _ _) ?_; rintro _ ⟨-, rfl⟩; try dsimp only) | fail)
 all_goals first | exact loop1 _ (fun h => absurd h (nz (by decide))) | skip
 all_goals refine loop1 _ (fun h => ⟨h3 h, fun hl => ?_⟩)
 all_goals subst hl; simp at *
end Go.Proofs.Ytdpajabhmmmjoaa
end
section
namespace Go.Proofs.Ytdpajabhmmmjoaa
open Go.AM
set_option autoImplicit false
set_option linter.unusedVariables false
set_option linter.unusedSimpArgs false
set_option maxRecDepth 100000
def yK (deep : Int) : Prop := ∀ (ts : List ac) (e c0 c1 : Int) (c2 : List UInt8) (c3 : List ae) (c4 : List (List UInt8)) (space : List UInt8),
 ts.length ≤ 60 → aK (.mk c0 c1 c2 c3 c4) → (space.length : Int) ≤ 202 * deep → ∃ r, bQ ts e c0 c1 c2 c3 c4 space deep r
theorem bj.stuck {ts ts' : List ac} {e e' : Int} (h1 : ts.length ≤ ts'.length) (h2 : ts'.length ≤ 60) (he : e' ≠ 0) : bj ts e ts' e' :=
 ⟨h1, h2, fun h => absurd h he, fun h => absurd h he, fun h => absurd h he⟩
structure la (ts : List ac) (e : Int) (t0 : ac) (at_ : Int) (ts2 : List ac) (e2 : Int) : Prop where
 len : ts.length ≤ ts2.length
 cap : ts2.length ≤ 60
 grow : e2 = 0 → at_ = ts.length ∧ bj (ts ++ [t0]) e ts2 e2
theorem la.add {ts : List ac} {e : Int} {t0 : ac} (h : ts.length ≤ 60) {r : Int × List ac × Int} (hr : r = if 60 ≤ ts.length then (0, ts, if e = 0 then 3 else e) else ((ts.length : Int), ts ++ [t0], e)) : la ts e t0 r.1 r.2.1 r.2.2 := by
 by_cases hl : 60 ≤ ts.length
 ·rw [if_pos hl] at hr
  subst hr
  exact ⟨Nat.le_refl _, h, fun h => absurd h (nz (by decide))⟩
 ·rw [if_neg hl] at hr
  subst hr
  exact ⟨by simp, by simp; omega, fun h => ⟨rfl, bj.refl (by simp; omega)⟩⟩
theorem la.more {ts ts2 ts3 : List ac} {e e2 e3 : Int} {t0 : ac} {a : Int} (h : la ts e t0 a ts2 e2) (h' : bj ts2 e2 ts3 e3) : la ts e t0 a ts3 e3 :=
 ⟨Nat.le_trans h.len h'.len, h'.cap, fun he => ⟨(h.grow (h'.err he)).1, (h.grow (h'.err he)).2.trans h'⟩⟩
theorem la.bad {ts ts2 : List ac} {e e2 e3 : Int} {t0 : ac} {a : Int} (h : la ts e t0 a ts2 e2) (he : e3 ≠ 0) : la ts e t0 a ts2 e3 :=
 ⟨h.len, h.cap, fun h' => absurd h' he⟩
theorem la.stuck {ts ts2 : List ac} {e e2 : Int} {t0 : ac} {a : Int} (h : la ts e t0 a ts2 e2) (he : e2 ≠ 0) : bj ts e ts2 e2 := bj.stuck h.len h.cap he
theorem la.range {ts ts2 : List ac} {e e2 : Int} {t0 : ac} {a : Int} (h : la ts e t0 a ts2 e2) (he : e2 = 0) : 0 ≤ a ∧ a < ts2.length := by
 obtain ⟨rfl, g⟩ := h.grow he
 have := g.len
 simp only [List.length_append, List.length_singleton] at this
 omega
theorem la.done {ts ts2 : List ac} {e e2 : Int} {t0 t : ac} {a : Int} (h : la ts e t0 a ts2 e2) (he : e2 = 0) (ht : qb ts2.length t) : bj ts e (ts2.set a.toNat t) e2 := by
 obtain ⟨rfl, g⟩ := h.grow he
 rw [Int.toNat_natCast]
 exact g.close ht
theorem la.get {ts ts2 : List ac} {e e2 : Int} {t0 : ac} {a : Int} (h : la ts e t0 a ts2 e2) (he : e2 = 0) : ts2[a.toNat]? = some t0 := by
 obtain ⟨rfl, g⟩ := h.grow he
 rw [Int.toNat_natCast]
 exact g.at_open he
theorem la.kept {ts ts2 : List ac} {e e2 : Int} {t0 : ac} {a : Int} (h : la ts e t0 a ts2 e2) (ht : qb (ts.length + 1) t0) : bj ts e ts2 e2 := by
 by_cases he : e2 = 0
 ·obtain ⟨rfl, g⟩ := h.grow he
  have := g.len
  have := g.cap
  simp only [List.length_append, List.length_singleton] at *
  exact (bj.push (by omega) t0 ht).trans g
 ·exact h.stuck he
theorem aDs (deep : Int) (hd : 1 ≤ deep ∧ deep ≤ 20) (hT : yK (deep + 1)) (ts : List ac) (e c0 c1 : Int) (c2 : List UInt8) (c3 : List ae) (c4 : List (List UInt8)) (space : List UInt8)
  (h : ts.length ≤ 60) (hn : aK (.mk c0 c1 c2 c3 c4)) (hs : (space.length : Int) ≤ 202 * deep) : ∃ r, ij ts e c0 c1 c2 c3 c4 space deep r := by
 obtain ⟨k1, k2, k3, k4, k5, k6⟩ := hn.kids
 apply agN 2000
 unfold oh gv
 refine ag (amo _ _ _ _ _ _ _ _ _ _ _ _ h) ?_
 rintro r ⟨-, hr⟩
 have ho := la.add h hr
 clear hr
 obtain ⟨a, ts1, e1⟩ := r
 dsimp only at ho ⊢
 repeat' (first | (with_reducible refine ah ?_ ?_ <;> (intro hb; (try simp only [bnl] at hb); (try revert hb; intro _))) | with_reducible refine aq ?_ ?_ | with_reducible refine ak ?_ | (refine ag (bR _ _ _) ?_; rintro _ ⟨-, rfl⟩; try dsimp only) | fail)
 ·exact ⟨_, _, _, _, rfl, rfl, ho.bad (nz (by decide)) |>.stuck (nz (by decide)), fun h => absurd h (nz (by decide))⟩
 ·exact ⟨_, _, _, _, rfl, rfl, ho.bad (nz (by decide)) |>.stuck (nz (by decide)), fun h => absurd h (nz (by decide))⟩
 rename_i hl1 hl2
 refine bi (fun x => match x with | (sp, dp, d0, d1, d2, l, d4, a', bs, i, ts2, e2) => sp = space ∧ dp = deep ∧ l = c3 ∧ a' = a ∧ (bs.length : Int) = i ∧ i ≤ (c3.length : Int) ∧ (∀ b ∈ bs, 0 ≤ b ∧ b < (ts2.length : Int)) ∧ la ts e ⟨14, [], [], 0, [], false, [], 0, [], []⟩ a ts2 e2) (fun x => ((c3.length : Int) - x.2.2.2.2.2.2.2.2.2.1).toNat) ?_ _ _
  ⟨rfl, rfl, rfl, rfl, rfl, by simp, by simp, ho⟩ (by simp; omega)
 rintro again ⟨sp, dp, d0, d1, d2, l, d4, a', bs, i, ts2, e2⟩ ⟨rfl, rfl, rfl, rfl, i1, i2, i3, i4⟩ ih
 dsimp only at ih
 have ew : i < l.length → IntKind.i64.wrap (i + 1) = i + 1 := fun h => ap (i + 1) (by omega)
 have ed : IntKind.i64.wrap (dp + 1) = dp + 1 := ap (dp + 1) (by omega)
 unfold jD iQ
 dsimp only
 have fin : e2 = 0 → i = l.length → qb ts2.length (let e_ := List.getD ts2 (Int.toNat a') (af .atype); ⟨(e_).kind, (e_).name, (e_).aliases, (e_).items, (e_).syms, (e_).hasdef, (e_).df, (e_).size, (e_).fields, bs⟩) := by
  intro h0 hi
  rw [nr (i4.get h0)]
  have hr := i4.range h0
  exact ⟨⟨by simp, by simp only; omega⟩, by simp, by simp, i3, by simp only; omega, by simp, by simp, fun _ hb => by
   have hb : bs = [] := hb
   rw [hb] at i1
   simp at i1
   omega, by simp, by simp⟩
 have hat : e2 = 0 → 0 ≤ a' ∧ a' < ts2.length := fun h0 => i4.range h0
 repeat' (first | (with_reducible refine ah ?_ ?_ <;> (intro hb; (try simp only [bnl] at hb); (try revert hb; intro _))) | with_reducible refine aq ?_ ?_ | with_reducible refine ak ?_ | (refine ag (bR _ _ _) ?_; rintro _ ⟨-, rfl⟩; try dsimp only) | fail)
 all_goals try simp only [ed]
 ·first | (simp only [bnl, lnl]; done) | (simp only [bnl, lnl]; omega)
 ·have hkid := aK.eta.2 (aK.getD k6 i.toNat)
  refine ag (hT _ _ _ _ _ _ _ _ i4.cap hkid (by omega)) ?_
  rintro ⟨k, ts3, e3⟩ ⟨-, g1, g2⟩
  dsimp only at g1 g2 ⊢
  have i5 := i4.more g1
  have hl3 := g1.len
  repeat' (first | (with_reducible refine ah ?_ ?_ <;> (intro hb; (try simp only [bnl] at hb); (try revert hb; intro _))) | with_reducible refine aq ?_ ?_ | with_reducible refine ak ?_ | (refine ag (bR _ _ _) ?_; rintro _ ⟨-, rfl⟩; try dsimp only) | fail)
  ·rename_i he3
   exact ⟨_, _, _, _, rfl, rfl, i5.stuck he3, fun h => absurd h he3⟩
  ·have := g2 (by assumption); first | (simp only [bnl, lnl]; done) | (simp only [bnl, lnl]; omega)
  ·have := g2 (by assumption); first | (simp only [bnl, lnl]; done) | (simp only [bnl, lnl]; omega)
  ·have := g2 (by assumption); first | (simp only [bnl, lnl]; done) | (simp only [bnl, lnl]; omega)
  ·first | (simp only [bnl, lnl]; done) | (simp only [bnl, lnl]; omega)
  ·exact ⟨_, _, _, _, rfl, rfl, (i5.bad (nz (by decide))).stuck (nz (by decide)), fun h => absurd h (nz (by decide))⟩
  ·rename_i he3 hk
   have g2' := g2 he3
   refine bi (fun x => match x with | (sp', dp', d0, d1, d2, l', d4, a2, bs', i', k', m, ts4, e4) => sp' = sp ∧ dp' = dp ∧ l' = l ∧ a2 = a' ∧ bs' = bs ∧ i' = i ∧ k' = k ∧ 0 ≤ m ∧ m ≤ (bs.length : Int) ∧ ts4 = ts3 ∧ e4 = e3) (fun x => ((bs.length : Int) - x.2.2.2.2.2.2.2.2.2.2.2.1).toNat) ?_ _ _
    ⟨rfl, rfl, rfl, rfl, rfl, rfl, rfl, by simp, by simp, rfl, rfl⟩ (by simp; omega)
   rintro again1 ⟨sp', dp', d0', d1', d2', l', d4', a2, bs', i', k', m, ts4, e4⟩ ⟨rfl, rfl, rfl, rfl, rfl, rfl, rfl, j1, j2, rfl, rfl⟩ ih1
   dsimp only at ih1
   have em : m < bs'.length → IntKind.i64.wrap (m + 1) = m + 1 := fun h => ap (m + 1) (by omega)
   unfold fT
   dsimp only
   repeat' (first | (with_reducible refine ah ?_ ?_ <;> (intro hb; (try simp only [bnl] at hb); (try revert hb; intro _))) | with_reducible refine aq ?_ ?_ | with_reducible refine ak ?_ | (refine ag (bR _ _ _) ?_; rintro _ ⟨-, rfl⟩; try dsimp only) | (refine aEv ?_ (aEE _ _) ?_; rotate_left; intro _ _) | fail)
   all_goals first | (first | (simp only [bnl, lnl]; done) | (simp only [bnl, lnl]; omega)) | exact ⟨_, _, _, _, rfl, rfl, (i5.bad (nz (by decide))).stuck (nz (by decide)), fun h => absurd h (nz (by decide))⟩ | skip
   ·rename_i hm _ _ _ _ _
    refine ih1 (sp', dp', d0', d1', d2', l', d4', a2, bs', i', k', _, ts4, e4) ?_ ?_
    ·simp only [em hm]; exact ⟨trivial, trivial, trivial, trivial, trivial, trivial, trivial, by omega, by omega, trivial, trivial⟩
    ·simp only [em hm]; omega
   ·have hil : i' < l'.length := by omega
    refine ih (sp', dp', d0', d1', d2', l', d4', a2, _, _, ts4, e4) ?_ ?_
    ·simp only [ew hil, List.length_append, List.length_cons, List.length_nil]
     refine ⟨trivial, trivial, trivial, trivial, by omega, by omega, ?_, i5⟩
     intro b hb
     rcases List.mem_append.1 hb with hb | hb
     ·have := i3 b hb; omega
     ·simp only [List.mem_singleton] at hb
      subst hb; exact g2'
    ·simp only [ew hil]; omega
 all_goals first | (exfalso; omega) | skip
 all_goals have hat2 := fun h0 => hat h0
 all_goals first | (first | (simp only [bnl, lnl]; done) | (simp only [bnl, lnl]; omega)) | skip
 ·rename_i h0
  exact ⟨_, _, _, _, rfl, rfl, i4.stuck h0, fun h => absurd h h0⟩
 ·rename_i h0
  have hr := i4.range h0
  exact ⟨_, _, _, _, rfl, rfl, i4.done h0 (fin h0 (by omega)), fun _ => by simpa using hr⟩
 ·rename_i h0
  exact ⟨_, _, _, _, rfl, rfl, i4.stuck h0, fun h => absurd h h0⟩
end Go.Proofs.Ytdpajabhmmmjoaa
end
section
namespace Go.Proofs.Ytdpajabhmmmjoaa
open Go.AM
set_option autoImplicit false
set_option linter.unusedVariables false
set_option linter.unusedSimpArgs false
set_option maxRecDepth 100000
theorem aiF {l : List (List UInt8)} (h : bP l) (i : Nat) : (l.getD i (af .str)).length ≤ 100 := by
 rw [List.getD_eq_getElem?_getD]
 cases hq : l[i]? with
 | none => exact Nat.zero_le _
 | some y => exact h y (List.mem_of_getElem? hq)
def th (m : Nat) (l : List ao) : Prop := l.length ≤ 100 ∧ ∀ f ∈ l, 0 ≤ f.typ ∧ f.typ < m ∧ aK f.df
theorem th.mono {m m' : Nat} {l : List ao} (h : th m l) (hm : m ≤ m') : th m' l :=
 ⟨h.1, fun f hf => ⟨(h.2 f hf).1, by have := (h.2 f hf).2.1; omega, (h.2 f hf).2.2⟩⟩
theorem aCQ (deep : Int) (hd : 1 ≤ deep ∧ deep ≤ 20) (hT : yK (deep + 1)) (ts : List ac) (e c0 c1 : Int) (c2 : List UInt8) (c3 : List ae) (c4 : List (List UInt8)) (at_ : Int) (space : List UInt8)
  (h : ts.length ≤ 60) (hn : aK (.mk c0 c1 c2 c3 c4)) (hs : (space.length : Int) ≤ 202 * deep + 201) (hat : e = 0 → 0 ≤ at_ ∧ at_ < ts.length) : ∃ r, gj ts e c0 c1 c2 c3 c4 at_ space deep r := by
 obtain ⟨k1, k2, k3, k4, k5, k6⟩ := hn.kids
 apply aeu 2000
 unfold nk fU
 refine ag (nd _ _ _ _ _ _ (by omega)) ?_
 rintro r ⟨-, hr⟩
 have hg := rk (k := c0) (names := c4) (name := [102, 105, 101, 108, 100, 115]) k6
 simp only [bW] at hr
 rw [← hr] at hg
 obtain ⟨b0, b1, b2, l, b4, b5⟩ := r
 obtain ⟨g1, g2, g3, g4, g5, g6⟩ := hg.kids
 dsimp only at g2 g6 ⊢
 have bad : ∀ c : Int, c ≠ 0 → da ts e c0 c1 c2 c3 c4 at_ space deep (ts, if e = 0 then c else e) := fun c hc => ⟨ts, bj.stuck (Nat.le_refl _) h (nz hc), .inl rfl⟩
 repeat' (first | (with_reducible refine ah ?_ ?_ <;> (intro hb; (try simp only [bnl] at hb); (try revert hb; intro _))) | with_reducible refine aq ?_ ?_ | with_reducible refine ak ?_ | (refine ag (bR _ _ _) ?_; rintro _ ⟨-, rfl⟩; try dsimp only) | fail)
 ·exact ⟨_, _, _, rfl, rfl, bad 2 (by decide)⟩
 ·exact ⟨_, _, _, rfl, rfl, bad 2 (by decide)⟩
 ·exact ⟨_, _, _, rfl, rfl, bad 3 (by decide)⟩
 rename_i hl
 refine bi (fun x => match x with | (a, sp, dp, d0, d1, d2, l', d4, out, i, ts2, e2) => a = at_ ∧ sp = space ∧ dp = deep ∧ l' = l ∧ (out.length : Int) = i ∧ i ≤ (l.length : Int) ∧ bj ts e ts2 e2 ∧ (e2 = 0 → th ts2.length out)) (fun x => ((l.length : Int) - x.2.2.2.2.2.2.2.2.2.1).toNat) ?_ _ _
  ⟨rfl, rfl, rfl, rfl, rfl, by simp, bj.refl h, fun _ => ⟨by simp, by simp⟩⟩ (by simp; omega)
 rintro again ⟨a, sp, dp, d0, d1, d2, l, d4, out, i, ts2, e2⟩ ⟨rfl, rfl, rfl, rfl, i1, i2, i3, i4⟩ ih
 dsimp only at ih
 have ew : i < l.length → IntKind.i64.wrap (i + 1) = i + 1 := fun h => ap (i + 1) (by omega)
 have ed : IntKind.i64.wrap (dp + 1) = dp + 1 := ap (dp + 1) (by omega)
 have hat2 : e2 = 0 → 0 ≤ a ∧ a < ts2.length := fun h0 => by
  have := hat (i3.err h0)
  have := i3.len
  omega
 unfold iT hJ
 dsimp only
 have hkid := aK.eta.2 (aK.getD g6 i.toNat)
 have hkk := hkid.kids
 have inner2 : ∀ (ts3 : List ac) (e3 : Int) (nm : List UInt8) (al : List (List UInt8)) (ty : Int) (hd' : Bool) (f0 f1 : Int) (f2 : List UInt8) (f3 : List ae) (f4 : List (List UInt8)), i < l.length → bj ts e ts3 e3 → bP al → al.length ≤ 100 → (e3 = 0 → th ts3.length out ∧ 0 ≤ ty ∧ ty < ts3.length) → aK (.mk f0 f1 f2 f3 f4) →
   Tot (aB 2000 (cJ 2000 again) (a, sp, dp, d0, d1, d2, l, d4, out, i, 0, ts3, e3, nm, al, ty, hd', f0, f1, f2, f3, f4)) (fun z => ∃ (y0 : List ac) (y1 : Int) (rest : List an), z.1.dimR = .tup [] ∧ z.2 = some [.ul .atype y0, .int .i64 y1] :: rest ∧ da ts e c0 c1 c2 c3 c4 a sp dp (y0, y1)) := by
  intro ts3 e3 nm al ty hd' f0 f1 f2 f3 f4 hil hgr hal hal2 hty hnd
  refine bi (fun x => match x with | (a', sp', dp', d0', d1', d2', l', d4', out', i', m, ts4, e4, nm', al', ty', hd2, f0', f1', f2', f3', f4') => a' = a ∧ sp' = sp ∧ dp' = dp ∧ l' = l ∧ out' = out ∧ i' = i ∧ 0 ≤ m ∧ m ≤ (al.length : Int) ∧ bj ts e ts4 e4 ∧ al' = al ∧ ty' = ty ∧ (e4 = 0 → th ts4.length out ∧ 0 ≤ ty ∧ ty < ts4.length) ∧ aK (.mk f0' f1' f2' f3' f4')) (fun x => ((al.length : Int) - x.2.2.2.2.2.2.2.2.2.2.1).toNat) ?_ _ _
   ⟨rfl, rfl, rfl, rfl, rfl, rfl, by simp, by simp, hgr, rfl, rfl, hty, hnd⟩ (by simp; omega)
  rintro again2 ⟨a', sp', dp', d0', d1', d2', l', d4', out', i', m, ts4, e4, nm', al', ty', hd2, f0', f1', f2', f3', f4'⟩ ⟨rfl, rfl, rfl, rfl, rfl, rfl, j1, j2, j3, rfl, rfl, j4, j5⟩ ih2
  dsimp only at ih2
  have em : m < al'.length → IntKind.i64.wrap (m + 1) = m + 1 := fun h => ap (m + 1) (by omega)
  have out1 : Tot (again (a', sp', dp', d0', d1', d2', l', d4', out' ++ [⟨nm', al', ty', hd2, ⟨f0', f1', f2', f3', f4'⟩⟩], IntKind.i64.wrap (i' + 1), ts4, e4)) _ := ih (a', sp', dp', d0', d1', d2', l', d4', out' ++ [⟨nm', al', ty', hd2, ⟨f0', f1', f2', f3', f4'⟩⟩], IntKind.i64.wrap (i' + 1), ts4, e4)
   (by
    simp only [ew hil, List.length_append, List.length_cons, List.length_nil]
    refine ⟨trivial, trivial, trivial, trivial, by omega, by omega, j3, fun h0 => ?_⟩
    obtain ⟨q1, q2⟩ := j4 h0
    refine ⟨by simp; omega, fun f hf => ?_⟩
    rcases List.mem_append.1 hf with hf | hf
    ·exact q1.2 f hf
    ·simp only [List.mem_singleton] at hf
     subst hf
     exact ⟨q2.1, q2.2, j5⟩) (by simp only [ew hil]; omega)
  have next : ∀ e5 : Int, m < al'.length → bj ts e ts4 e5 → (e5 = 0 → e4 = 0) → Tot (again2 (a', sp', dp', d0', d1', d2', l', d4', out', i', IntKind.i64.wrap (m + 1), ts4, e5, nm', al', ty', hd2, f0', f1', f2', f3', f4')) _ := fun e5 hm hg5 he5 => ih2 (a', sp', dp', d0', d1', d2', l', d4', out', i', IntKind.i64.wrap (m + 1), ts4, e5, nm', al', ty', hd2, f0', f1', f2', f3', f4')
   (by
    simp only [em hm]
    exact ⟨trivial, trivial, trivial, trivial, trivial, trivial, by omega, by omega, hg5, trivial, trivial, fun h0 => j4 (he5 h0), j5⟩) (by simp only [em hm]; omega)
  unfold cJ
  dsimp only
  repeat' (first | (with_reducible refine ah ?_ ?_ <;> (intro hb; (try simp only [bnl] at hb); (try revert hb; intro _))) | with_reducible refine aq ?_ ?_ | with_reducible refine ak ?_ | (refine ag (bR _ _ _) ?_; rintro _ ⟨-, rfl⟩; try dsimp only) | (refine ag (air _ ?_) ?_; rotate_left; intro _ _) | fail)
  all_goals first | (first | (simp only [bnl, lnl]; done) | (simp only [bnl, lnl]; omega)) | exact out1 | exact next _ (by omega) j3 (fun h => h) | exact next _ (by omega) (bj.stuck j3.len j3.cap (nz (by decide))) (fun h => absurd h (nz (by decide))) | skip
  ·have := aiF hal m.toNat; omega
 have inner1 : ∀ (ts3 : List ac) (e3 : Int) (nm : List UInt8), i < l.length → bj ts2 e2 ts3 e3 →
   Tot (aB 2000 (dE 2000 again) (a, sp, dp, d0, d1, d2, l, d4, out, i, (List.getD l (Int.toNat i) (af .jnode)).kind, (List.getD l (Int.toNat i) (af .jnode)).n, (List.getD l (Int.toNat i) (af .jnode)).s, (List.getD l (Int.toNat i) (af .jnode)).l, (List.getD l (Int.toNat i) (af .jnode)).names, 0, ts3, e3, nm, ([] : List (List UInt8)), 0, false, 0, 0, ([] : List UInt8), ([] : List ae), ([] : List (List UInt8)))) (fun z => ∃ (y0 : List ac) (y1 : Int) (rest : List an), z.1.dimR = .tup [] ∧ z.2 = some [.ul .atype y0, .int .i64 y1] :: rest ∧ da ts e c0 c1 c2 c3 c4 a sp dp (y0, y1)) := by
  intro ts3 e3 nm hil hgr
  refine bi (fun x => match x with | (a', sp', dp', d0', d1', d2', l', d4', out', i', v0, v1, v2, v3, v4, m, ts4, e4, nm', al', ty', hd2, f0', f1', f2', f3', f4') => a' = a ∧ sp' = sp ∧ dp' = dp ∧ d0' = d0 ∧ d1' = d1 ∧ d2' = d2 ∧ l' = l ∧ d4' = d4 ∧ out' = out ∧ i' = i ∧ aK (.mk v0 v1 v2 v3 v4) ∧ 0 ≤ m ∧ m ≤ (out.length : Int) ∧ bj ts2 e2 ts4 e4) (fun x => ((out.length : Int) - x.2.2.2.2.2.2.2.2.2.2.2.2.2.2.2.1).toNat) ?_ _ _
   ⟨rfl, rfl, rfl, rfl, rfl, rfl, rfl, rfl, rfl, rfl, hkid, by simp, by simp, hgr⟩ (by simp; omega)
  rintro again1 ⟨a', sp', dp', d0', d1', d2', l', d4', out', i', v0, v1, v2, v3, v4, m, ts4, e4, nm', al', ty', hd2, f0', f1', f2', f3', f4'⟩ ⟨rfl, rfl, rfl, rfl, rfl, rfl, rfl, rfl, rfl, rfl, hv, j1, j2, j3⟩ ih1
  dsimp only at ih1
  have em : m < out'.length → IntKind.i64.wrap (m + 1) = m + 1 := fun h => ap (m + 1) (by omega)
  have next : ∀ e5 : Int, m < out'.length → bj ts2 e2 ts4 e5 → Tot (again1 (a', sp', dp', d0', d1', d2', l', d4', out', i', v0, v1, v2, v3, v4, IntKind.i64.wrap (m + 1), ts4, e5, nm', al', ty', hd2, f0', f1', f2', f3', f4')) _ := fun e5 hm hg5 => ih1 (a', sp', dp', d0', d1', d2', l', d4', out', i', v0, v1, v2, v3, v4, IntKind.i64.wrap (m + 1), ts4, e5, nm', al', ty', hd2, f0', f1', f2', f3', f4')
   (by
    simp only [em hm]
    exact ⟨trivial, trivial, trivial, trivial, trivial, trivial, trivial, trivial, trivial, trivial, hv, by omega, by omega, hg5⟩) (by simp only [em hm]; omega)
  obtain ⟨q1, q2, q3, q4, q5, q6⟩ := hv.kids
  have behind : ∀ (e5 : Int) (w0 w1 : Int) (w2 : List UInt8) (w3 : List ae) (w4 : List (List UInt8)), aK (.mk w0 w1 w2 w3 w4) → bj ts2 e2 ts4 e5 → Tot (ai (bQ ts4 e5 w0 w1 w2 w3 w4 sp' (dp' + 1)) (fun r12 =>
      ai (co v0 v1 v2 v3 v4 ([100, 101, 102, 97, 117, 108, 116] : List UInt8)) (fun r13 =>
       ai (cp r12.2.1 r12.2.2 v0 v1 v2 v3 v4 ([97, 108, 105, 97, 115, 101, 115] : List UInt8)) (fun r14 =>
        (fun z => aB 2000 (cJ 2000 again) z) (a', sp', dp', d0', d1', d2', l', d4', out', i', 0, r14.2.2.1, r14.2.2.2, nm', r14.1, r12.1, r13.2.2.2.2.2, r13.1, r13.2.1, r13.2.2.1, r13.2.2.2.1, r13.2.2.2.2.1))))) (fun z => ∃ (y0 : List ac) (y1 : Int) (rest : List an), z.1.dimR = .tup [] ∧ z.2 = some [.ul .atype y0, .int .i64 y1] :: rest ∧ da ts e c0 c1 c2 c3 c4 a' sp' dp' (y0, y1)) := by
   intro e5 w0 w1 w2 w3 w4 hw hg5
   refine ag (hT _ _ _ _ _ _ _ _ j3.cap hw (by omega)) ?_
   rintro ⟨k, ts5, e6⟩ ⟨-, x1, x2⟩
   dsimp only at x1 x2 ⊢
   refine ag (nd _ _ _ _ _ _ (by omega)) ?_
   rintro r ⟨-, hr⟩
   have hg := rk (k := v0) (names := v4) (name := [100, 101, 102, 97, 117, 108, 116]) q6
   simp only [bW] at hr
   rw [← hr] at hg
   refine ag (al6 _ _ _ _ _ _ _ _ hv) ?_
   rintro ⟨al, is, ts6, e7⟩ ⟨-, t1, t2, rfl, t3⟩
   dsimp only at t1 t2 t3 ⊢
   have hgg := hg5.trans x1
   have g7 : bj ts2 e2 ts6 e7 := by
    by_cases h7 : e7 = 0
    ·have h6 := t3 h7
     rw [h6] at hgg
     rw [h7]; exact hgg
    ·exact bj.stuck hgg.len hgg.cap h7
   exact inner2 ts6 e7 _ _ _ _ _ _ _ _ _ hil (i3.trans g7) t2 t1 (fun h0 => ⟨(i4 (g7.err h0)).mono g7.len, x2 (t3 h0)⟩) hg
  unfold dE hH
  dsimp only
  repeat' (first | (with_reducible refine ah ?_ ?_ <;> (intro hb; (try simp only [bnl] at hb); (try revert hb; intro _))) | with_reducible refine aq ?_ ?_ | with_reducible refine ak ?_ | (refine ag (bR _ _ _) ?_; rintro _ ⟨-, rfl⟩; try dsimp only) | fail)
  all_goals first | (first | (simp only [bnl, lnl]; done) | (simp only [bnl, lnl]; omega)) | exact next _ (by omega) j3 | exact next _ (by omega) (bj.stuck j3.len j3.cap (nz (by decide))) | skip
  refine ag (nd _ _ _ _ _ _ (by omega)) ?_
  rintro r ⟨-, hr⟩
  have hg := rk (k := v0) (names := v4) (name := [116, 121, 112, 101]) q6
  simp only [bW] at hr
  rw [← hr] at hg
  repeat' (first | (with_reducible refine ah ?_ ?_ <;> (intro hb; (try simp only [bnl] at hb); (try revert hb; intro _))) | with_reducible refine aq ?_ ?_ | with_reducible refine ak ?_ | (refine ag (bR _ _ _) ?_; rintro _ ⟨-, rfl⟩; try dsimp only) | fail)
  all_goals simp only [ed]
  ·exact behind _ _ _ _ _ _ hg (bj.stuck j3.len j3.cap (nz (by decide)))
  ·exact behind _ _ _ _ _ _ hg j3
 repeat' (first | (with_reducible refine ah ?_ ?_ <;> (intro hb; (try simp only [bnl] at hb); (try revert hb; intro _))) | with_reducible refine aq ?_ ?_ | with_reducible refine ak ?_ | (refine ag (bR _ _ _) ?_; rintro _ ⟨-, rfl⟩; try dsimp only) | (refine ag (apS _ _ _ _ _ _ _ _ _ hkid) ?_; rintro ⟨w, ts3, e3⟩ ⟨-, w1, rfl, w2⟩; dsimp only at w1 w2 ⊢) | fail)
 all_goals first | (first | (simp only [bnl, lnl]; done) | (simp only [bnl, lnl]; omega)) | skip
 ·exact ⟨_, _, _, rfl, rfl, _, bj.stuck i3.len i3.cap (nz (by decide)), .inl rfl⟩
 ·rename_i he3
  have g0 : bj ts3 e2 ts3 e3 := by
   have := w2 he3
   subst this; rw [he3]; exact bj.refl i3.cap
  repeat' (first | (with_reducible refine ah ?_ ?_ <;> (intro hb; (try simp only [bnl] at hb); (try revert hb; intro _))) | with_reducible refine aq ?_ ?_ | with_reducible refine ak ?_ | (refine ag (air _ (by omega)) ?_; intro _ _) | (refine ag (bR _ _ _) ?_; rintro _ ⟨-, rfl⟩; try dsimp only) | fail)
  ·exact inner1 _ _ _ (by omega) (bj.stuck (Nat.le_refl _) i3.cap (nz (by decide)))
  ·exact inner1 _ _ _ (by omega) g0
 ·rename_i he3
  exact inner1 _ _ _ (by omega) (bj.stuck (Nat.le_refl _) i3.cap he3)
 all_goals first | (exfalso; omega) | skip
 all_goals first | (have := hat2 (by assumption); first | (simp only [bnl, lnl]; done) | (simp only [bnl, lnl]; omega)) | skip
 ·rename_i he
  exact ⟨_, _, _, rfl, rfl, _, i3, .inl rfl⟩
 ·rename_i he
  have hr := hat2 he
  have hl : a.toNat < ts2.length := by omega
  refine ⟨_, _, _, rfl, rfl, ts2, i3, .inr ⟨out, (i4 he).1, (i4 he).2, _, List.getElem?_eq_getElem hl, ?_⟩⟩
  rw [nr (List.getElem?_eq_getElem hl)]
 ·exact ⟨_, _, _, rfl, rfl, _, i3, .inl rfl⟩
end Go.Proofs.Ytdpajabhmmmjoaa
end
