import Derived.KernelRfl
import Derived.Test.YtdpajabhmmmjoaaZ02
noncomputable section
namespace Go.Proofs.Ytdpajabhmmmjoaa
open Go.AM
set_option autoImplicit false
set_option linter.unusedVariables false
set_option maxRecDepth 100000
def po : aek := fun f p q k xs => match f, p, q, k, xs with
 | 43, [.agg [.sl .atype (.may _) a0_0], .int .i64 a1, .sl (.num .i64) (.may _) a2], [], .num .i64, o0_0 => some (can (cp o0_0 a0_0 a1 a2), .int .i64 ((pick (cp o0_0 a0_0 a1 a2)).1), (pick (cp o0_0 a0_0 a1 a2)).2)
 | _, _, _, _, _ => none
noncomputable def iz : aM := (zw po (rq (xb (P := Try.prog) [abZ])))
theorem acP : cM iz [43] := (ael (by
 intro f p q k xs hf
 unfold po
 split <;> first | rfl | (simp at hf)) (by
 intro f p q k xs hf
 unfold po
 split <;> first | rfl | (simp at hf)) (rt _ _))
theorem adA  : cC Try.prog iz := by
 refine aib ?_ ?_
 ·intro f p q k xs v ys h
  unfold po at h
  split at h
  ·simp only [Option.some.injEq, Prod.mk.injEq] at h
   obtain ⟨hc, rfl, rfl⟩ := h
   exact ((xO hc).1).dim rfl rfl
  ·simp at h
 exact zn _
def vp : IR := Rs [Bi 26 .lss 25 24] (Sq (Cn 26 .skip (.exit 0)) (Sq (.block 1 (Rs [Ix 27 (.num .i64) 23 25, Lq 28 27, Mv 11 28] (Rg [Mv 29 9, Ld 30 1 true 4, Mv 31 11, Mv 32 2, Mv 33 3, Ca 34 43 [30, 31, 32, 33], Bi 35 .add 29 34, Pp (.mx 36 true 35 (kI 1000000)), Mv 9 36]))) (Rg [Bc 37 .add 25 1, Mv 25 37])))
def vq : IR := Rg [Mv 38 3, Mv 39 1, Mv 40 9, Pp (.ixw 41 (.num .i64) 38 39), Pp (.stw none 1 41 40)]
def uN : IR := Rs [Mv 42 3, Mv 43 1, Pp (.ixw 44 (.num .i64) 42 43), Pp (.ldw 45 1 false 44), Mv 8 45] .ret
def sP : IR := Rs [Bx 4 0, Mi 8 0] (Sq (Rs [Mv 12 3, Mv 13 1, Pp (.ixw 14 (.num .i64) 12 13), Pp (.ldw 15 1 false 14), Bc 16 .eql 15 0] (Cn 16 (Rs [Mi 9 1] (Sq (Rs [Fa 17 0 4, Lq 18 17, Mv 19 1, Ix 20 .atype 18 19, Ld 21 10 true 20, Mv 22 2, Ca 23 77 [21, 22], Ll 24 23, Mi 25 0] (.block 0 (.loop [1, 2, 3, 4, 9, 23, 24, 25, 1000000] 2 vp))) vq)) .skip)) uN)
def pp : List RV := [.t 8]
theorem aff : FnC Try.prog iz [43] 2 aaf Try.f43 sP pp := ⟨adA, acP, Try.func43, by kernel_rfl, by kernel_rfl, by decide⟩
def aem (R : IR → (Ex → St → Ro) → St → Ro) (again0 : St → Ro) : Ex → St → Ro := (bD again0 [1, 2, 3, 4, 9, 23, 24, 25, 1000000] 2 (aT 0 (bv (R vq) (bv (R uN) (fin pp)))))
abbrev jS : Type := (Int × List Int × Nat × List ak × Int × List Int × Int × Int × List Int)
def jq (x : jS) : St := { env := (.undef :: .int .i64 x.1 :: .sl (.num .i64) (.may false) x.2.1 :: .sw (.num .i64) 0 x.2.2.1 :: .ea [.sl .atype (.may false) x.2.2.2.1] :: (U 4 (.int .i64 x.2.2.2.2.1 :: (U 13 (.sl (.num .i64) (.may false) x.2.2.2.2.2.1 :: .int .i64 x.2.2.2.2.2.2.1 :: .int .i64 x.2.2.2.2.2.2.2.1 :: (U 20 [])))))), hp := [some [.rw (.num .i64) x.2.2.2.2.2.2.2.2], none] }
def rI (N : Nat) : (St → Ro) → St → Ro := fun again0 s => run iz N vp (aem (run iz N) again0) s
def nK (N : Nat) (again0 : jS → Ro) (x : jS) : Ro :=
 let v1 : Int := x.1
 let v2 : List Int := x.2.1
 let v3 : Nat := x.2.2.1
 let v4_0 : List ak := x.2.2.2.1
 let v9 : Int := x.2.2.2.2.1
 let v23 : List Int := x.2.2.2.2.2.1
 let v24 : Int := x.2.2.2.2.2.2.1
 let v25 : Int := x.2.2.2.2.2.2.2.1
 let o0_0 : List Int := x.2.2.2.2.2.2.2.2
 cond (decide (v25 < v24)) (
  chk ((decide (0 ≤ v25) && decide (v25 < ↑(List.length v23)))) (
   let x4 : Int := List.getD v23 (Int.toNat v25) (aC (.num .i64))
   zk (cp o0_0 v4_0 x4 v2) (Nat.beq v3 (List.length o0_0)) (fun r2 =>
    let x5 : Int := (IntKind.wrap .i64 (v9 + r2.1))
    let x6 : Int := (if 1000000 < x5 then 1000000 else x5)
    let x7 : Int := (IntKind.wrap .i64 (v25 + 1))
    again0 (v1, v2, v3, v4_0, x6, v23, v24, x7, r2.2)))) (
  chk ((decide (0 ≤ v1) && decide (v1 < ↑v3))) (
   chk (decide ((Int.toNat v1) < List.length o0_0)) (
    let x8 : List Int := (List.set o0_0 (Int.toNat v1) v9)
    chk ((decide (0 ≤ v1) && decide (v1 < ↑v3))) (
     chk (decide ((Int.toNat v1) < List.length x8)) (
      let x9 : Int := List.getD x8 (Int.toNat v1) (aC (.num .i64))
      some (.int .i64 x9, [some [.rw (.num .i64) x8], none]))))))
theorem adB (N : Nat) : ∀ (again0 : St → Ro) (x : jS), rI N again0 (jq x) = nK N (fun y => again0 (jq y)) x := by
 intro again0 x
 kernel_rfl
def kT (N : Nat) (o0_0 : List Int) (p0_0 : List ak) (p1 : Int) (p2 : List Int) (q0 : jS → Ro) : Ro :=
 chk ((decide (0 ≤ p1) && decide (p1 < ↑(List.length o0_0)))) (
  chk (decide ((Int.toNat p1) < List.length o0_0)) (
   let x1 : Int := List.getD o0_0 (Int.toNat p1) (aC (.num .i64))
   cond (x1 == 0) (
    chk ((decide (0 ≤ p1) && decide (p1 < ↑(List.length p0_0)))) (
     let x2 : ak := (List.getD p0_0 (Int.toNat p1) (aC .atype))
     aF (dN x2 p2) (fun (r1 : List Int) =>
      let x3 : Int := (↑(List.length r1) : Int)
      q0 (p1, p2, (List.length o0_0), p0_0, 1, r1, x3, 0, o0_0)))) (
    chk ((decide (0 ≤ p1) && decide (p1 < ↑(List.length o0_0)))) (
     chk (decide ((Int.toNat p1) < List.length o0_0)) (
      let x10 : Int := List.getD o0_0 (Int.toNat p1) (aC (.num .i64))
      some (.int .i64 x10, [some [.rw (.num .i64) o0_0], none]))))))
def sQ (N : Nat) (o0_0 : List Int) (p0_0 : List ak) (p1 : Int) (p2 : List Int) : Ro := kT N o0_0 p0_0 p1 p2 (fun z => aW N (nK N) z)
def agH (N : Nat) : List (Nat × (St → Ro)) := ba iz N sP (fin pp) ++ []
theorem aen (N : Nat) (o0_0 : List Int) (p0_0 : List ak) (p1 : Int) (p2 : List Int) : bb iz N 46 pp sP [.agg [.sl .atype (.may false) p0_0], .int .i64 p1, .sl (.num .i64) (.may false) p2, .sw (.num .i64) 0 (List.length o0_0)] [some [.rw (.num .i64) o0_0], none] = sQ N o0_0 p0_0 p1 p2 :=
 (bH (agH N) (by kernel_rfl) rfl (fun C => kT N o0_0 p0_0 p1 p2 (fun z => C 1000000 (jq z))) (fun C => by kernel_rfl)).trans (Eq.trans (b := kT N o0_0 p0_0 p1 p2 (fun z => bi N (rI N) (jq z))) (by kernel_rfl) (congrArg (kT N o0_0 p0_0 p1 p2) (funext fun z => bj (jq) (rI N) (nK N) (adB N) N z)))
theorem aeo (N : Nat) (o0_0 : List Int) (p0_0 : List ak) (p1 : Int) (p2 : List Int) (h : Tot (sQ N o0_0 p0_0 p1 p2) (fun z => ∃ (y0 : Int) (y1 : List Int) (rest : List aI), z.1 = .int .i64 y0 ∧ z.2 = some [.rw (.num .i64) y1] :: none :: rest ∧ vo o0_0 p0_0 p1 p2 (y0, y1))) : ∃ r, cp o0_0 p0_0 p1 p2 r := by
 obtain ⟨⟨v, hp⟩, hz, y0, y1, rest, e1, e2, hq⟩ := h
 simp only at e1 e2
 subst e1 e2
 exact ⟨(y0, y1), FnC.rwFn (p := [.agg [.sl .atype (.may false) p0_0], .int .i64 p1, .sl (.num .i64) (.may false) p2]) (q := []) aff (aen N o0_0 p0_0 p1 p2) hz, hq⟩
noncomputable def oE : aM := tab (P := Try.prog) [] [] [] [abY, abZ, t7]
def wQ : IR := Rs [Bi 37 .lss 36 35] (Sq (Cn 37 .skip (.exit 0)) (Sq (.block 1 (Rs [Ix 38 (.num .i64) 34 36, Lq 39 38, Mv 10 39] (.reg [Fa 40 2 8, Fo [] [1] (.ld 41 1 false true 40), Ld 42 1 true 3, Mv 43 10, Mv 44 2, Ca 45 44 [42, 43, 44], Pp (.bsl 46 .aval [45] true), Pp (.app 47 .aval (.tk 41) 46), Fa 48 2 8, Fo [] [1] (.st none 1 48 (.tk 47))] [[], [0], [], [], [], [2, 3, 4], rg 2 5, rg 0 6, rg 0 7, rg 0 8]))) (Rg [Bc 49 .add 36 1, Mv 36 49])))
def wR : IR := Rs [Pp (.ld 50 5 true false 8), Sv 5 6 50] .ret
def t9 : IR := Rs [Bx 3 0, Pp (.new 6 [vU 0, vS, nl .aval, nl .str, vI 0])] (Rs [Fa 11 0 3, Lq 12 11, Mv 13 1, Ix 14 .atype 12 13, Ld 15 10 true 14, Pp (.alr 7 10), Fz 7 10 15] (Rs [Pp (.bld 16 [vU 0, vS, nl .aval, nl .str, vI 0] []), Pp (.new 8 [vU 0, vS, nl .aval, nl .str, vI 0]), Sv 5 8 16] (Sq (Rs [Fa 17 0 7, Lq 18 17, Bc 19 .eql 18 11] (Cn 19 (Rg [Fa 20 7 7, Lq 21 20, Pp (.mks 22 .u8 21), Pp (.b2s 23 22), Fa 24 1 8, Sv 1 24 23]) .skip)) (Sq (Rs [Fa 25 0 7, Lq 26 25, Bc 27 .eql 26 14] (Cn 27 (Rg [Ld 28 10 true 7, Mv 29 2, Ca 30 78 [28, 29], Fa 31 4 8, Sv 1 31 30]) .skip)) (Sq (Rs [Ld 32 10 true 7, Mv 33 2, Ca 34 77 [32, 33], Ll 35 34, Mi 36 0] (.block 0 (.loop [2, 3, 6, 8, 34, 35, 36, 1000000] 2 wQ))) wR)))))
def qz : List RV := [.cell 6 5 true]
theorem agI : FnC Try.prog oE [] 0 abU Try.f44 t9 qz := fnC (by kernel_rfl) Try.func44 (by kernel_rfl) (by kernel_rfl) (by decide)
def afg (R : IR → (Ex → St → Ro) → St → Ro) (again0 : St → Ro) : Ex → St → Ro := (bD again0 [2, 3, 6, 8, 34, 35, 36, 1000000] 2 (aT 0 (bv (R wR) (fin qz))))
abbrev kV : Type := (List Int × List ak × List Int × Int × Int × Int × Bs × List aB × Bss × Int × Int × Bs × List aB × Bss × Int)
def jT (x : kV) : St := { env := (.undef :: .undef :: .sl (.num .i64) (.may false) x.1 :: .ea [.sl .atype (.may false) x.2.1] :: .undef :: .undef :: .ptr 0 0 :: .undef :: .ptr 1 0 :: (U 25 (.sl (.num .i64) (.may false) x.2.2.1 :: .int .i64 x.2.2.2.1 :: .int .i64 x.2.2.2.2.1 :: (U 14 [])))), hp := [some [.int .u64 x.2.2.2.2.2.1, .str x.2.2.2.2.2.2.1, .sl .aval .own x.2.2.2.2.2.2.2.1, .sl .str .own x.2.2.2.2.2.2.2.2.1, .int .i64 x.2.2.2.2.2.2.2.2.2.1], some [.int .u64 x.2.2.2.2.2.2.2.2.2.2.1, .str x.2.2.2.2.2.2.2.2.2.2.2.1, .sl .aval .own x.2.2.2.2.2.2.2.2.2.2.2.2.1, .sl .str .own x.2.2.2.2.2.2.2.2.2.2.2.2.2.1, .int .i64 x.2.2.2.2.2.2.2.2.2.2.2.2.2.2]] }
def sR (N : Nat) : (St → Ro) → St → Ro := fun again0 s => run oE N wQ (afg (run oE N) again0) s
def kW (N : Nat) (again0 : kV → Ro) (x : kV) : Ro :=
 let v2 : List Int := x.1
 let v3_0 : List ak := x.2.1
 let v34 : List Int := x.2.2.1
 let v35 : Int := x.2.2.2.1
 let v36 : Int := x.2.2.2.2.1
 let o0_0 : Int := x.2.2.2.2.2.1
 let o0_1 : Bs := x.2.2.2.2.2.2.1
 let o0_2 : List aB := x.2.2.2.2.2.2.2.1
 let o0_3 : Bss := x.2.2.2.2.2.2.2.2.1
 let o0_4 : Int := x.2.2.2.2.2.2.2.2.2.1
 let o1_0 : Int := x.2.2.2.2.2.2.2.2.2.2.1
 let o1_1 : Bs := x.2.2.2.2.2.2.2.2.2.2.2.1
 let o1_2 : List aB := x.2.2.2.2.2.2.2.2.2.2.2.2.1
 let o1_3 : Bss := x.2.2.2.2.2.2.2.2.2.2.2.2.2.1
 let o1_4 : Int := x.2.2.2.2.2.2.2.2.2.2.2.2.2.2
 cond (decide (v36 < v35)) (
  chk ((decide (0 ≤ v36) && decide (v36 < ↑(List.length v34)))) (
   let x4 : Int := List.getD v34 (Int.toNat v36) (aC (.num .i64))
   aF (jp v3_0 x4 v2) (fun (r3 : aB) =>
    chk (decide ((List.length o1_2 + List.length ([(reA r3)] : List aB)) * 80 ≤ 140737488355328)) (
     let x5 : List aB := (o1_2 ++ ([(reA r3)] : List aB))
     let x6 : Int := (IntKind.wrap .i64 (v36 + 1))
     again0 (v2, v3_0, v34, v35, x6, o0_0, o0_1, o0_2, o0_3, o0_4, o1_0, o1_1, x5, o1_3, o1_4))))) (
  some (.agg [.int .u64 o1_0, .str o1_1, .sl .aval (.may false) o1_2, .sl .str (.may false) o1_3, .int .i64 o1_4], [some [.int .u64 o1_0, .str o1_1, .sl .aval (.may false) o1_2, .sl .str (.may false) o1_3, .int .i64 o1_4], some [.int .u64 o1_0, .str o1_1, .sl .aval .own o1_2, .sl .str .own o1_3, .int .i64 o1_4]]))
theorem aep (N : Nat) : ∀ (again0 : St → Ro) (x : kV), sR N again0 (jT x) = kW N (fun y => again0 (jT y)) x := by
 intro again0 x
 kernel_rfl
def mK (N : Nat) (p0_0 : List ak) (p1 : Int) (p2 : List Int) (q0 : kV → Ro) : Ro :=
 chk ((decide (0 ≤ p1) && decide (p1 < ↑(List.length p0_0)))) (
  let x1 : ak := (List.getD p0_0 (Int.toNat p1) (aC .atype))
  cond (x1.kind == 11) (
   chk ((decide (0 ≤ x1.size) && decide (x1.size * 1 ≤ 140737488355328))) (
    let x2 : Bs := (List.replicate (Int.toNat x1.size) (aC .u8))
    cond (x1.kind == 14) (
     aF (fE x1 p2) (fun (r1 : Int) =>
      aF (dN x1 p2) (fun (r2 : List Int) =>
       let x3 : Int := (↑(List.length r2) : Int)
       q0 (p2, p0_0, r2, x3, 0, 0, ([] : Bs), ([] : List aB), ([] : Bss), 0, 0, x2, ([] : List aB), ([] : Bss), r1)))) (
     aF (dN x1 p2) (fun (r4 : List Int) =>
      let x7 : Int := (↑(List.length r4) : Int)
      q0 (p2, p0_0, r4, x7, 0, 0, ([] : Bs), ([] : List aB), ([] : Bss), 0, 0, x2, ([] : List aB), ([] : Bss), 0))))) (
   cond (x1.kind == 14) (
    aF (fE x1 p2) (fun (r5 : Int) =>
     aF (dN x1 p2) (fun (r6 : List Int) =>
      let x8 : Int := (↑(List.length r6) : Int)
      q0 (p2, p0_0, r6, x8, 0, 0, ([] : Bs), ([] : List aB), ([] : Bss), 0, 0, ([] : Bs), ([] : List aB), ([] : Bss), r5)))) (
    aF (dN x1 p2) (fun (r7 : List Int) =>
     let x9 : Int := (↑(List.length r7) : Int)
     q0 (p2, p0_0, r7, x9, 0, 0, ([] : Bs), ([] : List aB), ([] : Bss), 0, 0, ([] : Bs), ([] : List aB), ([] : Bss), 0)))))
def ua (N : Nat) (p0_0 : List ak) (p1 : Int) (p2 : List Int) : Ro := mK N p0_0 p1 p2 (fun z => aW N (kW N) z)
def aif (N : Nat) : List (Nat × (St → Ro)) := ba oE N t9 (fin qz) ++ []
theorem afh (N : Nat) (p0_0 : List ak) (p1 : Int) (p2 : List Int) : bb oE N 51 qz t9 [.agg [.sl .atype (.may false) p0_0], .int .i64 p1, .sl (.num .i64) (.may false) p2] [] = ua N p0_0 p1 p2 :=
 (bH (aif N) (by kernel_rfl) rfl (fun C => mK N p0_0 p1 p2 (fun z => C 1000000 (jT z))) (fun C => by kernel_rfl)).trans (Eq.trans (b := mK N p0_0 p1 p2 (fun z => bi N (sR N) (jT z))) (by kernel_rfl) (congrArg (mK N p0_0 p1 p2) (funext fun z => bj (jT) (sR N) (kW N) (aep N) N z)))
theorem afi (N : Nat) (p0_0 : List ak) (p1 : Int) (p2 : List Int) (h : Tot (ua N p0_0 p1 p2) (fun z => ∃ (y0 : aB) (rest : List aI), z.1.dimR = .agg (enc .aval y0) ∧ z.2 = rest ∧ rH p0_0 p1 p2 (y0))) : ∃ r, jp p0_0 p1 p2 r := by
 obtain ⟨⟨v, hp⟩, hz, y0, rest, e1, e2, hq⟩ := h
 simp only at e1 e2
 subst e2
 exact ⟨(y0), aO.dimR (agI.pure (afh N p0_0 p1 p2) hz) e1, hq⟩
end Go.Proofs.Ytdpajabhmmmjoaa
end
noncomputable section
namespace Go.Proofs.Ytdpajabhmmmjoaa
open Go.AM
set_option autoImplicit false
set_option linter.unusedVariables false
set_option maxRecDepth 100000
noncomputable def qc : aM := tab (P := Try.prog) [] [] [] [t7]
def xZ : IR := Rs [Bi 17 .lss 16 15] (Sq (Cn 17 .skip (.exit 1)) (Sq (.block 2 (Rs [Ix 18 .afield 14 16, Ld 19 9 true 18, Pp (.alr 7 9), Fz 7 9 19] (Sq (Rs [Mv 20 1, Fa 21 2 7, Lq 22 21, Ix 23 (.num .i64) 20 22, Lq 24 23, Bc 25 .lss 24 0] (Cn 25 (Rs [Mi 4 (-1)] .ret) .skip)) (Rg [Mv 26 5, Mv 27 1, Fa 28 2 7, Lq 29 28, Ix 30 (.num .i64) 27 29, Lq 31 30, Pp (.mx 32 false 26 31), Mv 5 32])))) (Rg [Bc 33 .add 16 1, Mv 16 33])))
def wS : IR := Sq (Rs [Mv 49 5, Bc 50 .lss 49 0] (Cn 50 (Rs [Mi 4 (-1)] .ret) .skip)) (Rs [Mv 51 5, Bc 52 .add 51 1, Mv 4 52] .ret)
def vr : IR := Rs [Bx 2 0, Mi 4 0] (Rs [Mi 5 (-1)] (Sq (Rs [Fa 9 0 2, Lq 10 9] (.block 0 (Rs [Bc 12 .eql 10 9, Mv 11 12] (Cn 11 (Rs [Mi 5 0] (Rs [Fa 13 8 2, Lq 14 13, Ll 15 14, Mi 16 0] (.block 1 (.loop [1, 5, 14, 15, 16, 1000000] 0 xZ)))) (Rs [Bc 35 .eql 10 14, Mv 34 35] (Cn 34 (Rs [Ld 36 10 true 2, Mv 37 1, Ca 38 78 [36, 37], Mv 8 38] (Rs [Mv 39 8, Bc 40 .geq 39 0] (Cn 40 (Rg [Mv 41 1, Fa 42 9 2, Lq 43 42, Mv 44 8, Ix 45 (.num .i64) 43 44, Lq 46 45, Ix 47 (.num .i64) 41 46, Lq 48 47, Mv 5 48]) .skip))) (Rs [Mi 4 0] .ret))))))) wS))
def rJ : List RV := [.t 4]
theorem aig : FnC Try.prog qc [] 0 ada Try.f76 vr rJ := fnC (by kernel_rfl) Try.func76 (by kernel_rfl) (by kernel_rfl) (by decide)
def agJ (R : IR → (Ex → St → Ro) → St → Ro) (again0 : St → Ro) : Ex → St → Ro := (bD again0 [1, 5, 14, 15, 16, 1000000] 0 (aT 1 (aT 0 (bv (R wS) (fin rJ)))))
abbrev mL : Type := (List Int × Int × List aQ × Int × Int)
def kX (x : mL) : St := { env := (.undef :: .sl (.num .i64) (.may false) x.1 :: (U 3 (.int .i64 x.2.1 :: (U 8 (.sl .afield (.may false) x.2.2.1 :: .int .i64 x.2.2.2.1 :: .int .i64 x.2.2.2.2 :: (U 36 [])))))), hp := [] }
def ub (N : Nat) : (St → Ro) → St → Ro := fun again0 s => run qc N xZ (agJ (run qc N) again0) s
def qA (N : Nat) (again0 : mL → Ro) (x : mL) : Ro :=
 let v1 : List Int := x.1
 let v5 : Int := x.2.1
 let v14 : List aQ := x.2.2.1
 let v15 : Int := x.2.2.2.1
 let v16 : Int := x.2.2.2.2
 cond (decide (v16 < v15)) (
  chk ((decide (0 ≤ v16) && decide (v16 < ↑(List.length v14)))) (
   let x2 : aQ := (List.getD v14 (Int.toNat v16) (aC .afield))
   chk ((decide (0 ≤ x2.typ) && decide (x2.typ < ↑(List.length v1)))) (
    let x3 : Int := List.getD v1 (Int.toNat x2.typ) (aC (.num .i64))
    cond (decide (x3 < 0)) (
     some (.int .i64 (-1), [])) (
     chk ((decide (0 ≤ x2.typ) && decide (x2.typ < ↑(List.length v1)))) (
      let x4 : Int := List.getD v1 (Int.toNat x2.typ) (aC (.num .i64))
      let x5 : Int := (if v5 < x4 then x4 else v5)
      let x6 : Int := (IntKind.wrap .i64 (v16 + 1))
      again0 (v1, x5, v14, v15, x6)))))) (
  cond (decide (v5 < 0)) (
   some (.int .i64 (-1), [])) (
   let x7 : Int := (IntKind.wrap .i64 (v5 + 1))
   some (.int .i64 x7, [])))
theorem afj (N : Nat) : ∀ (again0 : St → Ro) (x : mL), ub N again0 (kX x) = qA N (fun y => again0 (kX y)) x := by
 intro again0 x
 kernel_rfl
def oF (N : Nat) (p0 : ak) (p1 : List Int) (q0 : mL → Ro) : Ro :=
 cond (p0.kind == 9) (
  let x1 : Int := (↑(List.length p0.fields) : Int)
  q0 (p1, 0, p0.fields, x1, 0)) (
  cond (p0.kind == 14) (
   aF (fE p0 p1) (fun (r1 : Int) =>
    cond (decide (0 ≤ r1)) (
     chk ((decide (0 ≤ r1) && decide (r1 < ↑(List.length p0.branches)))) (
      let x8 : Int := List.getD p0.branches (Int.toNat r1) (aC (.num .i64))
      chk ((decide (0 ≤ x8) && decide (x8 < ↑(List.length p1)))) (
       let x9 : Int := List.getD p1 (Int.toNat x8) (aC (.num .i64))
       cond (decide (x9 < 0)) (
        some (.int .i64 (-1), [])) (
        let x10 : Int := (IntKind.wrap .i64 (x9 + 1))
        some (.int .i64 x10, []))))) (
     cond (decide ((-1) < 0)) (
      some (.int .i64 (-1), [])) (
      let x11 : Int := (IntKind.wrap .i64 ((-1) + 1))
      some (.int .i64 x11, []))))) (
   some (.int .i64 0, [])))
def vt (N : Nat) (p0 : ak) (p1 : List Int) : Ro := oF N p0 p1 (fun z => aW N (qA N) z)
def ajl (N : Nat) : List (Nat × (St → Ro)) := ba qc N vr (fin rJ) ++ []
theorem agK (N : Nat) (p0 : ak) (p1 : List Int) : bb qc N 53 rJ vr [.agg (enc .atype p0), .sl (.num .i64) (.may false) p1] [] = vt N p0 p1 :=
 (bH (ajl N) (by kernel_rfl) rfl (fun C => oF N p0 p1 (fun z => C 1000000 (kX z))) (fun C => by kernel_rfl)).trans (Eq.trans (b := oF N p0 p1 (fun z => bi N (ub N) (kX z))) (by kernel_rfl) (congrArg (oF N p0 p1) (funext fun z => bj (kX) (ub N) (qA N) (afj N) N z)))
theorem agL (N : Nat) (p0 : ak) (p1 : List Int) (h : Tot (vt N p0 p1) (fun z => ∃ (y0 : Int) (rest : List aI), z.1.dimR = .int .i64 y0 ∧ z.2 = rest ∧ sN p0 p1 (y0))) : ∃ r, qb p0 p1 r := by
 obtain ⟨⟨v, hp⟩, hz, y0, rest, e1, e2, hq⟩ := h
 simp only at e1 e2
 subst e2
 exact ⟨(y0), aO.dimR (aig.pure (agK N p0 p1) hz) e1, hq⟩
noncomputable def mM : aM := tab (P := Try.prog) [] [] [] []
def vu : IR := Rs [Bi 12 .lss 11 10] (Sq (Cn 12 .skip (.exit 0)) (Sq (.block 1 (Rs [Mv 13 11, Ix 14 (.num .i64) 9 11, Lq 15 14, Mv 6 13, Mv 7 15] (Sq (.reg [Mv 16 1, Mv 17 7, Ix 18 (.num .i64) 16 17, Lq 19 18, Bc 20 .geq 19 0, Mv 21 20, Gt 21 (.mov 22 5), Gt 21 (.bin 23 .lss 22 (kI 0)), Gt 21 (.mov 24 23), Gf 24 (.mov 25 1), Gf 24 (.mov 26 7), Gf 24 (.ixa 27 (.num .i64) 25 26), Gf 24 (.lde 28 1 false 27), Gf 24 (.mov 29 1), Gf 24 (.fad 30 9 2), Gf 24 (.lde 31 1 false 30), Gf 24 (.mov 32 5), Gf 24 (.ixa 33 (.num .i64) 31 32), Gf 24 (.lde 34 1 false 33), Gf 24 (.ixa 35 (.num .i64) 29 34), Gf 24 (.lde 36 1 false 35), Gf 24 (.bin 37 .lss 28 36), Gt 21 (.pick 38 24 (kB true) 37), Pa 39 21 38] [[], [], [0, 1], [0, 1, 2], rg 0 3, rg 0 4, rg 0 5, rg 0 6, rg 0 7, rg 0 8, rg 0 8, rg 0 10, rg 0 11, rg 0 8, rg 0 8, rg 0 8 ++ [14], rg 0 8, rg 0 8 ++ [14, 15, 16], rg 0 8 ++ rg 14 17, rg 0 8 ++ rg 13 18, rg 0 8 ++ rg 13 19, rg 0 20, rg 0 21, rg 0 22]) (Cn 39 (Rg [Mv 40 6, Mv 5 40]) .skip)))) (Rg [Bc 41 .add 11 1, Mv 11 41])))
def vv : IR := Rs [Mv 42 5, Mv 4 42] .ret
def sS : IR := Rs [Bx 2 0, Mi 4 0] (Rs [Mi 5 (-1)] (Sq (Rs [Fa 8 9 2, Lq 9 8, Ll 10 9, Mi 11 0] (.block 0 (.loop [1, 2, 5, 9, 10, 11, 1000000] 0 vu))) vv))
def pr : List RV := [.t 4]
theorem afk : FnC Try.prog mM [] 0 aae Try.f78 sS pr := fnC (by kernel_rfl) Try.func78 (by kernel_rfl) (by kernel_rfl) (by decide)
def aeq (R : IR → (Ex → St → Ro) → St → Ro) (again0 : St → Ro) : Ex → St → Ro := (bD again0 [1, 2, 5, 9, 10, 11, 1000000] 0 (aT 0 (bv (R vv) (fin pr))))
abbrev jU : Type := (List Int × ak × Int × List Int × Int × Int)
def jr (x : jU) : St := { env := (.undef :: .sl (.num .i64) (.may false) x.1 :: .ea (enc .atype x.2.1) :: .undef :: .undef :: .int .i64 x.2.2.1 :: (U 3 (.sl (.num .i64) (.may false) x.2.2.2.1 :: .int .i64 x.2.2.2.2.1 :: .int .i64 x.2.2.2.2.2 :: (U 31 [])))), hp := [] }
def rK (N : Nat) : (St → Ro) → St → Ro := fun again0 s => run mM N vu (aeq (run mM N) again0) s
def nL (N : Nat) (again0 : jU → Ro) (x : jU) : Ro :=
 let v1 : List Int := x.1
 let v2 : ak := x.2.1
 let v5 : Int := x.2.2.1
 let v9 : List Int := x.2.2.2.1
 let v10 : Int := x.2.2.2.2.1
 let v11 : Int := x.2.2.2.2.2
 cond (decide (v11 < v10)) (
  chk ((decide (0 ≤ v11) && decide (v11 < ↑(List.length v9)))) (
   let x2 : Int := List.getD v9 (Int.toNat v11) (aC (.num .i64))
   chk ((decide (0 ≤ x2) && decide (x2 < ↑(List.length v1)))) (
    let x3 : Int := List.getD v1 (Int.toNat x2) (aC (.num .i64))
    cond (decide (0 ≤ x3)) (
     cond (decide (v5 < 0)) (
      let x4 : Int := (IntKind.wrap .i64 (v11 + 1))
      again0 (v1, v2, v11, v9, v10, x4)) (
      chk ((decide (0 ≤ x2) && decide (x2 < ↑(List.length v1)))) (
       let x5 : Int := List.getD v1 (Int.toNat x2) (aC (.num .i64))
       chk ((decide (0 ≤ v5) && decide (v5 < ↑(List.length v2.branches)))) (
        let x6 : Int := List.getD v2.branches (Int.toNat v5) (aC (.num .i64))
        chk ((decide (0 ≤ x6) && decide (x6 < ↑(List.length v1)))) (
         let x7 : Int := List.getD v1 (Int.toNat x6) (aC (.num .i64))
         cond (decide (x5 < x7)) (
          let x8 : Int := (IntKind.wrap .i64 (v11 + 1))
          again0 (v1, v2, v11, v9, v10, x8)) (
          let x9 : Int := (IntKind.wrap .i64 (v11 + 1))
          again0 (v1, v2, v5, v9, v10, x9))))))) (
     let x10 : Int := (IntKind.wrap .i64 (v11 + 1))
     again0 (v1, v2, v5, v9, v10, x10))))) (
  some (.int .i64 v5, []))
theorem adC (N : Nat) : ∀ (again0 : St → Ro) (x : jU), rK N again0 (jr x) = nL N (fun y => again0 (jr y)) x := by
 intro again0 x
 kernel_rfl
def kY (N : Nat) (p0 : ak) (p1 : List Int) (q0 : jU → Ro) : Ro :=
 let x1 : Int := (↑(List.length p0.branches) : Int)
 q0 (p1, p0, (-1), p0.branches, x1, 0)
def sT (N : Nat) (p0 : ak) (p1 : List Int) : Ro := kY N p0 p1 (fun z => aW N (nL N) z)
def agM (N : Nat) : List (Nat × (St → Ro)) := ba mM N sS (fin pr) ++ []
theorem aer (N : Nat) (p0 : ak) (p1 : List Int) : bb mM N 43 pr sS [.agg (enc .atype p0), .sl (.num .i64) (.may false) p1] [] = sT N p0 p1 :=
 (bH (agM N) (by kernel_rfl) rfl (fun C => kY N p0 p1 (fun z => C 1000000 (jr z))) (fun C => by kernel_rfl)).trans (Eq.trans (b := kY N p0 p1 (fun z => bi N (rK N) (jr z))) (by kernel_rfl) (congrArg (kY N p0 p1) (funext fun z => bj (jr) (rK N) (nL N) (adC N) N z)))
theorem aes (N : Nat) (p0 : ak) (p1 : List Int) (h : Tot (sT N p0 p1) (fun z => ∃ (y0 : Int) (rest : List aI), z.1.dimR = .int .i64 y0 ∧ z.2 = rest ∧ jn p0 p1 (y0))) : ∃ r, fE p0 p1 r := by
 obtain ⟨⟨v, hp⟩, hz, y0, rest, e1, e2, hq⟩ := h
 simp only at e1 e2
 subst e2
 exact ⟨(y0), aO.dimR (afk.pure (aer N p0 p1) hz) e1, hq⟩
noncomputable def oG : aM := tab (P := Try.prog) [] [] [] [t7]
def wT : IR := Rs [Bi 11 .lss 10 9] (Sq (Cn 11 .skip (.exit 0)) (Sq (.block 1 (Rs [Ix 12 .afield 8 10, Ld 13 9 true 12, Pp (.alr 6 9), Fz 6 9 13] (Rg [Pp (.mov 14 (.tk 4)), Fa 15 2 6, Lq 16 15, Pp (.bsl 17 (.num .i64) [16] true), Pp (.app 18 (.num .i64) (.tk 14) 17), Pp (.mov 4 (.tk 18))]))) (Rg [Bc 19 .add 10 1, Mv 10 19])))
def wU : IR := Sq (Rs [Fa 20 0 2, Lq 21 20, Bc 22 .eql 21 14] (Cn 22 (.reg [Pp (.mov 23 (.tk 4)), Fa 24 9 2, Lq 25 24, Ld 26 10 true 2, Mv 27 1, Ca 28 78 [26, 27], Ix 29 (.num .i64) 25 28, Lq 30 29, Pp (.bsl 31 (.num .i64) [30] true), Pp (.app 32 (.num .i64) (.tk 23) 31), Pp (.mov 4 (.tk 32))] [[], [], [1], [], [], [3, 4], rg 1 5, rg 1 6, rg 1 7, rg 0 8, rg 0 9]) .skip)) (Rs [Pp (.mov 33 (.tk 4)), Pp (.mov 4 (.tk 33))] .ret)
def uc : IR := Rs [Bx 2 0, Pp (.mov 4 (.c (nl (.num .i64))))] (Sq (Rs [Fa 7 8 2, Lq 8 7, Ll 9 8, Mi 10 0] (.block 0 (.loop [1, 2, 4, 8, 9, 10, 1000000] 0 wT))) wU)
def qB : List RV := [.t 4]
theorem agN : FnC Try.prog oG [] 0 abV Try.f77 uc qB := fnC (by kernel_rfl) Try.func77 (by kernel_rfl) (by kernel_rfl) (by decide)
def afl (R : IR → (Ex → St → Ro) → St → Ro) (again0 : St → Ro) : Ex → St → Ro := (bD again0 [1, 2, 4, 8, 9, 10, 1000000] 0 (aT 0 (bv (R wU) (fin qB))))
abbrev kZ : Type := (List Int × ak × List Int × List aQ × Int × Int)
def jV (x : kZ) : St := { env := (.undef :: .sl (.num .i64) (.may false) x.1 :: .ea (enc .atype x.2.1) :: .undef :: .sl (.num .i64) .own x.2.2.1 :: (U 3 (.sl .afield (.may false) x.2.2.2.1 :: .int .i64 x.2.2.2.2.1 :: .int .i64 x.2.2.2.2.2 :: (U 23 [])))), hp := [] }
def sU (N : Nat) : (St → Ro) → St → Ro := fun again0 s => run oG N wT (afl (run oG N) again0) s
def pt (N : Nat) (again0 : kZ → Ro) (x : kZ) : Ro :=
 let v1 : List Int := x.1
 let v2 : ak := x.2.1
 let v4 : List Int := x.2.2.1
 let v8 : List aQ := x.2.2.2.1
 let v9 : Int := x.2.2.2.2.1
 let v10 : Int := x.2.2.2.2.2
 cond (decide (v10 < v9)) (
  chk ((decide (0 ≤ v10) && decide (v10 < ↑(List.length v8)))) (
   let x2 : aQ := (List.getD v8 (Int.toNat v10) (aC .afield))
   chk (decide ((List.length v4 + List.length ([x2.typ] : List Int)) * 8 ≤ 140737488355328)) (
    let x3 : List Int := (v4 ++ ([x2.typ] : List Int))
    let x4 : Int := (IntKind.wrap .i64 (v10 + 1))
    again0 (v1, v2, x3, v8, v9, x4)))) (
  cond (v2.kind == 14) (
   aF (fE v2 v1) (fun (r1 : Int) =>
    chk ((decide (0 ≤ r1) && decide (r1 < ↑(List.length v2.branches)))) (
     let x5 : Int := List.getD v2.branches (Int.toNat r1) (aC (.num .i64))
     chk (decide ((List.length v4 + List.length ([x5] : List Int)) * 8 ≤ 140737488355328)) (
      let x6 : List Int := (v4 ++ ([x5] : List Int))
      some (.sl (.num .i64) .own x6, []))))) (
   some (.sl (.num .i64) .own v4, [])))
theorem aet (N : Nat) : ∀ (again0 : St → Ro) (x : kZ), sU N again0 (jV x) = pt N (fun y => again0 (jV y)) x := by
 intro again0 x
 kernel_rfl
def mN (N : Nat) (p0 : ak) (p1 : List Int) (q0 : kZ → Ro) : Ro :=
 let x1 : Int := (↑(List.length p0.fields) : Int)
 q0 (p1, p0, ([] : List Int), p0.fields, x1, 0)
def ud (N : Nat) (p0 : ak) (p1 : List Int) : Ro := mN N p0 p1 (fun z => aW N (pt N) z)
def aih (N : Nat) : List (Nat × (St → Ro)) := ba oG N uc (fin qB) ++ []
theorem afm (N : Nat) (p0 : ak) (p1 : List Int) : bb oG N 34 qB uc [.agg (enc .atype p0), .sl (.num .i64) (.may false) p1] [] = ud N p0 p1 :=
 (bH (aih N) (by kernel_rfl) rfl (fun C => mN N p0 p1 (fun z => C 1000000 (jV z))) (fun C => by kernel_rfl)).trans (Eq.trans (b := mN N p0 p1 (fun z => bi N (sU N) (jV z))) (by kernel_rfl) (congrArg (mN N p0 p1) (funext fun z => bj (jV) (sU N) (pt N) (aet N) N z)))
theorem afn (N : Nat) (p0 : ak) (p1 : List Int) (h : Tot (ud N p0 p1) (fun z => ∃ (y0 : List Int) (rest : List aI), z.1.dimR = .sl (.num .i64) (.may false) y0 ∧ z.2 = rest ∧ nG p0 p1 (y0))) : ∃ r, dN p0 p1 r := by
 obtain ⟨⟨v, hp⟩, hz, y0, rest, e1, e2, hq⟩ := h
 simp only at e1 e2
 subst e2
 exact ⟨(y0), aO.dimR (agN.pure (afm N p0 p1) hz) e1, hq⟩
def qC : ahy := fun f us => match f, us with
 | 75, [.sl (.num .i64) (.may _) a0] => some ((decide (0 < List.length a0) && decide (List.length a0 ≤ 1000)), none, ⟨(.num .i64), a0⟩)
 | _, _ => none
noncomputable def bw : aM := (wP qC (rq (xb (P := Try.prog) [ajk])))
theorem adD : cM bw [75] := (akg (by
 intro f us hf
 unfold qC
 split <;> first | rfl | (simp at hf)) (by
 intro f us hf
 unfold qC
 split <;> first | rfl | (simp at hf)) (rt _ _))
theorem aeu  : cC Try.prog bw := by
 refine alF ?_ ?_
 ·intro f us o k xs h
  unfold qC at h
  split at h
  ·simp only [Option.some.injEq, Prod.mk.injEq] at h
   obtain ⟨hc, rfl, h2⟩ := h
   cases h2
   exact (akh _ hc).dim rfl
  ·simp at h
 exact zn _
def nM : IR := Rs [Bi 16 .lss 15 14] (Sq (Cn 16 .skip (.exit 0)) (Sq (.block 1 (Rs [Mv 17 15, Mv 4 17] (.gh (.opn (.slot 3)) (.ghp (.cls (.slot 3)) (Rg [Mv 18 3, Mv 19 4, Pp (.ixw 20 (.num .i64) 18 19), Pp (.stw none 1 20 (kI (-1)))]))))) (Rg [Bc 21 .add 15 1, Mv 15 21])))
def vw : IR := Rs [Bi 29 .lss 28 27] (Sq (Cn 29 .skip (.exit 4)) (Sq (.block 5 (Rs [Mv 30 28, Ix 31 .atype 26 28, Ld 32 10 true 31, Pp (.alr 8 10), Mv 7 30, Fz 8 10 32] (Rs [Mv 33 3, Mv 34 7, Ix 35 (.num .i64) 33 34, Lq 36 35, Bc 37 .lss 36 0] (Cn 37 (Sq (.gh (.opn (.slot 6)) (.ghp (.cls (.slot 6)) (Rg [Mv 38 6, Mv 39 7, Ld 40 10 true 8, Mv 41 3, Ca 42 76 [40, 41], Pp (.ixw 43 (.num .i64) 38 39), Pp (.stw none 1 43 42)]))) (.gh (.opn (.slot 6)) (.ghp (.cls (.slot 6)) (Rg [Mv 44 5, Mv 45 44, Gf 45 (.mov 46 6), Gf 45 (.mov 47 7), Gf 45 (.ixw 48 (.num .i64) 46 47), Gf 45 (.ldw 49 1 false 48), Gf 45 (.bin 50 .geq 49 (kI 0)), Po 51 45 50, Mv 5 51])))) .skip)))) (Rg [Bc 52 .add 28 1, Mv 28 52])))
def vx : IR := Rg [Pp (.mov 53 (.tk 6)), Pp (.mov 3 (.tk 53))]
def mc : IR := Sq (Rs [Mv 22 5] (Cn 22 .skip (.exit 2))) (.block 3 (Sq (.gh (.fz (.slot 3)) (.ghp (.cls (.slot 6)) (Rg [Mv 23 3, Ca 24 75 [23], Pp (.mov 6 (.tk 24))]))) (Rs [Mb 5 false] (Sq (Rs [Fa 25 0 1, Lq 26 25, Ll 27 26, Mi 28 0] (.block 4 (.loop [1, 3, 5, 6, 26, 27, 28, 1000001] 0 vw))) vx))))
def qO : IR := Rs [Pp (.mov 54 (.tk 3)), Pp (.mov 2 (.tk 54))] (.gh (.fz (.slot 2)) .ret)
def qP : IR := Sq (Rs [Mb 5 true] (.block 2 (.loop [1, 3, 5, 1000002] 0 mc))) qO
def uf : IR := Rs [Bx 1 0, Pp (.mov 2 (.c (.ul (.num .i64) ([] : List Int))))] (Rs [Fa 9 0 1, Lq 10 9, Ll 11 10, Pp (.mku 12 (.num .i64) 11), Pp (.mov 3 (.tk 12))] (Sq (Rs [Mv 13 3, Pp (.lnw 14 13), Mi 15 0] (.block 0 (.loop [1, 3, 14, 15, 1000000] 0 nM))) qP))
def iA : List RV := [.t 2]
theorem agO : FnC Try.prog bw [75] 0 abW Try.f42 uf iA := ⟨aeu, adD, Try.func42, by kernel_rfl, by kernel_rfl, by decide⟩
def sV (R : IR → (Ex → St → Ro) → St → Ro) (again0 : St → Ro) : Ex → St → Ro := (bD again0 [1, 3, 14, 15, 1000000] 0 (aT 0 (bv (R qP) (fin iA))))
abbrev gp : Type := (List ak × List Int × Int × Int)
def dc (x : gp) : St := { env := (.undef :: .ea [.sl .atype (.may false) x.1] :: .undef :: .ul (.num .i64) x.2.1 :: (U 10 (.int .i64 x.2.2.1 :: .int .i64 x.2.2.2 :: (U 39 [])))), hp := [] }
def pu (R : IR → (Ex → St → Ro) → St → Ro) (again1 : St → Ro) : Ex → St → Ro := (bD again1 [1, 3, 5, 1000002] 0 (aT 2 (bv (R qO) (fin iA))))
abbrev ez : Type := (List ak × List Int × Bool)
def bO (x : ez) : St := { env := (.undef :: .ea [.sl .atype (.may false) x.1] :: .undef :: .ul (.num .i64) x.2.1 :: .undef :: .bool x.2.2 :: (U 49 [])), hp := [] }
def afo (R : IR → (Ex → St → Ro) → St → Ro) (again1 again2 : St → Ro) : Ex → St → Ro := (bD again2 [1, 3, 5, 6, 26, 27, 28, 1000001] 0 (aT 4 (bv (R vx) (aT 3 (pu R again1)))))
abbrev la : Type := (List ak × List Int × Bool × List Int × List ak × Int × Int)
def ib (x : la) : St := { env := (.undef :: .ea [.sl .atype (.may false) x.1] :: .undef :: .sl (.num .i64) .own x.2.1 :: .undef :: .bool x.2.2.1 :: .ul (.num .i64) x.2.2.2.1 :: (U 19 (.sl .atype (.may false) x.2.2.2.2.1 :: .int .i64 x.2.2.2.2.2.1 :: .int .i64 x.2.2.2.2.2.2 :: (U 26 [])))), hp := [] }
def pv (N : Nat) (again1 : St → Ro) : (St → Ro) → St → Ro := fun again2 s => run bw N vw (afo (run bw N) again1 again2) s
def lb (N : Nat) (again1 : ez → Ro) (again2 : la → Ro) (x : la) : Ro :=
 let v1_0 : List ak := x.1
 let v3 : List Int := x.2.1
 let v5 : Bool := x.2.2.1
 let v6 : List Int := x.2.2.2.1
 let v26 : List ak := x.2.2.2.2.1
 let v27 : Int := x.2.2.2.2.2.1
 let v28 : Int := x.2.2.2.2.2.2
 cond (decide (v28 < v27)) (
  chk ((decide (0 ≤ v28) && decide (v28 < ↑(List.length v26)))) (
   let x7 : ak := (List.getD v26 (Int.toNat v28) (aC .atype))
   chk ((decide (0 ≤ v28) && decide (v28 < ↑(List.length v3)))) (
    let x8 : Int := List.getD v3 (Int.toNat v28) (aC (.num .i64))
    cond (decide (x8 < 0)) (
     chk (decide (0 < List.length v6)) (
      aF (qb x7 v3) (fun (r1 : Int) =>
       chk ((decide (0 ≤ v28) && decide (v28 < ↑(List.length v6)))) (
        chk (decide ((Int.toNat v28) < List.length v6)) (
         let x9 : List Int := (List.set v6 (Int.toNat v28) r1)
         chk (Nat.beq (List.length v6) (List.length x9)) (
          chk (decide (0 < List.length x9)) (
           cond v5 (
            chk (Nat.beq (List.length x9) (List.length x9)) (
             let x10 : Int := (IntKind.wrap .i64 (v28 + 1))
             again2 (v1_0, v3, true, x9, v26, v27, x10))) (
            chk ((decide (0 ≤ v28) && decide (v28 < ↑(List.length x9)))) (
             chk (decide ((Int.toNat v28) < List.length x9)) (
              let x11 : Int := List.getD x9 (Int.toNat v28) (aC (.num .i64))
              chk (Nat.beq (List.length x9) (List.length x9)) (
               let x12 : Int := (IntKind.wrap .i64 (v28 + 1))
               again2 (v1_0, v3, decide (0 ≤ x11), x9, v26, v27, x12)))))))))))) (
     let x13 : Int := (IntKind.wrap .i64 (v28 + 1))
     again2 (v1_0, v3, v5, v6, v26, v27, x13))))) (
  again1 (v1_0, v6, v5))
theorem aev (N : Nat) (again1 : St → Ro) : ∀ (again2 : St → Ro) (x : la), pv N again1 again2 (ib x) = lb N (fun y => again1 (bO y)) (fun y => again2 (ib y)) x := by
 intro again2 x
 kernel_rfl
def lc (N : Nat) : (St → Ro) → St → Ro := fun again1 s => run bw N mc (pu (run bw N) again1) s
def nN (N : Nat) (again1 : ez → Ro) (q2 : la → Ro) (x : ez) : Ro :=
 let v1_0 : List ak := x.1
 let v3 : List Int := x.2.1
 let v5 : Bool := x.2.2
 cond v5 (
  chk ((decide (0 < List.length v3) && decide (List.length v3 ≤ 1000))) (
   chk (Nat.beq (List.length v3) (List.length v3)) (
    let x6 : Int := (↑(List.length v1_0) : Int)
    q2 (v1_0, v3, false, v3, v1_0, x6, 0)))) (
  some (.sl (.num .i64) .own v3, []))
def jg (N : Nat) (again1 : ez → Ro) (x : ez) : Ro := nN N again1 (fun z => aW N (lb N again1) z) x
def sW (N : Nat) (again1 : St → Ro) : List (Nat × (St → Ro)) := (ba bw N mc (pu (run bw N) again1) ++ (ba bw N qO (fin iA) ++ []))
theorem aew (N : Nat) : ∀ (again1 : St → Ro) (x : ez), lc N again1 (bO x) = jg N (fun y => again1 (bO y)) x := by
 intro again1 x
 have hX : ∀ C : Nat → St → Ro, bL C bw N mc (pu (bL C bw N) again1) (bO x) = nN N (fun y => again1 (bO y)) (fun z => C 1000001 (ib z)) x := by
  intro C
  kernel_rfl
 have h : lc N again1 (bO x) = nN N (fun y => again1 (bO y)) (fun z => bi N (pv N again1) (ib z)) x := (cN (C := eQ (sW N again1)) (bU (be (l := (sW N again1)) (by kernel_rfl))) (pW (cT (gu (bU (du (be (l := (sW N again1)) (by kernel_rfl)))) rfl))) _).trans ((hX _).trans (by kernel_rfl))
 have e2 : (fun z => bi N (pv N again1) (ib z)) = (fun z => aW N (lb N (fun y => again1 (bO y))) z) := funext fun z => bj (ib) (pv N again1) (lb N (fun y => again1 (bO y))) (aev N again1) N z
 rw [h, e2]
 rfl
def pw (N : Nat) : (St → Ro) → St → Ro := fun again0 s => run bw N nM (sV (run bw N) again0) s
def nO (N : Nat) (again0 : gp → Ro) (q1 : ez → Ro) (x : gp) : Ro :=
 let v1_0 : List ak := x.1
 let v3 : List Int := x.2.1
 let v14 : Int := x.2.2.1
 let v15 : Int := x.2.2.2
 cond (decide (v15 < v14)) (
  chk (decide (0 < List.length v3)) (
   chk ((decide (0 ≤ v15) && decide (v15 < ↑(List.length v3)))) (
    chk (decide ((Int.toNat v15) < List.length v3)) (
     let x4 : List Int := (List.set v3 (Int.toNat v15) (-1))
     chk (Nat.beq (List.length v3) (List.length x4)) (
      let x5 : Int := (IntKind.wrap .i64 (v15 + 1))
      again0 (v1_0, x4, v14, x5)))))) (
  q1 (v1_0, v3, true))
def px (N : Nat) (again0 : gp → Ro) (x : gp) : Ro := nO N again0 (fun z => aW N (jg N) z) x
def sX (N : Nat) (again0 : St → Ro) : List (Nat × (St → Ro)) := (ba bw N nM (sV (run bw N) again0) ++ (ba bw N qP (fin iA) ++ []))
theorem aex (N : Nat) : ∀ (again0 : St → Ro) (x : gp), pw N again0 (dc x) = px N (fun y => again0 (dc y)) x := by
 intro again0 x
 have hX : ∀ C : Nat → St → Ro, bL C bw N nM (sV (bL C bw N) again0) (dc x) = nO N (fun y => again0 (dc y)) (fun z => C 1000002 (bO z)) x := by
  intro C
  kernel_rfl
 have h : pw N again0 (dc x) = nO N (fun y => again0 (dc y)) (fun z => bi N (lc N) (bO z)) x := (cN (C := eQ (sX N again0)) (bU (be (l := (sX N again0)) (by kernel_rfl))) (pW (cT (gu (bU (du (be (l := (sX N again0)) (by kernel_rfl)))) rfl))) _).trans ((hX _).trans (by kernel_rfl))
 have e1 : (fun z => bi N (lc N) (bO z)) = (fun z => aW N (jg N) z) := funext fun z => bj (bO) (lc N) (jg N) (aew N) N z
 rw [h, e1]
 rfl
def mO (N : Nat) (p0_0 : List ak) (q0 : gp → Ro) : Ro :=
 let x1 : Int := (↑(List.length p0_0) : Int)
 chk ((decide (0 ≤ x1) && decide (x1 * 8 ≤ 140737488355328))) (
  let x2 : List Int := (List.replicate (Int.toNat x1) (aC (.num .i64)))
  let x3 : Int := (↑(List.length x2) : Int)
  q0 (p0_0, x2, x3, 0))
def ug (N : Nat) (p0_0 : List ak) : Ro := mO N p0_0 (fun z => aW N (px N) z)
def aii (N : Nat) : List (Nat × (St → Ro)) := ba bw N uf (fin iA) ++ []
theorem afp (N : Nat) (p0_0 : List ak) : bb bw N 55 iA uf [.agg [.sl .atype (.may false) p0_0]] [] = ug N p0_0 :=
 (bH (aii N) (by kernel_rfl) rfl (fun C => mO N p0_0 (fun z => C 1000000 (dc z))) (fun C => by kernel_rfl)).trans (Eq.trans (b := mO N p0_0 (fun z => bi N (pw N) (dc z))) (by kernel_rfl) (congrArg (mO N p0_0) (funext fun z => bj (dc) (pw N) (px N) (aex N) N z)))
theorem afq (N : Nat) (p0_0 : List ak) (h : Tot (ug N p0_0) (fun z => ∃ (y0 : List Int) (rest : List aI), z.1.dimR = .sl (.num .i64) (.may false) y0 ∧ z.2 = rest ∧ nF p0_0 (y0))) : ∃ r, jo p0_0 r := by
 obtain ⟨⟨v, hp⟩, hz, y0, rest, e1, e2, hq⟩ := h
 simp only at e1 e2
 subst e2
 exact ⟨(y0), aO.dimR (agO.pure (afp N p0_0) hz) e1, hq⟩
end Go.Proofs.Ytdpajabhmmmjoaa
end
noncomputable section
namespace Go.Proofs.Ytdpajabhmmmjoaa
open Go.AM
set_option autoImplicit false
set_option linter.unusedVariables false
set_option maxRecDepth 100000
end Go.Proofs.Ytdpajabhmmmjoaa
end
noncomputable section
namespace Go.Proofs.Ytdpajabhmmmjoaa
open Go.AM
set_option autoImplicit false
set_option linter.unusedVariables false
set_option linter.unusedSimpArgs false
theorem re {α : Type} (l : List α) (i : Nat) (x d : α) (h : i < l.length) : (l.set i x).getD i d = x := by
 simp [List.getD_eq_getElem?_getD, List.getElem?_set, h]
theorem ic {α : Type} (l : List α) (i j : Nat) (x d : α) (h : i ≠ j) : (l.set i x).getD j d = l.getD j d := by
 simp [List.getD_eq_getElem?_getD, List.getElem?_set, h]
theorem lU {α : Type} (l : List α) (i : Nat) (d : α) (h : i < l.length) : l.getD i d ∈ l := by
 rw [List.getD_eq_getElem?_getD, List.getElem?_eq_getElem h]; exact List.getElem_mem h
theorem xX.mono {k : ak} {r r' : List Int} {m : Int} (h : xX k r m) (hl : r'.length = r.length) (hr : ∀ i, 0 ≤ r.getD i 0 → r'.getD i 0 = r.getD i 0) : xX k r' m where
 pos := h.pos
 uni h14 := by
  obtain ⟨b, hb, h0, h1⟩ := h.uni h14
  exact ⟨b, hb, by unfold rk at *; rw [hr _ h0]; exact h0, by unfold rk at *; rw [hr _ h0]; exact h1⟩
 rcd h14 f hf := by
  obtain ⟨h0, h1⟩ := h.rcd h14 f hf
  exact ⟨by unfold rk at *; rw [hr _ h0]; exact h0, by unfold rk at *; rw [hr _ h0]; exact h1⟩
 pre h2 := by
  obtain ⟨j, hj, e⟩ := h.pre h2
  exact ⟨j, by omega, by rw [hr _ (by omega)]; exact e⟩
theorem nh.step {ts : List ak} {r next : List Int} {m : Int} (h : nh ts r m) (hm : 0 ≤ m) (hl : next.length = ts.length) (h1 : ∀ j, j < ts.length → 0 ≤ r.getD j 0 → next.getD j 0 = r.getD j 0)
  (h2 : ∀ j, j < ts.length → r.getD j 0 < 0 → next.getD j 0 = -1 ∨ xX (ts.getD j (aC .atype)) r (next.getD j 0)) : nh ts next (m + 1) := by
 have hrl := h.len
 have hmono : ∀ i, 0 ≤ r.getD i 0 → next.getD i 0 = r.getD i 0 := fun i hi => by
  by_cases hil : i < ts.length
  ·exact h1 i hil hi
  ·simp [List.getD_eq_getElem?_getD, List.getElem?_eq_none (show next.length ≤ i by omega), List.getElem?_eq_none (show r.length ≤ i by omega)]
 refine ⟨hl, fun i hi => ?_, fun i hi => ?_, fun i hi h' => ?_, fun i hi h' => ?_⟩
 ·by_cases h0 : 0 ≤ r.getD i 0
  ·rw [hmono i h0]; omega
  ·rcases h2 i (by omega) (by omega) with e | e
   ·omega
   ·have := e.pos; omega
 ·by_cases h0 : 0 ≤ r.getD i 0
  ·rw [hmono i h0]; have := h.top i (by omega); omega
  ·rcases h2 i (by omega) (by omega) with e | e
   ·omega
   ·by_cases hp : 2 ≤ next.getD i 0
    ·obtain ⟨j, hj, ej⟩ := e.pre hp
     have := h.top j hj; omega
    ·omega
 ·by_cases h0 : 0 ≤ r.getD i 0
  ·rw [hmono i h0] at h' ⊢; exact (h.ok i (by omega) h').mono (by omega) hmono
  ·rcases h2 i (by omega) (by omega) with e | e
   ·omega
   ·exact e.mono (by omega) hmono
 ·by_cases h0 : 0 ≤ r.getD i 0
  ·rw [hmono i h0] at h'; exact h.nul i (by omega) h'
  ·rcases h2 i (by omega) (by omega) with e | e
   ·omega
   ·have := e.pos; omega
def rL (n : Int) : List Int → Nat
 | [] => 0
 | x :: l => (if 1 ≤ x ∧ x ≤ n then 1 else 0) + rL n l
theorem ajL (n : Int) : ∀ l, rL n l ≤ l.length
 | [] => by simp [rL]
 | x :: l => by have := ajL n l; simp only [rL, List.length_cons]; split <;> omega
theorem agk (n : Int) : ∀ l, rL n l ≤ rL (n + 1) l
 | [] => by simp [rL]
 | x :: l => by have := agk n l; simp only [rL]; split <;> split <;> omega
theorem ab0 (n : Int) (hn : 0 ≤ n) : ∀ (l : List Int) (j : Nat), j < l.length → l.getD j 0 = n + 1 → rL n l + 1 ≤ rL (n + 1) l
 | [], j, h, _ => by simp at h
 | x :: l, 0, h, e => by
   have := agk n l
   simp only [List.getD_cons_zero] at e
   simp only [rL]
   rw [if_neg (by omega), if_pos (by omega)]; omega
 | x :: l, j + 1, h, e => by
   have := ab0 n hn l j (by simpa using h) (by simpa using e)
   simp only [rL]; split <;> split <;> omega
theorem nh.chain {ts : List ak} {r : List Int} {m : Int} (h : nh ts r m) : ∀ (n j : Nat), j < r.length → r.getD j 0 = (n : Int) + 1 → n + 1 ≤ rL ((n : Int) + 1) r
 | 0, j, hj, e => by have := ab0 0 (by omega) r j hj (by simpa using e); simpa using (by omega : 1 ≤ rL (0 + 1) r)
 | n + 1, j, hj, e => by
   obtain ⟨j', hj', e'⟩ := (h.ok j hj (by omega)).pre (by omega)
   have ih := nh.chain h n j' hj' (by omega)
   have := ab0 ((n : Int) + 1) (by omega) r j hj (by omega)
   have ec : (((n + 1 : Nat) : Int) + 1) = (n : Int) + 1 + 1 := by omega
   rw [ec]; omega
theorem nh.fin {ts : List ak} {r : List Int} {m : Int} (h : nh ts r m) : nh ts r ts.length := by
 refine ⟨h.len, h.low, fun i hi => ?_, h.ok, h.nul⟩
 by_cases h1 : 1 ≤ r.getD i 0
 ·have := h.chain ((r.getD i 0).toNat - 1) i hi (by omega)
  have h2 := ajL ((((r.getD i 0).toNat - 1 : Nat) : Int) + 1) r
  have := h.len
  omega
 ·omega
theorem akX {ts : List ak} {r : List Int} {m : Int} {k : ak} {q : Int} (h : xX k r q) (h14 : k.kind = 14) {b : Int} (hb : vn k r b) : 0 ≤ rk r (brT k b.toNat) ∧ rk r (brT k b.toNat) < q := by
 obtain ⟨x, hx, h0, h1⟩ := h.uni h14
 obtain ⟨j, hj, rfl⟩ := List.mem_iff_getElem.1 hx
 have e : brT k j = k.branches[j] := by simp [brT, List.getD_eq_getElem?_getD, List.getElem?_eq_getElem hj]
 have := hb.least j hj (by rw [e]; exact h0)
 rw [e] at this
 omega
theorem aij (w : List Int) (i : Nat) (x : Int) : ∀ l : List aQ, (∀ f ∈ l, f.typ.toNat ≠ i) → aia (w.set i x) l = aia w l
 | [], _ => rfl
 | f :: l, h => by
   have := aij w i x l fun f hf => h f (by simp [hf])
   simp only [aia, this, rk]
   rw [ic _ _ _ _ _ (fun e => h f (by simp) e.symm)]
theorem adz.set {ts : List ak} {r w : List Int} {m : Int} (hR : nh ts r m) {i j : Nat} {x : Int} (hj : j < r.length) (hr : 0 ≤ r.getD j 0) (hle : r.getD j 0 ≤ r.getD i 0) (hne : i ≠ j)
  (h : adz (ts.getD j (aC .atype)) r w (w.getD j 0)) : adz (ts.getD j (aC .atype)) r (w.set i x) ((w.set i x).getD j 0) := by
 rw [ic _ _ _ _ _ hne]
 refine ⟨h.pos, h.top, fun h9 => ?_, fun h14 b hb => ?_⟩
 ·have hk : 1 ≤ r.getD j 0 := by
   by_cases h0 : r.getD j 0 = 0
   ·exact absurd h9 (hR.nul j hj h0).1
   ·omega
  rw [aij w i x _ fun f hf e => ?_]
  ·exact h.rcd h9
  ·have := (hR.ok j hj hk).rcd (by omega) f hf
   unfold rk at this
   rw [e] at this; omega
 ·have hk : 1 ≤ r.getD j 0 := by
   by_cases h0 : r.getD j 0 = 0
   ·exact absurd h14 (hR.nul j hj h0).2
   ·omega
  have hc := akX (ts := ts) (m := m) (hR.ok j hj hk) h14 hb
  have hu := h.uni h14 b hb
  unfold rk at hc hu ⊢
  rw [ic _ _ _ _ _ (fun e => by rw [← e] at hc; omega)]
  exact hu
theorem tG {α : Type} (l : List α) (i : Nat) (d : α) (h : i < l.length) : l.take (i + 1) = l.take i ++ [l.getD i d] := by
 rw [List.take_add_one, List.getElem?_eq_getElem h, List.getD_eq_getElem?_getD, List.getElem?_eq_getElem h]; rfl
end Go.Proofs.Ytdpajabhmmmjoaa
end
noncomputable section
namespace Go.Proofs.Ytdpajabhmmmjoaa
open Go.AM
set_option autoImplicit false
set_option linter.unusedVariables false
set_option linter.unusedSimpArgs false
set_option maxRecDepth 100000
theorem eU.at {ts : List ak} (hs : eU ts) {i : Nat} (h : i < ts.length) : fZ ts.length (ts.getD i (aC .atype)) := hs.2 _ (lU _ _ _ h)
end Go.Proofs.Ytdpajabhmmmjoaa
end
noncomputable section
namespace Go.Proofs.Ytdpajabhmmmjoaa
open Go.AM
set_option autoImplicit false
set_option linter.unusedVariables false
set_option linter.unusedSimpArgs false
set_option maxRecDepth 100000
theorem xd (k : ak) (m : Nat) (hk : fZ m k) (r : List Int) (hr : r.length = m) : ∃ b, fE k r b := by
 apply aes 1000
 unfold sT kY
 dsimp only
 have hnb := hk.nb
 refine bd (fun x => match x with
  | (r', k', b, l, n, i) => r' = r ∧ k' = k ∧ l = k.branches ∧ n = (k.branches.length : Int) ∧ 0 ≤ i ∧ i ≤ (k.branches.length : Int) ∧ ((b = -1 ∧ ∀ j : Nat, (j : Int) < i → rk r (brT k j) < 0) ∨
    (0 ≤ b ∧ b < i ∧ 0 ≤ rk r (brT k b.toNat) ∧ (∀ j : Nat, (j : Int) < i → 0 ≤ rk r (brT k j) → rk r (brT k b.toNat) ≤ rk r (brT k j)) ∧ (∀ j, j < b.toNat → 0 ≤ rk r (brT k j) → rk r (brT k b.toNat) < rk r (brT k j)))))
  (fun x => ((k.branches.length : Int) - x.2.2.2.2.2).toNat) ?_ _ _ ⟨rfl, rfl, rfl, rfl, by simp, by simp, .inl ⟨rfl, fun j hj => by omega⟩⟩ (by simp; omega)
 rintro again ⟨r', k', b, l, n, i⟩ ⟨rfl, rfl, rfl, rfl, i1, i2, i3⟩ ih
 dsimp only at ih
 unfold nL
 dsimp only
 refine aD (fun h => ?_) (fun h => ?_)
 ·have h := of_decide_eq_true h
  have hi : i.toNat < k'.branches.length := by omega
  have hbr := hk.branches _ (lU k'.branches i.toNat 0 hi)
  have ew : IntKind.i64.wrap (i + 1) = i + 1 := aJ (i + 1) (by omega)
  have keep : (0 ≤ rk r' (brT k' i.toNat) → 0 ≤ b ∧ rk r' (brT k' b.toNat) ≤ rk r' (brT k' i.toNat)) → Tot (again (r', k', b, k'.branches, (k'.branches.length : Int), IntKind.i64.wrap (i + 1))) _ := fun hk' => ih (r', k', b, k'.branches, _, IntKind.i64.wrap (i + 1)) (by
   simp only [ew]
   refine ⟨trivial, trivial, trivial, trivial, by omega, by omega, ?_⟩
   rcases i3 with ⟨rfl, j1⟩ | ⟨j1, j2, j3, j4, j5⟩
   ·refine .inl ⟨rfl, fun j hj => ?_⟩
    by_cases hji : (j : Int) < i
    ·exact j1 j hji
    ·have e : j = i.toNat := by omega
     rw [e]
     by_cases h0 : 0 ≤ rk r' (brT k' i.toNat)
     ·have := (hk' h0).1; omega
     ·omega
   ·refine .inr ⟨j1, by omega, j3, fun j hj h0 => ?_, j5⟩
    by_cases hji : (j : Int) < i
    ·exact j4 j hji h0
    ·have e : j = i.toNat := by omega
     rw [e] at h0 ⊢; exact (hk' h0).2) (by simp only [ew]; omega)
  have turn : 0 ≤ rk r' (brT k' i.toNat) → (0 ≤ b → rk r' (brT k' i.toNat) < rk r' (brT k' b.toNat)) → Tot (again (r', k', i, k'.branches, (k'.branches.length : Int), IntKind.i64.wrap (i + 1))) _ := fun h0 hlt => ih (r', k', i, k'.branches, _, IntKind.i64.wrap (i + 1)) (by
   simp only [ew]
   refine ⟨trivial, trivial, trivial, trivial, by omega, by omega, .inr ⟨i1, by omega, h0, fun j hj h0' => ?_, fun j hj h0' => ?_⟩⟩
   ·by_cases hji : (j : Int) < i
    ·rcases i3 with ⟨rfl, j1⟩ | ⟨j1, j2, j3, j4, j5⟩
     ·have := j1 j hji; omega
     ·have := j4 j hji h0'
      have := hlt j1
      omega
    ·have e : j = i.toNat := by omega
     rw [e]; exact Int.le_refl _
   ·rcases i3 with ⟨rfl, j1⟩ | ⟨j1, j2, j3, j4, j5⟩
    ·have := j1 j (by omega); omega
    ·have := j4 j (by omega) h0'
     have := hlt j1
     omega) (by simp only [ew]; omega)
  refine vck ?_
  change Tot (chk (decide (0 ≤ brT k' i.toNat) && decide (brT k' i.toNat < (r'.length : Int))) (cond (decide (0 ≤ rk r' (brT k' i.toNat))) (cond (decide (b < 0)) _
   (chk (decide (0 ≤ brT k' i.toNat) && decide (brT k' i.toNat < (r'.length : Int))) (chk _ (chk (decide (0 ≤ brT k' b.toNat) && decide (brT k' b.toNat < (r'.length : Int))) (cond (decide (rk r' (brT k' i.toNat) < rk r' (brT k' b.toNat))) _ _))))) _)) _
  have hbr : 0 ≤ brT k' i.toNat ∧ brT k' i.toNat < (m : Int) := hbr
  refine vck (aD (fun h0 => ?_) (fun h0 => keep fun h0' => absurd h0' (of_decide_eq_false h0)))
  have h0 := of_decide_eq_true h0
  refine aD (fun h1 => turn h0 fun h1' => absurd h1' (Int.not_le.2 (of_decide_eq_true h1))) (fun h1 => ?_)
  have h1 := of_decide_eq_false h1
  have hbl : b < i := by
   rcases i3 with ⟨rfl, j1⟩ | ⟨j1, j2, j3, j4, j5⟩ <;> omega
  have hbb := hk.branches _ (lU k'.branches b.toNat 0 (by omega))
  have hbb : 0 ≤ brT k' b.toNat ∧ brT k' b.toNat < (m : Int) := hbb
  refine vck (vck (vck (aD (fun h2 => turn h0 fun _ => of_decide_eq_true h2) (fun h2 => keep fun _ => ?_))))
  have h2 := of_decide_eq_false h2
  omega
 ·have h := of_decide_eq_false h
  refine aG ⟨_, _, rfl, rfl, ?_⟩
  rcases i3 with ⟨rfl, j1⟩ | ⟨j1, j2, j3, j4, j5⟩
  ·exact .inl ⟨rfl, fun j hj => j1 j (by omega)⟩
  ·exact .inr ⟨⟨j1, by omega, fun j hj h0 => ⟨j3, j4 j (by omega) h0⟩, j5⟩, j3⟩
theorem akY (k : ak) (m : Nat) (hk : fZ m k) (r : List Int) (hr : r.length = m) (hb : ∀ i, i < r.length → -1 ≤ r.getD i 0 ∧ r.getD i 0 ≤ 1000) : ∃ q, qb k r q := by
 apply agL 1000
 unfold vt oF
 dsimp only
 have hpost : ∀ q, sN k r q = ((q = -1 ∧ (k.kind = 9 ∨ k.kind = 14)) ∨ wO k r q) := fun _ => rfl
 simp only [hpost]
 refine aD (fun h9 => ?_) (fun h9 => aD (fun h14 => ?_) (fun h14 => ?_))
 ·have h9 : k.kind = 9 := by simp only [bnl] at h9; exact h9
  have hnf := hk.nf
  refine bd (fun x => match x with
   | (r', best, l, n, i) => r' = r ∧ l = k.fields ∧ n = (k.fields.length : Int) ∧ 0 ≤ i ∧ i ≤ (k.fields.length : Int) ∧ 0 ≤ best ∧ best ≤ 1000 ∧ (∀ f ∈ k.fields.take i.toNat, 0 ≤ rk r f.typ ∧ rk r f.typ ≤ best) ∧ (1 ≤ best → ∃ j, j < r.length ∧ r.getD j 0 = best))
   (fun x => ((k.fields.length : Int) - x.2.2.2.2).toNat) ?_ _ _ ⟨rfl, rfl, rfl, by simp, by simp, by simp, by simp, by simp, by simp⟩ (by simp; omega)
  rintro again ⟨r', best, l, n, i⟩ ⟨rfl, rfl, rfl, i1, i2, i3, i4, i5, i6⟩ ih
  dsimp only at ih
  unfold qA
  dsimp only
  refine aD (fun h => ?_) (fun h => ?_)
  ·have h := of_decide_eq_true h
   have hi : i.toNat < k.fields.length := by omega
   have hm := lU k.fields i.toNat (aC .afield) hi
   have hf := hk.fields _ hm
   have ew : IntKind.i64.wrap (i + 1) = i + 1 := aJ (i + 1) (by omega)
   have ht := tG k.fields i.toNat (aC .afield) hi
   refine vck ?_
   generalize k.fields.getD i.toNat (aC .afield) = f at *
   refine vck ?_
   have hq := hb f.typ.toNat (by omega)
   refine aD (fun h0 => aG ⟨_, _, rfl, rfl, .inl ⟨rfl, .inl h9⟩⟩) (fun h0 => ?_)
   have h0 : ¬ r'.getD f.typ.toNat 0 < 0 := of_decide_eq_false h0
   refine vck ?_
   refine ih (r', _, k.fields, _, _) ?_ (by simp only [ew]; omega)
   simp only [ew]
   have ei : (i + 1).toNat = i.toNat + 1 := by omega
   have em : (if best < r'.getD f.typ.toNat (aC (.num .i64)) then r'.getD f.typ.toNat (aC (.num .i64)) else best) = (if best < r'.getD f.typ.toNat 0 then r'.getD f.typ.toNat 0 else best) := rfl
   rw [em, ei, ht]
   refine ⟨trivial, trivial, trivial, by omega, by omega, by split <;> omega, by split <;> omega, fun g hg => ?_, fun h1 => ?_⟩
   ·rcases List.mem_append.1 hg with hg | hg
    ·have := i5 g hg; split <;> omega
    ·rw [List.mem_singleton] at hg
     subst hg
     have : rk r' g.typ = r'.getD g.typ.toNat 0 := rfl
     rw [this]; split <;> omega
   ·split
    ·exact ⟨f.typ.toNat, by omega, rfl⟩
    ·rename_i hh; rw [if_neg hh] at h1; exact i6 h1
  ·have h := of_decide_eq_false h
   refine aD (fun h1 => aG ⟨_, _, rfl, rfl, .inl ⟨rfl, .inl h9⟩⟩) (fun h1 => aG ⟨_, _, rfl, rfl, .inr ?_⟩)
   rw [aJ _ (by omega)]
   rw [List.take_of_length_le (by omega)] at i5
   exact ⟨by omega, fun _ => by omega, fun h' => by omega, fun _ f hf => by have := i5 f hf; omega, fun h2 => by
    obtain ⟨j, hj, e⟩ := i6 (by omega)
    exact ⟨j, hj, by omega⟩⟩
 ·have h9 : k.kind ≠ 9 := by simp only [bnl] at h9; exact h9
  have h14 : k.kind = 14 := by simp only [bnl] at h14; exact h14
  refine aE (xd k m hk r hr) ?_
  rintro (b : Int) ⟨-, hbp⟩
  refine aD (fun h0 => ?_) (fun h0 => aD (fun _ => aG ⟨_, _, rfl, rfl, .inl ⟨rfl, .inr h14⟩⟩) (fun h1 => absurd (of_decide_eq_false h1) (by decide)))
  have h0 := of_decide_eq_true h0
  rcases hbp with ⟨rfl, _⟩ | ⟨hc, hr0⟩
  ·omega
  have hlt := hc.lt
  have hmem := lU k.branches b.toNat 0 (by omega)
  have hbr := hk.branches _ hmem
  refine vck ?_
  change Tot (chk (decide (0 ≤ brT k b.toNat) && decide (brT k b.toNat < (r.length : Int))) (cond (decide (rk r (brT k b.toNat) < 0)) _ (some (V.int .i64 (IntKind.wrap .i64 (rk r (brT k b.toNat) + 1)), ([] : List aI))))) _
  have hbr : 0 ≤ brT k b.toNat ∧ brT k b.toNat < (m : Int) := hbr
  have hq : -1 ≤ rk r (brT k b.toNat) ∧ rk r (brT k b.toNat) ≤ 1000 := hb (brT k b.toNat).toNat (by omega)
  refine vck (aD (fun h1 => aG ⟨_, _, rfl, rfl, .inl ⟨rfl, .inr h14⟩⟩) (fun h1 => aG ⟨_, _, rfl, rfl, .inr ?_⟩))
  rw [aJ _ (by omega)]
  exact ⟨by omega, fun _ => by omega, fun _ => ⟨brT k b.toNat, hmem, hr0, by omega⟩, fun h' => absurd h' h9, fun h2 => ⟨(brT k b.toNat).toNat, by omega, rfl⟩⟩
 ·have h9 : k.kind ≠ 9 := by simp only [bnl] at h9; exact h9
  have h14 : k.kind ≠ 14 := by simp only [bnl] at h14; exact h14
  exact aG ⟨_, _, rfl, rfl, .inr ⟨by omega, fun h' => by omega, fun h' => absurd h' h14, fun h' => absurd h' h9, fun h2 => by omega⟩⟩
theorem aki (k : ak) (m : Nat) (hk : fZ m k) (r : List Int) (hr : r.length = m) (h : k.kind = 14 → ∃ j, j < k.branches.length ∧ 0 ≤ rk r (brT k j)) : ∃ l, dN k r l := by
 apply afn 1000
 unfold ud mN
 dsimp only
 have hnf := hk.nf
 refine bd (fun x => match x with
  | (r', k', l, fs, n, i) => r' = r ∧ k' = k ∧ fs = k.fields ∧ n = (k.fields.length : Int) ∧ 0 ≤ i ∧ i ≤ (k.fields.length : Int) ∧ l = (k.fields.take i.toNat).map (·.typ))
  (fun x => ((k.fields.length : Int) - x.2.2.2.2.2).toNat) ?_ _ _ ⟨rfl, rfl, rfl, rfl, by simp, by simp, by simp⟩ (by simp; omega)
 rintro again ⟨r', k', l, fs, n, i⟩ ⟨rfl, rfl, rfl, rfl, i1, i2, rfl⟩ ih
 dsimp only at ih
 unfold pt
 dsimp only
 have hlen : (List.map (fun x => x.typ) (List.take i.toNat k'.fields)).length ≤ 8 := by simp; omega
 refine aD (fun h1 => ?_) (fun h1 => ?_)
 ·have h1 := of_decide_eq_true h1
  have hi : i.toNat < k'.fields.length := by omega
  have ew : IntKind.i64.wrap (i + 1) = i + 1 := aJ (i + 1) (by omega)
  have ht := tG k'.fields i.toNat (aC .afield) hi
  refine vck (aN (decide_eq_true (by simp only [List.length_singleton]; omega)) ?_)
  refine ih (r', k', _, k'.fields, _, _) ?_ (by simp only [ew]; omega)
  simp only [ew]
  have ei : (i + 1).toNat = i.toNat + 1 := by omega
  rw [ei, ht, List.map_append]
  exact ⟨trivial, trivial, trivial, trivial, by omega, by omega, rfl⟩
 ·have h1 := of_decide_eq_false h1
  rw [List.take_of_length_le (show k'.fields.length ≤ i.toNat by omega)] at hlen ⊢
  refine aD (fun h14 => ?_) (fun h14 => ?_)
  ·have h14 : k'.kind = 14 := by simp only [bnl] at h14; exact h14
   refine aE (xd k' m hk r' hr) ?_
   rintro (b : Int) ⟨-, hbp⟩
   obtain ⟨j, hj, hj0⟩ := h h14
   rcases hbp with ⟨rfl, hn⟩ | ⟨hc, hr0⟩
   ·have := hn j hj; omega
   have hlt := hc.lt
   have hnn := hc.nn
   refine vck (aN (decide_eq_true (by simp only [List.length_singleton]; omega)) (aG ⟨_, _, rfl, rfl, ?_⟩))
   unfold nG fH
   rw [if_pos h14]
   exact ⟨b, .inr ⟨hc, hr0⟩, hnn, rfl⟩
  ·have h14 : k'.kind ≠ 14 := by simp only [bnl] at h14; exact h14
   refine aG ⟨_, _, rfl, rfl, ?_⟩
   unfold nG fH
   rw [if_neg h14]
end Go.Proofs.Ytdpajabhmmmjoaa
end
noncomputable section
namespace Go.Proofs.Ytdpajabhmmmjoaa
open Go.AM
set_option autoImplicit false
set_option linter.unusedVariables false
set_option linter.unusedSimpArgs false
set_option maxRecDepth 100000
def rM : List Int → Nat
 | [] => 0
 | x :: l => (if x < 0 then 1 else 0) + rM l
theorem aik : ∀ l, rM l ≤ l.length
 | [] => by simp [rM]
 | x :: l => by have := aik l; simp only [rM, List.length_cons]; split <;> omega
theorem afr : ∀ (a b : List Int), a.length = b.length → (∀ j, j < a.length → a.getD j 0 < 0 → b.getD j 0 < 0) → rM a ≤ rM b
 | [], [], _, _ => Nat.le_refl _
 | x :: a, y :: b, hl, h => by
   have ih := afr a b (by simpa using hl) (fun j hj hx => by have := h (j + 1) (by simpa using hj) (by simpa using hx); simpa using this)
   have h0 := h 0 (by simp)
   simp only [List.getD_cons_zero] at h0
   simp only [rM]
   split <;> split <;> omega
theorem ajM : ∀ (a b : List Int), a.length = b.length → (∀ j, j < a.length → a.getD j 0 < 0 → b.getD j 0 < 0) → ∀ j, j < a.length → 0 ≤ a.getD j 0 → b.getD j 0 < 0 → rM a < rM b
 | [], [], _, _, j, hj, _, _ => by simp at hj
 | x :: a, y :: b, hl, h, 0, hj, h1, h2 => by
   have ih := afr a b (by simpa using hl) (fun j hj hx => by have := h (j + 1) (by simpa using hj) (by simpa using hx); simpa using this)
   simp only [List.getD_cons_zero] at h1 h2
   simp only [rM]
   rw [if_neg (by omega), if_pos h2]
   omega
 | x :: a, y :: b, hl, h, j + 1, hj, h1, h2 => by
   have ih := ajM a b (by simpa using hl) (fun j hj hx => by have := h (j + 1) (by simpa using hj) (by simpa using hx); simpa using this) j (by simpa using hj) (by simpa using h1) (by simpa using h2)
   have h0 := h 0 (by simp)
   simp only [List.getD_cons_zero] at h0
   simp only [rM]
   split <;> split <;> omega
theorem wO.mono {k : ak} {r r' : List Int} {m : Int} (h : wO k r m) (hl : r'.length = r.length) (hr : ∀ i, 0 ≤ r.getD i 0 → r'.getD i 0 = r.getD i 0) : wO k r' m where
 low := h.low
 pos := h.pos
 uni h14 := by
  obtain ⟨b, hb, h0, h1⟩ := h.uni h14
  exact ⟨b, hb, by unfold rk at *; rw [hr _ h0]; exact h0, by unfold rk at *; rw [hr _ h0]; exact h1⟩
 rcd h9 f hf := by
  obtain ⟨h0, h1⟩ := h.rcd h9 f hf
  exact ⟨by unfold rk at *; rw [hr _ h0]; exact h0, by unfold rk at *; rw [hr _ h0]; exact h1⟩
 pre h2 := by
  obtain ⟨j, hj, e⟩ := h.pre h2
  exact ⟨j, by omega, by rw [hr _ (by omega)]; exact e⟩
theorem oC.step {ts : List ak} {r next : List Int} {m : Int} (h : oC ts r m) (hm : 0 ≤ m) (hl : next.length = ts.length) (h1 : ∀ j, j < ts.length → 0 ≤ r.getD j 0 → next.getD j 0 = r.getD j 0)
  (h2 : ∀ j, j < ts.length → r.getD j 0 < 0 → next.getD j 0 = -1 ∨ wO (ts.getD j (aC .atype)) r (next.getD j 0)) : oC ts next (m + 1) := by
 have hrl := h.len
 have hmono : ∀ i, 0 ≤ r.getD i 0 → next.getD i 0 = r.getD i 0 := fun i hi => by
  by_cases hil : i < ts.length
  ·exact h1 i hil hi
  ·simp [List.getD_eq_getElem?_getD, List.getElem?_eq_none (show next.length ≤ i by omega), List.getElem?_eq_none (show r.length ≤ i by omega)]
 refine ⟨hl, fun i hi => ?_, fun i hi => ?_, fun i hi h' => ?_⟩
 ·by_cases h0 : 0 ≤ r.getD i 0
  ·rw [hmono i h0]; omega
  ·rcases h2 i (by omega) (by omega) with e | e
   ·omega
   ·have := e.low; omega
 ·by_cases h0 : 0 ≤ r.getD i 0
  ·rw [hmono i h0]; have := h.top i (by omega); omega
  ·rcases h2 i (by omega) (by omega) with e | e
   ·omega
   ·by_cases hp : 2 ≤ next.getD i 0
    ·obtain ⟨j, hj, ej⟩ := e.pre hp
     have := h.top j hj; omega
    ·omega
 ·by_cases h0 : 0 ≤ r.getD i 0
  ·rw [hmono i h0] at h' ⊢; exact (h.ok i (by omega) h').mono (by omega) hmono
  ·rcases h2 i (by omega) (by omega) with e | e
   ·omega
   ·exact e.mono (by omega) hmono
theorem zx (ts : List ak) (hs : eU ts) : ∃ r, jo ts r := by
 apply afq 1000
 unfold ug mO
 dsimp only
 obtain ⟨⟨hn0, hn⟩, hall⟩ := hs
 have hs : eU ts := ⟨⟨hn0, hn⟩, hall⟩
 refine vck ?_
 have rounds : ∀ r, oC ts r 0 → Tot (aW 1000 (jg 1000) (ts, r, true)) (fun z => ∃ (y0 : List Int) (rest : List aI), z.1.dimR = .sl (.num .i64) (.may false) y0 ∧ z.2 = rest ∧ nF ts y0) := by
  intro r hr
  have hnl := aik r
  have hrl := hr.len
  refine bd (fun x => match x with | (ts', r, more) => ts' = ts ∧ (more = false → ∀ j, j < ts.length → r.getD j 0 < 0 → (ts.getD j (aC .atype)).kind = 9 ∨ (ts.getD j (aC .atype)).kind = 14) ∧ ∃ m : Int, 0 ≤ m ∧ m + (rM r : Int) ≤ ts.length ∧ oC ts r m)
   (fun x => rM x.2.1 + (if x.2.2 then 1 else 0)) ?_ _ _ ⟨rfl, (fun h => by cases h), 0, by omega, by omega, hr⟩ (by simp only [if_true]; omega)
  rintro again ⟨ts', r, more⟩ ⟨rfl, i0, m, i1, i2, i3⟩ ih
  dsimp only at ih
  unfold jg nN
  dsimp only
  have hrl := i3.len
  have hnn : (0 : Int) ≤ (rM r : Int) := by omega
  refine aD (fun hmore => ?_) (fun hmore => aG ⟨_, _, rfl, rfl, ⟨i3.len, i3.low, fun i hi => by have := i3.top i hi; omega, i3.ok⟩, i0 hmore⟩)
  subst hmore
  refine vck (vck ?_)
  refine bd (fun x => match x with | (ts2, r2, mo, next, ts3, n2, i) => ts2 = ts' ∧ r2 = r ∧ ts3 = ts' ∧ n2 = (ts'.length : Int) ∧ 0 ≤ i ∧ i ≤ (ts'.length : Int) ∧ next.length = ts'.length ∧ (∀ j, j < ts'.length → (0 ≤ r.getD j 0 ∨ i ≤ (j : Int)) → next.getD j 0 = r.getD j 0) ∧
    (∀ j, j < ts'.length → (j : Int) < i → r.getD j 0 < 0 → (next.getD j 0 = -1 ∧ ((ts'.getD j (aC .atype)).kind = 9 ∨ (ts'.getD j (aC .atype)).kind = 14)) ∨ wO (ts'.getD j (aC .atype)) r (next.getD j 0)) ∧
    (mo = true → ∃ j, j < ts'.length ∧ r.getD j 0 < 0 ∧ 0 ≤ next.getD j 0) ∧ (mo = false → ∀ j, j < ts'.length → r.getD j 0 < 0 → next.getD j 0 < 0))
   (fun x => ((ts'.length : Int) - x.2.2.2.2.2.2).toNat) ?_ _ _ ⟨rfl, rfl, rfl, rfl, by simp, by simp, by simpa using hrl, fun j _ _ => rfl, fun j _ hj => by omega, by simp, fun _ j _ h => h⟩ (by simp; omega)
  rintro again2 ⟨ts2, r2, mo, next, ts3, n2, i⟩ ⟨rfl, rfl, rfl, rfl, j1, j2, j3, j4, j5, j6, j7⟩ ih2
  dsimp only at ih2
  unfold lb
  dsimp only
  refine aD (fun h' => ?_) (fun h' => ?_)
  ·have h' := of_decide_eq_true h'
   have ei : IntKind.i64.wrap (i + 1) = i + 1 := aJ (i + 1) (by omega)
   have hil : i.toNat < ts3.length := by omega
   have hty := hs.at hil
   refine vck (vck (aD (fun h0 => ?_) (fun h0 => ?_)))
   ·have h0 : r2.getD i.toNat 0 < 0 := of_decide_eq_true h0
    have hold : next.getD i.toNat 0 = r2.getD i.toNat 0 := j4 _ hil (.inr (by omega))
    refine vck (aE (akY _ ts3.length hty r2 hrl fun q hq => ⟨i3.low q hq, by have := i3.top q hq; omega⟩) ?_)
    rintro (q : Int) ⟨-, hq⟩
    have hlen : (next.set i.toNat q).length = ts3.length := by simpa using j3
    have hq1 : -1 ≤ q := by
     rcases hq with e | e
     ·omega
     ·have := e.low; omega
    have nx : ∀ mo' : Bool, (mo' = true → (mo = true ∨ 0 ≤ q)) → (mo' = false → mo = false ∧ q < 0) → Tot (again2 (ts3, r2, mo', next.set i.toNat q, ts3, (ts3.length : Int), IntKind.i64.wrap (i + 1))) _ := fun mo' hmo hmf => ih2 (ts3, r2, mo', next.set i.toNat q, ts3, _, IntKind.i64.wrap (i + 1)) (by
     simp only [ei]
     refine ⟨trivial, trivial, trivial, trivial, by omega, by omega, hlen, fun j hj hc => ?_, fun j hj hji hneg => ?_, fun hm => ?_, fun hm j hj hneg => ?_⟩
     ·have hne : i.toNat ≠ j := fun e => by rw [e] at h0; omega
      rw [ic _ _ _ _ _ hne]
      exact j4 j hj (by omega)
     ·by_cases hh : (j : Int) < i
      ·rw [ic _ _ _ _ _ (by omega)]
       exact j5 j hj hh hneg
      ·have e : j = i.toNat := by omega
       rw [e, re _ _ _ _ (by omega)]
       exact hq
     ·rcases hmo hm with hm | hm
      ·obtain ⟨j, a1, a2, a3⟩ := j6 hm
       have hne : i.toNat ≠ j := fun e => by rw [← e, hold] at a3; omega
       exact ⟨j, a1, a2, by rw [ic _ _ _ _ _ hne]; exact a3⟩
      ·exact ⟨i.toNat, hil, h0, by rw [re _ _ _ _ (by omega)]; exact hm⟩
     ·by_cases hh : i.toNat = j
      ·rw [← hh, re _ _ _ _ (by omega)]; exact (hmf hm).2
      ·rw [ic _ _ _ _ _ hh]; exact j7 (hmf hm).1 j hj hneg) (by simp only [ei]; omega)
    refine vck (vck (aN (by simp) (aN (by rw [hlen]; first | (simp only [bnl, lnl]; done) | (simp only [bnl, lnl]; omega)) ?_)))
    refine aD (fun hm => ?_) (fun hm => ?_)
    ·exact aN (by simp) (nx true (fun _ => .inl hm) (fun h => by cases h))
    ·refine aN (by rw [hlen]; first | (simp only [bnl, lnl]; done) | (simp only [bnl, lnl]; omega)) (aN (by rw [hlen]; first | (simp only [bnl, lnl]; done) | (simp only [bnl, lnl]; omega)) (aN (by simp) ?_))
     have eg : (next.set i.toNat q).getD i.toNat (aC (.num .i64)) = q := re _ _ _ _ (by omega)
     rw [eg]
     exact nx _ (fun h => .inr (of_decide_eq_true h)) (fun h => ⟨hm, by have := of_decide_eq_false h; omega⟩)
   ·have h0 : ¬ r2.getD i.toNat 0 < 0 := of_decide_eq_false h0
    refine ih2 (ts3, r2, mo, next, ts3, _, _) ?_ (by simp only [ei]; omega)
    simp only [ei]
    refine ⟨trivial, trivial, trivial, trivial, by omega, by omega, j3, fun j hj hc => j4 j hj (by omega), fun j hj hji hneg => ?_, j6, j7⟩
    by_cases hh : (j : Int) < i
    ·exact j5 j hj hh hneg
    ·have : j = i.toNat := by omega
     rw [this] at hneg; omega
  ·have h' := of_decide_eq_false h'
   have hst := i3.step i1 j3 (fun j hj h0 => j4 j hj (.inl h0)) fun j hj h0 => (j5 j hj (by omega) h0).imp And.left id
   have hsub : ∀ j, j < next.length → next.getD j 0 < 0 → r2.getD j 0 < 0 := fun j hj hx => by
    by_cases h0 : 0 ≤ r2.getD j 0
    ·rw [j4 j (by omega) (.inl h0)] at hx; omega
    ·omega
   cases hmo : mo with
   | true =>
     obtain ⟨j, a1, a2, a3⟩ := j6 hmo
     have hlt := ajM next r2 (by omega) hsub j (by omega) a3 a2
     exact ih (ts3, next, true) ⟨rfl, (fun h => by cases h), m + 1, by omega, (by dsimp only; omega), hst⟩ (by simp only [if_true]; omega)
   | false =>
     have hle := afr next r2 (by omega) hsub
     have hj7 := j7 hmo
     refine ih (ts3, next, false) ⟨rfl, (fun _ j hj hx => ?_), m, by omega, (by dsimp only; omega), hst.len, hst.low, fun j hj => ?_, hst.ok⟩ (by simp; omega)
     ·have hx : next.getD j 0 < 0 := hx
      have hj : j < ts3.length := hj
      rcases j5 j hj (by omega) (hsub j (by omega) hx) with ⟨_, e⟩ | e
      ·exact e
      ·have := e.low; omega
     have hj : j < next.length := hj
     show next.getD j 0 ≤ m
     by_cases h0 : 0 ≤ r2.getD j 0
     ·rw [j4 j (by omega) (.inl h0)]; exact i3.top j (by omega)
     ·have := hj7 j (by omega) (by omega); omega
 have hr0 : (List.replicate (ts.length : Int).toNat (aC (.num .i64))).length = ts.length := by simp
 refine bd (fun x => match x with | (ts', r, n, i) => ts' = ts ∧ n = (ts.length : Int) ∧ 0 ≤ i ∧ i ≤ (ts.length : Int) ∧ r.length = ts.length ∧ ∀ j, j < ts.length → (j : Int) < i → r.getD j 0 = -1)
  (fun x => ((ts.length : Int) - x.2.2.2).toNat) ?_ _ _ ⟨rfl, by rw [hr0], by simp, by simp, hr0, fun j _ hj => by omega⟩ (by simp; omega)
 rintro again ⟨ts', r, n, i⟩ ⟨rfl, rfl, i1, i2, i3, i4⟩ ih
 dsimp only at ih
 unfold px nO
 dsimp only
 refine aD (fun h => ?_) (fun h => ?_)
 ·have h := of_decide_eq_true h
  have ei : IntKind.i64.wrap (i + 1) = i + 1 := aJ (i + 1) (by omega)
  refine vck (vck (vck (aN (by simp) ?_)))
  refine ih (ts', _, _, _) ?_ (by simp only [ei]; omega)
  simp only [ei]
  refine ⟨trivial, trivial, by omega, by omega, by simpa using i3, fun j hj hji => ?_⟩
  by_cases hh : i.toNat = j
  ·rw [← hh, re _ _ _ _ (by omega)]
  ·rw [ic _ _ _ _ _ hh]; exact i4 j hj (by omega)
 ·have h := of_decide_eq_false h
  refine rounds r ⟨i3, fun j hj => ?_, fun j hj => ?_, fun j hj h1 => ?_⟩
  all_goals have := i4 j (by omega) (by omega)
  all_goals omega
end Go.Proofs.Ytdpajabhmmmjoaa
end
noncomputable section
namespace Go.Proofs.Ytdpajabhmmmjoaa
open Go.AM
set_option autoImplicit false
set_option linter.unusedVariables false
set_option linter.unusedSimpArgs false
set_option maxRecDepth 100000
theorem ajm {k : ak} {r : List Int} {b c : Int} (hb : vn k r b) (hc : vn k r c) (hb0 : 0 ≤ rk r (brT k b.toNat)) (hc0 : 0 ≤ rk r (brT k c.toNat)) : b = c := by
 have b1 := hb.nn; have b2 := hb.lt; have c1 := hc.nn; have c2 := hc.lt
 have l1 := hb.least c.toNat (by omega) hc0
 have l2 := hc.least b.toNat (by omega) hb0
 rcases Int.lt_trichotomy b c with h | h | h
 ·have := hc.first b.toNat (by omega) hb0; omega
 ·exact h
 ·have := hb.first c.toNat (by omega) hc0; omega
theorem adb {k : ak} {r : List Int} {b c : Int} (hb : jn k r b) (hc : jn k r c) (hb0 : 0 ≤ b) (hc0 : 0 ≤ c) : b = c := by
 rcases hb with ⟨rfl, _⟩ | ⟨h1, h2⟩
 ·omega
 rcases hc with ⟨rfl, _⟩ | ⟨g1, g2⟩
 ·omega
 exact ajm h1 g1 h2 g2
theorem akj {k : ak} {r l m : List Int} (hl : fH k r l) (hm : fH k r m) : l = m := by
 unfold fH at hl hm
 split at hl
 ·rename_i h14
  rw [if_pos h14] at hm
  obtain ⟨b, b1, b2, rfl⟩ := hl
  obtain ⟨c, c1, c2, rfl⟩ := hm
  rw [adb b1 c1 b2 c2]
 ·rename_i h14
  rw [if_neg h14] at hm
  rw [hl, hm]
theorem ab1 {ts : List ak} (hs : eU ts) {r : List Int} {m : Int} (hR : oC ts r m) {t : Nat} (ht : t < ts.length) (h0 : 0 ≤ r.getD t 0) {l : List Int} (hl : fH (ts.getD t (aC .atype)) r l) :
  ∀ p ∈ l, (0 ≤ p ∧ p < (ts.length : Int)) ∧ 0 ≤ rk r p ∧ rk r p < r.getD t 0 := by
 have hk := hs.at ht
 have hrk := hR.ok t (by have := hR.len; omega) h0
 generalize ts.getD t (aC .atype) = k at *
 intro p hp
 have hfld : p ∈ k.fields.map (·.typ) → (0 ≤ p ∧ p < (ts.length : Int)) ∧ 0 ≤ rk r p ∧ rk r p < r.getD t 0 := by
  intro hp
  obtain ⟨f, hf, rfl⟩ := List.mem_map.1 hp
  have h9 : k.kind = 9 := by
   rcases Decidable.em (k.kind = 9) with h | h
   ·exact h
   ·rw [hk.only h] at hf; simp at hf
  have := hk.fields f hf
  exact ⟨⟨this.1, this.2.1⟩, hrk.rcd h9 f hf⟩
 unfold fH at hl
 split at hl
 ·rename_i h14
  obtain ⟨b, hb, hb0, rfl⟩ := hl
  rcases List.mem_append.1 hp with hp | hp
  ·exact hfld hp
  ·rw [List.mem_singleton] at hp
   subst hp
   rcases hb with ⟨rfl, _⟩ | ⟨hc, hc0⟩
   ·omega
   have hlt := hc.lt
   have hm := lU k.branches b.toNat 0 (by omega)
   have hbr := hk.branches _ hm
   obtain ⟨x, hx, x0, x1⟩ := hrk.uni h14
   obtain ⟨j, hj, rfl⟩ := List.mem_iff_getElem.1 hx
   have e : brT k j = k.branches[j] := by simp [brT, List.getD_eq_getElem?_getD, List.getElem?_eq_getElem hj]
   have hle := hc.least j hj (by rw [e]; exact x0)
   rw [e] at hle
   exact ⟨hbr, hc0, by omega⟩
 ·subst hl
  exact hfld hp
theorem adE (w : List Int) (i : Nat) (x : Int) : ∀ l : List Int, (∀ p ∈ l, p.toNat ≠ i) → ep (w.set i x) l = ep w l
 | [], _ => rfl
 | p :: l, h => by
   have := adE w i x l fun p hp => h p (by simp [hp])
   simp only [ep, this, rk]
   rw [ic _ _ _ _ _ (fun e => h p (by simp) e.symm)]
theorem adF (w : List Int) : ∀ l m : List Int, ep w (l ++ m) = ep w l + ep w m
 | [], m => by simp [ep]
 | p :: l, m => by
   have := adF w l m
   simp only [List.cons_append, ep, this]; omega
theorem ajN (w v : List Int) : ∀ l : List Int, (∀ p ∈ l, rk w p = rk v p) → ep w l = ep v l
 | [], _ => rfl
 | p :: l, h => by
   have := ajN w v l fun p hp => h p (by simp [hp])
   simp only [ep, this, h p (by simp)]
theorem afs (w : List Int) : ∀ l : List Int, (∀ p ∈ l, 0 ≤ rk w p) → 0 ≤ ep w l
 | [], _ => by simp [ep]
 | p :: l, h => by
   have := afs w l fun p hp => h p (by simp [hp])
   have := h p (by simp)
   simp only [ep]; omega
theorem qa.set {ts : List ak} {r w : List Int} (h : qa ts r w) {t : Nat} (ht : t < ts.length) (h0 : w.getD t 0 = 0) (hr : 0 ≤ r.getD t 0) {n : Int} (hn : 1 ≤ n ∧ n ≤ 1000000) {l : List Int} (hl : fH (ts.getD t (aC .atype)) r l)
  (hp : ∀ p ∈ l, rk w p ≠ 0) (hsum : n = afe (1 + ep w l)) : qa ts r (w.set t n) := by
 have hwl := h.len
 have key : ∀ l : List Int, (∀ p ∈ l, rk w p ≠ 0) → (∀ p ∈ l, p.toNat ≠ t) := fun l hl p hp e => by
  have := hl p hp
  unfold rk at this
  rw [e] at this; exact this h0
 have keep : ∀ l : List Int, (∀ p ∈ l, rk w p ≠ 0) → (∀ p ∈ l, rk (w.set t n) p ≠ 0) := fun l hl p hp => by
  unfold rk
  rw [ic _ _ _ _ _ (fun e => key l hl p hp e.symm)]
  exact hl p hp
 refine ⟨by simpa using hwl, fun i hi => ?_, fun i hi hne => ?_⟩
 ·by_cases e : t = i
  ·rw [← e, re _ _ _ _ (by omega)]; omega
  ·rw [ic _ _ _ _ _ e]; exact h.low i hi
 ·by_cases e : t = i
  ·rw [← e, re _ _ _ _ (by omega)]
   exact ⟨hr, l, hl, keep l hp, by rw [adE _ _ _ _ (key l hp)]; exact hsum⟩
  ·rw [ic _ _ _ _ _ e] at hne ⊢
   obtain ⟨a1, l', a2, a3, a4⟩ := h.ok i hi hne
   exact ⟨a1, l', a2, keep l' a3, by rw [adE _ _ _ _ (key l' a3)]; exact a4⟩
theorem agl {ts : List ak} (hs : eU ts) {r : List Int} {m : Int} (hR : oC ts r m) {t : Nat} (ht : t < ts.length) (h0 : 0 ≤ r.getD t 0) : ∃ l, dN (ts.getD t (aC .atype)) r l := by
 have hrk := hR.ok t (by have := hR.len; omega) h0
 refine aki _ ts.length (hs.at ht) r hR.len fun h14 => ?_
 obtain ⟨x, hx, x0, x1⟩ := hrk.uni h14
 obtain ⟨j, hj, rfl⟩ := List.mem_iff_getElem.1 hx
 refine ⟨j, hj, ?_⟩
 generalize ts.getD t (aC .atype) = k at *
 have e : brT k j = k.branches[j] := by simp [brT, List.getD_eq_getElem?_getD, List.getElem?_eq_getElem hj]
 rw [e]; exact x0
theorem aey (ts : List ak) (hs : eU ts) (r : List Int) (hR : oC ts r ts.length) : ∀ (n : Nat) (w : List Int) (t : Int), qa ts r w → 0 ≤ t ∧ t < ts.length → 0 ≤ rk r t → rk r t < n → ∃ x, cp w ts t r x
 | 0 => fun w t _ _ h1 h2 => by omega
 | n + 1 => by
   intro w t hw ht h1 h2
   have hrl := hR.len
   have hwl := hw.len
   have htl : t.toNat < ts.length := by omega
   have hlow := hw.low t.toNat htl
   apply aeo 1000
   unfold sQ kT
   dsimp only
   have ewt : w.getD t.toNat (aC (.num .i64)) = rk w t := rfl
   have ert : r.getD t.toNat 0 = rk r t := rfl
   refine vck (vck (aD (fun h0 => ?_) (fun h0 => ?_)))
   ·have h0 : rk w t = 0 := by simp only [bnl] at h0; exact h0
    refine vck (aE (agl hs hR htl (by rw [ert]; exact h1)) ?_)
    rintro (l : List Int) ⟨-, hl⟩
    have hl : fH (ts.getD t.toNat (aC .atype)) r l := hl
    have hpr := ab1 hs hR htl (by rw [ert]; exact h1) hl
    rw [ert] at hpr
    have hk := hs.at htl
    have hll : l.length ≤ 9 := by
     have hnf := hk.nf
     unfold fH at hl
     split at hl
     ·obtain ⟨b, _, _, rfl⟩ := hl
      simp only [List.length_append, List.length_map, List.length_singleton]; omega
     ·rw [hl]; simp only [List.length_map]; omega
    refine bd (fun x => match x with
     | (t', r', wl, ts', m, l', nl, i, w') => t' = t ∧ r' = r ∧ wl = w.length ∧ ts' = ts ∧ l' = l ∧ nl = (l.length : Int) ∧ 0 ≤ i ∧ i ≤ (l.length : Int) ∧ (1 ≤ m ∧ m ≤ 1000000) ∧ qa ts r w' ∧ (∀ j, w.getD j 0 ≠ 0 → w'.getD j 0 = w.getD j 0) ∧
       (∀ j, j < ts.length → rk r t ≤ r.getD j 0 → w'.getD j 0 = w.getD j 0) ∧ (∀ p ∈ l.take i.toNat, rk w' p ≠ 0) ∧ m = afe (1 + ep w' (l.take i.toNat)))
     (fun x => ((l.length : Int) - x.2.2.2.2.2.2.2.1).toNat) ?_ _ _ ⟨rfl, rfl, rfl, rfl, rfl, rfl, by simp, by simp, by simp, hw, fun _ _ => rfl, fun _ _ _ => rfl, by simp, by simp [ep, afe]⟩ (by simp; omega)
    rintro again ⟨t', r', wl, ts', m, l', nl, i, w'⟩ ⟨rfl, rfl, rfl, rfl, rfl, rfl, i1, i2, i3, i4, i5, i6, i7, i8⟩ ih
    dsimp only at ih
    unfold nK
    dsimp only
    have hwl' := i4.len
    refine aD (fun h => ?_) (fun h => ?_)
    ·have h := of_decide_eq_true h
     have hi : i.toNat < l'.length := by omega
     have hm := lU l'  i.toNat 0 hi
     have hp := hpr _ hm
     have ht2 := tG l' i.toNat 0 hi
     have ei : IntKind.i64.wrap (i + 1) = i + 1 := aJ (i + 1) (by omega)
     have eit : (i + 1).toNat = i.toNat + 1 := by omega
     refine vck ?_
     change Tot (zk (cp w' ts' (l'.getD i.toNat 0) r') _ _) _
     generalize l'.getD i.toNat 0 = p at *
     refine ae9 (by rw [hwl', hwl]; simp) (aey ts' hs r' hR n w' p i4 hp.1 hp.2.1 (by omega)) ?_
     rintro ⟨x, w2⟩ ⟨-, q1, q2, q3, q4, q5⟩
     dsimp only at q1 q2 q3 q4 q5 ⊢
     have hpl := q1.low p.toNat (by omega)
     have hx : 0 ≤ x ∧ x ≤ 1000000 := by rw [q3]; exact hpl
     have ew : IntKind.i64.wrap (m + x) = m + x := aJ _ (by omega)
     rw [ew]
     refine ih (t', r', _, ts', _, l', _, _, w2) ?_ (by simp only [ei]; omega)
     simp only [ei]
     rw [eit, ht2]
     have hkeep : ∀ p' : Int, rk w' p' ≠ 0 → rk w2 p' = rk w' p' := fun p' hp' => q2 _ hp'
     have hnn : 0 ≤ ep w2 (l'.take i.toNat) := afs _ _ fun p' hp' => by
      have := hpr p' (List.mem_of_mem_take hp')
      have := q1.low p'.toNat (by omega)
      unfold rk; omega
     have hse : ep w2 (l'.take i.toNat) = ep w' (l'.take i.toNat) := ajN _ _ _ fun p' hp' => hkeep p' (i7 p' hp')
     refine ⟨trivial, trivial, trivial, trivial, trivial, trivial, by omega, by omega, ?_, q1, fun j hj => ?_, fun j hj hle => ?_, fun p' hp' => ?_, ?_⟩
     ·split <;> omega
     ·rw [q2 j (by rw [i5 j hj]; exact hj), i5 j hj]
     ·rw [q5 j hj (by omega), i6 j hj hle]
     ·rcases List.mem_append.1 hp' with hp' | hp'
      ·rw [hkeep p' (i7 p' hp')]; exact i7 p' hp'
      ·rw [List.mem_singleton] at hp'
       subst hp'
       rw [← q3]; exact q4
     ·rw [adF, hse]
      have e1 : ep w2 [p] = x := by simp only [ep, q3]; omega
      rw [e1]
      rw [← hse] at i8
      unfold afe at i8 ⊢
      rw [i8]
      split <;> split <;> split <;> omega
    ·have h := of_decide_eq_false h
     rw [List.take_of_length_le (by omega)] at i7 i8
     have hz : w'.getD t'.toNat 0 = 0 := by rw [i6 _ htl (by rw [ert]; omega)]; exact h0
     have hset := i4.set htl hz (by rw [ert]; exact h1) i3 hl i7 i8
     have eg : (w'.set t'.toNat m).getD t'.toNat 0 = m := re _ _ _ _ (by omega)
     refine vck (vck (vck (aN (by simp only [List.length_set]; first | (simp only [bnl, lnl]; done) | (simp only [bnl, lnl]; omega)) (aG ⟨_, _, _, rfl, rfl, hset, fun j hj => ?_, rfl, ?_, fun j hj hlt => ?_⟩))))
     ·have hne : t'.toNat ≠ j := fun e => by rw [← e] at hj; exact hj h0
      rw [ic _ _ _ _ _ hne]; exact i5 j hj
     ·show (w'.set t'.toNat m).getD t'.toNat 0 ≠ 0
      rw [eg]; omega
     ·have hne : t'.toNat ≠ j := fun e => by rw [← e, ert] at hlt; omega
      rw [ic _ _ _ _ _ hne]; exact i6 j hj (by omega)
   ·have h0 : rk w t ≠ 0 := by simp only [bnl] at h0; exact h0
    exact vck (vck (aG ⟨_, _, _, rfl, rfl, hw, fun _ _ => rfl, rfl, h0, fun _ _ _ => rfl⟩))
end Go.Proofs.Ytdpajabhmmmjoaa
end
noncomputable section
namespace Go.Proofs.Ytdpajabhmmmjoaa
open Go.AM
set_option autoImplicit false
set_option linter.unusedVariables false
def rkB (ts : List ak) : List Int := pick (jo ts)
def aag (ts : List ak) (l : List Bool) : Prop := l = (rkB ts).map fun q => decide (0 ≤ q)
def rN (ts : List ak) (t : Int) (x : aB × Bool) : Prop :=
 (x.2 = true → isT ts t = true ∧ 0 ≤ rk (rkB ts) t ∧ alE ts t x.1 12000000) ∧ (x.2 = false → x.1.l = []) ∧ (x.2 = true → x.1.n = 0) ∧
  (isT ts t = true → 0 ≤ rk (rkB ts) t → (ts.getD t.toNat (aC .atype)).kind ≠ 9 → (ts.getD t.toNat (aC .atype)).kind ≠ 14 → x.2 = true)
def qQ (r : Bool) : Prop := r = true
def nj (l : List UInt8) (r : Bool) : Prop := r = true
end Go.Proofs.Ytdpajabhmmmjoaa
end
noncomputable section
namespace Go.Proofs.Ytdpajabhmmmjoaa
open Go.AM
set_option autoImplicit false
set_option linter.unusedVariables false
set_option maxRecDepth 100000
abbrev aez : FuncId := 16
abbrev ab2 : FuncId := 17
abbrev qR : FuncId := 3
abbrev aah : FuncId := 13
abbrev adG := Bool
noncomputable def vy (a0 : Bs) (r : adG) : Prop := aO Try.prog qR [.sl .u8 (.may false) a0] (.bool r) ∧ nj a0 r
abbrev agP := Bool
noncomputable def mP  (r : agP) : Prop := aO Try.prog aah [] (.bool r) ∧ qQ  r
noncomputable def agQ : cn Try.prog := ⟨13, fun us => match us with
 | [] => let r := pick mP; some (can mP, .bool r)
 | _ => none, by
 intro _ _ h; split at h; exact bB h (fun h => h.1.dim rfl) rfl rfl; cases h⟩
abbrev akk := List Bool
noncomputable def md (a0_0 : List ak) (r : akk) : Prop := aO Try.prog aez [.agg [.sl .atype (.may false) a0_0]] (.sl .bool (.may false) r) ∧ aag a0_0 r
noncomputable def aeA : cn Try.prog := ⟨16, fun us => match us with
 | [.agg [.sl .atype (.may _) a0_0]] => let r := pick (md a0_0); some (can (md a0_0), .sl .bool (.may false) r)
 | _ => none, by
 intro _ _ h; split at h; exact bB h (fun h => h.1.dim rfl) rfl rfl; cases h⟩
abbrev ail := aB × Bool
noncomputable def eZ (a0_0 : List ak) (a1 : Int) (r : ail) : Prop := aO Try.prog ab2 [.agg [.sl .atype (.may false) a0_0], .int .i64 a1] (.tup [.agg (enc .aval r.1), .bool r.2]) ∧ rN a0_0 a1 r
noncomputable def ab3 : cn Try.prog := ⟨17, fun us => match us with
 | [.agg [.sl .atype (.may _) a0_0], .int .i64 a1] => let r := pick (eZ a0_0 a1); some (can (eZ a0_0 a1), .tup [.agg (enc .aval r.1), .bool r.2])
 | _ => none, by
 intro _ _ h; split at h; exact bB h (fun h => h.1.dim rfl) rfl rfl; cases h⟩
end Go.Proofs.Ytdpajabhmmmjoaa
end
noncomputable section
namespace Go.Proofs.Ytdpajabhmmmjoaa
open Go.AM
set_option autoImplicit false
set_option linter.unusedVariables false
set_option maxRecDepth 100000
noncomputable def rO : aM := tab (P := Try.prog) [] [] [] [abX]
def aai : IR := Rs [Bi 10 .lss 9 8] (Sq (Cn 10 .skip (.exit 0)) (Sq (.block 1 (Rs [Ix 11 (.num .i64) 7 9, Lq 12 11, Mv 5 12] (Rg [Pp (.mov 13 (.tk 3)), Mv 14 5, Bc 15 .geq 14 0, Pp (.bsl 16 .bool [15] true), Pp (.app 17 .bool (.tk 13) 16), Pp (.mov 3 (.tk 17))]))) (Rg [Bc 18 .add 9 1, Mv 9 18])))
def aaj : IR := Rs [Pp (.mov 19 (.tk 3)), Pp (.mov 2 (.tk 19))] .ret
def xe : IR := Rs [Bx 1 0, Pp (.mov 2 (.c (nl .bool)))] (Rs [Pp (.mov 3 (.c (nl .bool)))] (Sq (Rs [Ld 6 1 true 1, Ca 7 42 [6], Ll 8 7, Mi 9 0] (.block 0 (.loop [3, 7, 8, 9, 1000000] 0 aai))) aaj))
def tl : List RV := [.t 2]
theorem ajn : FnC Try.prog rO [] 0 aez Try.f16 xe tl := fnC (by kernel_rfl) Try.func16 (by kernel_rfl) (by kernel_rfl) (by decide)
def aim (R : IR → (Ex → St → Ro) → St → Ro) (again0 : St → Ro) : Ex → St → Ro := (bD again0 [3, 7, 8, 9, 1000000] 0 (aT 0 (bv (R aaj) (fin tl))))
abbrev oH : Type := (List Bool × List Int × Int × Int)
def mQ (x : oH) : St := { env := (U 3 (.sl .bool .own x.1 :: (U 3 (.sl (.num .i64) (.may false) x.2.1 :: .int .i64 x.2.2.1 :: .int .i64 x.2.2.2 :: (U 10 []))))), hp := [] }
def vz (N : Nat) : (St → Ro) → St → Ro := fun again0 s => run rO N aai (aim (run rO N) again0) s
def oJ (N : Nat) (again0 : oH → Ro) (x : oH) : Ro :=
 let v3 : List Bool := x.1
 let v7 : List Int := x.2.1
 let v8 : Int := x.2.2.1
 let v9 : Int := x.2.2.2
 cond (decide (v9 < v8)) (
  chk ((decide (0 ≤ v9) && decide (v9 < ↑(List.length v7)))) (
   let x2 : Int := List.getD v7 (Int.toNat v9) (aC (.num .i64))
   chk (decide ((List.length v3 + List.length ([decide (0 ≤ x2)] : List Bool)) * 1 ≤ 140737488355328)) (
    let x3 : List Bool := (v3 ++ ([decide (0 ≤ x2)] : List Bool))
    let x4 : Int := (IntKind.wrap .i64 (v9 + 1))
    again0 (x3, v7, v8, x4)))) (
  some (.sl .bool .own v3, []))
theorem agR (N : Nat) : ∀ (again0 : St → Ro) (x : oH), vz N again0 (mQ x) = oJ N (fun y => again0 (mQ y)) x := by
 intro again0 x
 kernel_rfl
def qd (N : Nat) (p0_0 : List ak) (q0 : oH → Ro) : Ro :=
 aF (jo p0_0) (fun (r1 : List Int) =>
  let x1 : Int := (↑(List.length r1) : Int)
  q0 (([] : List Bool), r1, x1, 0))
def xf (N : Nat) (p0_0 : List ak) : Ro := qd N p0_0 (fun z => aW N (oJ N) z)
def akl (N : Nat) : List (Nat × (St → Ro)) := ba rO N xe (fin tl) ++ []
theorem ain (N : Nat) (p0_0 : List ak) : bb rO N 20 tl xe [.agg [.sl .atype (.may false) p0_0]] [] = xf N p0_0 :=
 (bH (akl N) (by kernel_rfl) rfl (fun C => qd N p0_0 (fun z => C 1000000 (mQ z))) (fun C => by kernel_rfl)).trans (Eq.trans (b := qd N p0_0 (fun z => bi N (vz N) (mQ z))) (by kernel_rfl) (congrArg (qd N p0_0) (funext fun z => bj (mQ) (vz N) (oJ N) (agR N) N z)))
theorem aio (N : Nat) (p0_0 : List ak) (h : Tot (xf N p0_0) (fun z => ∃ (y0 : List Bool) (rest : List aI), z.1.dimR = .sl .bool (.may false) y0 ∧ z.2 = rest ∧ aag p0_0 (y0))) : ∃ r, md p0_0 r := by
 obtain ⟨⟨v, hp⟩, hz, y0, rest, e1, e2, hq⟩ := h
 simp only at e1 e2
 subst e2
 exact ⟨(y0), aO.dimR (ajn.pure (ain N p0_0) hz) e1, hq⟩
def qD : aek := fun f p q k xs => match f, p, q, k, xs with
 | 43, [.agg [.sl .atype (.may _) a0_0], .int .i64 a1, .sl (.num .i64) (.may _) a2], [], .num .i64, o0_0 => some (can (cp o0_0 a0_0 a1 a2), .int .i64 ((pick (cp o0_0 a0_0 a1 a2)).1), (pick (cp o0_0 a0_0 a1 a2)).2)
 | _, _, _, _, _ => none
noncomputable def rP : aM := (zw qD (rq (xb (P := Try.prog) [abX, abY])))
theorem adH : cM rP [43] := (ael (by
 intro f p q k xs hf
 unfold qD
 split <;> first | rfl | (simp at hf)) (by
 intro f p q k xs hf
 unfold qD
 split <;> first | rfl | (simp at hf)) (rt _ _))
theorem aeB  : cC Try.prog rP := by
 refine aib ?_ ?_
 ·intro f p q k xs v ys h
  unfold qD at h
  split at h
  ·simp only [Option.some.injEq, Prod.mk.injEq] at h
   obtain ⟨hc, rfl, rfl⟩ := h
   exact ((xO hc).1).dim rfl rfl
  ·simp at h
 exact zn _
def aak : IR := Rs [Bx 2 0, Pp (.new 4 [vU 0, vS, nl .aval, nl .str, vI 0]), Mb 5 false] (Rs [Ld 7 1 true 2, Ca 8 42 [7], Mv 6 8] (Sq (Sq (.reg [Mv 9 1, Bc 10 .lss 9 0, Mv 11 10, Gf 11 (.mov 12 1), Gf 11 (.mov 13 6), Gf 11 (.lenl 14 13), Gf 11 (.bin 15 .geq 12 14), Po 16 11 15, Mv 17 16, Gf 17 (.mov 18 6), Gf 17 (.mov 19 1), Gf 17 (.ixa 20 (.num .i64) 18 19), Gf 17 (.lde 21 1 false 20), Gf 17 (.bin 22 .lss 21 (kI 0)), Po 23 17 22, Mv 24 23, Gf 24 (.lde 25 1 true 2), Gf 24 (.mov 26 1), Gf 24 (.mov 27 6), Gf 24 (.mov 28 6), Gf 24 (.lenl 29 28), Gf 24 (.mkr 30 (.num .i64) (.t 29)), ⟨some (24, false), .call 31 43 [25, 26, 27, 30], some ([1], [])⟩, Gf 24 (.bin 32 .gtr 31 (kI 2000)), Po 33 24 32] [[], [0], [0, 1], [0, 1, 2], [0, 1, 2], [0, 1, 2, 4], rg 0 5, rg 0 6, rg 0 7, rg 0 8, rg 0 8, rg 0 10, rg 0 11, rg 0 12, rg 0 13, rg 0 14, rg 0 15, rg 0 15, rg 0 15, rg 0 15, rg 0 15 ++ [19], rg 0 15 ++ [19, 20], rg 0 21, rg 0 22, rg 0 23]) (Cn 33 (Rs [Pp (.bld 34 [vU 0, vS, fu .aval true, fu .str true, vI 0] []), Sv 5 4 34, Mb 5 false] .ret) .skip)) (Rs [Ld 35 1 true 2, Mv 36 1, Mv 37 6, Ca 38 44 [35, 36, 37], Sv 5 4 38, Mb 5 true] .ret)))
def aal : List RV := [.cell 4 5 true, .t 5]
theorem agS : FnC Try.prog rP [43] 0 ab2 Try.f17 aak aal := ⟨aeB, adH, Try.func17, by kernel_rfl, by kernel_rfl, by decide⟩
def aam (N : Nat) (p0_0 : List ak) (p1 : Int)  : Ro :=
 aF (jo p0_0) (fun (r1 : List Int) =>
  cond (decide (p1 < 0)) (
   some (.tup [.agg [.int .u64 0, .str ([] : Bs), .sl .aval (.may true) ([] : List aB), .sl .str (.may true) ([] : Bss), .int .i64 0], .bool false], [some [.int .u64 0, .str ([] : Bs), .sl .aval (.may true) ([] : List aB), .sl .str (.may true) ([] : Bss), .int .i64 0]])) (
   let x1 : Int := (↑(List.length r1) : Int)
   cond (decide (x1 ≤ p1)) (
    some (.tup [.agg [.int .u64 0, .str ([] : Bs), .sl .aval (.may true) ([] : List aB), .sl .str (.may true) ([] : Bss), .int .i64 0], .bool false], [some [.int .u64 0, .str ([] : Bs), .sl .aval (.may true) ([] : List aB), .sl .str (.may true) ([] : Bss), .int .i64 0]])) (
    chk ((decide (0 ≤ p1) && decide (p1 < ↑(List.length r1)))) (
     let x2 : Int := List.getD r1 (Int.toNat p1) (aC (.num .i64))
     cond (decide (x2 < 0)) (
      some (.tup [.agg [.int .u64 0, .str ([] : Bs), .sl .aval (.may true) ([] : List aB), .sl .str (.may true) ([] : Bss), .int .i64 0], .bool false], [some [.int .u64 0, .str ([] : Bs), .sl .aval (.may true) ([] : List aB), .sl .str (.may true) ([] : Bss), .int .i64 0]])) (
      let x3 : Int := (↑(List.length r1) : Int)
      chk ((decide (0 < x3) && decide (x3 * 8 ≤ 140737488355328))) (
       let x4 : List Int := (List.replicate (Int.toNat x3) (aC (.num .i64)))
       zk (cp x4 p0_0 p1 r1) (Nat.beq (Int.toNat x3) (List.length x4)) (fun r2 =>
        cond (decide (2000 < r2.1)) (
         some (.tup [.agg [.int .u64 0, .str ([] : Bs), .sl .aval (.may true) ([] : List aB), .sl .str (.may true) ([] : Bss), .int .i64 0], .bool false], [some [.int .u64 0, .str ([] : Bs), .sl .aval (.may true) ([] : List aB), .sl .str (.may true) ([] : Bss), .int .i64 0], some [.rw (.num .i64) r2.2], none])) (
         aF (jp p0_0 p1 r1) (fun (r3 : aB) =>
          some (.tup [.agg [.int .u64 r3.n, .str r3.s, .sl .aval (.may false) r3.l, .sl .str (.may false) r3.keys, .int .i64 r3.branch], .bool true], [some [.int .u64 r3.n, .str r3.s, .sl .aval (.may false) r3.l, .sl .str (.may false) r3.keys, .int .i64 r3.branch], some [.rw (.num .i64) r2.2], none]))))))))))
def uh (N : Nat) (p0_0 : List ak) (p1 : Int) : Ro := aam N p0_0 p1
theorem afu (N : Nat) (p0_0 : List ak) (p1 : Int) : bb rP N 39 aal aak [.agg [.sl .atype (.may false) p0_0], .int .i64 p1] [] = uh N p0_0 p1 := by kernel_rfl
theorem afv (N : Nat) (p0_0 : List ak) (p1 : Int) (h : Tot (uh N p0_0 p1) (fun z => ∃ (y0 : aB) (y1 : Bool) (rest : List aI), z.1.dimR = .tup [.agg (enc .aval y0), .bool y1] ∧ z.2 = rest ∧ rN p0_0 p1 (y0, y1))) : ∃ r, eZ p0_0 p1 r := by
 obtain ⟨⟨v, hp⟩, hz, y0, y1, rest, e1, e2, hq⟩ := h
 simp only at e1 e2
 subst e2
 exact ⟨(y0, y1), aO.dimR (agS.pure (afu N p0_0 p1) hz) e1, hq⟩
end Go.Proofs.Ytdpajabhmmmjoaa
end
noncomputable section
namespace Go.Proofs.Ytdpajabhmmmjoaa
open Go.AM
set_option autoImplicit false
set_option linter.unusedVariables false
set_option maxRecDepth 100000
end Go.Proofs.Ytdpajabhmmmjoaa
end
noncomputable section
namespace Go.Proofs.Ytdpajabhmmmjoaa
open Go.AM
set_option autoImplicit false
set_option linter.unusedVariables false
set_option maxRecDepth 100000
end Go.Proofs.Ytdpajabhmmmjoaa
end
noncomputable section
namespace Go.Proofs.Ytdpajabhmmmjoaa
open Go.AM
set_option autoImplicit false
set_option linter.unusedVariables false
set_option maxRecDepth 100000
noncomputable def vA : aM := tab (P := Try.prog) [] [] [] []
def uO : IR := Rs [Mi 4 0] (Sq (Sq (.reg [Mv 5 0, Nk 6 5, Fa 7 1 6, Fo [0] [] (.ld 8 1 false false 7), Mv 9 0, Nk 10 9, Fa 11 0 10, Fo [0] [] (.ld 12 1 false false 11), Ll 13 12, Bi 14 .geq 8 13] [[], [0], [0, 1], [0, 1, 2], [], [4], [4, 5], [4, 5, 6], rg 4 7, rg 0 8]) (Cn 14 (Rs [Mi 4 0] .ret) .skip)) (Rs [Mv 15 0, Nk 16 15, Fa 17 1 16, Lo 18 17, Bc 19 .add 18 1, Nk 20 15, Fa 21 1 20, Sv 1 21 19] (Sq (.reg [Mv 22 0, Nk 23 22, Fa 24 0 23, Fo [0] [] (.ld 25 1 false false 24), Mv 26 0, Nk 27 26, Fa 28 1 27, Fo [0] [] (.ld 29 1 false false 28), Bc 30 .sub 29 1, Ix 31 .u8 25 30, Lq 32 31, Pp (.cvi 33 .i64 32), Mv 34 1, Bi 35 .rem 33 34, Mv 4 35] [[], [0], [0, 1], [0, 1, 2], [], [4], [4, 5], [4, 5, 6], rg 4 7, rg 0 8, rg 0 9, rg 0 10, [], rg 0 12, rg 0 13]) .ret)))
def uP : List RV := [.t 4]
theorem acQ : FnC Try.prog vA [] 1 vm Try.f60 uO uP := fnC (by kernel_rfl) Try.func60 (by kernel_rfl) (by kernel_rfl) (by decide)
def uQ (N : Nat) (a : Bs) (b d : Int) : Ro :=
 let f : Int := (↑(List.length a) : Int)
 cond (decide (f ≤ b)) (
 some (.int .i64 0, [some [.sl .u8 (.may false) a, .int .i64 b]])) (
 let e : Int := (IntKind.wrap .i64 (b + 1))
 let c : Int := (IntKind.wrap .i64 (e - 1))
 chk (decide (0 ≤ c) && decide (c < ↑(List.length a))) (
 let g : Int := (List.getD a (Int.toNat c) (aC .u8)).toNat
 chk (!(d == 0)) (
 let h : Int := (Int.tmod (IntKind.wrap .i64 g) d)
 some (.int .i64 h, [some [.sl .u8 (.may false) a, .int .i64 e]]))))
def pN (N : Nat) (a : Bs) (b c : Int) : Ro := uQ N a b c
theorem ab4 (N : Nat) (a : Bs) (b c : Int) : bb vA N 36 uP uO [.ptr 0 0, .int .i64 c] [some [.sl .u8 (.may false) a, .int .i64 b]] = pN N a b c := by kernel_rfl
theorem ab5 (N : Nat) (a : Bs) (b e : Int) (h : Tot (pN N a b e) (fun z => ∃ (f : Int) (c : Bs) (d : Int) (rest : List aI), z.1.dimR = .int .i64 f ∧ z.2 = some [.sl .u8 (.may false) c, .int .i64 d] :: rest ∧ sj a b e (f, c, d))) : ∃ r, bh a b e r := by
 obtain ⟨⟨v, hp⟩, hz, f, c, d, rest, e1, e2, hq⟩ := h
 simp only at e1 e2
 subst e2
 exact ⟨(f, c, d), aY.dimR (FnC.objs (css := [[.sl .u8 (.may false) a, .int .i64 b]]) (css' := [[.sl .u8 (.may false) c, .int .i64 d]]) acQ (ab4 N a b e) hz rfl) e1, hq⟩
noncomputable def uR : aM := tab (P := Try.prog) [] [] [] []
def tH : IR := Rs [Mb 2 false] (Sq (.reg [Mv 3 0, Nk 4 3, Fa 5 1 4, Fo [0] [] (.ld 6 1 false false 5), Mv 7 0, Nk 8 7, Fa 9 0 8, Fo [0] [] (.ld 10 1 false false 9), Ll 11 10, Bi 12 .geq 6 11, Mv 2 12] [[], [0], [0, 1], [0, 1, 2], [], [4], [4, 5], [4, 5, 6], rg 4 7, rg 0 8, rg 0 9]) .ret)
def tI : List RV := [.t 2]
theorem ab6 : FnC Try.prog uR [] 1 uK Try.f59 tH tI := fnC (by kernel_rfl) Try.func59 (by kernel_rfl) (by kernel_rfl) (by decide)
def tJ (N : Nat) (a : Bs) (b : Int) : Ro :=
 let c : Int := (↑(List.length a) : Int)
 some (.bool (decide (c ≤ b)), [some [.sl .u8 (.may false) a, .int .i64 b]])
def oK (N : Nat) (a : Bs) (b : Int) : Ro := tJ N a b
theorem aaX (N : Nat) (a : Bs) (b : Int) : bb uR N 13 tI tH [.ptr 0 0] [some [.sl .u8 (.may false) a, .int .i64 b]] = oK N a b := by kernel_rfl
theorem aaY (N : Nat) (a : Bs) (b : Int) (h : Tot (oK N a b) (fun z => ∃ (e : Bool) (c : Bs) (d : Int) (rest : List aI), z.1.dimR = .bool e ∧ z.2 = some [.sl .u8 (.may false) c, .int .i64 d] :: rest ∧ rz a b (e, c, d))) : ∃ r, iE a b r := by
 obtain ⟨⟨v, hp⟩, hz, e, c, d, rest, e1, e2, hq⟩ := h
 simp only at e1 e2
 subst e2
 exact ⟨(e, c, d), aY.dimR (FnC.objs (css := [[.sl .u8 (.may false) a, .int .i64 b]]) (css' := [[.sl .u8 (.may false) c, .int .i64 d]]) ab6 (aaX N a b) hz rfl) e1, hq⟩
noncomputable def adc : aM := tab (P := Try.prog) [] [] [] []
def ab7 : IR := Rs [Pp (.mov 2 (.c .nilp))] (Rs [Mv 3 0, Pp (.bld 4 [fu .u8 true, vI 0] [(0, 1, 3)]), Pp (.box 5 4), Mv 2 5] .ret)
def ab8 : List RV := [.t 2]
theorem aip : FnC Try.prog adc [] 0 ac1 Try.f14 ab7 ab8 := fnC (by kernel_rfl) Try.func14 (by kernel_rfl) (by kernel_rfl) (by decide)
def ab9 (N : Nat) (a : Bs) : Ro :=
 some (.ptr 0 0, [some [.sl .u8 (.may false) a, .int .i64 0]])
def vB (N : Nat) (a : Bs) : Ro := ab9 N a
theorem agT (N : Nat) (a : Bs) : bb adc N 6 ab8 ab7 [.sl .u8 (.may false) a] [] = vB N a := by kernel_rfl
theorem agU (N : Nat) (a : Bs) (h : Tot (vB N a) (fun z => ∃ (b : Bs) (c : Int) (rest : List aI), z = (.ptr 0 0, [some [.sl .u8 (.may false) b, .int .i64 c]]) ∧ xP a (b, c))) : ∃ r, p7 a r := by
 obtain ⟨z, hz, b, c, rest, rfl, hq⟩ := h
 exact ⟨(b, c), aip.newFn (agT N a) hz, hq⟩
noncomputable def ade : aM := tab (P := Try.prog) [] [] [] []
def aca : IR := Rs [Pp (.new 2 [vI 0, vI 0, vS, nl .jnode, nl .str])] (Rs [Mv 3 0, Pp (.bld 4 [vI 0, vI 0, vS, nl .jnode, nl .str] [(0, 1, kI 4), (2, 1, 3)]), Sv 5 2 4] .ret)
def acb : List RV := [.cell 2 5 true]
theorem aiq : FnC Try.prog ade [] 0 ac2 Try.f86 aca acb := fnC (by kernel_rfl) Try.func86 (by kernel_rfl) (by kernel_rfl) (by decide)
def acc (N : Nat) (a : Bs) : Ro :=
 some (.agg [.int .i64 4, .int .i64 0, .str a, .sl .jnode (.may false) ([] : List aA), .sl .str (.may false) ([] : Bss)], [some [.int .i64 4, .int .i64 0, .str a, .sl .jnode .own ([] : List aA), .sl .str .own ([] : Bss)]])
def vC (N : Nat) (a : Bs) : Ro := acc N a
theorem agV (N : Nat) (a : Bs) : bb ade N 5 acb aca [.str a] [] = vC N a := by kernel_rfl
theorem agW (N : Nat) (a : Bs) (h : Tot (vC N a) (fun z => ∃ (b : Int) (c : Int) (d : Bs) (e : List aA) (f : Bss) (rest : List aI), z.1.dimR = .agg [.int .i64 b, .int .i64 c, .str d, .sl .jnode (.may false) e, .sl .str (.may false) f] ∧ z.2 = rest ∧ xQ a (b, c, d, e, f))) : ∃ r, bo a r := by
 obtain ⟨⟨v, hp⟩, hz, b, c, d, e, f, rest, e1, e2, hq⟩ := h
 simp only at e1 e2
 subst e2
 exact ⟨(b, c, d, e, f), aO.dimR (aiq.pure (agV N a) hz) e1, hq⟩
noncomputable def acd : aM := tab (P := Try.prog) [] [] [] []
def aan : IR := Rs [Pp (.new 4 [vI 0, vI 0, vS, nl .jnode, nl .str])] (Rs [Mv 5 0, Mv 6 1, Pp (.bld 7 [vI 0, vI 0, vS, nl .jnode, nl .str] [(0, 1, kI 6), (4, 1, 5), (3, 1, 6)]), Sv 5 4 7] .ret)
def aao : List RV := [.cell 4 5 true]
theorem agX : FnC Try.prog acd [] 0 abv Try.f118 aan aao := fnC (by kernel_rfl) Try.func118 (by kernel_rfl) (by kernel_rfl) (by decide)
def aap (N : Nat) (a : Bool) (c : Bss) (b : Bool) (d : List aA) : Ro :=
 some (.agg [.int .i64 6, .int .i64 0, .str ([] : Bs), .sl .jnode (.may b) d, .sl .str (.may a) c], [some [.int .i64 6, .int .i64 0, .str ([] : Bs), .sl .jnode (.may b) d, .sl .str (.may a) c]])
def ui (N : Nat) (a : Bool) (c : Bss) (b : Bool) (d : List aA) : Ro := aap N a c b d
theorem afw (N : Nat) (a : Bool) (c : Bss) (b : Bool) (d : List aA) : bb acd N 8 aao aan [.sl .str (.may a) c, .sl .jnode (.may b) d] [] = ui N a c b d := by kernel_rfl
theorem afx (N : Nat) (a : Bool) (c : Bss) (b : Bool) (d : List aA) (h : Tot (ui N a c b d) (fun z => ∃ (e : Int) (f : Int) (g : Bs) (i : Bool) (j : List aA) (k : Bool) (l : Bss) (rest : List aI), z.1 = .agg [.int .i64 e, .int .i64 f, .str g, .sl .jnode (.may i) j, .sl .str (.may k) l] ∧ z.2 = rest ∧ wJ a c b d (e, f, g, i, j, k, l))) : ∃ r, dm a c b d r := by
 obtain ⟨⟨v, hp⟩, hz, e, f, g, i, j, k, l, rest, e1, e2, hq⟩ := h
 simp only at e1 e2
 subst e2
 subst e1
 exact ⟨(e, f, g, i, j, k, l), agX.pure (afw N a c b d) hz, hq⟩
noncomputable def rQ : aM := tab (P := Try.prog) [] [] [] []
def aaq : IR := Sq (Rs [Mv 7 6, Fa 8 4 2, Lq 9 8, Ll 10 9, Bi 11 .lss 7 10] (Cn 11 .skip (.exit 0))) (Sq (.block 1 (Rs [Fa 14 4 2, Lq 15 14, Mv 16 6, Ix 17 .str 15 16, Lq 18 17, Mv 19 1, Bi 20 .eql 18 19] (Cn 20 (Rs [Fa 21 3 2, Lq 22 21, Mv 23 6, Ix 24 .jnode 22 23, Ld 25 5 true 24, Sv 5 4 25, Mb 5 true] .ret) .skip))) (Rg [Mv 12 6, Bc 13 .add 12 1, Mv 6 13]))
def aar : IR := Rs [Pp (.bld 26 [vI 0, vI 0, vS, nl .jnode, nl .str] []), Sv 5 4 26, Mb 5 false] .ret
def xg : IR := Rs [Bx 2 0, Pp (.new 4 [vI 0, vI 0, vS, nl .jnode, nl .str]), Mb 5 false] (Sq (Rs [Mi 6 0] (.block 0 (.loop [1, 2, 4, 6, 1000000] 1 aaq))) aar)
def tm : List RV := [.cell 4 5 true, .t 5]
theorem ajo : FnC Try.prog rQ [] 0 aee Try.f87 xg tm := fnC (by kernel_rfl) Try.func87 (by kernel_rfl) (by kernel_rfl) (by decide)
def air (R : IR → (Ex → St → Ro) → St → Ro) (a : St → Ro) : Ex → St → Ro := (bD a [1, 2, 4, 6, 1000000] 1 (aT 0 (bv (R aar) (fin tm))))
abbrev oL : Type := (Bs × Int × Int × Bs × List aA × Bss × Int × Int × Int × Bs × List aA × Bss)
def mR : oL → St := fun (c, d, e, f, g, h, i, j, k, l, a, b) => { env := (.undef :: .str c :: .ea [.int .i64 d, .int .i64 e, .str f, .sl .jnode (.may false) g, .sl .str (.may false) h] :: .undef :: .ptr 0 0 :: .undef :: .int .i64 i :: (U 20 [])), hp := [some [.int .i64 j, .int .i64 k, .str l, .sl .jnode .own a, .sl .str .own b]] }
def vD (N : Nat) : (St → Ro) → St → Ro := fun a s => run rQ N aaq (air (run rQ N) a) s
def rR (N : Nat) (d : oL → Ro) : oL → Ro := fun (o, e, f, g, a, b, c, h, i, j, k, m) =>
 let v : Int := (↑(List.length b) : Int)
 cond (decide (c < v)) (
 chk (decide (0 ≤ c) && decide (c < ↑(List.length b))) (
 let w : Bs := List.getD b (Int.toNat c) (aC .str)
 cond (decide (w = o)) (
 chk (decide (0 ≤ c) && decide (c < ↑(List.length a))) (
 let p : Int := (List.getD a (Int.toNat c) (aC .jnode)).kind
 let q : Int := (List.getD a (Int.toNat c) (aC .jnode)).n
 let r : Bs := (List.getD a (Int.toNat c) (aC .jnode)).s
 let t : List aA := (List.getD a (Int.toNat c) (aC .jnode)).l
 let u : Bss := (List.getD a (Int.toNat c) (aC .jnode)).names
 some (.tup [.agg [.int .i64 p, .int .i64 q, .str r, .sl .jnode (.may false) t, .sl .str (.may false) u], .bool true], [some [.int .i64 p, .int .i64 q, .str r, .sl .jnode (.may false) t, .sl .str (.may false) u]]))) (
 let x : Int := (IntKind.wrap .i64 (c + 1))
 d (o, e, f, g, a, b, x, h, i, j, k, m)))) (
 some (.tup [.agg [.int .i64 0, .int .i64 0, .str ([] : Bs), .sl .jnode (.may false) ([] : List aA), .sl .str (.may false) ([] : Bss)], .bool false], [some [.int .i64 0, .int .i64 0, .str ([] : Bs), .sl .jnode .own ([] : List aA), .sl .str .own ([] : Bss)]]))
theorem agY (N : Nat) : ∀ (a : St → Ro) (x : oL), vD N a (mR x) = rR N (fun y => a (mR y)) x := by
 intro a x
 kernel_rfl
def qe (N : Nat) (a b : Int) (c : Bs) (d : List aA) (e : Bss) (f : Bs) (g : oL → Ro) : Ro :=
 g (f, a, b, c, d, e, 0, 0, 0, ([] : Bs), ([] : List aA), ([] : Bss))
def xh (N : Nat) (a b : Int) (c : Bs) (d : List aA) (e : Bss) (f : Bs) : Ro := qe N a b c d e f (fun z => aW N (rR N) z)
def akm (N : Nat) : List (Nat × (St → Ro)) := ba rQ N xg (fin tm) ++ []
theorem ais (N : Nat) (a c : Int) (d : Bs) (e : List aA) (f : Bss) (g : Bs) : bb rQ N 27 tm xg [.agg [.int .i64 a, .int .i64 c, .str d, .sl .jnode (.may false) e, .sl .str (.may false) f], .str g] [] = xh N a c d e f g :=
 (bH (akm N) (by kernel_rfl) rfl (fun C => qe N a c d e f g (fun z => C 1000000 (mR z))) (fun C => by kernel_rfl)).trans (Eq.trans (b := qe N a c d e f g (fun z => bi N (vD N) (mR z))) (by kernel_rfl) (congrArg (qe N a c d e f g) (funext fun z => bj (mR) (vD N) (rR N) (agY N) N z)))
theorem ait (N : Nat) (a b : Int) (c : Bs) (d : List aA) (e : Bss) (f : Bs) (h : Tot (xh N a b c d e f) (fun z => ∃ (g : Int) (i : Int) (j : Bs) (k : List aA) (l : Bss) (m : Bool) (rest : List aI), z.1.dimR = .tup [.agg [.int .i64 g, .int .i64 i, .str j, .sl .jnode (.may false) k, .sl .str (.may false) l], .bool m] ∧ z.2 = rest ∧ qv a b c d e f (g, i, j, k, l, m))) : ∃ r, pn a b c d e f r := by
 obtain ⟨⟨v, hp⟩, hz, g, i, j, k, l, m, rest, e1, e2, hq⟩ := h
 simp only at e1 e2
 subst e2
 exact ⟨(g, i, j, k, l, m), aO.dimR (ajo.pure (ais N a b c d e f) hz) e1, hq⟩
noncomputable def aeC : aM := tab (P := Try.prog) [] [] [] []
def adf : IR := Rs [Bx 2 0, Mb 4 false] (Rs [Mv 5 1, Bc 6 .geq 5 0, Mv 7 6, Gt 7 (.mov 8 1), Gt 7 (.fad 9 0 2), Gt 7 (.lde 10 1 false 9), Gt 7 (.lenl 11 10), Gt 7 (.bin 12 .lss 8 11), Pa 13 7 12, Mv 4 13] .ret)
def adg : List RV := [.t 4]
theorem ajp : FnC Try.prog aeC [] 0 aef Try.f45 adf adg := fnC (by kernel_rfl) Try.func45 (by kernel_rfl) (by kernel_rfl) (by decide)
def adh (N : Nat) (a : List ak) (b : Int) : Ro :=
 cond (decide (0 ≤ b)) (
 let c : Int := (↑(List.length a) : Int)
 some (.bool (decide (b < c)), [])) (
 some (.bool false, []))
def xi (N : Nat) (a : List ak) (b : Int) : Ro := adh N a b
theorem aiu (N : Nat) (a : List ak) (b : Int) : bb aeC N 14 adg adf [.agg [.sl .atype (.may false) a], .int .i64 b] [] = xi N a b := by kernel_rfl
theorem aiv (N : Nat) (a : List ak) (b : Int) (h : Tot (xi N a b) (fun z => ∃ (c : Bool) (rest : List aI), z.1.dimR = .bool c ∧ z.2 = rest ∧ qw a b (c))) : ∃ r, pm a b r := by
 obtain ⟨⟨v, hp⟩, hz, c, rest, e1, e2, hq⟩ := h
 simp only at e1 e2
 subst e2
 exact ⟨(c), aO.dimR (ajp.pure (aiu N a b) hz) e1, hq⟩
noncomputable def oM : aM := tab (P := Try.prog) [] [] [] []
def wW : IR := Sq (Rs [Mv 6 4, Mv 7 3, Ll 8 7, Bi 9 .lss 6 8] (Cn 9 .skip (.exit 0))) (Sq (.block 1 (Rs [Mv 12 3, Mv 13 4, Ix 14 .str 12 13, Lq 15 14, Mv 16 0, Bi 17 .eql 15 16] (Cn 17 (Rs [Mv 18 4, Bc 19 .add 18 1, Mv 2 19] .ret) .skip))) (Rg [Mv 10 4, Bc 11 .add 10 1, Mv 4 11]))
def wX : IR := Rs [Mi 2 0] .ret
def uj : IR := Rs [Mi 2 0] (Rs [Pp (.bsl 5 .str [kS [110, 117, 108, 108], kS [98, 111, 111, 108, 101, 97, 110], kS [105, 110, 116], kS [108, 111, 110, 103], kS [102, 108, 111, 97, 116], kS [100, 111, 117, 98, 108, 101], kS [98, 121, 116, 101, 115], kS [115, 116, 114, 105, 110, 103], kS [114, 101, 99, 111, 114, 100], kS [101, 110, 117, 109], kS [102, 105, 120, 101, 100], kS [97, 114, 114, 97, 121], kS [109, 97, 112], kS [117, 110, 105, 111, 110]] true), Mv 3 5] (Sq (Rs [Mi 4 0] (.block 0 (.loop [0, 3, 4, 1000000] 0 wW))) wX))
def qE : List RV := [.t 2]
theorem agZ : FnC Try.prog oM [] 0 abC Try.f115 uj qE := fnC (by kernel_rfl) Try.func115 (by kernel_rfl) (by kernel_rfl) (by decide)
def afy (R : IR → (Ex → St → Ro) → St → Ro) (a : St → Ro) : Ex → St → Ro := (bD a [0, 3, 4, 1000000] 0 (aT 0 (bv (R wX) (fin qE))))
abbrev le : Type := (Bs × Bool × Bss × Int)
def jW : le → St := fun (a, b, c, d) => { env := (.str a :: .undef :: .undef :: .sl .str (.may b) c :: .int .i64 d :: (U 15 [])), hp := [] }
def sY (N : Nat) : (St → Ro) → St → Ro := fun a s => run oM N wW (afy (run oM N) a) s
def py (N : Nat) (a : le → Ro) : le → Ro := fun (e, c, d, b) =>
 let f : Int := (↑(List.length d) : Int)
 cond (decide (b < f)) (
 chk (decide (0 ≤ b) && decide (b < ↑(List.length d))) (
 let g : Bs := List.getD d (Int.toNat b) (aC .str)
 cond (decide (g = e)) (
 let h : Int := (IntKind.wrap .i64 (b + 1))
 some (.int .i64 h, [])) (
 let i : Int := (IntKind.wrap .i64 (b + 1))
 a (e, c, d, i)))) (
 some (.int .i64 0, []))
theorem aeD (N : Nat) : ∀ (a : St → Ro) (x : le), sY N a (jW x) = py N (fun y => a (jW y)) x := by
 intro a x
 kernel_rfl
def mS (N : Nat) (a : Bs) (b : le → Ro) : Ro :=
 b (a, true, ([([110, 117, 108, 108] : Bs), ([98, 111, 111, 108, 101, 97, 110] : Bs), ([105, 110, 116] : Bs), ([108, 111, 110, 103] : Bs), ([102, 108, 111, 97, 116] : Bs), ([100, 111, 117, 98, 108, 101] : Bs), ([98, 121, 116, 101, 115] : Bs), ([115, 116, 114, 105, 110, 103] : Bs), ([114, 101, 99, 111, 114, 100] : Bs), ([101, 110, 117, 109] : Bs), ([102, 105, 120, 101, 100] : Bs), ([97, 114, 114, 97, 121] : Bs), ([109, 97, 112] : Bs), ([117, 110, 105, 111, 110] : Bs)] : Bss), 0)
def uk (N : Nat) (a : Bs) : Ro := mS N a (fun z => aW N (py N) z)
def aiw (N : Nat) : List (Nat × (St → Ro)) := ba oM N uj (fin qE) ++ []
theorem afz (N : Nat) (a : Bs) : bb oM N 20 qE uj [.str a] [] = uk N a :=
 (bH (aiw N) (by kernel_rfl) rfl (fun C => mS N a (fun z => C 1000000 (jW z))) (fun C => by kernel_rfl)).trans (Eq.trans (b := mS N a (fun z => bi N (sY N) (jW z))) (by kernel_rfl) (congrArg (mS N a) (funext fun z => bj (jW) (sY N) (py N) (aeD N) N z)))
theorem afA (N : Nat) (a : Bs) (h : Tot (uk N a) (fun z => ∃ (b : Int) (rest : List aI), z.1.dimR = .int .i64 b ∧ z.2 = rest ∧ wK a (b))) : ∃ r, jm a r := by
 obtain ⟨⟨v, hp⟩, hz, b, rest, e1, e2, hq⟩ := h
 simp only at e1 e2
 subst e2
 exact ⟨(b), aO.dimR (agZ.pure (afz N a) hz) e1, hq⟩
noncomputable def ace : aM := tab (P := Try.prog) [] [] [] []
def aas : IR := Rs [Ms 2 []] (Rs [Pp (.bsl 4 .str [kS [], kS [110, 117, 108, 108], kS [98, 111, 111, 108, 101, 97, 110], kS [105, 110, 116], kS [108, 111, 110, 103], kS [102, 108, 111, 97, 116], kS [100, 111, 117, 98, 108, 101], kS [98, 121, 116, 101, 115], kS [115, 116, 114, 105, 110, 103], kS [114, 101, 99, 111, 114, 100], kS [101, 110, 117, 109], kS [102, 105, 120, 101, 100], kS [97, 114, 114, 97, 121], kS [109, 97, 112], kS [117, 110, 105, 111, 110]] true), Mv 3 4] (Sq (Rs [Mv 5 0, Bc 6 .lss 5 1, Mv 7 6, Gf 7 (.mov 8 0), Gf 7 (.bin 9 .gtr 8 (kI 14)), Po 10 7 9] (Cn 10 (Rs [Ms 2 []] .ret) .skip)) (Rs [Mv 11 3, Mv 12 0, Ix 13 .str 11 12, Lq 14 13, Mv 2 14] .ret)))
def aat : List RV := [.t 2]
theorem ag0 : FnC Try.prog ace [] 0 abB Try.f158 aas aat := fnC (by kernel_rfl) Try.func158 (by kernel_rfl) (by kernel_rfl) (by decide)
def aau (N : Nat) (a : Int) : Ro :=
 cond (decide (a < 1)) (
 some (.str ([] : Bs), [])) (
 cond (decide (14 < a)) (
 some (.str ([] : Bs), [])) (
 chk (decide (0 ≤ a) && decide (a < ↑(List.length ([([] : Bs), ([110, 117, 108, 108] : Bs), ([98, 111, 111, 108, 101, 97, 110] : Bs), ([105, 110, 116] : Bs), ([108, 111, 110, 103] : Bs), ([102, 108, 111, 97, 116] : Bs), ([100, 111, 117, 98, 108, 101] : Bs), ([98, 121, 116, 101, 115] : Bs), ([115, 116, 114, 105, 110, 103] : Bs), ([114, 101, 99, 111, 114, 100] : Bs), ([101, 110, 117, 109] : Bs), ([102, 105, 120, 101, 100] : Bs), ([97, 114, 114, 97, 121] : Bs), ([109, 97, 112] : Bs), ([117, 110, 105, 111, 110] : Bs)] : Bss)))) (
 let b : Bs := List.getD ([([] : Bs), ([110, 117, 108, 108] : Bs), ([98, 111, 111, 108, 101, 97, 110] : Bs), ([105, 110, 116] : Bs), ([108, 111, 110, 103] : Bs), ([102, 108, 111, 97, 116] : Bs), ([100, 111, 117, 98, 108, 101] : Bs), ([98, 121, 116, 101, 115] : Bs), ([115, 116, 114, 105, 110, 103] : Bs), ([114, 101, 99, 111, 114, 100] : Bs), ([101, 110, 117, 109] : Bs), ([102, 105, 120, 101, 100] : Bs), ([97, 114, 114, 97, 121] : Bs), ([109, 97, 112] : Bs), ([117, 110, 105, 111, 110] : Bs)] : Bss) (Int.toNat a) (aC .str)
 some (.str b, []))))
def um (N : Nat) (a : Int) : Ro := aau N a
theorem afB (N : Nat) (a : Int) : bb ace N 15 aat aas [.int .i64 a] [] = um N a := by kernel_rfl
theorem afC (N : Nat) (a : Int) (h : Tot (um N a) (fun z => ∃ (b : Bs) (rest : List aI), z.1.dimR = .str b ∧ z.2 = rest)) : ∃ r, ov a r := by
 obtain ⟨⟨v, hp⟩, hz, b, rest, e1, e2⟩ := h
 simp only at e1 e2
 subst e2
 exact ⟨(b), aO.dimR (ag0.pure (afB N a) hz) e1⟩
noncomputable def qf : aM := tab (P := Try.prog) [] [] [] []
def ya : IR := Sq (Rs [Mv 8 7, Fa 9 3 3, Lo 10 9, Ll 11 10, Bi 12 .lss 8 11, Mv 13 12, Gt 13 (.fad 14 3 3), Gt 13 (.ld 15 1 false false 14), Gt 13 (.mov 16 7), Gt 13 (.ixa 17 .str 15 16), Gt 13 (.lde 18 1 false 17), Gt 13 (.mov 19 1), Gt 13 (.bin 20 .lss 18 19), Pa 21 13 20] (Cn 21 .skip (.exit 0))) (.block 1 (Rg [Mv 22 7, Bc 23 .add 22 1, Mv 7 23]))
def wY : IR := Sq (Rs [Mv 24 7, Fa 25 3 3, Lo 26 25, Ll 27 26, Bi 28 .lss 24 27, Mv 29 28, Gt 29 (.fad 30 3 3), Gt 29 (.ld 31 1 false false 30), Gt 29 (.mov 32 7), Gt 29 (.ixa 33 .str 31 32), Gt 29 (.lde 34 1 false 33), Gt 29 (.mov 35 1), Gt 29 (.bin 36 .eql 34 35), Pa 37 29 36] (Cn 37 (Rs [Pp (.blu 38 .aval), Fa 39 2 3, Lo 40 39, Pp (.apu 41 .aval (.tk 38) 40), Fa 42 2 3, Sk 1 42 41] (Sq (.gh (.opn (.cell 0 2)) (.ghp (.cls (.cell 0 2)) (Rg [Fa 43 2 3, Lo 44 43, Mv 45 7, Ld 46 5 true 5, Pp (.ixw 47 .aval 44 45), Pp (.stw none 5 47 46)]))) (Sq (.gh (.fz (.cell 0 2)) (Rg [Pp (.ld 48 5 true false 3), Sv 5 6 48])) .ret))) .skip)) (Sq (.reg [Pp (.bsl 49 .str [] false), Fa 50 3 3, Fo [0] [] (.ld 51 1 false false 50), Mv 52 7, Pp (.subl 53 .str 51 none (some 52)), Pp (.app 54 .str (.tk 49) 53), Mv 55 1, Pp (.bsl 56 .str [55] true), Pp (.app 57 .str (.tk 54) 56), Fa 58 3 3, Fo [0] [] (.ld 59 1 false false 58), Mv 60 7, Pp (.subl 61 .str 59 (some 60) none), Pp (.app 62 .str (.tk 57) 61), Fa 63 3 3, Fo [] [0] (.st none 1 63 (.tk 62))] [[], [], [1], [], [1, 2, 3], rg 0 4, [], [6], rg 0 7, [], [9], [], [9, 10, 11], rg 0 12, rg 0 13, rg 0 14]) (Sq (.reg [Pp (.blu 64 .aval), Fa 65 2 3, Fo [0] [] (.ld 66 1 false false 65), Mv 67 7, Pp (.subl 68 .aval 66 none (some 67)), Pp (.apu 69 .aval (.tk 64) 68), Ld 70 5 true 5, Pp (.bsl 71 .aval [70] true), Pp (.apu 72 .aval (.tk 69) 71), Fa 73 2 3, Fo [0] [] (.ld 74 1 false false 73), Mv 75 7, Pp (.subl 76 .aval 74 (some 75) none), Pp (.apu 77 .aval (.tk 72) 76), Fa 78 2 3, Fo [] [0] (.st none 1 78 (.tk 77))] [[], [], [1], [], [1, 2, 3], rg 0 4, [], [6], rg 0 7, [], [9], [], [9, 10, 11], rg 0 12, rg 0 13, rg 0 14]) (Sq (.gh (.fz (.cell 0 2)) (Rg [Pp (.ld 79 5 true false 3), Sv 5 6 79])) .ret)))
def vE : IR := Rs [Pp (.box 3 0), Bx 5 2, Pp (.new 6 [vU 0, vS, nl .aval, nl .str, vI 0])] (Rs [Mi 7 0] (Sq (.block 0 (.loop [1, 3, 5, 6, 7, 1000000] 2 ya)) wY))
def rS : List RV := [.cell 6 5 true]
theorem aix : FnC Try.prog qf [] 0 ac4 Try.f61 vE rS := fnC (by kernel_rfl) Try.func61 (by kernel_rfl) (by kernel_rfl) (by decide)
def ag1 (R : IR → (Ex → St → Ro) → St → Ro) (a : St → Ro) : Ex → St → Ro := (bD a [1, 3, 5, 6, 7, 1000000] 2 (aT 0 (bv (R wY) (fin rS))))
abbrev mT : Type := (Bs × Int × Bs × List aB × Bss × Int × Int × Int × Bs × List aB × Bss × Int × Int × Bs × List aB × Bss × Int)
def lf : mT → St := fun (h, i, j, k, l, m, n, o, p, q, a, b, c, d, e, f, g) => { env := (.undef :: .str h :: .undef :: .ptr 0 0 :: .undef :: .ea [.int .u64 i, .str j, .sl .aval (.may false) k, .sl .str (.may false) l, .int .i64 m] :: .ptr 1 0 :: .int .i64 n :: (U 72 [])), hp := [some [.int .u64 o, .str p, .sl .aval (.may false) q, .sl .str (.may false) a, .int .i64 b], some [.int .u64 c, .str d, .sl .aval .own e, .sl .str .own f, .int .i64 g]] }
def uo (N : Nat) : (St → Ro) → St → Ro := fun a s => run qf N ya (ag1 (run qf N) a) s
def qF (N : Nat) (n : mT → Ro) : mT → Ro := fun (l, g, h, i, j, k, c, d, e, b, a, f, af, ag, ah, ai, aj) =>
 let x1 : Int := (↑(List.length a) : Int)
 cond (decide (c < x1)) (
 chk (decide (0 ≤ c) && decide (c < ↑(List.length a))) (
 let x2 : Bs := List.getD a (Int.toNat c) (aC .str)
 cond (Op.bytesLess x2 l) (
 let x3 : Int := (IntKind.wrap .i64 (c + 1))
 n (l, g, h, i, j, k, x3, d, e, b, a, f, af, ag, ah, ai, aj)) (
 let x4 : Int := (↑(List.length a) : Int)
 cond (decide (c < x4)) (
 chk (decide (0 ≤ c) && decide (c < ↑(List.length a))) (
 let x5 : Bs := List.getD a (Int.toNat c) (aC .str)
 cond (decide (x5 = l)) (
 chk (decide ((List.length ([] : List aB) + List.length b) * 80 ≤ 140737488355328)) (
 let x6 : List aB := (([] : List aB) ++ b)
 chk (decide (0 < List.length x6)) (
 chk (decide (0 ≤ c) && decide (c < ↑(List.length x6))) (
 chk (decide ((Int.toNat c) < List.length x6)) (
 let x7 : List aB := (List.set x6 (Int.toNat c) ⟨g, h, i, j, k⟩)
 chk (Nat.beq (List.length x6) (List.length x7)) (
 some (.agg [.int .u64 d, .str e, .sl .aval (.may false) x7, .sl .str (.may false) a, .int .i64 f], [some [.int .u64 d, .str e, .sl .aval .own x7, .sl .str (.may false) a, .int .i64 f], some [.int .u64 d, .str e, .sl .aval (.may false) x7, .sl .str (.may false) a, .int .i64 f], none, none]))))))) (
 chk (decide (0 ≤ c) && decide (c ≤ (↑(List.length a) : Int))) (
 let x8 : Bss := (List.drop 0 (List.take (Int.toNat c) a))
 chk (decide ((List.length ([] : Bss) + List.length x8) * 16 ≤ 140737488355328)) (
 let x9 : Bss := (([] : Bss) ++ x8)
 chk (decide ((List.length x9 + List.length ([l] : Bss)) * 16 ≤ 140737488355328)) (
 let o : Bss := (x9 ++ ([l] : Bss))
 chk (decide (0 ≤ c) && decide (c ≤ (↑(List.length a) : Int))) (
 let p : Bss := (List.drop (Int.toNat c) (List.take (List.length a) a))
 chk (decide ((List.length o + List.length p) * 16 ≤ 140737488355328)) (
 chk (decide (0 ≤ c) && decide (c ≤ (↑(List.length b) : Int))) (
 let al : List aB := (List.drop 0 (List.take (Int.toNat c) b))
 chk (decide ((List.length ([] : List aB) + List.length al) * 80 ≤ 140737488355328)) (
 let am : List aB := (([] : List aB) ++ al)
 chk (decide ((List.length am + List.length ([⟨g, h, i, j, k⟩] : List aB)) * 80 ≤ 140737488355328)) (
 let q : List aB := (am ++ ([⟨g, h, i, j, k⟩] : List aB))
 chk (decide (0 ≤ c) && decide (c ≤ (↑(List.length b) : Int))) (
 let r : List aB := (List.drop (Int.toNat c) (List.take (List.length b) b))
 chk (decide ((List.length q + List.length r) * 80 ≤ 140737488355328)) (
 some (.agg [.int .u64 d, .str e, .sl .aval (.may false) (q ++ r), .sl .str (.may false) (o ++ p), .int .i64 f], [some [.int .u64 d, .str e, .sl .aval .own (q ++ r), .sl .str .own (o ++ p), .int .i64 f], some [.int .u64 d, .str e, .sl .aval (.may false) (q ++ r), .sl .str (.may false) (o ++ p), .int .i64 f]])))))))))))))) (
 chk (decide (0 ≤ c) && decide (c ≤ (↑(List.length a) : Int))) (
 let an : Bss := (List.drop 0 (List.take (Int.toNat c) a))
 chk (decide ((List.length ([] : Bss) + List.length an) * 16 ≤ 140737488355328)) (
 let ao : Bss := (([] : Bss) ++ an)
 chk (decide ((List.length ao + List.length ([l] : Bss)) * 16 ≤ 140737488355328)) (
 let s : Bss := (ao ++ ([l] : Bss))
 chk (decide (0 ≤ c) && decide (c ≤ (↑(List.length a) : Int))) (
 let t : Bss := (List.drop (Int.toNat c) (List.take (List.length a) a))
 chk (decide ((List.length s + List.length t) * 16 ≤ 140737488355328)) (
 chk (decide (0 ≤ c) && decide (c ≤ (↑(List.length b) : Int))) (
 let ap : List aB := (List.drop 0 (List.take (Int.toNat c) b))
 chk (decide ((List.length ([] : List aB) + List.length ap) * 80 ≤ 140737488355328)) (
 let aq : List aB := (([] : List aB) ++ ap)
 chk (decide ((List.length aq + List.length ([⟨g, h, i, j, k⟩] : List aB)) * 80 ≤ 140737488355328)) (
 let u : List aB := (aq ++ ([⟨g, h, i, j, k⟩] : List aB))
 chk (decide (0 ≤ c) && decide (c ≤ (↑(List.length b) : Int))) (
 let v : List aB := (List.drop (Int.toNat c) (List.take (List.length b) b))
 chk (decide ((List.length u + List.length v) * 80 ≤ 140737488355328)) (
 some (.agg [.int .u64 d, .str e, .sl .aval (.may false) (u ++ v), .sl .str (.may false) (s ++ t), .int .i64 f], [some [.int .u64 d, .str e, .sl .aval .own (u ++ v), .sl .str .own (s ++ t), .int .i64 f], some [.int .u64 d, .str e, .sl .aval (.may false) (u ++ v), .sl .str (.may false) (s ++ t), .int .i64 f]]))))))))))))))) (
 let a2 : Int := (↑(List.length a) : Int)
 cond (decide (c < a2)) (
 chk (decide (0 ≤ c) && decide (c < ↑(List.length a))) (
 let a3 : Bs := List.getD a (Int.toNat c) (aC .str)
 cond (decide (a3 = l)) (
 chk (decide ((List.length ([] : List aB) + List.length b) * 80 ≤ 140737488355328)) (
 let m : List aB := (([] : List aB) ++ b)
 chk (decide (0 < List.length m)) (
 chk (decide (0 ≤ c) && decide (c < ↑(List.length m))) (
 chk (decide ((Int.toNat c) < List.length m)) (
 let w : List aB := (List.set m (Int.toNat c) ⟨g, h, i, j, k⟩)
 chk (Nat.beq (List.length m) (List.length w)) (
 some (.agg [.int .u64 d, .str e, .sl .aval (.may false) w, .sl .str (.may false) a, .int .i64 f], [some [.int .u64 d, .str e, .sl .aval .own w, .sl .str (.may false) a, .int .i64 f], some [.int .u64 d, .str e, .sl .aval (.may false) w, .sl .str (.may false) a, .int .i64 f], none, none]))))))) (
 chk (decide (0 ≤ c) && decide (c ≤ (↑(List.length a) : Int))) (
 let ar : Bss := (List.drop 0 (List.take (Int.toNat c) a))
 chk (decide ((List.length ([] : Bss) + List.length ar) * 16 ≤ 140737488355328)) (
 let au : Bss := (([] : Bss) ++ ar)
 chk (decide ((List.length au + List.length ([l] : Bss)) * 16 ≤ 140737488355328)) (
 let x : Bss := (au ++ ([l] : Bss))
 chk (decide (0 ≤ c) && decide (c ≤ (↑(List.length a) : Int))) (
 let y : Bss := (List.drop (Int.toNat c) (List.take (List.length a) a))
 chk (decide ((List.length x + List.length y) * 16 ≤ 140737488355328)) (
 chk (decide (0 ≤ c) && decide (c ≤ (↑(List.length b) : Int))) (
 let av : List aB := (List.drop 0 (List.take (Int.toNat c) b))
 chk (decide ((List.length ([] : List aB) + List.length av) * 80 ≤ 140737488355328)) (
 let aw : List aB := (([] : List aB) ++ av)
 chk (decide ((List.length aw + List.length ([⟨g, h, i, j, k⟩] : List aB)) * 80 ≤ 140737488355328)) (
 let z : List aB := (aw ++ ([⟨g, h, i, j, k⟩] : List aB))
 chk (decide (0 ≤ c) && decide (c ≤ (↑(List.length b) : Int))) (
 let aa : List aB := (List.drop (Int.toNat c) (List.take (List.length b) b))
 chk (decide ((List.length z + List.length aa) * 80 ≤ 140737488355328)) (
 some (.agg [.int .u64 d, .str e, .sl .aval (.may false) (z ++ aa), .sl .str (.may false) (x ++ y), .int .i64 f], [some [.int .u64 d, .str e, .sl .aval .own (z ++ aa), .sl .str .own (x ++ y), .int .i64 f], some [.int .u64 d, .str e, .sl .aval (.may false) (z ++ aa), .sl .str (.may false) (x ++ y), .int .i64 f]])))))))))))))) (
 chk (decide (0 ≤ c) && decide (c ≤ (↑(List.length a) : Int))) (
 let ax : Bss := (List.drop 0 (List.take (Int.toNat c) a))
 chk (decide ((List.length ([] : Bss) + List.length ax) * 16 ≤ 140737488355328)) (
 let ay : Bss := (([] : Bss) ++ ax)
 chk (decide ((List.length ay + List.length ([l] : Bss)) * 16 ≤ 140737488355328)) (
 let ab : Bss := (ay ++ ([l] : Bss))
 chk (decide (0 ≤ c) && decide (c ≤ (↑(List.length a) : Int))) (
 let ac : Bss := (List.drop (Int.toNat c) (List.take (List.length a) a))
 chk (decide ((List.length ab + List.length ac) * 16 ≤ 140737488355328)) (
 chk (decide (0 ≤ c) && decide (c ≤ (↑(List.length b) : Int))) (
 let az : List aB := (List.drop 0 (List.take (Int.toNat c) b))
 chk (decide ((List.length ([] : List aB) + List.length az) * 80 ≤ 140737488355328)) (
 let a0 : List aB := (([] : List aB) ++ az)
 chk (decide ((List.length a0 + List.length ([⟨g, h, i, j, k⟩] : List aB)) * 80 ≤ 140737488355328)) (
 let ad : List aB := (a0 ++ ([⟨g, h, i, j, k⟩] : List aB))
 chk (decide (0 ≤ c) && decide (c ≤ (↑(List.length b) : Int))) (
 let ae : List aB := (List.drop (Int.toNat c) (List.take (List.length b) b))
 chk (decide ((List.length ad + List.length ae) * 80 ≤ 140737488355328)) (
 some (.agg [.int .u64 d, .str e, .sl .aval (.may false) (ad ++ ae), .sl .str (.may false) (ab ++ ac), .int .i64 f], [some [.int .u64 d, .str e, .sl .aval .own (ad ++ ae), .sl .str .own (ab ++ ac), .int .i64 f], some [.int .u64 d, .str e, .sl .aval (.may false) (ad ++ ae), .sl .str (.may false) (ab ++ ac), .int .i64 f]])))))))))))))
theorem afD (N : Nat) : ∀ (a : St → Ro) (x : mT), uo N a (lf x) = qF N (fun y => a (lf y)) x := by
 intro a x
 kernel_rfl
def oN (N : Nat) (a : Int) (b : Bs) (c : List aB) (d : Bss) (e : Int) (k : Bs) (f : Int) (g : Bs) (h : List aB) (i : Bss) (j : Int) (l : mT → Ro) : Ro :=
 l (k, f, g, h, i, j, 0, a, b, c, d, e, 0, ([] : Bs), ([] : List aB), ([] : Bss), 0)
def vF (N : Nat) (a : Int) (b : Bs) (c : List aB) (d : Bss) (e : Int) (k : Bs) (f : Int) (g : Bs) (h : List aB) (i : Bss) (j : Int) : Ro := oN N a b c d e k f g h i j (fun z => aW N (qF N) z)
def ajq (N : Nat) : List (Nat × (St → Ro)) := ba qf N vE (fin rS) ++ []
theorem ag2 (N : Nat) (a : Int) (c : Bs) (d : List aB) (e : Bss) (f : Int) (l : Bs) (g : Int) (h : Bs) (i : List aB) (j : Bss) (k : Int) : bb qf N 80 rS vE [.agg [.int .u64 a, .str c, .sl .aval (.may false) d, .sl .str (.may false) e, .int .i64 f], .str l, .agg [.int .u64 g, .str h, .sl .aval (.may false) i, .sl .str (.may false) j, .int .i64 k]] [] = vF N a c d e f l g h i j k :=
 (bH (ajq N) (by kernel_rfl) rfl (fun C => oN N a c d e f l g h i j k (fun z => C 1000000 (lf z))) (fun C => by kernel_rfl)).trans (Eq.trans (b := oN N a c d e f l g h i j k (fun z => bi N (uo N) (lf z))) (by kernel_rfl) (congrArg (oN N a c d e f l g h i j k) (funext fun z => bj (lf) (uo N) (qF N) (afD N) N z)))
theorem ag3 (N : Nat) (a : Int) (b : Bs) (c : List aB) (d : Bss) (e : Int) (l : Bs) (f : Int) (g : Bs) (i : List aB) (j : Bss) (k : Int) (h : Tot (vF N a b c d e l f g i j k) (fun z => ∃ (m : Int) (n : Bs) (o : List aB) (p : Bss) (q : Int) (rest : List aI), z.1.dimR = .agg [.int .u64 m, .str n, .sl .aval (.may false) o, .sl .str (.may false) p, .int .i64 q] ∧ z.2 = rest ∧ xR a b c d e l f g i j k (m, n, o, p, q))) : ∃ r, ne a b c d e l f g i j k r := by
 obtain ⟨⟨v, hp⟩, hz, m, n, o, p, q, rest, e1, e2, hq⟩ := h
 simp only at e1 e2
 subst e2
 exact ⟨(m, n, o, p, q), aO.dimR (aix.pure (ag2 N a b c d e l f g i j k) hz) e1, hq⟩
noncomputable def tK : aM := tab (P := Try.prog) [] [] [] []
def sA : IR := Rs [Mi 4 0] (Sq (Rs [Mv 5 0, Nk 6 5, Fa 7 1 6, Lo 8 7, Bc 9 .eql 8 0] (Cn 9 (Rg [Mv 10 0, Mv 11 1, Nk 12 10, Fa 13 1 12, Sv 1 13 11]) .skip)) (Rs [Mi 4 0] .ret))
def sB : List RV := [.t 4]
theorem aaZ : FnC Try.prog tK [] 1 tx Try.f110 sA sB := fnC (by kernel_rfl) Try.func110 (by kernel_rfl) (by kernel_rfl) (by decide)
def sC (N : Nat) (a : List ak) (b c : Int) : Ro :=
 cond (b == 0) (
 some (.int .i64 0, [some [.ul .atype a, .int .i64 c]])) (
 some (.int .i64 0, [some [.ul .atype a, .int .i64 b]]))
def nk (N : Nat) (a : List ak) (b c : Int) : Ro := sC N a b c
theorem zy (N : Nat) (a : List ak) (b c : Int) : bb tK N 14 sB sA [.ptr 0 0, .int .i64 c] [some [.ul .atype a, .int .i64 b]] = nk N a b c := by kernel_rfl
theorem zz (N : Nat) (a : List ak) (b e : Int) (h : Tot (nk N a b e) (fun z => ∃ (f : Int) (c : List ak) (d : Int) (rest : List aI), z.1.dimR = .int .i64 f ∧ z.2 = some [.ul .atype c, .int .i64 d] :: rest ∧ ia a b e (f, c, d))) : ∃ r, aH a b e r := by
 obtain ⟨⟨v, hp⟩, hz, f, c, d, rest, e1, e2, hq⟩ := h
 simp only at e1 e2
 subst e2
 exact ⟨(f, c, d), aY.dimR (FnC.objs (css := [[.ul .atype a, .int .i64 b]]) (css' := [[.ul .atype c, .int .i64 d]]) aaZ (zy N a b e) hz rfl) e1, hq⟩
noncomputable def uS : aM := tab (P := Try.prog) [] [bW] [] []
def tL : IR := Rs [Bx 3 1, Mi 4 0] (Sq (Rs [Mv 5 0, Nk 6 5, Fa 7 0 6, Fa 8 0 7, Lo 9 8, Pp (.lnw 10 9), Bc 11 .geq 10 60] (Cn 11 (Rs [Mv 12 0, Ca 13 110 [12, kI 3], Mv 4 13] .ret) .skip)) (Sq (.reg [Mv 14 0, Mv 15 0, Nk 16 15, Fa 17 0 16, Fa 18 0 17, Fo [] [0] (.ld 19 1 false true 18), Ld 20 10 true 3, Pp (.bsl 21 .atype [20] true), Pp (.apu 22 .atype (.tk 19) 21), Nk 23 14, Fa 24 0 23, Fa 25 0 24, Fo [] [0] (.st none 1 25 (.tk 22))] [[], [], [1], [1, 2], [1, 2, 3], rg 1 4, [], [6], rg 1 7, rg 0 8, rg 0 9, rg 0 10, rg 0 11]) (Rs [Mv 26 0, Nk 27 26, Fa 28 0 27, Fa 29 0 28, Lo 30 29, Pp (.lnw 31 30), Bc 32 .sub 31 1, Mv 4 32] .ret)))
def tM : List RV := [.t 4]
theorem acf : FnC Try.prog uS [110, 2000110] 1 uM Try.f116 tL tM := fnC (by kernel_rfl) Try.func116 (by kernel_rfl) (by kernel_rfl) (by decide)
def tN (N : Nat) (a : List ak) (b c : Int) (d : Bs) (e : Bss) (f : Int) (g : Bss) (h : Bool) (i : Bs) (j : Int) (k : List aQ) (l : List Int) : Ro :=
 let o : Int := (↑(List.length a) : Int)
 cond (decide (60 ≤ o)) (
 aF (aH a b 3) (fun m =>
 some (.int .i64 m.1, [some [.ul .atype m.2.1, .int .i64 m.2.2]]))) (
 chk (decide ((List.length a + List.length ([⟨c, d, e, f, g, h, i, j, k, l⟩] : List ak)) * 160 ≤ 140737488355328)) (
 let n : List ak := (a ++ ([⟨c, d, e, f, g, h, i, j, k, l⟩] : List ak))
 let p : Int := (↑(List.length n) : Int)
 let q : Int := (IntKind.wrap .i64 (p - 1))
 some (.int .i64 q, [some [.ul .atype n, .int .i64 b]])))
def oO (N : Nat) (a : List ak) (b c : Int) (d : Bs) (e : Bss) (f : Int) (g : Bss) (h : Bool) (i : Bs) (j : Int) (k : List aQ) (l : List Int) : Ro := tN N a b c d e f g h i j k l
theorem aa0 (N : Nat) (a : List ak) (b c : Int) (d : Bs) (e : Bss) (f : Int) (g : Bss) (h : Bool) (i : Bs) (j : Int) (k : List aQ) (l : List Int) : bb uS N 33 tM tL [.ptr 0 0, .agg [.int .i64 c, .str d, .sl .str (.may false) e, .int .i64 f, .sl .str (.may false) g, .bool h, .str i, .int .i64 j, .sl .afield (.may false) k, .sl (.num .i64) (.may false) l]] [some [.ul .atype a, .int .i64 b]] = oO N a b c d e f g h i j k l := by kernel_rfl
theorem aa1 (N : Nat) (a : List ak) (b c : Int) (d : Bs) (e : Bss) (f : Int) (g : Bss) (i : Bool) (j : Bs) (k : Int) (l : List aQ) (m : List Int) (h : Tot (oO N a b c d e f g i j k l m) (fun z => ∃ (p : Int) (n : List ak) (o : Int) (rest : List aI), z.1.dimR = .int .i64 p ∧ z.2 = some [.ul .atype n, .int .i64 o] :: rest ∧ iL a b c d e f g i j k l m (p, n, o))) : ∃ r, cZ a b c d e f g i j k l m r := by
 obtain ⟨⟨v, hp⟩, hz, p, n, o, rest, e1, e2, hq⟩ := h
 simp only at e1 e2
 subst e2
 exact ⟨(p, n, o), aY.dimR (FnC.objs (css := [[.ul .atype a, .int .i64 b]]) (css' := [[.ul .atype n, .int .i64 o]]) acf (aa0 N a b c d e f g i j k l m) hz rfl) e1, hq⟩
noncomputable def g9 : aM := tab (P := Try.prog) [] [] [] []
def rf : IR := Sq (Rs [Mv 8 6, Mv 9 0, Nk 10 9, Fa 11 0 10, Fa 12 0 11, Lo 13 12, Pp (.lnw 14 13), Bi 15 .lss 8 14] (Cn 15 .skip (.exit 0))) (Sq (.block 1 (Sq (.gh (.opn (.cell 0 0)) (.ghp (.cls (.cell 0 0)) (Rg [Mv 18 0, Nk 19 18, Fa 20 0 19, Fa 21 0 20, Lo 22 21, Mv 23 6, Pp (.ixw 24 .atype 22 23), Pp (.ldw 25 10 true 24), Pp (.alr 7 10), Fz 7 10 25]))) (Rs [Fa 26 1 7, Lq 27 26, Mv 28 1, Bi 29 .eql 27 28, Mv 30 29, Gt 30 (.fad 31 0 7), Gt 30 (.lde 32 1 false 31), Gt 30 (.bin 33 .geq 32 (kI 9)), Pa 34 30 33, Mv 35 34, Gt 35 (.fad 36 0 7), Gt 35 (.lde 37 1 false 36), Gt 35 (.bin 38 .leq 37 (kI 11)), Pa 39 35 38] (Cn 39 (Rs [Mv 40 6, Mv 4 40, Mb 5 true] .ret) .skip)))) (Rg [Mv 16 6, Bc 17 .add 16 1, Mv 6 17]))
def rh : IR := Rs [Mi 4 0, Mb 5 false] .ret
def np : IR := Rs [Mi 4 0, Mb 5 false] (Sq (Rs [Mi 6 0] (.block 0 (.loop [0, 1, 6, 1000000] 1 rf))) rh)
def jC : List RV := [.t 4, .t 5]
theorem aa2 : FnC Try.prog g9 [] 1 tz Try.f138 np jC := fnC (by kernel_rfl) Try.func138 (by kernel_rfl) (by kernel_rfl) (by decide)
def zA (R : IR → (Ex → St → Ro) → St → Ro) (a : St → Ro) : Ex → St → Ro := (bD a [0, 1, 6, 1000000] 1 (aT 0 (bv (R rh) (fin jC))))
abbrev e8 : Type := (Bs × Int × List ak × Int)
def eA : e8 → St := fun (a, b, c, d) => { env := (.ptr 0 0 :: .str a :: (U 4 (.int .i64 b :: (U 34 [])))), hp := [some [.ul .atype c, .int .i64 d]] }
def me (N : Nat) : (St → Ro) → St → Ro := fun a s => run g9 N rf (zA (run g9 N) a) s
def iO (N : Nat) (b : e8 → Ro) : e8 → Ro := fun (e, d, a, c) =>
 let j : Int := (↑(List.length a) : Int)
 cond (decide (d < j)) (
 chk (decide (0 < List.length a)) (
 chk (decide (0 ≤ d) && decide (d < ↑(List.length a))) (
 chk (decide ((Int.toNat d) < List.length a)) (
 let i : Int := (List.getD a (Int.toNat d) (aC .atype)).kind
 let k : Bs := (List.getD a (Int.toNat d) (aC .atype)).name
 chk (Nat.beq (List.length a) (List.length a)) (
 cond (decide (k = e)) (
 cond (decide (9 ≤ i)) (
 cond (decide (i ≤ 11)) (
 some (.tup [.int .i64 d, .bool true], [some [.ul .atype a, .int .i64 c], none, none])) (
 let f : Int := (IntKind.wrap .i64 (d + 1))
 b (e, f, a, c))) (
 let g : Int := (IntKind.wrap .i64 (d + 1))
 b (e, g, a, c))) (
 let h : Int := (IntKind.wrap .i64 (d + 1))
 b (e, h, a, c))))))) (
 some (.tup [.int .i64 0, .bool false], [some [.ul .atype a, .int .i64 c]]))
theorem yb (N : Nat) : ∀ (a : St → Ro) (x : e8), me N a (eA x) = iO N (fun y => a (eA y)) x := by
 intro a x
 kernel_rfl
def f8 (N : Nat) (a : List ak) (b : Int) (c : Bs) (d : e8 → Ro) : Ro :=
 d (c, 0, a, b)
def nq (N : Nat) (a : List ak) (b : Int) (c : Bs) : Ro := f8 N a b c (fun z => aW N (iO N) z)
def acg (N : Nat) : List (Nat × (St → Ro)) := ba g9 N np (fin jC) ++ []
theorem zB (N : Nat) (a : List ak) (c : Int) (d : Bs) : bb g9 N 41 jC np [.ptr 0 0, .str d] [some [.ul .atype a, .int .i64 c]] = nq N a c d :=
 (bH (acg N) (by kernel_rfl) rfl (fun C => f8 N a c d (fun z => C 1000000 (eA z))) (fun C => by kernel_rfl)).trans (Eq.trans (b := f8 N a c d (fun z => bi N (me N) (eA z))) (by kernel_rfl) (congrArg (f8 N a c d) (funext fun z => bj (eA) (me N) (iO N) (yb N) N z)))
theorem zC (N : Nat) (a : List ak) (b : Int) (e : Bs) (h : Tot (nq N a b e) (fun z => ∃ (f : Int) (g : Bool) (c : List ak) (d : Int) (rest : List aI), z.1.dimR = .tup [.int .i64 f, .bool g] ∧ z.2 = some [.ul .atype c, .int .i64 d] :: rest ∧ q8 a b e (f, g, c, d))) : ∃ r, bX a b e r := by
 obtain ⟨⟨v, hp⟩, hz, f, g, c, d, rest, e1, e2, hq⟩ := h
 simp only at e1 e2
 subst e2
 exact ⟨(f, g, c, d), aY.dimR (FnC.objs (css := [[.ul .atype a, .int .i64 b]]) (css' := [[.ul .atype c, .int .i64 d]]) aa2 (zB N a b e) hz rfl) e1, hq⟩
noncomputable def sD : aM := tab (P := Try.prog) [] [sv] [] []
def rT : IR := Rs [Pp (.new 2 [vI 0, vI 0, vS, nl .jnode, nl .str])] (Rs [Pp (.bsl 4 .str [kS [84, 111, 112]] false), Pp (.new 3 [nl .str]), Sk 1 3 4] (Rs [Mv 5 0, Ca 6 73 [5, kS [84, 111, 112], kI 0, 3], Sv 5 2 6] .ret))
def rU : List RV := [.cell 2 5 true]
theorem zD : FnC Try.prog sD [73, 2000073] 1 sk Try.f40 rT rU := fnC (by kernel_rfl) Try.func40 (by kernel_rfl) (by kernel_rfl) (by decide)
def rV (N : Nat) (b : Bs) (c : Int) : Ro :=
 aF (dH b c ([([84, 111, 112] : Bs)] : Bss) ([84, 111, 112] : Bs) 0) (fun a =>
 some (.agg [.int .i64 a.1, .int .i64 a.2.1, .str a.2.2.1, .sl .jnode (.may false) a.2.2.2.1, .sl .str (.may false) a.2.2.2.2.1], [some [.sl .u8 (.may false) a.2.2.2.2.2.1, .int .i64 a.2.2.2.2.2.2.1], some [.int .i64 a.1, .int .i64 a.2.1, .str a.2.2.1, .sl .jnode (.may false) a.2.2.2.1, .sl .str (.may false) a.2.2.2.2.1], some [.sl .str .own a.2.2.2.2.2.2.2]]))
def mf (N : Nat) (a : Bs) (b : Int) : Ro := rV N a b
theorem yc (N : Nat) (a : Bs) (b : Int) : bb sD N 7 rU rT [.ptr 0 0] [some [.sl .u8 (.may false) a, .int .i64 b]] = mf N a b := by kernel_rfl
theorem yd (N : Nat) (a : Bs) (b : Int) (h : Tot (mf N a b) (fun z => ∃ (e : Int) (f : Int) (g : Bs) (i : List aA) (j : Bss) (c : Bs) (d : Int) (rest : List aI), z.1.dimR = .agg [.int .i64 e, .int .i64 f, .str g, .sl .jnode (.may false) i, .sl .str (.may false) j] ∧ z.2 = some [.sl .u8 (.may false) c, .int .i64 d] :: rest ∧ pZ a b (e, f, g, i, j, c, d))) : ∃ r, f5 a b r := by
 obtain ⟨⟨v, hp⟩, hz, e, f, g, i, j, c, d, rest, e1, e2, hq⟩ := h
 simp only at e1 e2
 subst e2
 exact ⟨(e, f, g, i, j, c, d), aY.dimR (FnC.objs (css := [[.sl .u8 (.may false) a, .int .i64 b]]) (css' := [[.sl .u8 (.may false) c, .int .i64 d]]) zD (yc N a b) hz rfl) e1, hq⟩
end Go.Proofs.Ytdpajabhmmmjoaa
end
noncomputable section
namespace Go.Proofs.Ytdpajabhmmmjoaa
open Go.AM
set_option autoImplicit false
set_option linter.unusedVariables false
set_option linter.unusedSimpArgs false
set_option maxRecDepth 100000
theorem aiy (l : List UInt8) (n m : Int) (h : l9 l n) (hm : 0 < m) : ∃ r, bh l n m r := by
 obtain ⟨h1, h2, h3⟩ := h
 apply ab5 1
 unfold pN uQ
 repeat' (first | (with_reducible refine aD ?_ ?_ <;> (intro hb; (try simp only [bnl] at hb); (try revert hb; intro _))) | with_reducible refine aN ?_ ?_ | with_reducible refine aG ?_ | fail)
 ·exact ⟨_, _, _, _, rfl, rfl, by simp, by simpa using hm, rfl, h1, h2, h3⟩
 ·simp (disch := omega) only [fG, bnl]
 ·simp only [bnl]; omega
 ·refine ⟨_, _, _, _, rfl, rfl, ?_, ?_, rfl, ?_, ?_, h3⟩
  ·simp only
   have := UInt8.toNat_lt (l.getD (IntKind.i64.wrap (IntKind.i64.wrap (n + 1) - 1)).toNat (aC .u8))
   rw [aJ _ (by omega)]
   exact Int.tmod_nonneg _ (by omega)
  ·simp only
   exact Int.tmod_lt_of_pos _ hm
  ·simp only; rw [aJ _ (by omega)]; omega
  ·simp only; rw [aJ _ (by omega)]; omega
theorem pz (l : List UInt8) (n m : Int) (h : l9 l n) (hm : 0 < m) (hm2 : m ≤ 1000) : ∃ r, bh l n m r := aiy l n m h hm
theorem alG (l : List UInt8) (n : Int) : ∃ r, iE l n r := by
 apply aaY 1
 unfold oK tJ
 repeat' (first | (with_reducible refine aD ?_ ?_ <;> (intro hb; (try simp only [bnl] at hb); (try revert hb; intro _))) | with_reducible refine aN ?_ ?_ | with_reducible refine aG ?_ | fail)
 exact ⟨_, _, _, _, rfl, rfl, rfl, rfl⟩
theorem alH (l : List UInt8) : ∃ r, p7 l r := by
 apply agU 1
 unfold vB ab9
 repeat' (first | (with_reducible refine aD ?_ ?_ <;> (intro hb; (try simp only [bnl] at hb); (try revert hb; intro _))) | with_reducible refine aN ?_ ?_ | with_reducible refine aG ?_ | fail)
 exact ⟨_, _, [], rfl, rfl⟩
theorem cu (s : List UInt8) : ∃ r, bo s r := by
 apply agW 1
 unfold vC acc
 repeat' (first | (with_reducible refine aD ?_ ?_ <;> (intro hb; (try simp only [bnl] at hb); (try revert hb; intro _))) | with_reducible refine aN ?_ ?_ | with_reducible refine aG ?_ | fail)
 exact ⟨_, _, _, _, _, _, rfl, rfl, rfl⟩
theorem tO (f0 : Bool) (names : List (List UInt8)) (f1 : Bool) (l : List aA) : ∃ r, dm f0 names f1 l r := by
 apply afx 1
 unfold ui aap
 repeat' (first | (with_reducible refine aD ?_ ?_ <;> (intro hb; (try simp only [bnl] at hb); (try revert hb; intro _))) | with_reducible refine aN ?_ ?_ | with_reducible refine aG ?_ | fail)
 exact ⟨_, _, _, _, _, _, _, _, rfl, rfl, rfl⟩
theorem afE : ∀ (names : List (List UInt8)) (l : List aA) (name : List UInt8) (i : Nat), (∀ j, j < i → names.getD j [] ≠ name) → kg names l name = kg (names.drop i) (l.drop i) name
 | names, l, name, 0, _ => rfl
 | [], l, name, i + 1, h => by simp [kg]
 | x :: ns, [], name, i + 1, h => by
   have : ∀ ns : List (List UInt8), kg ns [] name = none := fun ns => by cases ns <;> rfl
   simp [kg, this]
 | x :: ns, c :: l, name, i + 1, h => by
   have h0 := h 0 (by omega)
   simp only [List.getD_cons_zero] at h0
   simp only [kg, if_neg h0, List.drop_succ_cons]
   exact afE ns l name i fun j hj => by simpa using h (j + 1) (by omega)
theorem aiz {names : List (List UInt8)} {l : List aA} {name : List UInt8} {i : Nat} (h1 : i < names.length) (h2 : i < l.length) (h : ∀ j, j < i → names.getD j [] ≠ name) (he : names.getD i [] = name) :
  kg names l name = some (l.getD i (aC .jnode)) := by
 rw [afE names l name i h, List.drop_eq_getElem_cons h1, List.drop_eq_getElem_cons h2]
 simp only [kg]
 rw [List.getD_eq_getElem?_getD, List.getElem?_eq_getElem h1, Option.getD_some] at he
 rw [if_pos he, List.getD_eq_getElem?_getD, List.getElem?_eq_getElem h2, Option.getD_some]
theorem ach {names : List (List UInt8)} {l : List aA} {name : List UInt8} {i : Nat} (h : ∀ j, j < i → names.getD j [] ≠ name) (hi : names.length ≤ i ∨ l.length ≤ i) : kg names l name = none := by
 rw [afE names l name i h]
 rcases hi with hi | hi
 ·rw [List.drop_eq_nil_of_le hi]; rfl
 ·rw [List.drop_of_length_le (l := l) hi]
  cases names.drop i <;> rfl
theorem ajO (k n : Int) (s : List UInt8) (l : List aA) (names : List (List UInt8)) (name : List UInt8) (h : names.length ≤ l.length) (hl : names.length ≤ 1000) : ∃ r, pn k n s l names name r := by
 apply ait 2000
 unfold xh qe
 refine bd (fun x => x.1 = name ∧ x.2.2.2.2.1 = l ∧ x.2.2.2.2.2.1 = names ∧ 0 ≤ x.2.2.2.2.2.2.1 ∧ x.2.2.2.2.2.2.1 ≤ (names.length : Int) ∧ ∀ j : Nat, (j : Int) < x.2.2.2.2.2.2.1 → names.getD j [] ≠ name)
  (fun x => ((names.length : Int) - x.2.2.2.2.2.2.1).toNat) ?_ _ _ ⟨rfl, rfl, rfl, by simp, by simp, fun j hj => by simp at hj; omega⟩ (by simp; omega)
 rintro again ⟨a0, a1, a2, a3, a4, a5, i, b0, b1, b2, b3, b4⟩ ⟨rfl, rfl, rfl, i1, i2, i3⟩ ih
 simp only at i1 i2 i3 ih h hl ⊢
 unfold rR
 repeat' (first | (with_reducible refine aD ?_ ?_ <;> (intro hb; (try simp only [bnl] at hb); (try revert hb; intro _))) | with_reducible refine aN ?_ ?_ | with_reducible refine aG ?_ | fail)
 ·simp only [bnl]; omega
 ·simp only [bnl]; omega
 ·rename_i hb hb2
  have e := aiz (names := a5) (l := a4) (name := a0) (i := i.toNat) (by omega) (by omega) (fun j hj => i3 j (by omega)) hb2
  refine ⟨_, _, _, _, _, _, _, rfl, rfl, ?_⟩
  simp only [qv]
  rw [e]; rfl
 ·rename_i hb hb2
  have ew := aJ (i + 1) (by omega)
  refine ih _ ⟨rfl, rfl, rfl, ?_, ?_, ?_⟩ ?_
  ·simp only [ew]; omega
  ·simp only [ew]; omega
  ·simp only [ew]
   intro j hj
   by_cases e : (j : Int) = i
   ·have : i.toNat = j := by omega
    rw [this] at hb2
    exact hb2
   ·exact i3 j (by omega)
  ·simp only [ew]; omega
 ·rename_i hb
  refine ⟨_, _, _, _, _, _, _, rfl, rfl, ?_⟩
  simp only [qv]
  rw [ach (i := i.toNat) (fun j hj => i3 j (by omega)) (.inl (by omega))]
  rfl
theorem bN (ts : List ak) (e c : Int) : ∃ r, aH ts e c r := by
 apply zz 1
 unfold nk sC
 repeat' (first | (with_reducible refine aD ?_ ?_ <;> (intro hb; (try simp only [bnl] at hb); (try revert hb; intro _))) | with_reducible refine aN ?_ ?_ | with_reducible refine aG ?_ | fail)
 ·rename_i hb; exact ⟨_, _, _, _, rfl, rfl, by simp [ia, hb]⟩
 ·rename_i hb; exact ⟨_, _, _, _, rfl, rfl, by simp [ia, hb]⟩
end Go.Proofs.Ytdpajabhmmmjoaa
end
noncomputable section
namespace Go.Proofs.Ytdpajabhmmmjoaa
open Go.AM
set_option autoImplicit false
set_option linter.unusedSimpArgs false
theorem zE : ∀ (a b : List UInt8), (Op.bytesLess a b || decide (a = b)) = !Op.bytesLess b a
 | [], [] => by simp [Op.bytesLess]
 | [], b :: y => by simp [Op.bytesLess]
 | a :: x, [] => by simp [Op.bytesLess]
 | a :: x, b :: y => by
   have ih := zE x y
   simp only [Op.bytesLess]
   by_cases h1 : a < b
   ·have h2 : ¬ b < a := fun h => absurd (UInt8.lt_trans h1 h) (UInt8.lt_irrefl a)
    have h3 : ¬ b = a := fun h => by subst h; exact UInt8.lt_irrefl _ h1
    simp [h1, h2, h3]
   ·by_cases h2 : b < a
    ·have h3 : ¬ a = b := fun h => by subst h; exact UInt8.lt_irrefl _ h2
     simp [h1, h2, h3]
    ·have h3 : a = b := by
      have := UInt8.le_antisymm (UInt8.not_lt.1 h2) (UInt8.not_lt.1 h1)
      exact this
     subst h3
     simp only [h1, decide_false, Bool.false_or, beq_self_eq_true, Bool.true_and, List.cons.injEq, true_and]
     exact ih
end Go.Proofs.Ytdpajabhmmmjoaa
end
noncomputable section
namespace Go.Proofs.Ytdpajabhmmmjoaa
open Go.AM
set_option autoImplicit false
set_option linter.unusedVariables false
theorem fZ.mono {m m' : Nat} {t : ak} (h : fZ m t) (hm : m ≤ m') : fZ m' t :=
 ⟨⟨h.items.1, by have := h.items.2; omega⟩, fun f hf => ⟨(h.fields f hf).1, by have := (h.fields f hf).2.1; omega, (h.fields f hf).2.2⟩, h.nf,
   fun b hb => ⟨(h.branches b hb).1, by have := (h.branches b hb).2; omega⟩, h.nb, h.ns, h.size, h.done, h.kind, h.enum, h.only⟩
theorem bp.refl {ts : List ak} {e : Int} (h : ts.length ≤ 60) : bp ts e ts e :=
 ⟨Nat.le_refl _, h, fun h => h, fun _ _ _ => rfl, fun _ i t hi ht => by
  have := (List.getElem?_eq_some_iff.1 ht).1; omega⟩
theorem bp.bad {ts : List ak} {e e' : Int} (h : ts.length ≤ 60) (he : e' ≠ 0) : bp ts e ts e' :=
 ⟨Nat.le_refl _, h, fun h => absurd h he, fun h => absurd h he, fun h => absurd h he⟩
theorem bp.fail {ts ts' : List ak} {e e' : Int} (h : bp ts e ts' e') (c : Int) (hc : c ≠ 0) : bp ts e ts' (if e' = 0 then c else e') := by
 have : (if e' = 0 then c else e') ≠ 0 := by split <;> assumption
 exact ⟨h.len, h.cap, fun h => absurd h this, fun h => absurd h this, fun h => absurd h this⟩
theorem bp.trans {ts ts1 ts2 : List ak} {e e1 e2 : Int} (h : bp ts e ts1 e1) (h' : bp ts1 e1 ts2 e2) : bp ts e ts2 e2 where
 len := Nat.le_trans h.len h'.len
 cap := h'.cap
 err := fun he => h.err (h'.err he)
 old := fun he i hi => by
  have := h.len
  rw [h'.old he i (by omega), h.old (h'.err he) i hi]
 new := fun he i t hi ht => by
  rcases Nat.lt_or_ge i ts1.length with hl | hl
  ·rw [h'.old he i hl] at ht
   exact (h.new (h'.err he) i t hi ht).mono h'.len
  ·exact h'.new he i t hl ht
theorem bp.weak {ts ts' : List ak} {e e1 e' : Int} (h : bp ts e1 ts' e') (he : e1 = 0 → e = 0) : bp ts e ts' e' :=
 ⟨h.len, h.cap, fun h' => he (h.err h'), h.old, h.new⟩
theorem bp.push {ts : List ak} {e : Int} (h : ts.length < 60) (t : ak) (ht : fZ (ts.length + 1) t) : bp ts e (ts ++ [t]) e where
 len := by simp
 cap := by simp; omega
 err := fun h => h
 old := fun _ i hi => by rw [List.getElem?_append_left hi]
 new := fun _ i t' hi ht' => by
  rw [List.getElem?_append_right hi] at ht'
  have hl := (List.getElem?_eq_some_iff.1 ht').1
  simp only [List.length_singleton] at hl
  have : i - ts.length = 0 := by omega
  rw [this] at ht'
  simp only [List.getElem?_cons_zero, Option.some.injEq] at ht'
  subst ht'
  simpa using ht
theorem bp.close {ts ts2 : List ak} {e e2 : Int} {t0 t : ak} (h : bp (ts ++ [t0]) e ts2 e2) (ht : fZ ts2.length t) : bp ts e (ts2.set ts.length t) e2 where
 len := by have := h.len; simp at this ⊢; omega
 cap := by simpa using h.cap
 err := h.err
 old := fun he i hi => by
  rw [List.getElem?_set_ne (by omega), h.old he i (by simp; omega), List.getElem?_append_left hi]
 new := fun he i t' hi ht' => by
  have hlen := h.len
  simp only [List.length_append, List.length_singleton] at hlen
  simp only [List.length_set] at ht' ⊢
  rcases Nat.lt_or_eq_of_le hi with hl | hl
  ·rw [List.getElem?_set_ne (by omega)] at ht'
   exact h.new he i t' (by simp; omega) ht'
  ·subst hl
   rw [List.getElem?_set_self (by omega)] at ht'
   cases ht'
   exact ht
theorem bp.at_open {ts ts2 : List ak} {e e2 : Int} {t0 : ak} (h : bp (ts ++ [t0]) e ts2 e2) (he : e2 = 0) : ts2[ts.length]? = some t0 := by
 rw [h.old he ts.length (by simp), List.getElem?_append_right (Nat.le_refl _)]
 simp
theorem bp.sch {ts : List ak} (h : bp [] 0 ts 0) (h0 : 0 < ts.length) : eU ts := by
 refine ⟨⟨h0, h.cap⟩, fun t ht => ?_⟩
 obtain ⟨i, hi, rfl⟩ := List.mem_iff_getElem.1 ht
 exact h.new rfl i _ (by simp) (List.getElem?_eq_getElem hi)
theorem aV.kids {k n : Int} {s : List UInt8} {l : List aA} {names : List (List UInt8)} (h : aV (.mk k n s l names)) :
  s.length ≤ 100 ∧ l.length ≤ 8 ∧ names.length ≤ l.length ∧ (∀ x ∈ names, x.length ≤ 100) ∧ (k = 6 → names.length = l.length) ∧ ∀ c ∈ l, aV c := by
 cases h with
 | mk _ _ _ _ _ h1 h2 h3 h4 h5 h6 => exact ⟨h1, h2, h3, h4, h5, h6⟩
theorem aV.eta {c : aA} : aV (.mk c.kind c.n c.s c.l c.names) ↔ aV c := by
 cases c; exact Iff.rfl
theorem aV.zero : aV (.mk 0 0 [] [] []) := .mk _ _ _ _ _ (by simp) (by simp) (by simp) (by simp) (by simp) (by simp)
theorem aV.getD {l : List aA} (h : ∀ c ∈ l, aV c) (i : Nat) : aV (l.getD i (aC .jnode)) := by
 rw [List.getD_eq_getElem?_getD]
 cases hi : l[i]? with
 | none => exact aV.zero
 | some c => exact h c (List.mem_of_getElem? hi)
theorem aiA : ∀ {names : List (List UInt8)} {l : List aA} {name : List UInt8} {c : aA}, kg names l name = some c → c ∈ l
 | [], l, _, _, h => by simp [kg] at h
 | x :: ns, [], _, _, h => by simp [kg] at h
 | x :: ns, d :: l, name, c, h => by
   simp only [kg] at h
   split at h
   ·simp at h; simp [h]
   ·exact List.mem_cons_of_mem _ (aiA h)
theorem amd {o : Option aA} {l : List aA} (h : ∀ c ∈ l, aV c) (ho : ∀ c, o = some c → c ∈ l) : aV (.mk (tY o).1 (tY o).2.1 (tY o).2.2.1 (tY o).2.2.2.1 (tY o).2.2.2.2.1) := by
 cases o with
 | none => exact aV.zero
 | some c => exact aV.eta.2 (h c (ho c rfl))
theorem pA {k : Int} {names : List (List UInt8)} {l : List aA} {name : List UInt8} (h : ∀ c ∈ l, aV c) :
  aV (.mk (tY (if k = 6 then kg names l name else none)).1 (tY (if k = 6 then kg names l name else none)).2.1 (tY (if k = 6 then kg names l name else none)).2.2.1 (tY (if k = 6 then kg names l name else none)).2.2.2.1 (tY (if k = 6 then kg names l name else none)).2.2.2.2.1) :=
 amd h fun c hc => by
  split at hc
  ·exact aiA hc
  ·cases hc
end Go.Proofs.Ytdpajabhmmmjoaa
end
noncomputable section
namespace Go.Proofs.Ytdpajabhmmmjoaa
open Go.AM
set_option autoImplicit false
set_option linter.unusedVariables false
set_option linter.unusedSimpArgs false
set_option maxRecDepth 100000
theorem akZ (ts : List ak) (t : Int) : ∃ r, pm ts t r := by
 apply aiv 1
 unfold xi adh
 repeat' (first | (with_reducible refine aD ?_ ?_ <;> (intro hb; (try simp only [bnl] at hb); (try revert hb; intro _))) | with_reducible refine aN ?_ ?_ | with_reducible refine aG ?_ | fail)
 all_goals rename_i h
 ·exact ⟨_, _, rfl, rfl, by simp [qw, isT, h]⟩
 ·exact ⟨_, _, rfl, rfl, by simp only [qw, isT]; rw [decide_eq_false (by omega)]; rfl⟩
theorem adI (s : List UInt8) : ∃ r, jm s r := by
 apply afA 100
 unfold uk mS
 refine bd (fun x => match x with | (a, f, w, i) => a = s ∧ w = aed ∧ 0 ≤ i ∧ i ≤ 14 ∧ ∀ j : Nat, (j : Int) < i → aed.getD j [] ≠ s) (fun x => (14 - x.2.2.2).toNat) ?_ _ _ ⟨rfl, rfl, by simp, by simp, fun j hj => by omega⟩ (by simp)
 rintro again ⟨a, f, w, i⟩ ⟨rfl, rfl, i1, i2, i3⟩ ih
 dsimp only at ih
 have e := aJ (i + 1) (by omega)
 unfold py
 dsimp only
 have hw : aed.length = 14 := rfl
 rw [hw]
 repeat' (first | (with_reducible refine aD ?_ ?_ <;> (intro hb; (try simp only [bnl] at hb); (try revert hb; intro _))) | with_reducible refine aN ?_ ?_ | with_reducible refine aG ?_ | fail)
 ·simp only [bnl]; omega
 ·rename_i h1 h2
  refine ⟨_, _, rfl, rfl, ?_, ?_, ?_, ?_, ?_⟩
  ·simp only [e]; omega
  ·simp only [e]; omega
  ·simp only [e]
   intro h3
   have : i = 13 := by omega
   subst this
   rw [← h2]; rfl
  ·simp only [e]
   intro h3; omega
  ·simp only [e]
   intro h3
   have : i = 9 := by omega
   subst this
   rw [← h2]; rfl
 ·rename_i h1 h2
  refine ih (a, f, aed, _) ?_ ?_
  ·simp only [e]
   refine ⟨trivial, trivial, by omega, by omega, fun j hj => ?_⟩
   by_cases hji : (j : Int) = i
   ·have : i.toNat = j := by omega
    rw [this] at h2
    exact h2
   ·exact i3 j (by omega)
  ·simp only [e]; omega
 ·rename_i h1
  exact ⟨_, _, rfl, rfl, by simp, by simp, by simp, fun _ j hj => i3 j (by omega), by simp⟩
theorem alI (k : Int) : ∃ r, ov k r := by
 apply afC 1
 unfold um aau
 dsimp only
 repeat' (first | (with_reducible refine aD ?_ ?_ <;> (intro hb; (try simp only [bnl] at hb); (try revert hb; intro _))) | with_reducible refine aN ?_ ?_ | with_reducible refine aG ?_ | fail)
 ·exact ⟨_, _, rfl, rfl⟩
 ·exact ⟨_, _, rfl, rfl⟩
 ·simp only [bnl, List.length_cons, List.length_nil]; omega
 ·exact ⟨_, _, rfl, rfl⟩
theorem acH (ts : List ak) (e a0 : Int) (a1 : List UInt8) (a2 : List (List UInt8)) (a3 : Int) (a4 : List (List UInt8)) (a5 : Bool) (a6 : List UInt8) (a7 : Int) (a8 : List aQ) (a9 : List Int) (h : ts.length ≤ 60) :
  ∃ r, cZ ts e a0 a1 a2 a3 a4 a5 a6 a7 a8 a9 r := by
 apply aa1 1
 unfold oO tN
 dsimp only
 repeat' (first | (with_reducible refine aD ?_ ?_ <;> (intro hb; (try simp only [bnl] at hb); (try revert hb; intro _))) | with_reducible refine aN ?_ ?_ | with_reducible refine aG ?_ | (refine aE (bN _ _ _) ?_; rintro _ ⟨-, rfl⟩; try dsimp only) | fail)
 ·rename_i hb
  refine ⟨_, _, _, _, rfl, rfl, ?_⟩
  simp only [iL]
  simp only [if_pos (show 60 ≤ ts.length by omega)]
 ·first | (simp only [bnl, lnl]; done) | (simp only [bnl, lnl]; omega)
 ·rename_i hb
  refine ⟨_, _, _, _, rfl, rfl, ?_⟩
  simp only [iL, List.length_append, List.length_cons, List.length_nil]
  rw [if_neg (by omega), aJ _ (by omega)]
  simp
theorem aiB (ts : List ak) (e : Int) (s : List UInt8) (h : ts.length ≤ 60) : ∃ r, bX ts e s r := by
 apply zC 100
 unfold nq f8
 refine bd (fun x => x.1 = s ∧ x.2.2.1 = ts ∧ x.2.2.2 = e ∧ 0 ≤ x.2.1 ∧ x.2.1 ≤ (ts.length : Int)) (fun x => ((ts.length : Int) - x.2.1).toNat) ?_ _ _ ⟨rfl, rfl, rfl, by simp, by simp⟩ (by simp; omega)
 rintro again ⟨s, i, ts, e⟩ ⟨rfl, rfl, rfl, i1, i2⟩ ih
 simp only at i1 i2 ih h ⊢
 unfold iO
 dsimp only
 have next : i < ts.length → Tot (again (s, IntKind.i64.wrap (i + 1), ts, e)) _ := fun hl => ih (s, IntKind.i64.wrap (i + 1), ts, e) (by simp only [aJ (i + 1) (by omega)]; exact ⟨trivial, trivial, trivial, by omega, by omega⟩) (by simp only [aJ (i + 1) (by omega)]; omega)
 repeat' (first | (with_reducible refine aD ?_ ?_ <;> (intro hb; (try simp only [bnl] at hb); (try revert hb; intro _))) | with_reducible refine aN ?_ ?_ | with_reducible refine aG ?_ | (exact next (by omega)) | fail)
 all_goals first | (first | (simp only [bnl, lnl]; done) | (simp only [bnl, lnl]; omega)) | (refine ⟨_, _, _, _, _, rfl, rfl, rfl, ?_⟩; simp; try omega)
theorem ak0 {a b : List UInt8} (h1 : Op.bytesLess a b = false) (h2 : ¬ a = b) : Op.bytesLess b a = true := by
 have h := zE a b
 rw [h1, decide_eq_false h2] at h
 simpa using h.symm
theorem agm : ∀ (i : Nat) (ks : List (List UInt8)) (p key : List UInt8), l8 p ks = true → Op.bytesLess p key = true → jk key = true → (∀ j, j < i → j < ks.length → Op.bytesLess (ks.getD j []) key = true) →
  (∀ _ : i < ks.length, Op.bytesLess key (ks.getD i []) = true) → l8 p (ks.take i ++ (key :: ks.drop i)) = true
 | 0, [], p, key, h, hp, hv, _, _ => by simp [l8, hv, hp]
 | 0, k :: ks, p, key, h, hp, hv, _, hl => by
   have := hl (by simp)
   simp only [l8, Bool.and_eq_true] at h
   simp only [List.getD_cons_zero] at this
   simp [l8, hv, hp, h.1, h.2.2, this]
 | i + 1, [], p, key, h, hp, hv, _, _ => by simp [l8, hv, hp]
 | i + 1, k :: ks, p, key, h, hp, hv, hb, hl => by
   simp only [l8, Bool.and_eq_true] at h
   have ih := agm i ks k key h.2.2 (by have := hb 0 (by omega) (by simp); simpa using this) hv
    (fun j h1 h2 => by have := hb (j + 1) (by omega) (by simp; omega); simpa using this) (fun h1 => by have := hl (by simp; omega); simpa using this)
   simp [l8, h.1, h.2.1, ih]
theorem ak1 (i : Nat) (ks : List (List UInt8)) (key : List UInt8) (h : jQ ks = true) (hv : jk key = true) (hb : ∀ j, j < i → j < ks.length → Op.bytesLess (ks.getD j []) key = true)
  (hl : ∀ _ : i < ks.length, Op.bytesLess key (ks.getD i []) = true) : jQ (ks.take i ++ (key :: ks.drop i)) = true := by
 match i, ks, h, hb, hl with
 | 0, [], h, hb, hl => simp [jQ, l8, hv]
 | 0, k :: ks, h, hb, hl =>
   have := hl (by simp)
   simp only [jQ, Bool.and_eq_true] at h
   simp only [List.getD_cons_zero] at this
   simp [jQ, l8, hv, h.1, h.2, this]
 | i + 1, [], h, hb, hl => simp [jQ, l8, hv]
 | i + 1, k :: ks, h, hb, hl =>
   simp only [jQ, Bool.and_eq_true] at h
   have := agm i ks k key h.2 (by have := hb 0 (by omega) (by simp); simpa using this) hv
    (fun j h1 h2 => by have := hb (j + 1) (by omega) (by simp; omega); simpa using this) (fun h1 => by have := hl (by simp; omega); simpa using this)
   simp [jQ, h.1, this]
theorem aci (ts : List ak) (t : Int) : ∀ l m : List aB, cS ts t (l ++ m) = (cS ts t l && cS ts t m)
 | [], m => by simp [cS]
 | v :: l, m => by simp [cS, aci ts t l m, Bool.and_assoc]
theorem aeE : ∀ l m : List aB, wL (l ++ m) = wL l + wL m
 | [], m => by simp [wL]
 | v :: l, m => by simp [wL, aeE l m]; omega
theorem adJ : ∀ l m : List (List UInt8), vk (l ++ m) = vk l + vk m
 | [], m => by simp [vk]
 | v :: l, m => by simp [vk, adJ l m]; omega
theorem agn (ts : List ak) (t : Int) (w : aB) (hw : cO ts t w = true) : ∀ (l : List aB) (i : Nat), cS ts t l = true → cS ts t (l.set i w) = true
 | [], i, h => by simp [cS]
 | v :: l, 0, h => by simp only [cS, Bool.and_eq_true] at h; simp [cS, hw, h.2]
 | v :: l, i + 1, h => by simp only [cS, Bool.and_eq_true] at h; simp [cS, h.1, agn ts t w hw l i h.2]
theorem ak2 (w : aB) : ∀ (l : List aB) (i : Nat), wL (l.set i w) ≤ wL l + wV w
 | [], i => by simp [wL]
 | v :: l, 0 => by simp [wL]; omega
 | v :: l, i + 1 => by have := ak2 w l i; simp only [List.set_cons_succ, wL]; omega
theorem ajP (n : Int) (s : List UInt8) (l : List aB) (ks : List (List UInt8)) (b : Int) (key : List UInt8) (w0 : Int) (w1 : List UInt8) (w2 : List aB) (w3 : List (List UInt8)) (w4 : Int) (h : ks.length = l.length) (hl : l.length ≤ 10000) :
  ∃ r, ne n s l ks b key w0 w1 w2 w3 w4 r := by
 apply ag3 20000
 unfold vF oN
 refine bd (fun x => match x with
  | (c0, c1, c2, c3, c4, c5, i, c6, c7, l', ks', c8, c9, c10, c11, c12, c13) => c0 = key ∧ (c1, c2, c3, c4, c5) = (w0, w1, w2, w3, w4) ∧ (c6, c7, c8) = (n, s, b) ∧ 0 ≤ i ∧ i ≤ (l.length : Int) ∧ ks' = ks ∧ l' = l ∧ ∀ j : Nat, (j : Int) < i → Op.bytesLess (ks.getD j []) key = true)
  (fun x => ((l.length : Int) - x.2.2.2.2.2.2.1).toNat) ?_ _ _ ⟨rfl, rfl, rfl, by simp, by simp, rfl, rfl, fun j hj => by omega⟩ (by simp; omega)
 rintro again ⟨c0, c1, c2, c3, c4, c5, i, c6, c7, l, ks, c8, c9, c10, c11, c12, c13⟩ ⟨rfl, e1, e2, i1, i2, rfl, rfl, i3⟩ ih
 simp only [Prod.mk.injEq] at e1 e2
 obtain ⟨rfl, rfl, rfl, rfl, rfl⟩ := e1
 obtain ⟨rfl, rfl, rfl⟩ := e2
 simp only at i1 i2 ih h hl ⊢
 unfold qF
 dsimp only
 have next : i < l.length → Op.bytesLess (ks.getD i.toNat []) c0 = true → Tot (again (c0, c1, c2, c3, c4, c5, IntKind.i64.wrap (i + 1), c6, c7, l, ks, c8, c9, c10, c11, c12, c13)) _ := fun hl hb => ih (c0, c1, c2, c3, c4, c5, IntKind.i64.wrap (i + 1), c6, c7, l, ks, c8, c9, c10, c11, c12, c13)
  (by
   simp only [aJ (i + 1) (by omega)]
   refine ⟨trivial, trivial, trivial, by omega, by omega, trivial, trivial, fun j hj => ?_⟩
   by_cases hji : (j : Int) < i
   ·exact i3 j hji
   ·have : j = i.toNat := by omega
    rw [this]; exact hb) (by simp only [aJ (i + 1) (by omega)]; omega)
 have i4 : ∀ j, j < i.toNat → j < ks.length → Op.bytesLess (ks.getD j []) c0 = true := fun j hj _ => i3 j (by omega)
 have ins : (∀ _ : i.toNat < ks.length, Op.bytesLess c0 (ks.getD i.toNat []) = true) → alD c6 c7 l ks c8 c0 (.mk c1 c2 c3 c4 c5) (c6, c7, l.take i.toNat ++ ((.mk c1 c2 c3 c4 c5) :: l.drop i.toNat), ks.take i.toNat ++ (c0 :: ks.drop i.toNat), c8) := fun hlt => by
  refine ⟨rfl, rfl, rfl, ?_, ?_, fun h1 h2 => ak1 _ _ _ h1 h2 i4 hlt, fun ts t h1 h2 => ?_⟩
  ·simp only [aeE]
   have := aeE (l.take i.toNat) (l.drop i.toNat)
   rw [List.take_append_drop] at this
   simp only [wL]; omega
  ·simp only [adJ]
   have := adJ (ks.take i.toNat) (ks.drop i.toNat)
   rw [List.take_append_drop] at this
   simp only [vk]; omega
  ·have := aci ts t (l.take i.toNat) (l.drop i.toNat)
   rw [List.take_append_drop, h1] at this
   have this := (Bool.and_eq_true _ _ ▸ this.symm : _ ∧ _)
   simp [aci, cS, this.1, this.2, h2]
 have same : alD c6 c7 l ks c8 c0 (.mk c1 c2 c3 c4 c5) (c6, c7, l.set i.toNat (.mk c1 c2 c3 c4 c5), ks, c8) := by
  refine ⟨rfl, rfl, rfl, ak2 _ _ _, by simp only; omega, fun h1 _ => h1, fun ts t h1 h2 => agn ts t _ h2 _ _ h1⟩
 repeat' (first | (with_reducible refine aD ?_ ?_ <;> (intro hb; (try simp only [bnl] at hb); (try revert hb; intro _))) | with_reducible refine aN ?_ ?_ | with_reducible refine aG ?_ | (exact next (by omega) (by assumption)) | fail)
 all_goals first | (first | (simp only [bnl, lnl]; done) | (simp only [bnl, lnl]; omega)) | skip
 all_goals
  refine ⟨_, _, _, _, _, _, rfl, rfl, ?_, ?_, ?_⟩
  ·simp only [List.length_append, List.length_cons, List.length_nil, List.length_drop, List.length_take, List.length_set]; omega
  ·simp only [List.length_append, List.length_cons, List.length_nil, List.length_drop, List.length_take, List.length_set]; omega
 ·exact same
 ·simpa using ins fun _ => ak0 (by assumption) (by assumption)
 ·simpa using ins fun hh => by omega
end Go.Proofs.Ytdpajabhmmmjoaa
end
noncomputable section
namespace Go.Proofs.Ytdpajabhmmmjoaa
open Go.AM
set_option autoImplicit false
set_option linter.unusedVariables false
set_option linter.unusedSimpArgs false
set_option maxRecDepth 100000
theorem ajQ {R R' : Type} {Q : R → Prop} [Inhabited R'] {C : R' → Prop} {K : R' → Option R} (h : ∃ r, C r) (hK : C (pick C) → Tot (K (pick C)) Q) : Tot (aF C K) Q := aN (aeb h) (hK (acG h))
theorem akn {m : Nat} {k : ak} (hk : fZ m k) : k.kind = 1 ∨ k.kind = 2 ∨ k.kind = 3 ∨ k.kind = 4 ∨ k.kind = 5 ∨ k.kind = 6 ∨ k.kind = 7 ∨ k.kind = 8 ∨ k.kind = 9 ∨ k.kind = 10 ∨ k.kind = 11 ∨ k.kind = 12 ∨ k.kind = 13 ∨ k.kind = 14 := by
 have := hk.kind; omega
theorem ak3 {ts : List ak} {t : Int} (h : 0 ≤ t ∧ t < ts.length) : isT ts t = true := by
 simp only [isT, Bool.and_eq_true, decide_eq_true_eq]; exact h
theorem ak4 {m : Nat} (ts : List ak) (t : Int) (ht : isT ts t = true) (hk : fZ m (ts.getD t.toNat (aC .atype))) (h9 : (ts.getD t.toNat (aC .atype)).kind ≠ 9) (h11 : (ts.getD t.toNat (aC .atype)).kind ≠ 11) (h14 : (ts.getD t.toNat (aC .atype)).kind ≠ 14) :
  cO ts t (.mk 0 [] [] [] 0) = true := by
 rw [cO, ht]
 simp only [Bool.true_and]
 generalize ts.getD t.toNat (aC .atype) = k at *
 have he := hk.enum
 have hns := hk.ns
 rcases akn hk with e | e | e | e | e | e | e | e | e | e | e | e | e | e
 all_goals first | exact absurd e h9 | exact absurd e h11 | exact absurd e h14 | skip
 all_goals rw [e]
 all_goals first | rfl | skip
 ·have h0 : 0 < k.syms.length := List.length_pos_iff.2 (he e)
  have hw : IntKind.wrap .u64 (k.syms.length : Int) = (k.syms.length : Int) := xa _ (by omega)
  show ((decide ((0 : Int) < IntKind.wrap .u64 (k.syms.length : Int))) && true) = true
  rw [hw]; simp; omega
theorem ako {m : Nat} (ts : List ak) (t : Int) (ht : isT ts t = true) (hk : fZ m (ts.getD t.toNat (aC .atype))) (h11 : (ts.getD t.toNat (aC .atype)).kind = 11) (s : List UInt8) (hs : (s.length : Int) = (ts.getD t.toNat (aC .atype)).size) :
  cO ts t (.mk 0 s [] [] 0) = true := by
 rw [cO, ht]
 simp only [Bool.true_and]
 rw [h11, ← hs]
 show (((s.length : Int) == (s.length : Int)) && true) = true
 simp
theorem alJ (ts : List ak) (t : Int) (ht : isT ts t = true) (h9 : (ts.getD t.toNat (aC .atype)).kind = 9) (l : List aB) (hl : l.length = (ts.getD t.toNat (aC .atype)).fields.length) (hf : vj ts (ts.getD t.toNat (aC .atype)).fields l = true) :
  cO ts t (.mk 0 [] l [] 0) = true := by
 rw [cO, ht]
 simp only [Bool.true_and]
 rw [h9]
 show ((decide (l.length = (ts.getD t.toNat (aC .atype)).fields.length) && vj ts (ts.getD t.toNat (aC .atype)).fields l) && true) = true
 rw [hf, hl]; simp
theorem alK (ts : List ak) (t : Int) (ht : isT ts t = true) (h14 : (ts.getD t.toNat (aC .atype)).kind = 14) (b : Int) (v : aB) (hb : 0 ≤ b ∧ b < (ts.getD t.toNat (aC .atype)).branches.length) (hv : cO ts ((ts.getD t.toNat (aC .atype)).branches.getD b.toNat 0) v = true) :
  cO ts t (.mk 0 [] [v] [] b) = true := by
 rw [cO, ht]
 simp only [Bool.true_and]
 rw [h14]
 show ((decide (0 ≤ b) && (decide (b < ((ts.getD t.toNat (aC .atype)).branches.length : Int)) && (((([v] : List aB).length : Int) == 1) && cS ts ((ts.getD t.toNat (aC .atype)).branches.getD b.toNat 0) [v]))) && true) = true
 generalize ts.getD t.toNat (aC .atype) = k at *
 simp only [cS, hv, decide_eq_true hb.1, decide_eq_true hb.2, Bool.and_true, Bool.true_and, List.length_singleton]
 rfl
theorem alL : vk [] = 0 := rfl
end Go.Proofs.Ytdpajabhmmmjoaa
end
noncomputable section
namespace Go.Proofs.Ytdpajabhmmmjoaa
open Go.AM
set_option autoImplicit false
set_option linter.unusedVariables false
set_option linter.unusedSimpArgs false
set_option maxRecDepth 100000
def pfS (ts : List ak) : List Int → List aB → Bool
 | [], [] => true
 | p :: l, v :: vs => cO ts p v && pfS ts l vs
 | _, _ => false
theorem aiC (ts : List ak) : ∀ (l : List Int) (vs : List aB) (p : Int) (v : aB), pfS ts l vs = true → cO ts p v = true → pfS ts (l ++ [p]) (vs ++ [v]) = true
 | [], [], p, v, _, hv => by simp [pfS, hv]
 | _ :: l, _ :: vs, p, v, h, hv => by
   simp only [pfS, Bool.and_eq_true] at h
   simp [pfS, h.1, aiC ts l vs p v h.2 hv]
 | [], _ :: _, _, _, h, _ => by simp [pfS] at h
 | _ :: _, [], _, _, h, _ => by simp [pfS] at h
theorem afF (ts : List ak) (vs : List aB) (h : pfS ts [] vs = true) : vs = [] := by
 cases vs with
 | nil => rfl
 | cons v vs => simp [pfS] at h
theorem ajR (ts : List ak) : ∀ (fs : List aQ) (vs : List aB), pfS ts (fs.map (·.typ)) vs = true → vs.length = fs.length ∧ vj ts fs vs = true
 | [], [], _ => ⟨rfl, by simp [vj]⟩
 | f :: fs, v :: vs, h => by
   simp only [List.map_cons, pfS, Bool.and_eq_true] at h
   have ih := ajR ts fs vs h.2
   exact ⟨by simp [ih.1], by simp [vj, h.1, ih.2]⟩
 | [], _ :: _, h => by simp [pfS] at h
 | _ :: _, [], h => by simp [pfS] at h
theorem aiD (w : List Int) : ∀ (l : List Int), (∀ p ∈ l, 0 ≤ rk w p) → ∀ p ∈ l, rk w p ≤ ep w l
 | [], _, p, hp => by simp at hp
 | q :: l, h, p, hp => by
   have hn := afs w l fun p hp => h p (by simp [hp])
   have hq := h q (by simp)
   simp only [ep]
   rcases List.mem_cons.1 hp with rfl | hp
   ·omega
   ·have := aiD w l (fun p hp => h p (by simp [hp])) p hp
    omega
theorem adi {ts : List ak} (hs : eU ts) {r w l : List Int} {m t : Int} (hR : oC ts r m) (hw : qa ts r w) (ht : 0 ≤ t ∧ t < ts.length) (h0 : rk w t ≠ 0) (h1 : rk w t ≤ 2000) (hl : fH (ts.getD t.toNat (aC .atype)) r l) :
  (∀ p ∈ l, rk w p ≠ 0 ∧ 0 ≤ rk w p ∧ rk w p ≤ 2000) ∧ 1 + ep w l ≤ rk w t := by
 have htl : t.toNat < ts.length := by omega
 obtain ⟨a1, l', a2, a3, a4⟩ := hw.ok t.toNat htl h0
 have e := akj a2 hl
 subst e
 have hpr := ab1 hs hR htl a1 hl
 have hnn : ∀ p ∈ l', 0 ≤ rk w p := fun p hp => by
  have := (hpr p hp).1
  have := hw.low p.toNat (by omega)
  unfold rk; omega
 have e1 : w.getD t.toNat 0 = rk w t := rfl
 rw [e1] at a4
 have hs1 : 1 + ep w l' ≤ rk w t := by
  unfold afe at a4
  split at a4 <;> omega
 exact ⟨fun p hp => ⟨a3 p hp, hnn p hp, by have := aiD w l' hnn p hp; omega⟩, hs1⟩
theorem aeF (ts : List ak) (hs : eU ts) (r : List Int) (hR : oC ts r ts.length) : ∀ (n : Nat) (t : Int), 0 ≤ t ∧ t < ts.length → 0 ≤ rk r t → rk r t < n → ∃ v, jp ts t r v
 | 0 => fun t _ h1 h2 => by omega
 | n + 1 => by
   intro t ht h1 h2
   have htl : t.toNat < ts.length := by omega
   have ert : r.getD t.toNat 0 = rk r t := rfl
   have hrl := hR.len
   have hT := ak3 ht
   have hk := hs.at htl
   have hrk := hR.ok t.toNat (by omega) (by rw [ert]; exact h1)
   apply afi 1000
   have main : ∀ (l : List Int) (s : List UInt8) (b : Int), fH (ts.getD t.toNat (aC .atype)) r l → s.length ≤ 5000 → (∀ vs, pfS ts l vs = true → cO ts t (.mk 0 s vs [] b) = true) →
     Tot (aW 1000 (kW 1000) (r, ts, l, (l.length : Int), 0, 0, ([] : Bs), ([] : List aB), ([] : Bss), 0, 0, s, ([] : List aB), ([] : Bss), b)) (fun z => ∃ (y0 : aB) (rest : List aI), z.1.dimR = .agg (enc .aval y0) ∧ z.2 = rest ∧ rH ts t r y0) := by
    intro l s b hl hsl hfit
    have hpr := ab1 hs hR htl (by rw [ert]; exact h1) hl
    rw [ert] at hpr
    have hll : l.length ≤ 9 := by
     have hnf := hk.nf
     unfold fH at hl
     split at hl
     ·obtain ⟨b, _, _, rfl⟩ := hl
      simp only [List.length_append, List.length_map, List.length_singleton]; omega
     ·rw [hl]; simp only [List.length_map]; omega
    refine bd (fun x => match x with
     | (r', ts', l', nl, i, c0, c1, c2, c3, c4, d0, d1, vs, d3, d4) => r' = r ∧ ts' = ts ∧ l' = l ∧ nl = (l.length : Int) ∧ 0 ≤ i ∧ i ≤ (l.length : Int) ∧ d0 = 0 ∧ d1 = s ∧ d3 = [] ∧ d4 = b ∧ (vs.length : Int) = i ∧ pfS ts (l.take i.toNat) vs = true ∧
       ∀ w, qa ts r w → rk w t ≠ 0 → rk w t ≤ 2000 → (wL vs : Int) ≤ 6000 * ep w (l.take i.toNat))
     (fun x => ((l.length : Int) - x.2.2.2.2.1).toNat) ?_ _ _ ⟨rfl, rfl, rfl, rfl, by simp, by simp, rfl, rfl, rfl, rfl, by simp, by simp [pfS], fun w _ _ _ => by simp [wL, ep]⟩ (by simp; omega)
    rintro again ⟨r', ts', l', nl, i, c0, c1, c2, c3, c4, d0, d1, vs, d3, d4⟩ ⟨rfl, rfl, rfl, rfl, i1, i2, rfl, rfl, rfl, rfl, i3, i4, i5⟩ ih
    dsimp only at ih
    unfold kW
    dsimp only
    refine aD (fun h => ?_) (fun h => ?_)
    ·have h := of_decide_eq_true h
     have hi : i.toNat < l'.length := by omega
     have hm := lU l' i.toNat 0 hi
     have hp := hpr _ hm
     have ht2 := tG l' i.toNat 0 hi
     have ei : IntKind.i64.wrap (i + 1) = i + 1 := aJ (i + 1) (by omega)
     have eit : (i + 1).toNat = i.toNat + 1 := by omega
     refine vck ?_
     change Tot (aF (jp ts' (l'.getD i.toNat 0) r') _) _
     generalize l'.getD i.toNat 0 = p at *
     refine aE (aeF ts' hs r' hR n p hp.1 hp.2.1 (by omega)) ?_
     rintro (v : aB) ⟨-, q1, -, q2⟩
     rw [ah9]
     refine aN (decide_eq_true (by simp only [List.length_singleton]; omega)) ?_
     refine ih (r', ts', l', _, _, c0, c1, c2, c3, c4, 0, d1, _, [], d4) ?_ (by simp only [ei]; omega)
     simp only [ei]
     rw [eit, ht2]
     refine ⟨trivial, trivial, trivial, trivial, by omega, by omega, trivial, trivial, trivial, trivial, by simp; omega, aiC ts' _ _ _ _ i4 q1, fun w hw hw0 hw1 => ?_⟩
     rw [adF, aeE]
     have hf := adi hs hR hw ht hw0 hw1 hl
     have hfp := hf.1 p hm
     have := i5 w hw hw0 hw1
     have := q2 w hw hfp.1 hfp.2.2
     simp only [wL, ep]
     omega
    ·have h := of_decide_eq_false h
     rw [List.take_of_length_le (by omega)] at i4 i5
     refine aG ⟨.mk 0 d1 vs [] d4, _, rfl, rfl, hfit vs i4, rfl, fun w hw hw0 hw1 => ?_⟩
     have hf := adi hs hR hw ht hw0 hw1 hl
     have := i5 w hw hw0 hw1
     simp only [wV, alL]
     omega
   unfold ua mK
   dsimp only
   have hparts := agl hs hR htl (by rw [ert]; exact h1)
   have hz := hk.size
   refine vck (aD (fun h11 => ?_) (fun h11 => ?_))
   ·have h11 : (ts.getD t.toNat (aC .atype)).kind = 11 := by simp only [bnl] at h11; exact h11
    refine vck (aD (fun h14 => ?_) (fun h14 => ?_))
    ·have h14 : (ts.getD t.toNat (aC .atype)).kind = 14 := by simp only [bnl] at h14; exact h14
     omega
    ·refine aE hparts ?_
     rintro (l : List Int) ⟨-, hl⟩
     have hl : fH (ts.getD t.toNat (aC .atype)) r l := hl
     have hl' := hl
     unfold fH at hl'
     rw [if_neg (by omega), hk.only (by omega)] at hl'
     have hl' : l = [] := hl'
     subst hl'
     refine main [] _ 0 hl (by rw [List.length_replicate]; omega) fun vs hvs => ?_
     rw [afF ts vs hvs]
     exact ako ts t hT hk h11 _ (by rw [List.length_replicate]; omega)
   ·have h11 : (ts.getD t.toNat (aC .atype)).kind ≠ 11 := by simp only [bnl] at h11; exact h11
    refine aD (fun h14 => ?_) (fun h14 => ?_)
    ·have h14 : (ts.getD t.toNat (aC .atype)).kind = 14 := by simp only [bnl] at h14; exact h14
     refine aE (xd _ ts.length hk r hrl) ?_
     rintro (b : Int) ⟨-, hb⟩
     refine aE hparts ?_
     rintro (l : List Int) ⟨-, hl⟩
     have hl : fH (ts.getD t.toNat (aC .atype)) r l := hl
     have hl' := hl
     unfold fH at hl'
     rw [if_pos h14, hk.only (by omega)] at hl'
     obtain ⟨c, hc, hc0, hl'⟩ := hl'
     have hl' : l = [brT (ts.getD t.toNat (aC .atype)) c.toNat] := hl'
     have hb0 : 0 ≤ b := by
      rcases hb with ⟨rfl, hn⟩ | ⟨h, _⟩
      ·rcases hc with ⟨rfl, _⟩ | ⟨hc1, hc2⟩
       ·omega
       ·have h1 := hc1.lt
        have := hn c.toNat (by omega); omega
      ·exact h.nn
     have e := adb hb hc hb0 hc0
     subst e
     subst hl'
     have hblt : b < (ts.getD t.toNat (aC .atype)).branches.length := by
      rcases hb with ⟨rfl, _⟩ | ⟨h, _⟩
      ·omega
      ·exact h.lt
     refine main _ [] b hl (by simp) fun vs hvs => ?_
     cases vs with
     | nil => simp [pfS] at hvs
     | cons v vs =>
       simp only [pfS, Bool.and_eq_true] at hvs
       rw [afF ts vs hvs.2]
       exact alK ts t hT h14 b v ⟨hb0, hblt⟩ hvs.1
    ·have h14 : (ts.getD t.toNat (aC .atype)).kind ≠ 14 := by simp only [bnl] at h14; exact h14
     refine aE hparts ?_
     rintro (l : List Int) ⟨-, hl⟩
     have hl : fH (ts.getD t.toNat (aC .atype)) r l := hl
     have hl' := hl
     unfold fH at hl'
     rw [if_neg h14] at hl'
     refine main l [] 0 hl (by simp) fun vs hvs => ?_
     by_cases h9 : (ts.getD t.toNat (aC .atype)).kind = 9
     ·rw [hl'] at hvs
      have := ajR ts _ vs hvs
      exact alJ ts t hT h9 vs this.1 this.2
     ·rw [hl', hk.only h9] at hvs
      rw [afF ts vs hvs]
      exact ak4 ts t hT hk h9 h11 h14
end Go.Proofs.Ytdpajabhmmmjoaa
end
noncomputable section
namespace Go.Proofs.Ytdpajabhmmmjoaa
open Go.AM
set_option autoImplicit false
set_option linter.unusedVariables false
set_option maxRecDepth 100000
noncomputable def aav : aM := tab (P := Try.prog) [] [] [] [aeA, ab3]
def ye : IR := Rs [Mb 0 false] (Rs [Pp (.bld 7 [vS, fu .str true, vI 0, .bool false, vI 0, vI 0, vS, fu .jnode true, fu .str true] [(0, 1, kS [97])]), Pp (.bsl 8 .afield [7] true), Pp (.bld 9 [vI 0, vS, fu .str true, vI 0, fu .str true, .bool false, vS, vI 0, fu .afield true, fu (.num .i64) true] [(0, 1, kI 9), (1, 1, kS [82]), (8, 1, 8)]), Pp (.bld 10 [vI 0, vS, fu .str true, vI 0, fu .str true, .bool false, vS, vI 0, fu .afield true, fu (.num .i64) true] [(0, 1, kI 3)]), Pp (.bsl 11 .atype [9, 10] true), Pp (.bld 12 [nl .atype] [(0, 1, 11)]), Pp (.alr 1 1), Fz 1 1 12] (Rs [Ld 13 1 true 1, Ca 14 16 [13], Mv 2 14] (Rs [Ld 16 1 true 1, Ca 17 17 [16, kI 0], Mv 15 17, Ex_ 18 0 15, Ex_ 19 1 15, Pp (.alr 3 5), Fz 3 5 18, Mv 4 19] (Rs [Ld 21 1 true 1, Ca 22 17 [21, kI 1], Mv 20 22, Ex_ 23 0 20, Ex_ 24 1 20, Pp (.alr 5 5), Fz 5 5 23, Mv 6 24] (Rs [Mv 25 2, Ll 26 25, Bc 27 .eql 26 2, Mv 28 27, Gt 28 (.mov 29 2), Gt 28 (.ixa 30 .bool 29 (kI 0)), Gt 28 (.lde 31 1 false 30), Gt 28 (.un 32 .not 31), Pa 33 28 32, Mv 34 33, Gt 34 (.mov 35 2), Gt 34 (.ixa 36 .bool 35 (kI 1)), Gt 34 (.lde 37 1 false 36), Pa 38 34 37, Mv 39 38, Gt 39 (.mov 40 4), Gt 39 (.un 41 .not 40), Pa 42 39 41, Mv 43 42, Gt 43 (.mov 44 6), Pa 45 43 44, Mv 46 45, Gt 46 (.fad 47 0 5), Gt 46 (.lde 48 1 false 47), Gt 46 (.bin 49 .eql 48 (kU 0)), Pa 50 46 49, Mv 0 50] .ret)))))
def yf : List RV := [.t 0]
theorem afG : FnC Try.prog aav [] 0 aah Try.f13 ye yf := fnC (by kernel_rfl) Try.func13 (by kernel_rfl) (by kernel_rfl) (by decide)
def yg (N : Nat)   : Ro :=
 aF (md ([⟨9, ([82] : Bs), ([] : Bss), 0, ([] : Bss), false, ([] : Bs), 0, ([⟨([97] : Bs), ([] : Bss), 0, false, ⟨0, 0, ([] : Bs), ([] : List aA), ([] : Bss)⟩⟩] : List aQ), ([] : List Int)⟩, ⟨3, ([] : Bs), ([] : Bss), 0, ([] : Bss), false, ([] : Bs), 0, ([] : List aQ), ([] : List Int)⟩] : List ak)) (fun (r1 : List Bool) =>
  aF (eZ ([⟨9, ([82] : Bs), ([] : Bss), 0, ([] : Bss), false, ([] : Bs), 0, ([⟨([97] : Bs), ([] : Bss), 0, false, ⟨0, 0, ([] : Bs), ([] : List aA), ([] : Bss)⟩⟩] : List aQ), ([] : List Int)⟩, ⟨3, ([] : Bs), ([] : Bss), 0, ([] : Bss), false, ([] : Bs), 0, ([] : List aQ), ([] : List Int)⟩] : List ak) 0) (fun r2 =>
   aF (eZ ([⟨9, ([82] : Bs), ([] : Bss), 0, ([] : Bss), false, ([] : Bs), 0, ([⟨([97] : Bs), ([] : Bss), 0, false, ⟨0, 0, ([] : Bs), ([] : List aA), ([] : Bss)⟩⟩] : List aQ), ([] : List Int)⟩, ⟨3, ([] : Bs), ([] : Bss), 0, ([] : Bss), false, ([] : Bs), 0, ([] : List aQ), ([] : List Int)⟩] : List ak) 1) (fun r3 =>
    let x1 : Int := (↑(List.length r1) : Int)
    cond (x1 == 2) (
     chk (decide ((0 : Int) < ↑(List.length r1))) (
      let x2 : Bool := List.getD r1 (Int.toNat 0) (aC .bool)
      cond (!x2) (
       chk (decide ((1 : Int) < ↑(List.length r1))) (
        let x3 : Bool := List.getD r1 (Int.toNat 1) (aC .bool)
        cond x3 (
         cond (!r2.2) (
          cond r3.2 (
           some (.bool (r3.1.n == 0), [])) (
           some (.bool false, []))) (
          some (.bool false, []))) (
         some (.bool false, [])))) (
       some (.bool false, [])))) (
     some (.bool false, [])))))
def sZ (N : Nat)  : Ro := yg N
theorem aeG (N : Nat)  : bb aav N 51 yf ye [] [] = sZ N  := by kernel_rfl
theorem aeH (N : Nat) (h : Tot (sZ N ) (fun z => ∃ (y0 : Bool) (rest : List aI), z.1.dimR = .bool y0 ∧ z.2 = rest ∧ qQ  (y0))) : ∃ r, mP  r := by
 obtain ⟨⟨v, hp⟩, hz, y0, rest, e1, e2, hq⟩ := h
 simp only at e1 e2
 subst e2
 exact ⟨(y0), aO.dimR (afG.pure (aeG N ) hz) e1, hq⟩
noncomputable def js : aM := tab (P := Try.prog) [ai7] [acK] [] [agQ, aeA, ab3, abG]
def rW : IR := Sq (Rs [Mv 30 6, Mv 31 5, Ll 32 31, Bi 33 .lss 30 32] (Cn 33 .skip (.exit 0))) (Sq (.block 1 (Rs [Ld 37 1 true 3, Mv 38 6, Ca 39 17 [37, 38], Mv 36 39, Ex_ 40 0 36, Ex_ 41 1 36, Pp (.alr 7 5), Fz 7 5 40, Mv 8 41] (Rs [Mv 42 8, Mv 43 42, Gt 43 (.mov 44 5), Gt 43 (.mov 45 6), Gt 43 (.ixa 46 .bool 44 45), Gt 43 (.lde 47 1 false 46), Gt 43 (.un 48 .not 47), Gt 43 (.mov 49 48), Gf 49 (.lde 50 1 true 3), Gf 49 (.mov 51 6), Gf 49 (.lde 52 5 true 7), Gf 49 (.call 53 18 [50, 51, 52]), Gf 49 (.un 54 .not 53), Gt 43 (.pick 55 49 (kB true) 54), Pa 56 43 55, Mv 57 56, Gf 57 (.mov 58 8), Gf 57 (.un 59 .not 58), Gf 57 (.mov 60 59), Gt 60 (.fad 61 2 7), Gt 60 (.lde 62 1 false 61), Gt 60 (.lenl 63 62), Gt 60 (.bin 64 .gtr 63 (kI 0)), Gf 57 (.pick 65 60 64 (kB false)), Po 66 57 65] (Cn 66 (Rs [Mb 2 false] .ret) .skip)))) (Rg [Mv 34 6, Bc 35 .add 34 1, Mv 6 35]))
def rX : IR := Rs [Mb 2 true] .ret
def pO : IR := Rs [Mb 2 false] (Sq (Rs [Ca 9 13 [], Un 10 9] (Cn 10 (Rs [Mb 2 false] .ret) .skip)) (Sq (Rs [Mv 11 0, Ll 12 11, Bc 13 .gtr 12 120] (Cn 13 (Rs [Mb 2 true] .ret) .skip)) (Rs [Mv 15 0, Ca 16 14 [15], Ca 17 15 [16], Mv 14 17, Ex_ 18 0 14, Ex_ 19 1 14, Pp (.alr 3 1), Fz 3 1 18, Mv 4 19] (Sq (Rs [Mv 20 4, Un 21 20] (Cn 21 (Rs [Mb 2 true] .ret) .skip)) (Rs [Ld 22 1 true 3, Ca 23 16 [22], Mv 5 23] (Sq (Rs [Mv 24 5, Ll 25 24, Fa 26 0 3, Lq 27 26, Ll 28 27, Bi 29 .neq 25 28] (Cn 29 (Rs [Mb 2 false] .ret) .skip)) (Sq (Rs [Mi 6 0] (.block 0 (.loop [3, 5, 6, 1000000] 1 rW))) rX)))))))
def kK : List RV := [.t 2]
theorem acR : FnC Try.prog js [14, 15, 2000015] 0 qR Try.f3 pO kK := fnC (by kernel_rfl) Try.func3 (by kernel_rfl) (by kernel_rfl) (by decide)
def acj (R : IR → (Ex → St → Ro) → St → Ro) (again0 : St → Ro) : Ex → St → Ro := (bD again0 [3, 5, 6, 1000000] 1 (aT 0 (bv (R rX) (fin kK))))
abbrev hH : Type := (List ak × List Bool × Int × Bs × Int)
def f9 (x : hH) : St := { env := (U 3 (.ea [.sl .atype (.may false) x.1] :: .undef :: .sl .bool (.may false) x.2.1 :: .int .i64 x.2.2.1 :: (U 60 []))), hp := [some [.sl .u8 (.may false) x.2.2.2.1, .int .i64 x.2.2.2.2]] }
def oP (N : Nat) : (St → Ro) → St → Ro := fun again0 s => run js N rW (acj (run js N) again0) s
def jX (N : Nat) (again0 : hH → Ro) (x : hH) : Ro :=
 let v3_0 : List ak := x.1
 let v5 : List Bool := x.2.1
 let v6 : Int := x.2.2.1
 let o0_0 : Bs := x.2.2.2.1
 let o0_1 : Int := x.2.2.2.2
 let x4 : Int := (↑(List.length v5) : Int)
 cond (decide (v6 < x4)) (
  aF (eZ v3_0 v6) (fun r5 =>
   cond r5.2 (
    chk ((decide (0 ≤ v6) && decide (v6 < ↑(List.length v5)))) (
     let x5 : Bool := List.getD v5 (Int.toNat v6) (aC .bool)
     cond (!x5) (
      some (.bool false, [some [.sl .u8 (.may false) o0_0, .int .i64 o0_1]])) (
      aF (dl v3_0 v6 r5.1.n r5.1.s r5.1.l r5.1.keys r5.1.branch) (fun (r6 : Bool) =>
       cond (!r6) (
        some (.bool false, [some [.sl .u8 (.may false) o0_0, .int .i64 o0_1]])) (
        cond (!r5.2) (
         let x6 : Int := (↑(List.length r5.1.l) : Int)
         cond (decide (0 < x6)) (
          some (.bool false, [some [.sl .u8 (.may false) o0_0, .int .i64 o0_1]])) (
          let x7 : Int := (IntKind.wrap .i64 (v6 + 1))
          again0 (v3_0, v5, x7, o0_0, o0_1))) (
         let x8 : Int := (IntKind.wrap .i64 (v6 + 1))
         again0 (v3_0, v5, x8, o0_0, o0_1))))))) (
    cond (!r5.2) (
     let x9 : Int := (↑(List.length r5.1.l) : Int)
     cond (decide (0 < x9)) (
      some (.bool false, [some [.sl .u8 (.may false) o0_0, .int .i64 o0_1]])) (
      let x10 : Int := (IntKind.wrap .i64 (v6 + 1))
      again0 (v3_0, v5, x10, o0_0, o0_1))) (
     let x11 : Int := (IntKind.wrap .i64 (v6 + 1))
     again0 (v3_0, v5, x11, o0_0, o0_1))))) (
  some (.bool true, [some [.sl .u8 (.may false) o0_0, .int .i64 o0_1]]))
theorem aa3 (N : Nat) : ∀ (again0 : St → Ro) (x : hH), oP N again0 (f9 x) = jX N (fun y => again0 (f9 y)) x := by
 intro again0 x
 kernel_rfl
def iG (N : Nat) (p0 : Bs) (q0 : hH → Ro) : Ro :=
 aF (mP) (fun (r1 : Bool) =>
  cond (!r1) (
   some (.bool false, [])) (
   let x1 : Int := (↑(List.length p0) : Int)
   cond (decide (120 < x1)) (
    some (.bool true, [])) (
    aF (p7 p0) (fun r2 =>
     aF (iD r2.1 r2.2) (fun r3 =>
      cond (!r3.2.1) (
       some (.bool true, [some [.sl .u8 (.may false) r3.2.2.1, .int .i64 r3.2.2.2]])) (
       aF (md r3.1) (fun (r4 : List Bool) =>
        let x2 : Int := (↑(List.length r4) : Int)
        let x3 : Int := (↑(List.length r3.1) : Int)
        cond (!(x2 == x3)) (
         some (.bool false, [some [.sl .u8 (.may false) r3.2.2.1, .int .i64 r3.2.2.2]])) (
         q0 (r3.1, r4, 0, r3.2.2.1, r3.2.2.2)))))))))
def pP (N : Nat) (p0 : Bs) : Ro := iG N p0 (fun z => aW N (jX N) z)
def adK (N : Nat) : List (Nat × (St → Ro)) := ba js N pO (fin kK) ++ []
theorem ack (N : Nat) (p0 : Bs) : bb js N 67 kK pO [.sl .u8 (.may false) p0] [] = pP N p0 :=
 (bH (adK N) (by kernel_rfl) rfl (fun C => iG N p0 (fun z => C 1000000 (f9 z))) (fun C => by kernel_rfl)).trans (Eq.trans (b := iG N p0 (fun z => bi N (oP N) (f9 z))) (by kernel_rfl) (congrArg (iG N p0) (funext fun z => bj (f9) (oP N) (jX N) (aa3 N) N z)))
theorem acl (N : Nat) (p0 : Bs) (h : Tot (pP N p0) (fun z => ∃ (y0 : Bool) (rest : List aI), z.1.dimR = .bool y0 ∧ z.2 = rest ∧ nj p0 (y0))) : ∃ r, vy p0 r := by
 obtain ⟨⟨v, hp⟩, hz, y0, rest, e1, e2, hq⟩ := h
 simp only at e1 e2
 subst e2
 exact ⟨(y0), aO.dimR (acR.pure (ack N p0) hz) e1, hq⟩
end Go.Proofs.Ytdpajabhmmmjoaa
end
