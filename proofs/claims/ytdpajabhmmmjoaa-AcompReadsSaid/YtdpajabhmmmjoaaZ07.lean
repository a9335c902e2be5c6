import Derived.KernelRfl
import Derived.Test.YtdpajabhmmmjoaaChecked
import Derived.ChangeArms
import Derived.ChangeSlices
import Derived.WideShapes
import Derived.WideKeyArgs
import Derived.Test.YtdpajabhmmmjoaaZ02
import Derived.Test.YtdpajabhmmmjoaaZ03
import Derived.Test.YtdpajabhmmmjoaaZ04
import Derived.Test.YtdpajabhmmmjoaaZ05
import Derived.Test.YtdpajabhmmmjoaaZ06
noncomputable section
namespace Go.Proofs.Ytdpajabhmmmjoaa
open Go.AM
set_option autoImplicit false
set_option linter.unusedVariables false
set_option maxRecDepth 100000
noncomputable def wT:aN:=tab (P:=Try.prog) [] [iy] [] [um,aes]
def zV:IR:=Sq (Rs [Mv 10 6,Fa 11 4 3,Lo 12 11,Ll 13 12,Bi 14 .lss 10 13] (Cn 14 .skip (.exit 0))) (Sq (.block 1 (Rs [Fa 17 4 3,Lo 18 17,Mv 19 6,Ix 20 .str 18 19,Lq 21 20,Pp (.bin 22 .eql 21 (kS [102,105,101,108,100,115]))] (Cn 22 (Rg [Mv 23 6,Mv 5 23]) .skip))) (Rg [Mv 15 6,Bc 16 .add 15 1,Mv 6 16]))
def yI:IR:=Rs [Pp (.blu 24 .jnode),Fa 25 3 3,Lo 26 25,Mv 27 5,Ix 28 .jnode 26 27,Fa 29 3 28,Lo 30 29,Pp (.apu 31 .jnode (.tk 24) 30),Pp (.mov 7 (.tk 31))] (Sq (Rs [Mv 32 0,Ca 33 60 [32,kI 5]] (.block 2 (Rs [Bc 35 .eql 33 0,Mv 34 35] (Cn 34 (Rs [Pp (.bsl 36 .str [kS [110,97,109,101],kS [116,121,112,101],kS [100,101,102,97,117,108,116]] true),Ca 37 86 [kS [102,114,101,115,104]],Ca 38 86 [kS [108,111,110,103]],Pp (.bld 39 [vI 0,vI 0,vS,fu .jnode true,fu .str true] [(0,1,kI 3),(1,1,kI 5)]),Pp (.bsl 40 .jnode [37,38,39] true),Ca 41 118 [36,40],Pp (.new 8 [vI 0,vI 0,vS,nl .jnode,nl .str]),Sv 5 8 41] (Sq (Rs [Mv 42 0,Ca 43 60 [42,kI 4],Bc 44 .eql 43 0] (Cn 44 (Rg [Pp (.bsl 45 .str [kS [110,97,109,101],kS [116,121,112,101]] true),Ca 46 86 [kS [102,114,101,115,104]],Ca 47 86 [kS [108,111,110,103]],Pp (.bsl 48 .jnode [46,47] true),Ca 49 118 [45,48],Sv 5 8 49]) .skip)) (Rg [Pp (.mov 50 (.tk 7)),Pp (.ld 51 5 true false 8),Pp (.bsl 52 .jnode [51] true),Pp (.apu 53 .jnode (.tk 50) 52),Pp (.mov 7 (.tk 53))]))) (Rs [Bc 55 .eql 33 1,Mv 54 55] (Cn 54 (Rs [Mv 56 7,Pp (.lnw 57 56),Bc 58 .gtr 57 0] (Cn 58 (Rs [Mv 59 0,Mv 60 7,Pp (.lnw 61 60),Ca 62 60 [59,61],Mv 9 62] (.gh (.opn (.slot 7)) (.ghp (.cls (.slot 7)) (.reg [Mv 63 7,Mv 64 9,Pp (.slw 65 .jnode (.t 63) none (some (.t 64))),Mv 66 7,Mv 67 9,Bc 68 .add 67 1,Pp (.slw 69 .jnode (.t 66) (some (.t 68)) none),Pp (.apx 70 .jnode (.t 65) (.t 69)),Pp (.mov 7 (.tk 70))] [[],[],[0,1],[],[],[4],[3,4,5],rg 0 6,rg 0 7])))) .skip)) (Rs [Bc 72 .eql 33 2,Mv 71 72] (Cn 71 (Rs [Mv 73 7,Pp (.lnw 74 73),Bc 75 .gtr 74 1] (Cn 75 (.gh (.opn (.slot 7)) (.ghp (.cls (.slot 7)) (.reg [Mv 76 7,Mv 77 7,Mv 78 7,Pp (.ixw 79 .jnode 78 (kI 1)),Fo [3] [] (.ldw 80 5 true 79),Mv 81 7,Pp (.ixw 82 .jnode 81 (kI 0)),Fo [3] [] (.ldw 83 5 true 82),Pp (.ixw 84 .jnode 76 (kI 0)),Fo [] [3] (.stw none 5 84 80),Pp (.ixw 85 .jnode 77 (kI 1)),Fo [] [3] (.stw none 5 85 83)] [[],[],[],[2],[2,3],[],[5],[5,6],[0]++rg 2 7,[0]++rg 2 8,rg 0 9,rg 0 10]))) .skip)) .skip)))))))) (Rs [Pp (.blu 86 .jnode),Fa 87 3 3,Lo 88 87,Pp (.apu 89 .jnode (.tk 86) 88),Fa 90 3 3,Sk 1 90 89] (Sq (.gh (.fz (.slot 7)) (.gh (.opn (.cell 1 3)) (.ghp (.cls (.cell 1 3)) (Rg [Fa 91 3 3,Lo 92 91,Mv 93 5,Mv 94 7,Pp (.bld 95 [vI 0,vI 0,vS,nl .jnode,nl .str] [(0,1,kI 5),(3,1,94)]),Pp (.ixw 96 .jnode 92 93),Pp (.stw none 5 96 95)])))) (Sq (.gh (.fz (.cell 1 3)) (Rg [Pp (.ld 97 5 true false 3),Sv 5 4 97])) .ret))))
def alb:IR:=Rs [Pp (.box 3 1),Pp (.new 4 [vI 0,vI 0,vS,nl .jnode,nl .str])] (Rs [Mi 5 0] (Sq (Rs [Mi 6 0] (.block 0 (.loop [0,3,4,5,6,1000000] 3 zV))) yI))
def abw:List RV:=[.cell 4 5 true]
theorem alc:FnC Try.prog wT [60,2000060] 1 acu Try.f88 alb abw:=fnC Try.func88
def ajA(R:IR→(Ex→St→Ro)→St→Ro)(again0:St→Ro):Ex→St→Ro:=(bj again0 [0,3,4,5,6,1000000] 3 (aP 0 (bg (R yI) (fin abw))))
abbrev oq:Type:=(Int×Int×Bs×Int×Int×Int×Bs×List aD×Bss×Int×Int×Bs×List aD×Bss)
def nc(x:oq):St:={env:=(.ptr 0 0::.undef::.undef::.ptr 1 0::.ptr 2 0::.int .i64 x.1::.int .i64 x.2.1::(U 91 [])),hp:=[some [.sl .u8 (.may false) x.2.2.1,.int .i64 x.2.2.2.1],some [.int .i64 x.2.2.2.2.1,.int .i64 x.2.2.2.2.2.1,.str x.2.2.2.2.2.2.1,.sl .jnode (.may false) x.2.2.2.2.2.2.2.1,.sl .str (.may false) x.2.2.2.2.2.2.2.2.1],some [.int .i64 x.2.2.2.2.2.2.2.2.2.1,.int .i64 x.2.2.2.2.2.2.2.2.2.2.1,.str x.2.2.2.2.2.2.2.2.2.2.2.1,.sl .jnode .own x.2.2.2.2.2.2.2.2.2.2.2.2.1,.sl .str .own x.2.2.2.2.2.2.2.2.2.2.2.2.2]]}
def tG(N:Nat):(St→Ro)→St→Ro:=fun again0 s=>run wT N zV (ajA (run wT N) again0) s
def ot(N:Nat)(again0:oq→Ro)(x:oq):Ro:=
 let v5:Int:=x.1
 let v6:Int:=x.2.1
 let o0_0:Bs:=x.2.2.1
 let o0_1:Int:=x.2.2.2.1
 let o1_0:Int:=x.2.2.2.2.1
 let o1_1:Int:=x.2.2.2.2.2.1
 let o1_2:Bs:=x.2.2.2.2.2.2.1
 let o1_3:List aD:=x.2.2.2.2.2.2.2.1
 let o1_4:Bss:=x.2.2.2.2.2.2.2.2.1
 let o2_0:Int:=x.2.2.2.2.2.2.2.2.2.1
 let o2_1:Int:=x.2.2.2.2.2.2.2.2.2.2.1
 let o2_2:Bs:=x.2.2.2.2.2.2.2.2.2.2.2.1
 let o2_3:List aD:=x.2.2.2.2.2.2.2.2.2.2.2.2.1
 let o2_4:Bss:=x.2.2.2.2.2.2.2.2.2.2.2.2.2
 let x1:=(↑(List.length o1_4):Int)
 let z0:=fun g0 g1=>again0 (g0,g1,o0_0,o0_1,o1_0,o1_1,o1_2,o1_3,o1_4,o2_0,o2_1,o2_2,o2_3,o2_4)
 let z1:=fun g0 g1 g2 g3 g4 g5 g6 g7 g8 g9=>(some (.agg [.int .i64 o1_0,.int .i64 o1_1,.str o1_2,.sl .jnode (.may false) g0,.sl .str (.may false) o1_4],[some [.sl .u8 (.may false) g1,.int .i64 g2],some [.int .i64 o1_0,.int .i64 o1_1,.str o1_2,.sl .jnode .own g0,.sl .str (.may false) o1_4],some [.int .i64 o1_0,.int .i64 o1_1,.str o1_2,.sl .jnode (.may false) g0,.sl .str (.may false) o1_4],some [.int .i64 g3,.int .i64 g4,.str g5,.sl .jnode (.may g6) g7,.sl .str (.may g8) g9],none,none]):Ro)
 let z2:=fun g0 g1=>(some (.agg [.int .i64 o1_0,.int .i64 o1_1,.str o1_2,.sl .jnode (.may false) g0,.sl .str (.may false) o1_4],g1):Ro)
 cond (decide (v6<x1)) (
  chk (ixl v6 o1_4) (
   let x2:=List.getD o1_4 (Int.toNat v6) (aB .str)
   let x3:=decide (x2=([102,105,101,108,100,115]:Bs))
   cond x3 (
    let x4:=(IntKind.wrap .i64 (v6+1))
    z0 v6 x4) (
    let x5:=(IntKind.wrap .i64 (v6+1))
    z0 v5 x5))) (
  chk (ixl v5 o1_3) (
   let x6:=(List.getD o1_3 (Int.toNat v5) (aB .jnode))
   chk (decide ((List.length ([]:List aD)+List.length x6.l)*80≤140737488355328)) (
    let x7:=(([]:List aD)++x6.l)
    aG (aQ o0_0 o0_1 5) (fun r1=>
     cond (r1.1==0) (
      aG (bk ([102,114,101,115,104]:Bs)) (fun r2=>
       aG (bk ([108,111,110,103]:Bs)) (fun r3=>
        aG (eC true ([([110,97,109,101]:Bs),([116,121,112,101]:Bs),([100,101,102,97,117,108,116]:Bs)]:Bss) true ([⟨r2.1,r2.2.1,r2.2.2.1,r2.2.2.2.1,r2.2.2.2.2⟩,⟨r3.1,r3.2.1,r3.2.2.1,r3.2.2.2.1,r3.2.2.2.2⟩,⟨3,5,([]:Bs),([]:List aD),([]:Bss)⟩]:List aD)) (fun r4=>
         aG (aQ r1.2.1 r1.2.2 4) (fun r5=>
          cond (r5.1==0) (
           aG (bk ([102,114,101,115,104]:Bs)) (fun r6=>
            aG (bk ([108,111,110,103]:Bs)) (fun r7=>
             aG (eC true ([([110,97,109,101]:Bs),([116,121,112,101]:Bs)]:Bss) true ([⟨r6.1,r6.2.1,r6.2.2.1,r6.2.2.2.1,r6.2.2.2.2⟩,⟨r7.1,r7.2.1,r7.2.2.1,r7.2.2.2.1,r7.2.2.2.2⟩]:List aD)) (fun r8=>
              chk (decide ((List.length x7+List.length ([⟨r8.1,r8.2.1,r8.2.2.1,r8.2.2.2.2.1,r8.2.2.2.2.2.2⟩]:List aD))*80≤140737488355328)) (
               let x8:=(x7++([⟨r8.1,r8.2.1,r8.2.2.1,r8.2.2.2.2.1,r8.2.2.2.2.2.2⟩]:List aD))
               chk (decide ((List.length ([]:List aD)+List.length o1_3)*80≤140737488355328)) (
                let x9:=(([]:List aD)++o1_3)
                chk (decide (0<List.length x9)) (
                 chk ((decide (0≤v5)&&decide (v5<↑(List.length x9)))) (
                  chk (decide ((Int.toNat v5)<List.length x9)) (
                   let x10:=(List.set x9 (Int.toNat v5) ⟨5,0,([]:Bs),x8,([]:Bss)⟩)
                   chk (Nat.beq (List.length x9) (List.length x10)) (
                    z1 x10 r5.2.1 r5.2.2 r8.1 r8.2.1 r8.2.2.1 r8.2.2.2.1 r8.2.2.2.2.1 r8.2.2.2.2.2.1 r8.2.2.2.2.2.2)))))))))) (
           chk (decide ((List.length x7+List.length ([⟨r4.1,r4.2.1,r4.2.2.1,r4.2.2.2.2.1,r4.2.2.2.2.2.2⟩]:List aD))*80≤140737488355328)) (
            let x11:=(x7++([⟨r4.1,r4.2.1,r4.2.2.1,r4.2.2.2.2.1,r4.2.2.2.2.2.2⟩]:List aD))
            chk (decide ((List.length ([]:List aD)+List.length o1_3)*80≤140737488355328)) (
             let x12:=(([]:List aD)++o1_3)
             chk (decide (0<List.length x12)) (
              chk ((decide (0≤v5)&&decide (v5<↑(List.length x12)))) (
               chk (decide ((Int.toNat v5)<List.length x12)) (
                let x13:=(List.set x12 (Int.toNat v5) ⟨5,0,([]:Bs),x11,([]:Bss)⟩)
                chk (Nat.beq (List.length x12) (List.length x13)) (
                 z1 x13 r5.2.1 r5.2.2 r4.1 r4.2.1 r4.2.2.1 r4.2.2.2.1 r4.2.2.2.2.1 r4.2.2.2.2.2.1 r4.2.2.2.2.2.2)))))))))))) (
      cond (r1.1==1) (
       let x14:=(↑(List.length x7):Int)
       cond (decide (0<x14)) (
        let x15:=(↑(List.length x7):Int)
        aG (aQ r1.2.1 r1.2.2 x15) (fun r9=>
         chk (decide (0<List.length x7)) (
          chk ((decide (0≤r9.1)&&decide (r9.1≤(↑(List.length x7):Int)))) (
           let x16:=(IntKind.wrap .i64 (r9.1+1))
           chk ((decide (0≤x16)&&decide (x16≤(↑(List.length x7):Int)))) (
            chk ((decide ((Int.toNat r9.1)≤(Int.toNat x16))&&decide ((Int.toNat x16)+((List.length x7)-(Int.toNat x16))≤List.length x7))) (
             let x17:=((Int.toNat r9.1)+((List.length x7)-(Int.toNat x16)))
             let x18:=((List.take (Int.toNat r9.1) x7)++(List.take ((List.length x7)-(Int.toNat x16)) (List.drop (Int.toNat x16) x7)))
             chk (Nat.beq x17 (List.length x18)) (
              chk (decide ((List.length ([]:List aD)+List.length o1_3)*80≤140737488355328)) (
               let x19:=(([]:List aD)++o1_3)
               chk (decide (0<List.length x19)) (
                chk ((decide (0≤v5)&&decide (v5<↑(List.length x19)))) (
                 chk (decide ((Int.toNat v5)<List.length x19)) (
                  let x20:=(List.set x19 (Int.toNat v5) ⟨5,0,([]:Bs),x18,([]:Bss)⟩)
                  chk (Nat.beq (List.length x19) (List.length x20)) (
                   z2 x20 [some [.sl .u8 (.may false) r9.2.1,.int .i64 r9.2.2],some [.int .i64 o1_0,.int .i64 o1_1,.str o1_2,.sl .jnode .own x20,.sl .str (.may false) o1_4],some [.int .i64 o1_0,.int .i64 o1_1,.str o1_2,.sl .jnode (.may false) x20,.sl .str (.may false) o1_4],none,none,none,none])))))))))))) (
        chk (decide ((List.length ([]:List aD)+List.length o1_3)*80≤140737488355328)) (
         let x21:=(([]:List aD)++o1_3)
         chk (decide (0<List.length x21)) (
          chk ((decide (0≤v5)&&decide (v5<↑(List.length x21)))) (
           chk (decide ((Int.toNat v5)<List.length x21)) (
            let x22:=(List.set x21 (Int.toNat v5) ⟨5,0,([]:Bs),x7,([]:Bss)⟩)
            chk (Nat.beq (List.length x21) (List.length x22)) (
             z2 x22 [some [.sl .u8 (.may false) r1.2.1,.int .i64 r1.2.2],some [.int .i64 o1_0,.int .i64 o1_1,.str o1_2,.sl .jnode .own x22,.sl .str (.may false) o1_4],some [.int .i64 o1_0,.int .i64 o1_1,.str o1_2,.sl .jnode (.may false) x22,.sl .str (.may false) o1_4],none,none]))))))) (
       cond (r1.1==2) (
        let x23:=(↑(List.length x7):Int)
        cond (decide (1<x23)) (
         chk (decide (0<List.length x7)) (
          chk (decide ((1:Int)<↑(List.length x7))) (
           chk (decide ((Int.toNat 1)<List.length x7)) (
            let x24:=(List.getD x7 (Int.toNat 1) (aB .jnode))
            chk (decide ((0:Int)<↑(List.length x7))) (
             chk (decide ((Int.toNat 0)<List.length x7)) (
              let x25:=(List.getD x7 (Int.toNat 0) (aB .jnode))
              chk (decide ((0:Int)<↑(List.length x7))) (
               chk (decide ((Int.toNat 0)<List.length x7)) (
                let x26:=(List.set x7 (Int.toNat 0) (reJ x24))
                chk (decide ((1:Int)<↑(List.length x7))) (
                 chk (decide ((Int.toNat 1)<List.length x26)) (
                  let x27:=(List.set x26 (Int.toNat 1) (reJ x25))
                  chk (Nat.beq (List.length x7) (List.length x27)) (
                   chk (decide ((List.length ([]:List aD)+List.length o1_3)*80≤140737488355328)) (
                    let x28:=(([]:List aD)++o1_3)
                    chk (decide (0<List.length x28)) (
                     chk ((decide (0≤v5)&&decide (v5<↑(List.length x28)))) (
                      chk (decide ((Int.toNat v5)<List.length x28)) (
                       let x29:=(List.set x28 (Int.toNat v5) ⟨5,0,([]:Bs),x27,([]:Bss)⟩)
                       chk (Nat.beq (List.length x28) (List.length x29)) (
                        z2 x29 [some [.sl .u8 (.may false) r1.2.1,.int .i64 r1.2.2],some [.int .i64 o1_0,.int .i64 o1_1,.str o1_2,.sl .jnode .own x29,.sl .str (.may false) o1_4],some [.int .i64 o1_0,.int .i64 o1_1,.str o1_2,.sl .jnode (.may false) x29,.sl .str (.may false) o1_4],none,none,none,none])))))))))))))))) (
         chk (decide ((List.length ([]:List aD)+List.length o1_3)*80≤140737488355328)) (
          let x30:=(([]:List aD)++o1_3)
          chk (decide (0<List.length x30)) (
           chk ((decide (0≤v5)&&decide (v5<↑(List.length x30)))) (
            chk (decide ((Int.toNat v5)<List.length x30)) (
             let x31:=(List.set x30 (Int.toNat v5) ⟨5,0,([]:Bs),x7,([]:Bss)⟩)
             chk (Nat.beq (List.length x30) (List.length x31)) (
              z2 x31 [some [.sl .u8 (.may false) r1.2.1,.int .i64 r1.2.2],some [.int .i64 o1_0,.int .i64 o1_1,.str o1_2,.sl .jnode .own x31,.sl .str (.may false) o1_4],some [.int .i64 o1_0,.int .i64 o1_1,.str o1_2,.sl .jnode (.may false) x31,.sl .str (.may false) o1_4],none,none]))))))) (
        chk (decide ((List.length ([]:List aD)+List.length o1_3)*80≤140737488355328)) (
         let x32:=(([]:List aD)++o1_3)
         chk (decide (0<List.length x32)) (
          chk ((decide (0≤v5)&&decide (v5<↑(List.length x32)))) (
           chk (decide ((Int.toNat v5)<List.length x32)) (
            let x33:=(List.set x32 (Int.toNat v5) ⟨5,0,([]:Bs),x7,([]:Bss)⟩)
            chk (Nat.beq (List.length x32) (List.length x33)) (
             z2 x33 [some [.sl .u8 (.may false) r1.2.1,.int .i64 r1.2.2],some [.int .i64 o1_0,.int .i64 o1_1,.str o1_2,.sl .jnode .own x33,.sl .str (.may false) o1_4],some [.int .i64 o1_0,.int .i64 o1_1,.str o1_2,.sl .jnode (.may false) x33,.sl .str (.may false) o1_4],none,none]))))))))))))
theorem aiA(N:Nat):LB (tG N) nc (ot N):=fun _ _=>by kernel_rfl
def la(N:Nat)(o0_0:Bs)(o0_1:Int)(p1:aD)(q0:oq→Ro):Ro:=
 q0 (0,0,o0_0,o0_1,p1.kind,p1.n,p1.s,p1.l,p1.names,0,0,([]:Bs),([]:List aD),([]:Bss))
def abx(N:Nat)(o0_0:Bs)(o0_1:Int)(p1:aD):Ro:=la N o0_0 o0_1 p1 (fun z=>aR N (ot N) z)
theorem ajB(N:Nat)(o0_0:Bs)(o0_1:Int)(p1:aD)(h:Tot (abx N o0_0 o0_1 p1) (fun z=>∃(y0:aD)(y1:Bs)(y2:Int)(rest:List aK),z.1.dimR=.agg (enc .jnode y0)∧z.2=some [.sl .u8 (.may false) y1,.int .i64 y2]::rest∧rC o0_0 o0_1 p1 (y0,y1,y2))):∃r,mf o0_0 o0_1 p1 r:=FnC.finO (css:=[[.sl .u8 (.may false) o0_0,.int .i64 o0_1]]) alc (N:=N) ((bo _ (by kernel_rfl) rfl (fun C=>la N o0_0 o0_1 p1 (fun z=>C 1000000 (nc z))) (fun C=>by kernel_rfl)).trans (Eq.trans (b:=la N o0_0 o0_1 p1 (fun z=>aX N (tG N) (nc z))) (by kernel_rfl) (congrArg (la N o0_0 o0_1 p1) (funext fun z=>aW (nc) (tG N) (ot N) (aiA N) N z)))) h fun _ ⟨y0,y1,y2,_,e,f,q⟩=>⟨(y0,y1,y2),e,⟨_,f⟩,q⟩
noncomputable def wU:aN:=tab (P:=Try.prog) [] [iy,acv,al9] [] [um,aqb]
def yJ:IR:=Sq (Rs [Mv 54 6,Fa 55 3 3,Lq 56 55,Ll 57 56,Bi 58 .lss 54 57] (Cn 58 .skip (.exit 1))) (Sq (.block 2 (Rs [Fa 61 0 3,Lq 62 61,Bc 63 .eql 62 6,Mv 64 63,Gt 64 (.fad 65 4 3),Gt 64 (.lde 66 1 false 65),Gt 64 (.mov 67 6),Gt 64 (.ixa 68 .str 66 67),Gt 64 (.lde 69 1 false 68),Gt 64 (.bin 70 .eql 69 (kS [110,97,109,101])),Gt 64 (.mov 71 70),Gf 71 (.fad 72 4 3),Gf 71 (.lde 73 1 false 72),Gf 71 (.mov 74 6),Gf 71 (.ixa 75 .str 73 74),Gf 71 (.lde 76 1 false 75),Gf 71 (.bin 77 .eql 76 (kS [110,97,109,101,115,112,97,99,101])),Gt 64 (.pick 78 71 (kB true) 77),Gt 64 (.mov 79 78),Gf 79 (.fad 80 4 3),Gf 79 (.lde 81 1 false 80),Gf 79 (.mov 82 6),Gf 79 (.ixa 83 .str 81 82),Gf 79 (.lde 84 1 false 83),Gf 79 (.bin 85 .eql 84 (kS [116,121,112,101])),Gf 79 (.mov 86 85),Gt 86 (.fad 87 3 3),Gt 86 (.lde 88 1 false 87),Gt 86 (.mov 89 6),Gt 86 (.ixa 90 .jnode 88 89),Gt 86 (.fad 91 0 90),Gt 86 (.ld 92 1 false false 91),Gt 86 (.bin 93 .eql 92 (kI 4)),Gf 79 (.pick 94 86 93 (kB false)),Gf 79 (.mov 95 94),Gt 95 (.fad 96 3 3),Gt 95 (.lde 97 1 false 96),Gt 95 (.lenl 98 97),Gt 95 (.bin 99 .gtr 98 (kI 2)),Gf 79 (.pick 100 95 99 (kB false)),Gt 64 (.pick 101 79 (kB true) 100),Gt 64 (.mov 102 101),Gf 102 (.fad 103 4 3),Gf 102 (.lde 104 1 false 103),Gf 102 (.mov 105 6),Gf 102 (.ixa 106 .str 104 105),Gf 102 (.lde 107 1 false 106),Gf 102 (.bin 108 .eql 107 (kS [115,121,109,98,111,108,115])),Gt 64 (.pick 109 102 (kB true) 108),Gt 64 (.mov 110 109),Gf 110 (.fad 111 4 3),Gf 110 (.lde 112 1 false 111),Gf 110 (.mov 113 6),Gf 110 (.ixa 114 .str 112 113),Gf 110 (.lde 115 1 false 114),Gf 110 (.bin 116 .eql 115 (kS [100,101,102,97,117,108,116])),Gt 64 (.pick 117 110 (kB true) 116),Gt 64 (.mov 118 117),Gf 118 (.fad 119 4 3),Gf 118 (.lde 120 1 false 119),Gf 118 (.mov 121 6),Gf 118 (.ixa 122 .str 120 121),Gf 118 (.lde 123 1 false 122),Gf 118 (.bin 124 .eql 123 (kS [115,105,122,101])),Gt 64 (.pick 125 118 (kB true) 124),Pa 126 64 125,Mv 7 126] (Rs [Mv 127 7] (Cn 127 (.reg [Fa 128 3 5,Fo [] [2] (.ld 129 1 false true 128),Fa 130 3 3,Lq 131 130,Mv 132 6,Ix 133 .jnode 131 132,Ld 134 5 true 133,Pp (.bsl 135 .jnode [134] true),Pp (.app 136 .jnode (.tk 129) 135),Fa 137 3 5,Fo [] [2] (.st none 1 137 (.tk 136))] [[],[0],[],[2],[],[2,3,4],rg 2 5,rg 2 6,rg 0 7,rg 0 8,rg 0 9]) (.reg [Fa 138 3 5,Fo [] [2] (.ld 139 1 false true 138),Mv 140 0,Fa 141 3 3,Lq 142 141,Mv 143 6,Ix 144 .jnode 142 143,Ld 145 5 true 144,Fo [] [0] (.call 146 62 [140,145]),Pp (.bsl 147 .jnode [146] true),Pp (.app 148 .jnode (.tk 139) 147),Fa 149 3 5,Fo [] [2] (.st none 1 149 (.tk 148))] [[],[0],[],[],[3],[],[3,4,5],rg 3 6,rg 2 7,rg 2 8,rg 0 9,rg 0 10,rg 0 11]))))) (Rg [Mv 59 6,Bc 60 .add 59 1,Mv 6 60]))
def yK:IR:=Rs [Ld 151 5 true 3,Ca 152 87 [151,kS [102,105,101,108,100,115]],Mv 150 152,Ex_ 153 0 150,Ex_ 154 1 150,Pp (.alr 8 5),Fz 8 5 153,Mv 9 154] (Sq (Rs [Mv 155 9] (Cn 155 (Rg [Mv 156 0,Pp (.ld 157 5 true false 5),Ca 158 88 [156,157],Sv 5 5 158]) .skip)) (Rs [Pp (.ld 159 5 true false 5),Sv 5 4 159] .ret))
def ald:IR:=Rs [Bx 3 1,Pp (.new 4 [vI 0,vI 0,vS,nl .jnode,nl .str])] (Sq (Rs [Fa 10 0 3,Lq 11 10,Bc 12 .eql 11 4] (Cn 12 (Sq (Rs [Mv 13 0,Ca 14 60 [13,kI 6],Bc 15 .gtr 14 0] (Cn 15 (Rs [Ld 16 5 true 3,Sv 5 4 16] .ret) .skip)) (Sq (Rs [Fa 17 2 3,Lq 18 17] (.block 0 (Rs [Pp (.bin 20 .eql 18 (kS [105,110,116])),Mv 19 20] (Cn 19 (Rs [Pp (.bsl 21 .str [kS [108,111,110,103],kS [102,108,111,97,116],kS [100,111,117,98,108,101],kS [105,110,116],kS [115,116,114,105,110,103]] true),Mv 22 0,Ca 23 60 [22,kI 5],Ix 24 .str 21 23,Lq 25 24,Ca 26 86 [25],Sv 5 4 26] .ret) (Rs [Pp (.bin 28 .eql 18 (kS [108,111,110,103])),Mv 27 28] (Cn 27 (Rs [Pp (.bsl 29 .str [kS [102,108,111,97,116],kS [100,111,117,98,108,101],kS [105,110,116]] true),Mv 30 0,Ca 31 60 [30,kI 3],Ix 32 .str 29 31,Lq 33 32,Ca 34 86 [33],Sv 5 4 34] .ret) (Rs [Pp (.bin 36 .eql 18 (kS [102,108,111,97,116])),Mv 35 36] (Cn 35 (Rs [Ca 37 86 [kS [100,111,117,98,108,101]],Sv 5 4 37] .ret) (Rs [Pp (.bin 39 .eql 18 (kS [115,116,114,105,110,103])),Mv 38 39] (Cn 38 (Rs [Pp (.bsl 40 .str [kS [98,121,116,101,115],kS [115,116,114,105,110,103],kS [105,110,116]] true),Mv 41 0,Ca 42 60 [41,kI 3],Ix 43 .str 40 42,Lq 44 43,Ca 45 86 [44],Sv 5 4 45] .ret) .skip)))))))))) (Rs [Ld 46 5 true 3,Sv 5 4 46] .ret))) .skip)) (Rs [Ld 47 5 true 3,Pp (.new 5 [vI 0,vI 0,vS,nl .jnode,nl .str]),Sv 5 5 47] (Rs [Pp (.bsl 48 .str [] false),Fa 49 4 3,Lq 50 49,Pp (.app 51 .str (.tk 48) 50),Fa 52 3 5,Pp (.st none 1 52 (.c (nl .jnode))),Fa 53 4 5,Sk 1 53 51] (Sq (Rs [Mi 6 0] (.block 1 (.loop [0,3,4,5,6,1000000] 3 yJ))) yK))))
def aby:List RV:=[.cell 4 5 true]
theorem ale:FnC Try.prog wU [60,62,88,2000060,2000062,2000088] 1 acs Try.f62 ald aby:=fnC Try.func62
def ajC(R:IR→(Ex→St→Ro)→St→Ro)(again0:St→Ro):Ex→St→Ro:=(bj again0 [0,3,4,5,6,1000000] 3 (aP 1 (bg (R yK) (fin aby))))
abbrev ou:Type:=(aD×Int×Bs×Int×Int×Int×Bs×List aD×Bss×Int×Int×Bs×List aD×Bss)
def nd(x:ou):St:={env:=(.ptr 0 0::.undef::.undef::.ea (enc .jnode x.1)::.ptr 1 0::.ptr 2 0::.int .i64 x.2.1::(U 153 [])),hp:=[some [.sl .u8 (.may false) x.2.2.1,.int .i64 x.2.2.2.1],some [.int .i64 x.2.2.2.2.1,.int .i64 x.2.2.2.2.2.1,.str x.2.2.2.2.2.2.1,.sl .jnode .own x.2.2.2.2.2.2.2.1,.sl .str .own x.2.2.2.2.2.2.2.2.1],some [.int .i64 x.2.2.2.2.2.2.2.2.2.1,.int .i64 x.2.2.2.2.2.2.2.2.2.2.1,.str x.2.2.2.2.2.2.2.2.2.2.2.1,.sl .jnode .own x.2.2.2.2.2.2.2.2.2.2.2.2.1,.sl .str .own x.2.2.2.2.2.2.2.2.2.2.2.2.2]]}
def tH(N:Nat):(St→Ro)→St→Ro:=fun again0 s=>run wU N yJ (ajC (run wU N) again0) s
def oz(N:Nat)(again0:ou→Ro)(x:ou):Ro:=
 let v3:aD:=x.1
 let v6:Int:=x.2.1
 let o0_0:Bs:=x.2.2.1
 let o0_1:Int:=x.2.2.2.1
 let o1_0:Int:=x.2.2.2.2.1
 let o1_1:Int:=x.2.2.2.2.2.1
 let o1_2:Bs:=x.2.2.2.2.2.2.1
 let o1_3:List aD:=x.2.2.2.2.2.2.2.1
 let o1_4:Bss:=x.2.2.2.2.2.2.2.2.1
 let o2_0:Int:=x.2.2.2.2.2.2.2.2.2.1
 let o2_1:Int:=x.2.2.2.2.2.2.2.2.2.2.1
 let o2_2:Bs:=x.2.2.2.2.2.2.2.2.2.2.2.1
 let o2_3:List aD:=x.2.2.2.2.2.2.2.2.2.2.2.2.1
 let o2_4:Bss:=x.2.2.2.2.2.2.2.2.2.2.2.2.2
 let x9:=(↑(List.length v3.l):Int)
 let z0:=fun g0 g1 g2 g3=>again0 (v3,g0,g1,g2,o1_0,o1_1,o1_2,o1_3,o1_4,o2_0,o2_1,o2_2,g3,o2_4)
 let z1:=fun g0 g1 g2 g3 g4 g5 g6 g7 g8=>(some (.agg [.int .i64 g0,.int .i64 g1,.str g2,.sl .jnode (.may false) g3,.sl .str (.may false) g4],[some [.sl .u8 (.may false) g5,.int .i64 g6],some [.int .i64 g0,.int .i64 g1,.str g2,.sl .jnode (.may false) g3,.sl .str (.may false) g4],some [.int .i64 g0,.int .i64 g1,.str g2,g7,g8]]):Ro)
 cond (decide (v6<x9)) (
  cond (v3.kind==6) (
   chk (ixl v6 v3.names) (
    let x10:=List.getD v3.names (Int.toNat v6) (aB .str)
    let x11:=decide (x10=([110,97,109,101]:Bs))
    cond x11 (
     chk (ixl v6 v3.l) (
      let x12:=(List.getD v3.l (Int.toNat v6) (aB .jnode))
      chk (decide ((List.length o2_3+List.length ([(reJ x12)]:List aD))*80≤140737488355328)) (
       let x13:=(o2_3++([(reJ x12)]:List aD))
       let x14:=(IntKind.wrap .i64 (v6+1))
       z0 x14 o0_0 o0_1 x13))) (
     chk (ixl v6 v3.names) (
      let x15:=List.getD v3.names (Int.toNat v6) (aB .str)
      let x16:=decide (x15=([110,97,109,101,115,112,97,99,101]:Bs))
      cond x16 (
       chk (ixl v6 v3.l) (
        let x17:=(List.getD v3.l (Int.toNat v6) (aB .jnode))
        chk (decide ((List.length o2_3+List.length ([(reJ x17)]:List aD))*80≤140737488355328)) (
         let x18:=(o2_3++([(reJ x17)]:List aD))
         let x19:=(IntKind.wrap .i64 (v6+1))
         z0 x19 o0_0 o0_1 x18))) (
       chk (ixl v6 v3.names) (
        let x20:=List.getD v3.names (Int.toNat v6) (aB .str)
        let x21:=decide (x20=([116,121,112,101]:Bs))
        cond x21 (
         chk (ixl v6 v3.l) (
          let x22:=(List.getD v3.l (Int.toNat v6) (aB .jnode))
          cond (x22.kind==4) (
           let x23:=(↑(List.length v3.l):Int)
           cond (decide (2<x23)) (
            chk (ixl v6 v3.l) (
             let x24:=(List.getD v3.l (Int.toNat v6) (aB .jnode))
             chk (decide ((List.length o2_3+List.length ([(reJ x24)]:List aD))*80≤140737488355328)) (
              let x25:=(o2_3++([(reJ x24)]:List aD))
              let x26:=(IntKind.wrap .i64 (v6+1))
              z0 x26 o0_0 o0_1 x25))) (
            chk (ixl v6 v3.names) (
             let x27:=List.getD v3.names (Int.toNat v6) (aB .str)
             let x28:=decide (x27=([115,121,109,98,111,108,115]:Bs))
             cond x28 (
              chk (ixl v6 v3.l) (
               let x29:=(List.getD v3.l (Int.toNat v6) (aB .jnode))
               chk (decide ((List.length o2_3+List.length ([(reJ x29)]:List aD))*80≤140737488355328)) (
                let x30:=(o2_3++([(reJ x29)]:List aD))
                let x31:=(IntKind.wrap .i64 (v6+1))
                z0 x31 o0_0 o0_1 x30))) (
              chk (ixl v6 v3.names) (
               let x32:=List.getD v3.names (Int.toNat v6) (aB .str)
               let x33:=decide (x32=([100,101,102,97,117,108,116]:Bs))
               cond x33 (
                chk (ixl v6 v3.l) (
                 let x34:=(List.getD v3.l (Int.toNat v6) (aB .jnode))
                 chk (decide ((List.length o2_3+List.length ([(reJ x34)]:List aD))*80≤140737488355328)) (
                  let x35:=(o2_3++([(reJ x34)]:List aD))
                  let x36:=(IntKind.wrap .i64 (v6+1))
                  z0 x36 o0_0 o0_1 x35))) (
                chk (ixl v6 v3.names) (
                 let x37:=List.getD v3.names (Int.toNat v6) (aB .str)
                 let x38:=decide (x37=([115,105,122,101]:Bs))
                 cond x38 (
                  chk (ixl v6 v3.l) (
                   let x39:=(List.getD v3.l (Int.toNat v6) (aB .jnode))
                   chk (decide ((List.length o2_3+List.length ([(reJ x39)]:List aD))*80≤140737488355328)) (
                    let x40:=(o2_3++([(reJ x39)]:List aD))
                    let x41:=(IntKind.wrap .i64 (v6+1))
                    z0 x41 o0_0 o0_1 x40))) (
                  chk (ixl v6 v3.l) (
                   let x42:=(List.getD v3.l (Int.toNat v6) (aB .jnode))
                   aG (dB o0_0 o0_1 (reJ x42)) (fun r9=>
                    chk (decide ((List.length o2_3+List.length ([(reJ r9.1)]:List aD))*80≤140737488355328)) (
                     let x43:=(o2_3++([(reJ r9.1)]:List aD))
                     let x44:=(IntKind.wrap .i64 (v6+1))
                     z0 x44 r9.2.1 r9.2.2 x43))))))))))) (
           chk (ixl v6 v3.names) (
            let x45:=List.getD v3.names (Int.toNat v6) (aB .str)
            let x46:=decide (x45=([115,121,109,98,111,108,115]:Bs))
            cond x46 (
             chk (ixl v6 v3.l) (
              let x47:=(List.getD v3.l (Int.toNat v6) (aB .jnode))
              chk (decide ((List.length o2_3+List.length ([(reJ x47)]:List aD))*80≤140737488355328)) (
               let x48:=(o2_3++([(reJ x47)]:List aD))
               let x49:=(IntKind.wrap .i64 (v6+1))
               z0 x49 o0_0 o0_1 x48))) (
             chk (ixl v6 v3.names) (
              let x50:=List.getD v3.names (Int.toNat v6) (aB .str)
              let x51:=decide (x50=([100,101,102,97,117,108,116]:Bs))
              cond x51 (
               chk (ixl v6 v3.l) (
                let x52:=(List.getD v3.l (Int.toNat v6) (aB .jnode))
                chk (decide ((List.length o2_3+List.length ([(reJ x52)]:List aD))*80≤140737488355328)) (
                 let x53:=(o2_3++([(reJ x52)]:List aD))
                 let x54:=(IntKind.wrap .i64 (v6+1))
                 z0 x54 o0_0 o0_1 x53))) (
               chk (ixl v6 v3.names) (
                let x55:=List.getD v3.names (Int.toNat v6) (aB .str)
                let x56:=decide (x55=([115,105,122,101]:Bs))
                cond x56 (
                 chk (ixl v6 v3.l) (
                  let x57:=(List.getD v3.l (Int.toNat v6) (aB .jnode))
                  chk (decide ((List.length o2_3+List.length ([(reJ x57)]:List aD))*80≤140737488355328)) (
                   let x58:=(o2_3++([(reJ x57)]:List aD))
                   let x59:=(IntKind.wrap .i64 (v6+1))
                   z0 x59 o0_0 o0_1 x58))) (
                 chk (ixl v6 v3.l) (
                  let x60:=(List.getD v3.l (Int.toNat v6) (aB .jnode))
                  aG (dB o0_0 o0_1 (reJ x60)) (fun r10=>
                   chk (decide ((List.length o2_3+List.length ([(reJ r10.1)]:List aD))*80≤140737488355328)) (
                    let x61:=(o2_3++([(reJ r10.1)]:List aD))
                    let x62:=(IntKind.wrap .i64 (v6+1))
                    z0 x62 r10.2.1 r10.2.2 x61)))))))))))) (
         chk (ixl v6 v3.names) (
          let x63:=List.getD v3.names (Int.toNat v6) (aB .str)
          let x64:=decide (x63=([115,121,109,98,111,108,115]:Bs))
          cond x64 (
           chk (ixl v6 v3.l) (
            let x65:=(List.getD v3.l (Int.toNat v6) (aB .jnode))
            chk (decide ((List.length o2_3+List.length ([(reJ x65)]:List aD))*80≤140737488355328)) (
             let x66:=(o2_3++([(reJ x65)]:List aD))
             let x67:=(IntKind.wrap .i64 (v6+1))
             z0 x67 o0_0 o0_1 x66))) (
           chk (ixl v6 v3.names) (
            let x68:=List.getD v3.names (Int.toNat v6) (aB .str)
            let x69:=decide (x68=([100,101,102,97,117,108,116]:Bs))
            cond x69 (
             chk (ixl v6 v3.l) (
              let x70:=(List.getD v3.l (Int.toNat v6) (aB .jnode))
              chk (decide ((List.length o2_3+List.length ([(reJ x70)]:List aD))*80≤140737488355328)) (
               let x71:=(o2_3++([(reJ x70)]:List aD))
               let x72:=(IntKind.wrap .i64 (v6+1))
               z0 x72 o0_0 o0_1 x71))) (
             chk (ixl v6 v3.names) (
              let x73:=List.getD v3.names (Int.toNat v6) (aB .str)
              let x74:=decide (x73=([115,105,122,101]:Bs))
              cond x74 (
               chk (ixl v6 v3.l) (
                let x75:=(List.getD v3.l (Int.toNat v6) (aB .jnode))
                chk (decide ((List.length o2_3+List.length ([(reJ x75)]:List aD))*80≤140737488355328)) (
                 let x76:=(o2_3++([(reJ x75)]:List aD))
                 let x77:=(IntKind.wrap .i64 (v6+1))
                 z0 x77 o0_0 o0_1 x76))) (
               chk (ixl v6 v3.l) (
                let x78:=(List.getD v3.l (Int.toNat v6) (aB .jnode))
                aG (dB o0_0 o0_1 (reJ x78)) (fun r11=>
                 chk (decide ((List.length o2_3+List.length ([(reJ r11.1)]:List aD))*80≤140737488355328)) (
                  let x79:=(o2_3++([(reJ r11.1)]:List aD))
                  let x80:=(IntKind.wrap .i64 (v6+1))
                  z0 x80 r11.2.1 r11.2.2 x79)))))))))))))))) (
   chk (ixl v6 v3.l) (
    let x81:=(List.getD v3.l (Int.toNat v6) (aB .jnode))
    aG (dB o0_0 o0_1 (reJ x81)) (fun r12=>
     chk (decide ((List.length o2_3+List.length ([(reJ r12.1)]:List aD))*80≤140737488355328)) (
      let x82:=(o2_3++([(reJ r12.1)]:List aD))
      let x83:=(IntKind.wrap .i64 (v6+1))
      z0 x83 r12.2.1 r12.2.2 x82))))) (
  aG (sK v3.kind v3.n v3.s v3.l v3.names ([102,105,101,108,100,115]:Bs)) (fun r13=>
   cond r13.2.2.2.2.2 (
    aG (mf o0_0 o0_1 ⟨o2_0,o2_1,o2_2,o2_3,o2_4⟩) (fun r14=>
     z1 r14.1.kind r14.1.n r14.1.s r14.1.l r14.1.names r14.2.1 r14.2.2 (.sl .jnode (.may false) r14.1.l) (.sl .str (.may false) r14.1.names))) (
    z1 o2_0 o2_1 o2_2 o2_3 o2_4 o0_0 o0_1 (.sl .jnode .own o2_3) (.sl .str .own o2_4))))
theorem aiB(N:Nat):LB (tH N) nd (oz N):=fun _ _=>by kernel_rfl
def lb(N:Nat)(o0_0:Bs)(o0_1:Int)(p1:aD)(q0:ou→Ro):Ro:=
 let z0:=fun g0 g1 g2 g3 g4 g5 g6=>(some (.agg [.int .i64 g0,.int .i64 g1,.str g2,.sl .jnode (.may false) g3,.sl .str (.may false) g4],[some [.sl .u8 (.may false) g5,.int .i64 g6],some [.int .i64 g0,.int .i64 g1,.str g2,.sl .jnode (.may false) g3,.sl .str (.may false) g4]]):Ro)
 cond (p1.kind==4) (
  aG (aQ o0_0 o0_1 6) (fun r1=>
   cond (decide (0<r1.1)) (
    z0 p1.kind p1.n p1.s p1.l p1.names r1.2.1 r1.2.2) (
    let x1:=decide (p1.s=([105,110,116]:Bs))
    cond x1 (
     aG (aQ r1.2.1 r1.2.2 5) (fun r2=>
      chk (ixl r2.1 ([([108,111,110,103]:Bs),([102,108,111,97,116]:Bs),([100,111,117,98,108,101]:Bs),([105,110,116]:Bs),([115,116,114,105,110,103]:Bs)]:Bss)) (
       let x2:=List.getD ([([108,111,110,103]:Bs),([102,108,111,97,116]:Bs),([100,111,117,98,108,101]:Bs),([105,110,116]:Bs),([115,116,114,105,110,103]:Bs)]:Bss) (Int.toNat r2.1) (aB .str)
       aG (bk x2) (fun r3=>
        z0 r3.1 r3.2.1 r3.2.2.1 r3.2.2.2.1 r3.2.2.2.2 r2.2.1 r2.2.2)))) (
     let x3:=decide (p1.s=([108,111,110,103]:Bs))
     cond x3 (
      aG (aQ r1.2.1 r1.2.2 3) (fun r4=>
       chk (ixl r4.1 ([([102,108,111,97,116]:Bs),([100,111,117,98,108,101]:Bs),([105,110,116]:Bs)]:Bss)) (
        let x4:=List.getD ([([102,108,111,97,116]:Bs),([100,111,117,98,108,101]:Bs),([105,110,116]:Bs)]:Bss) (Int.toNat r4.1) (aB .str)
        aG (bk x4) (fun r5=>
         z0 r5.1 r5.2.1 r5.2.2.1 r5.2.2.2.1 r5.2.2.2.2 r4.2.1 r4.2.2)))) (
      let x5:=decide (p1.s=([102,108,111,97,116]:Bs))
      cond x5 (
       aG (bk ([100,111,117,98,108,101]:Bs)) (fun r6=>
        z0 r6.1 r6.2.1 r6.2.2.1 r6.2.2.2.1 r6.2.2.2.2 r1.2.1 r1.2.2)) (
       let x6:=decide (p1.s=([115,116,114,105,110,103]:Bs))
       cond x6 (
        aG (aQ r1.2.1 r1.2.2 3) (fun r7=>
         chk (ixl r7.1 ([([98,121,116,101,115]:Bs),([115,116,114,105,110,103]:Bs),([105,110,116]:Bs)]:Bss)) (
          let x7:=List.getD ([([98,121,116,101,115]:Bs),([115,116,114,105,110,103]:Bs),([105,110,116]:Bs)]:Bss) (Int.toNat r7.1) (aB .str)
          aG (bk x7) (fun r8=>
           z0 r8.1 r8.2.1 r8.2.2.1 r8.2.2.2.1 r8.2.2.2.2 r7.2.1 r7.2.2)))) (
        z0 p1.kind p1.n p1.s p1.l p1.names r1.2.1 r1.2.2))))))) (
  chk (decide ((List.length ([]:Bss)+List.length p1.names)*16≤140737488355328)) (
   let x8:=(([]:Bss)++p1.names)
   q0 (p1,0,o0_0,o0_1,0,0,([]:Bs),([]:List aD),([]:Bss),p1.kind,p1.n,p1.s,([]:List aD),x8)))
def abz(N:Nat)(o0_0:Bs)(o0_1:Int)(p1:aD):Ro:=lb N o0_0 o0_1 p1 (fun z=>aR N (oz N) z)
theorem ajD(N:Nat)(o0_0:Bs)(o0_1:Int)(p1:aD)(h:Tot (abz N o0_0 o0_1 p1) (fun z=>∃(y0:aD)(y1:Bs)(y2:Int)(rest:List aK),z.1.dimR=.agg (enc .jnode y0)∧z.2=some [.sl .u8 (.may false) y1,.int .i64 y2]::rest∧fS o0_0 o0_1 p1 (y0,y1,y2))):∃r,dB o0_0 o0_1 p1 r:=FnC.finO (css:=[[.sl .u8 (.may false) o0_0,.int .i64 o0_1]]) ale (N:=N) ((bo _ (by kernel_rfl) rfl (fun C=>lb N o0_0 o0_1 p1 (fun z=>C 1000000 (nd z))) (fun C=>by kernel_rfl)).trans (Eq.trans (b:=lb N o0_0 o0_1 p1 (fun z=>aX N (tH N) (nd z))) (by kernel_rfl) (congrArg (lb N o0_0 o0_1 p1) (funext fun z=>aW (nd) (tH N) (oz N) (aiB N) N z)))) h fun _ ⟨y0,y1,y2,_,e,f,q⟩=>⟨(y0,y1,y2),e,⟨_,f⟩,q⟩
noncomputable def apN:aN:=tab (P:=Try.prog) [] [akF,acv] [] [avN,atL]
def anP:IR:=Rs [Pp (.new 2 [nl .atype]),Pp (.new 3 [nl .atype]),Mb 4 false] (Rs [Mv 14 0,Ca 15 40 [14],Pp (.alr 5 5),Fz 5 5 15] (Rs [Mv 16 0,Ld 17 5 true 5,Ca 18 62 [16,17],Pp (.alr 6 5),Fz 6 5 18] (Rs [Ld 20 5 true 5,Ca 21 39 [20],Mv 19 21,Ex_ 22 0 19,Ex_ 23 1 19,Pp (.alr 7 1),Fz 7 1 22,Mv 8 23] (Rs [Ld 25 5 true 6,Ca 26 39 [25],Mv 24 26,Ex_ 27 0 24,Ex_ 28 1 24,Pp (.alr 9 1),Fz 9 1 27,Mv 10 28] (Sq (Rs [Mv 29 8,Bc 30 .neq 29 0,Mv 31 30,Gf 31 (.mov 32 10),Gf 31 (.bin 33 .neq 32 (kI 0)),Po 34 31 33] (Cn 34 (Sq (.reg [Ld 35 1 true 7,Ld 36 1 true 9,Fo [] [1] (.st none 1 2 35),Fo [] [2] (.st none 1 3 36),Mb 4 false] [[],[],[0],[0,1,2],rg 0 3]) .ret) .skip)) (Rs [Ld 38 1 true 9,Ca 39 41 [38],Mv 37 39,Ex_ 40 0 37,Ex_ 41 1 37,Ex_ 42 2 37,Mv 11 40,Mv 12 41,Mv 13 42] (Sq (.reg [Ld 43 1 true 7,Ld 44 1 true 9,Mv 45 11,Bc 46 .eql 45 0,Fo [] [1] (.st none 1 2 43),Fo [] [2] (.st none 1 3 44),Mv 4 46] [[],[],[],[2],[0],[0,1,4],rg 0 5]) .ret)))))))
def anQ:List RV:=[.cell 2 1 true,.cell 3 1 true,.t 4]
theorem anR:FnC Try.prog apN [40,62,2000040,2000062] 1 aeA Try.f29 anP anQ:=fnC Try.func29
def adN(N:Nat)(o0_0:Bs)(o0_1:Int):Ro:=
 let z0:=fun g0 g1 g2 g3 g4=>(some (.tup [.agg [.sl .atype (.may false) g0],.agg [.sl .atype (.may false) g1],.bool g2],[some [.sl .u8 (.may false) g3,.int .i64 g4],some [.sl .atype (.may false) g0],some [.sl .atype (.may false) g1]]):Ro)
 aG (kJ o0_0 o0_1) (fun r1=>
  aG (dB r1.2.2.2.2.2.1 r1.2.2.2.2.2.2 ⟨r1.1,r1.2.1,r1.2.2.1,r1.2.2.2.1,r1.2.2.2.2.1⟩) (fun r2=>
   aG (ru r1.1 r1.2.1 r1.2.2.1 r1.2.2.2.1 r1.2.2.2.2.1) (fun r3=>
    aG (ru r2.1.kind r2.1.n r2.1.s r2.1.l r2.1.names) (fun r4=>
     cond (!(r3.2==0)) (
      z0 r3.1 r4.1 false r2.2.1 r2.2.2) (
      cond (!(r4.2==0)) (
       z0 r3.1 r4.1 false r2.2.1 r2.2.2) (
       aG (tJ r4.1) (fun r5=>
        z0 r3.1 r4.1 (r5.1==0) r2.2.1 r2.2.2)))))))
def adO(N:Nat)(o0_0:Bs)(o0_1:Int):Ro:=adN N o0_0 o0_1
theorem am3(N:Nat)(o0_0:Bs)(o0_1:Int)(h:Tot (adO N o0_0 o0_1) (fun z=>∃(y0:List aA)(y1:List aA)(y2:Bool)(y3:Bs)(y4:Int)(rest:List aK),z.1.dimR=.tup [.agg [.sl .atype (.may false) y0],.agg [.sl .atype (.may false) y1],.bool y2]∧z.2=some [.sl .u8 (.may false) y3,.int .i64 y4]::rest∧abc o0_0 o0_1 (y0,y1,y2,y3,y4))):∃r,oV o0_0 o0_1 r:=FnC.finO (css:=[[.sl .u8 (.may false) o0_0,.int .i64 o0_1]]) anR (N:=N) (by kernel_rfl) h fun _ ⟨y0,y1,y2,y3,y4,_,e,f,q⟩=>⟨(y0,y1,y2,y3,y4),e,⟨_,f⟩,q⟩
end Go.Proofs.Ytdpajabhmmmjoaa
end
noncomputable section
namespace Go.Proofs.Ytdpajabhmmmjoaa
open Go.AM
set_option autoImplicit false
set_option linter.unusedVariables false
set_option linter.unusedSimpArgs false
set_option maxRecDepth 100000
theorem ajE{α:Type}{p:α→Prop}{l:List α}{i:Nat}{x:α}(h:∀c∈l,p c)(hx:p x):∀c∈l.set i x,p c:=by
 intro c hc
 rcases List.mem_or_eq_of_mem_set hc with h1|h1
 ·exact h c h1
 ·subst h1;exact hx
theorem aa0{α:Type}{p:α→Prop}{l m:List α}(h:∀c∈l,p c)(h2:∀c∈m,p c):∀c∈l++m,p c:=by
 intro c hc
 rcases List.mem_append.1 hc with h1|h1
 ·exact h c h1
 ·exact h2 c h1
theorem ad8{α:Type}{p:α→Prop}{x:α}(h:p x):∀c∈[x],p c:=by
 intro c hc
 simp only[List.mem_singleton] at hc
 subst hc;exact h
theorem aBK(k n:Int)(l:List aD)(h:l.length≤8)(hl:∀c∈l,bp c)(hk:k≠6):bp (.mk k n [] l []):=.mk _ _ _ _ _ (by simp) h (by simp) (by simp) (fun h=>absurd h hk) hl
theorem aAk(c:aD)(hc:bp c)(i:Nat)(l':List aD)(hl:l'.length≤8)(hk:∀c∈l',bp c):
  bp (.mk c.kind c.n c.s (c.l.set i ⟨5,0,[],l',[]⟩) c.names):=by
 obtain⟨k1,k2,k3,k4,k5,k6⟩:=(dq.eta.2 hc).kids
 exact .mk _ _ _ _ _ k1 (by simpa using k2) (by simpa using k3) k4 (by simpa using k5) (ajE k6 (aBK 5 0 l' hl hk (by simp)))
theorem aAl(a:List UInt8)(n:Int)(c:aD)(hp:eA a n)(hc:bp c)(h0:0<c.l.length)(h7:∀d∈c.l,d.l.length≤7):∃r,mf a n c r:=by
 obtain⟨k1,k2,k3,k4,k5,k6⟩:=(dq.eta.2 hc).kids
 apply ajB (c.names.length+1)
 unfold abx la
 dsimp only
 refine aU (fun x=>x.2.2=(a,n,c.kind,c.n,c.s,c.l,c.names,0,0,[],[],[])∧0≤x.1∧x.1<(c.l.length:Int)∧0≤x.2.1∧x.2.1≤(c.names.length:Int)) (fun x=>(c.names.length-x.2.1:Int).toNat) ?_ _ _ ⟨rfl,by simp,by simp;omega,by simp,by simp⟩ (by simp only;omega)
 rintro again ⟨at_,i,rest⟩ ⟨i0,i1,i2,i3,i4⟩ ih
 dsimp only at i0 i1 i2 i3 i4 ih
 subst i0
 unfold ot
 dsimp only
 have g7:(c.l.getD at_.toNat (aB .jnode)).l.length≤7:=by
  have:at_.toNat<c.l.length:=by omega
  rw[List.getD_eq_getElem?_getD,List.getElem?_eq_getElem this]
  exact h7 _ (List.getElem_mem this)
 have gk:∀d∈(c.l.getD at_.toNat (aB .jnode)).l,bp d:=((dq.eta.2 (dq.getD k6 at_.toNat)).kids).2.2.2.2.2
 generalize hx:(c.l.getD at_.toNat (aB .jnode)).l=x at g7 gk ⊢
 have fin:∀(n':Int)(l':List aD),eA a n'→l'.length≤8→(∀d∈l',bp d)→rC a n c (.mk c.kind c.n c.s (c.l.set at_.toNat ⟨5,0,[],l',[]⟩) c.names,a,n'):=
  fun n' l' q1 q2 q3=>⟨aAk c hc at_.toNat l' q2 q3,(List.length_set:(c.l.set at_.toNat _).length=c.l.length),rfl,q1⟩
 have lf:∀s:List UInt8,s.length≤100→bp (.mk 4 0 s [] []):=fun s hs=>(dC 4 0 s hs).up (by decide)
 have t2:bp (.mk 6 0 [] [.mk 4 0 [102,114,101,115,104] [] [],.mk 4 0 [108,111,110,103] [] []] [[110,97,109,101],[116,121,112,101]]):=
  (ad7 _ _ _ _ (by simp) (by simp) (by simp[cE]) (List.forall_mem_cons.2 ⟨dC _ _ _ (by simp),(List.forall_mem_cons.2 ⟨dC _ _ _ (by simp),(by simp)⟩)⟩)).up (by decide)
 have t3:bp (.mk 6 0 [] [.mk 4 0 [102,114,101,115,104] [] [],.mk 4 0 [108,111,110,103] [] [],.mk 3 5 [] [] []] [[110,97,109,101],[116,121,112,101],[100,101,102,97,117,108,116]]):=
  (ad7 _ _ _ _ (by simp) (by simp) (by simp[cE]) (List.forall_mem_cons.2 ⟨dC _ _ _ (by simp),(List.forall_mem_cons.2 ⟨dC _ _ _ (by simp),(List.forall_mem_cons.2 ⟨dC _ _ _ (by simp),(by simp)⟩)⟩)⟩)).up (by decide)
 refine aC (fun h=>?_) (fun h=>?_)
 ·have h:=of_decide_eq_true h
  rw[aI (i+1) (by omega)]
  refine aJ (ixt (by omega)) ?_
  refine aC (fun _=>ih _ ⟨rfl,by simp only;omega,by simp only;omega,by simp only;omega,by simp only;omega⟩ (by simp only;omega)) (fun _=>ih _ ⟨rfl,by simp only;omega,by simp only;omega,by simp only;omega,by simp only;omega⟩ (by simp only;omega))
 ·refine aJ (ixt (by omega)) ?_
  simp only[List.nil_append]
  refine aJ (by simp;omega) ?_
  refine aE (db _ _ _ hp (by omega) (by omega)) ?_
  rintro⟨m,a',n'⟩ ⟨-,m1,m2,rfl,m3⟩
  dsimp only at m1 m2 m3 ⊢
  refine aC (fun _=>?_) (fun e0=>?_)
  ·refine aE (cC _) ?_
   rintro _ ⟨-,rfl⟩
   refine aE (cC _) ?_
   rintro _ ⟨-,rfl⟩
   refine aE (wz _ _ _ _) ?_
   rintro _ ⟨-,rfl⟩
   refine aE (db _ _ _ m3 (by omega) (by omega)) ?_
   rintro⟨m',a',n''⟩ ⟨-,m1',m2',rfl,m3'⟩
   dsimp only at m1' m2' m3' ⊢
   refine aC (fun _=>?_) (fun _=>?_)
   ·refine aE (cC _) ?_
    rintro _ ⟨-,rfl⟩
    refine aE (cC _) ?_
    rintro _ ⟨-,rfl⟩
    refine aE (wz _ _ _ _) ?_
    rintro _ ⟨-,rfl⟩
    dsimp only
    refine aJ (by simp;omega) (aJ (by simp;omega) (aJ (by simp;omega) (aJ (by simp;omega) (aJ (by simp;omega) (aJ (by simp) ?_)))))
    exact aF ⟨_,_,_,_,rfl,rfl,fin _ _ m3' (by simp;omega) (aa0 gk (ad8 t2))⟩
   ·refine aJ (by simp;omega) (aJ (by simp;omega) (aJ (by simp;omega) (aJ (by simp;omega) (aJ (by simp;omega) (aJ (by simp) ?_)))))
    exact aF ⟨_,_,_,_,rfl,rfl,fin _ _ m3' (by simp;omega) (aa0 gk (ad8 t3))⟩
  ·refine aC (fun _=>?_) (fun e1=>?_)
   ·refine aC (fun hz=>?_) (fun _=>?_)
    ·have hz:=of_decide_eq_true hz
     refine aE (db _ _ _ m3 (by omega) (by omega)) ?_
     rintro⟨m',a',n''⟩ ⟨-,m1',m2',rfl,m3'⟩
     dsimp only at m1' m2' m3' ⊢
     rw[aI (m'+1) (by omega)]
     refine aJ (by simp;omega) (aJ (by simp;omega) (aJ (by simp;omega) (aJ (by simp;omega) (aJ ?_ (aJ (by simp;omega) (aJ (by simp;omega) (aJ (by simp;omega) (aJ (by simp;omega) (aJ (by simp) ?_)))))))))
     ·rw[Nat.beq_eq];simp;omega
     ·exact aF ⟨_,_,_,_,rfl,rfl,fin _ _ m3' (by simp;omega) (aa0 (fun d hd=>gk d (List.mem_of_mem_take hd)) (fun d hd=>gk d (List.mem_of_mem_drop (List.mem_of_mem_take hd))))⟩
    ·refine aJ (by simp;omega) (aJ (by simp;omega) (aJ (by simp;omega) (aJ (by simp;omega) (aJ (by simp) ?_))))
     exact aF ⟨_,_,_,_,rfl,rfl,fin _ _ m3 (by omega) gk⟩
   ·refine aC (fun _=>?_) (fun _=>?_)
    ·refine aC (fun hz=>?_) (fun _=>?_)
     ·have hz:=of_decide_eq_true hz
      refine aJ (by simp;omega) (aJ (by simp;omega) (aJ (by simp;omega) (aJ (by simp;omega) (aJ (by simp;omega) (aJ (by simp;omega) (aJ (by simp;omega) (aJ (by simp;omega) (aJ (by simp;omega) (aJ (by simp) (aJ (by simp;omega) (aJ (by simp;omega) (aJ (by simp;omega) (aJ (by simp;omega) (aJ (by simp) ?_))))))))))))))
      exact aF ⟨_,_,_,_,rfl,rfl,fin _ _ m3 (by simp;omega) (ajE (ajE gk (by rw[aqc];exact dq.getD gk _)) (by rw[aqc];exact dq.getD gk _))⟩
     ·refine aJ (by simp;omega) (aJ (by simp;omega) (aJ (by simp;omega) (aJ (by simp;omega) (aJ (by simp) ?_))))
      exact aF ⟨_,_,_,_,rfl,rfl,fin _ _ m3 (by omega) gk⟩
    ·refine aJ (by simp;omega) (aJ (by simp;omega) (aJ (by simp;omega) (aJ (by simp;omega) (aJ (by simp) ?_))))
     exact aF ⟨_,_,_,_,rfl,rfl,fin _ _ m3 (by omega) gk⟩
theorem w5(l:List (List UInt8))(h:∀x∈l,x.length≤100)(i:Nat):(l.getD i (aB .str)).length≤100:=aix (l:=l) h i
theorem aA7{l:List aD}{i:Nat}(h:i<l.length):l.getD i (aB .jnode)∈l:=by
 rw[List.getD_eq_getElem?_getD,List.getElem?_eq_getElem h]
 exact List.getElem_mem h
theorem aAm(c:aD)(hc:sJ c):∀(a:List UInt8)(n:Int),eA a n→∃r,dB a n c r:=by
 induction hc with
 |mk k m s l names h1 h2 h3 h4 h5 h6 ih=>
 intro a n hp
 have hT:sJ (.mk k m s l names):=.mk _ _ _ _ _ h1 h2 h3 h4 h5 h6
 have lf:∀(n':Int)(s':List UInt8),eA a n'→s'.length≤100→fS a n (.mk k m s l names) (.mk 4 0 s' [] [],a,n'):=fun n' s' q hs=>⟨(dC 4 0 s' hs).up (by decide),Nat.zero_le _,rfl,q⟩
 have self:∀(n':Int),eA a n'→fS a n (.mk k m s l names) (.mk k m s l names,a,n'):=fun n' q=>⟨hT.up (by decide),Nat.le_refl _,rfl,q⟩
 have j1:(aD.mk k m s l names).l=l:=rfl
 have j2:(aD.mk k m s l names).names=names:=rfl
 have j3:(aD.mk k m s l names).kind=k:=rfl
 have j4:(aD.mk k m s l names).n=m:=rfl
 have j5:(aD.mk k m s l names).s=s:=rfl
 apply ajD (l.length+1)
 unfold abz lb
 simp only[j1,j2,j3,j4,j5]
 refine aC (fun _=>?_) (fun _=>?_)
 ·refine aE (db _ _ _ hp (by omega) (by omega)) ?_
  rintro⟨m1,a',n1⟩ ⟨-,a1,a2,rfl,a3⟩
  dsimp only at a1 a2 a3 ⊢
  refine aC (fun _=>aF ⟨_,_,_,_,rfl,rfl,self _ a3⟩) (fun _=>?_)
  refine aC (fun _=>?_) (fun _=>?_)
  ·refine aE (db _ _ _ a3 (by omega) (by omega)) ?_
   rintro⟨m2,a',n2⟩ ⟨-,b1,b2,rfl,b3⟩
   dsimp only at b1 b2 b3 ⊢
   refine aJ (ixt (by simp;omega)) (aE (cC _) ?_)
   rintro _ ⟨-,rfl⟩
   exact aF ⟨_,_,_,_,rfl,rfl,lf _ _ b3 (w5 _ (by simp) _)⟩
  refine aC (fun _=>?_) (fun _=>?_)
  ·refine aE (db _ _ _ a3 (by omega) (by omega)) ?_
   rintro⟨m2,a',n2⟩ ⟨-,b1,b2,rfl,b3⟩
   dsimp only at b1 b2 b3 ⊢
   refine aJ (ixt (by simp;omega)) (aE (cC _) ?_)
   rintro _ ⟨-,rfl⟩
   exact aF ⟨_,_,_,_,rfl,rfl,lf _ _ b3 (w5 _ (by simp) _)⟩
  refine aC (fun _=>?_) (fun _=>?_)
  ·refine aE (cC _) ?_
   rintro _ ⟨-,rfl⟩
   exact aF ⟨_,_,_,_,rfl,rfl,lf _ _ a3 (by simp)⟩
  refine aC (fun _=>?_) (fun _=>?_)
  ·refine aE (db _ _ _ a3 (by omega) (by omega)) ?_
   rintro⟨m2,a',n2⟩ ⟨-,b1,b2,rfl,b3⟩
   dsimp only at b1 b2 b3 ⊢
   refine aJ (ixt (by simp;omega)) (aE (cC _) ?_)
   rintro _ ⟨-,rfl⟩
   exact aF ⟨_,_,_,_,rfl,rfl,lf _ _ b3 (w5 _ (by simp) _)⟩
  ·exact aF ⟨_,_,_,_,rfl,rfl,self _ a3⟩
 ·refine aJ (by simp;omega) ?_
  rw[List.nil_append]
  refine aU (fun x=>x.1=.mk k m s l names∧0≤x.2.1∧x.2.1≤(l.length:Int)∧x.2.2.1=a∧eA a x.2.2.2.1∧
   (0,0,[],[],[],k,m,s,x.2.2.2.2.2.2.2.2.2.2.2.2.1,names)=x.2.2.2.2∧(x.2.2.2.2.2.2.2.2.2.2.2.2.1.length:Int)=x.2.1∧(∀d∈x.2.2.2.2.2.2.2.2.2.2.2.2.1,bp d)∧(∀d∈x.2.2.2.2.2.2.2.2.2.2.2.2.1,d.l.length≤7))
   (fun x=>(l.length-x.2.1:Int).toNat) ?_ _ _ ⟨rfl,by simp,by simp,rfl,hp,rfl,rfl,by simp,by simp⟩ (by simp only;omega)
  rintro again ⟨c',i,a',n1,q0,q1,q2,q3,q4,q5,q6,q7,acc,q8⟩ ⟨e1,i1,i2,e2,i3,e3,i4,i5,i6⟩ again_ok
  dsimp only at e1 i1 i2 e2 i3 e3 i4 i5 i6 again_ok
  simp only[Prod.mk.injEq] at e3
  obtain⟨rfl,rfl,rfl,rfl,rfl,rfl,rfl,rfl, -,rfl⟩:=e3
  subst e1;subst e2
  unfold oz
  simp only[aqc,j1,j2,j3,j4,j5]
  refine aC (fun h=>?_) (fun h=>?_)
  ·have h:=of_decide_eq_true h
   have hm:l.getD i.toNat (aB .jnode)∈l:=aA7 (by omega)
   rw[aI (i+1) (by omega)]
   have step:∀(d:aD)(n':Int),eA a' n'→bp d→d.l.length≤7→Tot (chk (decide ((acc.length+[d].length)*80≤140737488355328)) (again (.mk k m s l names,i+1,a',n',0,0,[],[],[],k,m,s,acc++[d],names))) (fun(z:V×List aK)=>∃(y0:aD)(y1:List UInt8)(y2:Int)(rest:List aK),z.1.dimR=.agg (enc .jnode y0)∧z.2=some [.sl .u8 (.may false) y1,.int .i64 y2]::rest∧fS a' n (.mk k m s l names) (y0,y1,y2)):=by
    intro d n' d1 d2 d3
    refine aJ (by simp;omega) (again_ok _ ⟨rfl,by simp only;omega,by simp only;omega,rfl,d1,rfl,by simp;omega,aa0 i5 (ad8 d2),aa0 i6 (ad8 d3)⟩ (by simp only;omega))
   have copy:=step (l.getD i.toNat (aB .jnode)) n1 i3 ((h6 _ hm).up (by decide)) ((dq.eta.2 (h6 _ hm)).kids).2.1
   have call:Tot (aG (dB a' n1 (l.getD i.toNat (aB .jnode))) (fun r=>chk (decide ((acc.length+[r.1].length)*80≤140737488355328)) (again (.mk k m s l names,i+1,r.2.1,r.2.2,0,0,[],[],[],k,m,s,acc++[r.1],names)))) (fun(z:V×List aK)=>∃(y0:aD)(y1:List UInt8)(y2:Int)(rest:List aK),z.1.dimR=.agg (enc .jnode y0)∧z.2=some [.sl .u8 (.may false) y1,.int .i64 y2]::rest∧fS a' n (.mk k m s l names) (y0,y1,y2)):=by
    refine aE (ih _ hm _ _ i3) ?_
    rintro⟨d,a2,n2⟩ ⟨-,c1,c2,rfl,c3⟩
    exact step d n2 c3 c1 (Nat.le_trans c2 ((dq.eta.2 (h6 _ hm)).kids).2.1)
   have hL:ixl i l=true:=ixt (by omega)
   refine aC (fun h=>?_) (fun _=>?_)
   ·have h5:=h5 (by simpa using h)
    have hN:ixl i names=true:=ixt (by omega)
    repeat' first
     |exact copy
     |exact call
     |refine aJ hN ?_
     |refine aJ hL ?_
     |refine aC (fun _=>?_) (fun _=>?_)
   ·exact aJ hL call
  ·have h:=of_decide_eq_false h
   have hacc:acc.length=l.length:=by omega
   refine aE (ass _ _ _ _ _ _ h3 (by omega)) ?_
   rintro r ⟨-,hr⟩
   have hr:r=aaf (oR names l [102,105,101,108,100,115]):=hr
   have hO:bp (.mk k m s acc names):=.mk _ _ _ _ _ h1 (by omega) (by omega) h4 (by omega) i5
   refine aC (fun hb=>?_) (fun _=>?_)
   ·have h0:0<acc.length:=by
     rw[hacc]
     cases l with
     |nil=>
      subst hr
      cases names<;>simp[oR,aaf] at hb
     |cons x l=>simp
    refine aE (aAl a' n1 (.mk k m s acc names) i3 hO h0 i6) ?_
    rintro⟨d,a2,n2⟩ ⟨-,c1,c2,rfl,c3⟩
    exact aF ⟨_,_,_,_,rfl,rfl,c1,Nat.le_trans (Nat.le_of_eq c2) (Nat.le_of_eq hacc),rfl,c3⟩
   ·exact aF ⟨.mk k m s acc names,_,_,_,rfl,rfl,hO,Nat.le_of_eq hacc,rfl,i3⟩
theorem aBL(a:List UInt8)(n:Int)(hp:eA a n):∃r,oV a n r:=by
 apply am3 1
 unfold adO adN
 dsimp only
 refine aE (azi a n hp) ?_
 rintro⟨t0,t1,t2,t3,t4,a',n1⟩ ⟨-,b1,rfl,b3⟩
 dsimp only at b1 b3 ⊢
 refine aE (aAm _ b1 _ _ b3) ?_
 rintro⟨d,a2,n2⟩ ⟨-,c1,c2,rfl,c3⟩
 dsimp only at c1 c2 c3 ⊢
 refine aE (axa _ _ _ _ _ (dq.up (by decide) b1)) ?_
 rintro⟨w,e⟩ ⟨-,hw⟩
 refine aE (axa _ _ _ _ _ (dq.eta.2 c1)) ?_
 rintro⟨r,e2⟩ ⟨-,hr⟩
 have hw:e=0→cw w:=hw
 have hr:e2=0→cw r:=hr
 dsimp only
 refine aC (fun _=>aF ⟨_,_,_,_,_,_,rfl,rfl,fun h=>absurd h (by simp)⟩) (fun he=>?_)
 have he:e=0:=by simpa using he
 refine aC (fun _=>aF ⟨_,_,_,_,_,_,rfl,rfl,fun h=>absurd h (by simp)⟩) (fun he2=>?_)
 have he2:e2=0:=by simpa using he2
 refine aE (aAg r (hr he2)) ?_
 rintro⟨x1,x2,x3⟩ ⟨-,hx⟩
 have hx:x1=0→rt r:=hx
 exact aF ⟨_,_,_,_,_,_,rfl,rfl,fun h=>⟨hw he,hr he2,hx (by simpa using h)⟩⟩
end Go.Proofs.Ytdpajabhmmmjoaa
end
noncomputable section
namespace Go.Proofs.Ytdpajabhmmmjoaa
open Go.AM
set_option autoImplicit false
set_option linter.unusedVariables false
set_option linter.unusedSimpArgs false
set_option maxRecDepth 100000
abbrev po(k:Int):List aA:=[⟨k,[],[],0,[],false,[],0,[],[]⟩]
theorem ab6(k:Int)(h:k=3∨k=4):cw (po k):=by
 refine⟨by simp[po],fun t ht=>?_⟩
 simp only[po,List.mem_singleton] at ht
 subst ht
 exact⟨by simp[po],by simp,by simp,by simp,by simp,by simp,by simp,by simp only;omega,by simp only;omega,by simp only;omega,by simp,by simp,by simp,by simp⟩
theorem axe(k:Int)(h:k=3∨k=4):sM (po k)=[true]:=by
 have hs:=ab6 k h
 have hl:=apK hs
 obtain⟨hB,hF⟩:=am1 hs
 have h0:0≤(rkB (po k)).getD 0 0:=by
  rcases Int.lt_or_le ((rkB (po k)).getD 0 0) 0 with e|e
  ·have hk:=(hF 0 (by simp[po]) e).kind
   have hk:k=9∨k=14:=hk
   omega
  ·exact e
 have h1:=hB.len
 cases hr:rkB (po k) with
 |nil=>rw[hr] at h1;simp[po] at h1
 |cons x l=>
  cases l with
  |cons y l=>rw[hr] at h1;simp[po] at h1
  |nil=>
   rw[hr] at h0
   have h0:0≤x:=h0
   simp[sM,hr,h0]
theorem aAn:∃r,tR r:=by
 apply ary 1
 unfold aiz aiy
 refine aE (ad1 (po 3) (po 4) 0 0 (ac7.of (ab6 4 (by simp)))) ?_
 rintro _ ⟨-,rfl⟩
 refine aC (fun _=>?_) (fun h=>absurd h (by decide))
 refine aE (ad1 (po 4) (po 3) 0 0 (ac7.of (ab6 3 (by simp)))) ?_
 rintro _ ⟨-,rfl⟩
 refine aC (fun _=>?_) (fun h=>absurd h (by decide))
 refine aE (axb (ab6 3 (by simp)) (po 4) (ab6 4 (by simp)) 0 0) ?_
 rintro r3 ⟨-,h3⟩
 have h3:r3=nu (sM (po 3)) (po 3) (po 4) 0 0:=h3
 rw[axe 3 (by simp)] at h3
 subst h3
 refine aC (fun _=>?_) (fun h=>absurd h (by decide))
 refine aE (axb (ab6 4 (by simp)) (po 3) (ab6 3 (by simp)) 0 0) ?_
 rintro r4 ⟨-,h4⟩
 have h4:r4=nu (sM (po 4)) (po 4) (po 3) 0 0:=h4
 rw[axe 4 (by simp)] at h4
 subst h4
 exact aF ⟨_,_,rfl,rfl,by show (!_)=true;decide⟩
end Go.Proofs.Ytdpajabhmmmjoaa
end
noncomputable section
namespace Go.Proofs.Ytdpajabhmmmjoaa
open Go.AM
set_option autoImplicit false
set_option linter.unusedVariables false
set_option linter.unusedSimpArgs false
set_option maxRecDepth 100000
theorem aAo{x k:Int}(hx:0≤x)(hk:0≤k∧k≤22)(h:nM .u64 x k=0):x<2^k.toNat:=by
 rw[aBA _ _ (by omega)] at h
 rcases Int.lt_or_le x ((2^k.toNat:Nat):Int) with e|e
 ·simpa using e
 ·exfalso
  have hp:(0:Int)<((2^k.toNat:Nat):Int):=by have:=Nat.pow_pos (n:=k.toNat) (show 0<2 by decide);omega
  have:=Int.le_ediv_of_mul_le hp (show 1*((2^k.toNat:Nat):Int)≤x by omega)
  omega
theorem aAp(n:Int)(hn:0≤n∧n≤4294967295):∃r,wq n r:=by
 apply ar3 24
 unfold aj5 tT
 dsimp only
 rw[ay2 n hn]
 have hx:0≤n%8388608∧n%8388608<8388608:=by omega
 rw[oD (n%8388608) (by omega)]
 generalize n%8388608=x at hx ⊢
 have loop:x≠0→∀a:Int,Tot (aR 24 (rJ 24) (a,x,22)) (fun z=>∃(y0:Int)(rest:List aK),z.1.dimR=.int .u64 y0∧z.2=rest):=by
  intro h0 a
  refine aU (fun y=>y.2.1=x∧0≤y.2.2∧y.2.2≤22∧x<2^(y.2.2.toNat+1)) (fun y=>y.2.2.toNat) ?_ _ _ ⟨rfl,by simp,by simp,by simp;omega⟩ (by simp)
  rintro again ⟨a',x',k⟩ ⟨hxx,k1,k2,k3⟩ ih
  dsimp only at hxx k1 k2 k3 ih
  subst hxx
  unfold rJ
  dsimp only
  refine aJ (decide_eq_true k1) (aC (fun h=>?_) (fun _=>?_))
  ·have h:nM .u64 x' k=0:=by simpa using h
   have hl:=aAo hx.1 ⟨k1,k2⟩ h
   have hk:k≠0:=by
    rintro rfl
    have hl:x'<1:=by simpa using hl
    omega
   rw[aI (k-1) (by omega)]
   refine ih _ ⟨rfl,by simp only;omega,by simp only;omega,?_⟩ (by simp only;omega)
   simp only
   rw[show (k-1).toNat+1=k.toNat by omega]
   exact hl
  ·rw[aI (52-k) (by omega)]
   exact aJ (decide_eq_true (by omega)) (aF ⟨_,_,rfl,rfl⟩)
 repeat' (first|(with_reducible refine aC ?_ ?_<;>(intro hb;(try simp only[bnl] at hb);(try revert hb;intro _)))|with_reducible refine aJ ?_ ?_|with_reducible refine aF ?_|fail)
 all_goals first
  |exact⟨_,_,rfl,rfl⟩
  |exact loop (by assumption) _
  |(exfalso;simp_all;done)
theorem afr(a b n:Int):∃r,iA a b n r:=by
 apply amd 1
 unfold adu adt
 dsimp only
 have hw:0≤IntKind.wrap .u32 n∧IntKind.wrap .u32 n≤4294967295:=by
  simp only[IntKind.wrap,IntKind.signed,IntKind.bits,Bool.false_and,Bool.false_eq_true,if_false]
  omega
 repeat' (first|(with_reducible refine aC ?_ ?_<;>(intro hb;(try simp only[bnl] at hb);(try revert hb;intro _)))|with_reducible refine aJ ?_ ?_|with_reducible refine aF ?_|(refine aE (aAp _ hw) ?_;intro _ _)|(refine aE (att _) ?_;intro _ _)|(refine aE (aqW _) ?_;intro _ _)|fail)
 all_goals exact⟨_,_,rfl,rfl⟩
theorem aor{α:Type}(p:α→Bool)(d:α):∀(l:List α)(i:Nat),0≤cG p l i→p (l.getD ((cG p l i).toNat-i) d)=true
 | [],i,h=>by simp[cG] at h
 |x::l,i,h=>by
  rw[cG] at h ⊢
  cases hx:p x with
  |true=>simp[hx]
  |false=>
   simp only[hx,Bool.false_eq_true,if_false] at h ⊢
   have ih:=aor p d l (i+1) h
   have hr:=aaH p l (i+1)
   have:(cG p l (i+1)).toNat-i=(cG p l (i+1)).toNat-(i+1)+1:=by omega
   rw[this]
   simpa using ih
theorem ax7{a b:aA}(ha:a.kind≠14)(h:aam a b=true):b.kind≠14:=by
 unfold aam at h
 repeat' split at h
 all_goals simp at h
 all_goals omega
theorem azj{w r:List aA}{t q:Int}(ha:(w.getD t.toNat (aB .atype)).kind≠14)(h:0≤rB w r t q):
  rB w r t q<(r.getD q.toNat (aB .atype)).branches.length∧(r.getD ((r.getD q.toNat (aB .atype)).branches.getD (rB w r t q).toNat 0).toNat (aB .atype)).kind≠14:=by
 have hr:=aaH (fun b=>dl w r t b) (r.getD q.toNat (aB .atype)).branches 0
 have h1:=aor (fun b=>dl w r t b) 0 (r.getD q.toNat (aB .atype)).branches 0 h
 refine⟨?_,?_⟩
 ·have:rB w r t q=cG (fun b=>dl w r t b) (r.getD q.toNat (aB .atype)).branches 0:=rfl
  omega
 ·simp only[Nat.sub_zero] at h1
  simp only[dl,Bool.and_eq_true] at h1
  exact ax7 ha h1.2.2
section
variable{w r:List aA}(hw:cw w)(hr:cw r)
theorem azk:∀(l:List aH)(i:Nat),i<l.length→wV (l.getD i (aB .aval))≤wL l
 | [],i,h=>by simp at h
 |v::l,0,h=>by simp[wL]
 |v::l,i+1,h=>by
  have:=azk l i (by simpa using h)
  simp only[List.getD_cons_succ,wL];omega
theorem aAq:∀l:List aH,40*l.length≤wL l
 | []=>by simp
 |v::l=>by
  have:=aAq l
  have:40≤wV v:=by cases v;simp only[wV];omega
  simp only[List.length_cons,wL];omega
theorem axf:∀l:List (List UInt8),10*l.length≤rp l
 | []=>by simp
 |v::l=>by
  have:=axf l
  simp only[List.length_cons,rp];omega
theorem aAr(v:aH):wV v=40+v.s.length+rp v.keys+wL v.l:=by cases v;rfl
theorem ays(v:aH):szV v=szL v.l+1:=by cases v;rfl
def arz(w r:List aA)(n:Nat):Prop:=∀(t q:Int)(v:aH),2*szV v+(if (r.getD q.toNat (aB .atype)).kind=14 then 1 else 0)<n→bm w t v=true→isT r q=true→wV v≤4000000000000→∃x,fN w r t q v x
include hw hr
theorem azl{n:Nat}(ih:arz w r n)(a b:aA)(v:aH)(ha:gu w.length a)(hb:gu r.length b)(h1:v.l.length=a.fields.length)(h2:oQ w a.fields v.l=true)(hm:2*szV v≤n)(hW:wV v≤4000000000000):∃x,rI w r a b v x:=by
 have hnf:=ha.nf
 have hnb:=hb.nf
 apply aoQ (b.fields.length+1)
 unfold agd pU
 dsimp only
 refine aU (fun x=>match x with|(w',r',a',b',v',i,p0,p1,p2,p3,p4,o0,o1,o2,o3,o4)=>w'=w∧r'=r∧a'=a∧b'=b∧v'=v∧0≤i∧i≤(b.fields.length:Int)∧(o2.length:Int)=i) (fun x=>((b.fields.length:Int)-x.2.2.2.2.2.1).toNat) ?_ _ _ ⟨rfl,rfl,rfl,rfl,rfl,by simp,by simp,by simp⟩ (by simp)
 rintro again ⟨w',r',a',b',v',i,p0,p1,p2,p3,p4,o0,o1,o2,o3,o4⟩ ⟨rfl,rfl,rfl,rfl,rfl,i1,i2,i3⟩ ih0
 dsimp only at i1 i2 i3 ih0
 unfold sP
 dsimp only
 refine aC (fun h=>?_) (fun _=>aF ⟨.mk o0 o1 o2 o3 o4,0,_,rfl,rfl,fun _ _ _=>rfl⟩)
 have h:=of_decide_eq_true h
 have hfm:=cA b'.fields i.toNat (aB .afield) (by omega)
 rw[aI (i+1) (by omega)]
 simp only[av1,tM]
 refine aJ (ixt (by omega)) ?_
 generalize b'.fields.getD i.toNat (aB .afield)=f at hfm ⊢
 have hf:=hb.fields f hfm
 have hfal:=hb.fal f hfm
 have next:∀y:aH,Tot (again (w',r',a',b',v',i+1,p0,p1,p2,p3,p4,o0,o1,o2++[y],o3,o4)) _:=fun y=>ih0 _ ⟨rfl,rfl,rfl,rfl,rfl,by simp only;omega,by simp only;omega,by simp only[List.length_append,List.length_singleton];omega⟩ (by simp only;omega)
 have hcap:∀y:aH,decide ((o2.length+[y].length)*80≤140737488355328)=true:=fun y=>decide_eq_true (by simp only[List.length_singleton];omega)
 refine aE (az6 a' f (by omega) (by omega)) ?_
 rintro(k:Int) ⟨-,hk⟩
 have hk:k=lA a'.fields (f.name::f.aliases):=hk
 have hrg:=amM a'.fields (f.name::f.aliases)
 rw[←hk] at hrg
 have hF:tP (inL (acW w' r')) a' f= !((decide (k<0)&& !f.hasdef)||(decide (0≤k)&&inL (acW w' r') ((a'.fields.getD k.toNat (aB .afield)).typ,f.typ))):=by rw[hk];rfl
 refine aC (fun hk0=>?_) (fun hk0=>?_)
 ·have hk0:=of_decide_eq_true hk0
  refine aJ (ixt (by omega)) (aJ (ixt (by omega)) ?_)
  have hsz:=ang v'.l k.toNat (by omega)
  have hsp:=ays v'
  have hwl:=azk v'.l k.toNat (by omega)
  have hwp:=aAr v'
  refine aE (ih _ f.typ (v'.l.getD k.toNat (aB .aval)) (by split<;>omega) (apL w' _ _ _ h2 (by omega)) (by simpa [isT] using ⟨hf.1,hf.2.1⟩) (by omega)) ?_
  rintro⟨y,e⟩ ⟨-,hp⟩
  have hp:inL (acW w' r') ((a'.fields.getD k.toNat (aB .afield)).typ,f.typ)=false→rt r'→e=0:=hp
  dsimp only
  refine aC (fun he=>aF ⟨.mk 0 [] [] [] 0,e,_,rfl,rfl,fun g1 g2 g3=>?_⟩) (fun he=>aJ (hcap _) (next _))
  have g1:=g1 f hfm
  rw[hF,decide_eq_true hk0] at g1
  exact hp (by simp only[Bool.not_eq_true',Bool.or_eq_false_iff,Bool.true_and] at g1;exact g1.2) g3
 ·have hk0:=of_decide_eq_false hk0
  refine aC (fun hd=>?_) (fun hd=>aC (fun _=>aF ⟨.mk 0 [] [] [] 0,8,_,rfl,rfl,fun g1 g2 g3=>?_⟩) (fun h8=>absurd h8 (by decide)))
  ·refine aE (atF r' hr _ _ _ _ _ _ ⟨hf.1,hf.2.1⟩ (bp.eta.2 hf.2.2)) ?_
   rintro⟨y0,y1,y2,y3,y4,e⟩ ⟨-,hp⟩
   have hp:okV r' f.typ f.df.kind f.df.n f.df.s f.df.l f.df.names→e=0:=hp
   dsimp only
   exact aC (fun he=>aF ⟨.mk 0 [] [] [] 0,e,_,rfl,rfl,fun g1 g2 g3=>hp (g3 b' g2 f hfm hd)⟩) (fun he=>aJ (hcap _) (next _))
  ·have g1:=g1 f hfm
   rw[hF,decide_eq_true (by omega:k<0),hd] at g1
   simp at g1
theorem axg(n:Nat)(ih:arz w r n):arz w r (n+1):=by
 intro t q v hm hf hq hW
 have ht:=apM hf
 have hq':0≤q∧q<r.length:=by simpa [isT] using hq
 have ha:=hw.at (i:=t.toNat) (by omega)
 have hb:=hr.at (i:=q.toNat) (by omega)
 have hwp:=aAr v
 have hsp:=ays v
 have hkl:=axf v.keys
 have hvl:=aAq v.l
 have hR:inL (acW w r) (t,q)=false→gw (inL (acW w r)) w r t q (w.getD t.toNat (aB .atype)) (r.getD q.toNat (aB .atype))=true:=fun h=>by
  have h1:=aAi (has:=sM w) (w:=w) (r:=r) (t:=t) (q:=q) (by simpa [isT] using ht) hq h
  rw[acq,aAj hw hf] at h1
  simpa [acW] using h1
 apply anv (v.l.length+1)
 unfold aeI oZ
 dsimp only
 refine aJ (ixt (by omega)) (aJ (ixt (by omega)) ?_)
 have hbm:r.getD q.toNat (aB .atype)∈r:=cA _ _ _ (by omega)
 have g9:= @aAh w t v hf
 have g10:= @aBJ w t v hf
 have g12:= @aBH w t v hf
 have g13:= @aBI w t v hf
 have g14:= @ayr w t v hf
 have bh:= @azj w r t q
 generalize ea:w.getD t.toNat (aB .atype)=a at*
 generalize eb:r.getD q.toNat (aB .atype)=b at*
 have hns:=ha.ns
 have out:∀(x0:Int)(x1:List UInt8)(fl:Bool)(x2:List aH)(x3:List (List UInt8))(x4 e:Int)(os:List aK),(inL (acW w r) (t,q)=false→rt r→e=0)→
   Tot (some ((.tup [.agg [.int .u64 x0,.str x1,.sl .aval (.may fl) x2,.sl .str (.may fl) x3,.int .i64 x4],.int .i64 e]:V),os)) (fun z=>∃(y0:aH)(y1:Int)(rest:List aK),z.1.dimR=.tup [.agg (enc .aval y0),.int .i64 y1]∧z.2=rest∧pQ w r t q v (y0,y1)):=
  fun x0 x1 fl x2 x3 x4 e os h=>aF ⟨.mk x0 x1 x2 x3 x4,e,_,rfl,rfl,h⟩
 have d0:(aB (.num .i64):Int)=0:=rfl
 simp only[tM,d0]
 refine aC (fun h14=>?_) (fun h14=>?_)
 ·have h14:a.kind=14:=by simpa using h14
  obtain⟨b1,b2,x,hx,hfx⟩:=g14 h14
  refine aJ (ixt ⟨b1,b2⟩) (aJ (by rw[hx];rfl) ?_)
  have hsx:szL v.l=szV x:=by rw[hx];simp[szL]
  have hwx:wL v.l=wV x:=by rw[hx];simp[wL]
  have e0:v.l.getD (Int.toNat 0) (aB .aval)=x:=by rw[hx];rfl
  rw[e0]
  refine aE (ih _ q x (by rw[eb];split at hm<;>split<;>omega) hfx hq (by omega)) ?_
  rintro⟨y,e⟩ ⟨-,hp⟩
  refine out _ _ _ _ _ _ _ _ (fun g1 g2=>hp ?_ g2)
  have g3:=hR g1
  rw[gw,if_pos h14,List.all_eq_true] at g3
  simpa using g3 _ (cA a.branches v.branch.toNat 0 (by omega))
 have h14:a.kind≠14:=by simpa using h14
 refine aC (fun h15=>?_) (fun h15=>?_)
 ·have h15:b.kind=14:=by simpa using h15
  have hnb:=hb.nb
  refine aE (axX w r t q (ac7.of hr) hq' (by rw[eb];omega)) ?_
  rintro(k:Int) ⟨-,hk⟩
  have hk:k=rB w r t q:=hk
  refine aC (fun hk0=>out _ _ _ _ _ _ _ _ (fun g1 g2=>?_)) (fun hk0=>?_)
  ·have g3:=hR g1
   rw[gw,if_neg h14,if_pos h15,←hk,Bool.and_eq_true] at g3
   have:=of_decide_eq_true hk0
   have:=of_decide_eq_true g3.1
   omega
  ·have hk0:=of_decide_eq_false hk0
   have hb1:=bh h14 (by omega)
   rw[←hk] at hb1
   have hbr:=hb.branches _ (cA b.branches k.toNat 0 (by omega))
   refine aJ (ixt (by omega)) (aE (ih t _ v (by rw[if_neg hb1.2];rw[if_pos h15] at hm;omega) hf (by simpa [isT] using hbr) hW) ?_)
   rintro⟨y,e⟩ ⟨-,hp⟩
   have hp:inL (acW w r) (t,b.branches.getD k.toNat 0)=false→rt r→e=0:=hp
   dsimp only
   refine aC (fun he=>out _ _ _ _ _ _ _ _ (fun g1 g2=>?_)) (fun he=>out _ _ _ _ _ _ _ _ (fun g1 g2=>rfl))
   have g3:=hR g1
   rw[gw,if_neg h14,if_pos h15,←hk,Bool.and_eq_true] at g3
   exact hp (by simpa using g3.2) g2
 have h15:b.kind≠14:=by simpa using h15
 refine aE (aqY w r t q (ac7.of hr)) ?_
 rintro(mt:Bool) ⟨-,hmt⟩
 have hmt:mt=dl w r t q:=hmt
 refine aC (fun hm0=>out _ _ _ _ _ _ _ _ (fun g1 g2=>?_)) (fun hm0=>?_)
 ·have g3:=hR g1
  have hm0:dl w r t q=false:=by rw[←hmt];simpa using hm0
  rw[gw,if_neg h14,if_neg h15,if_pos hm0] at g3
  cases g3
 have hm0:¬dl w r t q=false:=by rw[←hmt];simpa using hm0
 refine aC (fun _=>aE (afr _ _ _) (fun _ _=>out _ _ _ _ _ _ _ _ (fun _ _=>rfl))) (fun h3=>?_)
 refine aC (fun _=>aE (afr _ _ _) (fun _ _=>out _ _ _ _ _ _ _ _ (fun _ _=>rfl))) (fun h4=>?_)
 refine aC (fun _=>aE (afr _ _ _) (fun _ _=>out _ _ _ _ _ _ _ _ (fun _ _=>rfl))) (fun h5=>?_)
 refine aC (fun h10=>?_) (fun h10=>?_)
 ·have h10:a.kind=10:=by simpa using h10
  have hn:=g10 h10 (by omega)
  have hbs:=hb.ns
  refine aJ (ixt hn) (aE (aq0 _ _ (by omega)) ?_)
  rintro(k:Int) ⟨-,hk⟩
  have hk:k=cG (fun x=>decide (x=a.syms.getD v.n.toNat (aB .str))) b.syms 0:=hk
  refine aC (fun hk0=>?_) (fun hk0=>aC (fun hk1=>?_) (fun _=>out _ _ _ _ _ _ _ _ (fun _ _=>rfl)))
  ·have hk0:=of_decide_eq_true hk0
   refine aE (aq0 _ _ (by omega)) ?_
   rintro(k2:Int) ⟨-,hk2⟩
   have hk2:k2=cG (fun x=>decide (x=b.df)) b.syms 0:=hk2
   refine aC (fun hk1=>out _ _ _ _ _ _ _ _ (fun g1 g2=>?_)) (fun _=>out _ _ _ _ _ _ _ _ (fun _ _=>rfl))
   have hk1:=of_decide_eq_true hk1
   have g3:=hR g1
   rw[gw,if_neg h14,if_neg h15,if_neg hm0,if_neg (by omega),if_pos h10,Bool.or_eq_true,List.all_eq_true] at g3
   exfalso
   rcases g3 with g3|g3
   ·have hd:=hb.edef g3
    have:=tb (fun x=>decide (x=b.df)) b.syms 0
    rw[asP,decide_eq_true hd,←hk2] at this
    have:=of_decide_eq_true this
    omega
   ·have hd:=of_decide_eq_true (g3 _ (cA a.syms v.n.toNat (aB .str) (by omega)))
    have:=tb (fun x=>decide (x=a.syms.getD v.n.toNat (aB .str))) b.syms 0
    rw[asP,decide_eq_true hd,←hk] at this
    have:=of_decide_eq_true this
    omega
  ·have:=of_decide_eq_false hk0
   have:=of_decide_eq_true hk1
   omega
 have h10:a.kind≠10:=by simpa using h10
 have row:bV w a.items v.l=true→(a.kind=12∨a.kind=13)→∀ks:List (List UInt8),Tot (aR (v.l.length+1) (nC (v.l.length+1)) (w,r,v,a,b,0,0,[],[],[],0,0,[],[],ks,0)) (fun z=>∃(y0:aH)(y1:Int)(rest:List aK),z.1.dimR=.tup [.agg (enc .aval y0),.int .i64 y1]∧z.2=rest∧pQ w r t q v (y0,y1)):=by
  intro he hkd ks
  refine aU (fun x=>match x with|(w',r',v',a',b',i,p0,p1,p2,p3,p4,o0,o1,o2,o3,o4)=>w'=w∧r'=r∧a'=a∧b'=b∧v'=v∧0≤i∧i≤(v.l.length:Int)∧(o2.length:Int)=i) (fun x=>((v.l.length:Int)-x.2.2.2.2.2.1).toNat) ?_ _ _ ⟨rfl,rfl,rfl,rfl,rfl,by simp,by simp,by simp⟩ (by simp)
  rintro again ⟨w',r',v',a',b',i,p0,p1,p2,p3,p4,o0,o1,o2,o3,o4⟩ ⟨rfl,rfl,rfl,rfl,rfl,i1,i2,i3⟩ ih0
  dsimp only at i1 i2 i3 ih0
  unfold nC
  dsimp only
  simp only[tM]
  refine aC (fun h=>?_) (fun _=>out _ _ _ _ _ _ _ _ (fun _ _=>rfl))
  have h:=of_decide_eq_true h
  rw[aI (i+1) (by omega)]
  have hsz:=ang v'.l i.toNat (by omega)
  have hwl:=azk v'.l i.toNat (by omega)
  refine aJ (ixt (by omega)) (aE (ih _ b'.items _ (by split<;>omega) (atG w' _ _ _ he (by omega)) (by simpa [isT] using hb.items) (by omega)) ?_)
  rintro⟨y,e⟩ ⟨-,hp⟩
  have hp:inL (acW w' r') (a'.items,b'.items)=false→rt r'→e=0:=hp
  dsimp only
  refine aC (fun _=>out _ _ _ _ _ _ _ _ (fun g1 g2=>hp ?_ g2)) (fun _=>aJ (decide_eq_true (by simp only[List.length_singleton];omega)) (ih0 _ ⟨rfl,rfl,rfl,rfl,rfl,by simp only;omega,by simp only;omega,by simp only[List.length_append,List.length_singleton];omega⟩ (by simp only;omega)))
  have g3:=hR g1
  rw[gw,if_neg h14,if_neg h15,if_neg hm0,if_pos hkd] at g3
  simpa using g3
 have hks:decide ((([]:List (List UInt8)).length+v.keys.length)*16≤140737488355328)=true:=decide_eq_true (by simp;omega)
 refine aC (fun h12=>aJ hks (row (g12 (by simpa using h12)) (.inl (by simpa using h12)) _)) (fun h12=>?_)
 refine aC (fun h13=>aJ hks (row (g13 (by simpa using h13)).2 (.inr (by simpa using h13)) _)) (fun h13=>?_)
 have h12:a.kind≠12:=by simpa using h12
 have h13:a.kind≠13:=by simpa using h13
 refine aC (fun h9=>?_) (fun h9=>out _ _ _ _ _ _ _ _ (fun _ _=>rfl))
 have h9:a.kind=9:=by simpa using h9
 obtain⟨f1,f2⟩:=g9 h9
 refine aE (azl hw hr ih a b v ha hb f1 f2 (by split at hm<;>omega) hW) ?_
 rintro⟨y,e⟩ ⟨-,hp⟩
 refine out _ _ _ _ _ _ _ _ (fun g1 g2=>hp ?_ hbm g2)
 have g3:=hR g1
 rw[gw,if_neg h14,if_neg h15,if_neg hm0,if_neg (by omega),if_neg h10,if_pos h9,List.all_eq_true] at g3
 exact g3
theorem aos:∀n,arz w r n
 |0=>fun _ _ _ h=>by omega
 |n+1=>axg hw hr n (aos n)
theorem ax8(t q:Int)(v:aH)(hW:wV v≤4000000000000):∃x,pT w r t q v x:=by
 apply anw 1
 unfold aeK aeJ
 dsimp only
 have out:∀(x0:Int)(x1:List UInt8)(fl:Bool)(x2:List aH)(x3:List (List UInt8))(x4 e:Int)(os:List aK),(bm w t v=true→nu (sM w) w r t q=true→rt r→e=0)→
   Tot (some ((.tup [.agg [.int .u64 x0,.str x1,.sl .aval (.may fl) x2,.sl .str (.may fl) x3,.int .i64 x4],.int .i64 e]:V),os)) (fun z=>∃(y0:aH)(y1:Int)(rest:List aK),z.1.dimR=.tup [.agg (enc .aval y0),.int .i64 y1]∧z.2=rest∧wh w r t q v (y0,y1)):=
  fun x0 x1 fl x2 x3 x4 e os h=>aF ⟨.mk x0 x1 x2 x3 x4,e,_,rfl,rfl,h⟩
 refine aE (ae0 w t) ?_
 rintro(r1:Bool) ⟨-,h1⟩
 have h1:r1=isT w t:=h1
 refine aC (fun h=>out _ _ _ _ _ _ _ _ (fun _ g _=>?_)) (fun h=>?_)
 ·rw[nu,←h1] at g
  simp at h;subst h;simp at g
 refine aE (ae0 r q) ?_
 rintro(r2:Bool) ⟨-,h2⟩
 have h2:r2=isT r q:=h2
 refine aC (fun h=>out _ _ _ _ _ _ _ _ (fun _ g _=>?_)) (fun hq=>?_)
 ·rw[nu,←h2] at g
  simp at h;subst h;simp at g
 refine aE (az2 w hw t v.n v.s v.l v.keys v.branch) ?_
 rintro(r3:Bool) ⟨-,h3⟩
 have h3:r3=bm w t v:=h3.trans (by cases v;rfl)
 refine aC (fun h=>out _ _ _ _ _ _ _ _ (fun g _ _=>?_)) (fun hf=>?_)
 ·rw[←h3] at g
  subst g;simp at h
 simp only[tM]
 refine aE (aos hw hr _ t q v (Nat.lt_succ_self _) (by rw[←h3];simpa using hf) (by rw[←h2];simpa using hq) hW) ?_
 rintro⟨y,e⟩ ⟨-,hp⟩
 refine out _ _ _ _ _ _ _ _ (fun _ g2 g3=>hp ?_ g3)
 rw[nu,Bool.and_eq_true,Bool.and_eq_true] at g2
 simpa [acW] using g2.2.2
end
end Go.Proofs.Ytdpajabhmmmjoaa
end
noncomputable section
namespace Go.Proofs.Ytdpajabhmmmjoaa
open Go.AM
set_option autoImplicit false
set_option linter.unusedVariables false
set_option maxRecDepth 100000
noncomputable def nL:aN:=tab (P:=Try.prog) [] [ads,adi,iy] [] [at6,an9]
def aa1:IR:=Sq (Rs [Mv 139 16,Fa 140 8 12,Lq 141 140,Ll 142 141,Bi 143 .lss 139 142] (Cn 143 .skip (.exit 1))) (Sq (.block 2 (Sq (.reg [Mv 147 0,Ld 148 1 true 5,Fa 149 8 12,Lq 150 149,Mv 151 16,Ix 152 .afield 150 151,Fa 153 2 152,Fo [] [] (.ld 154 1 false false 153),Mv 155 3,Bc 156 .add 155 1,Fo [] [0] (.call 157 26 [147,148,154,156]),Mv 146 157,Ex_ 158 0 146,Ex_ 159 1 146,Pp (.alr 17 5),Fz 17 5 158,Mv 18 159] [[],[],[],[2],[],[2,3,4],rg 2 5,rg 2 6,[],[8],rg 0 9,rg 0 10,rg 0 11,rg 0 11,[],rg 0 12++[14],rg 0 15]) (Rg [Fa 160 2 10,Pp (.ld 161 1 false true 160),Ld 162 5 true 17,Pp (.bsl 163 .aval [162] true),Pp (.app 164 .aval (.tk 161) 163),Fa 165 2 10,Sk 1 165 164]))) (Rg [Mv 144 16,Bc 145 .add 144 1,Mv 16 145]))
def zW:IR:=Sq (Rs [Mv 171 19,Bc 172 .gtr 171 0] (Cn 172 .skip (.exit 3))) (Sq (.block 4 (Rs [Mv 176 0,Ld 177 1 true 5,Fa 178 3 12,Lq 179 178,Mv 180 3,Bc 181 .add 180 1,Ca 182 26 [176,177,179,181],Mv 175 182,Ex_ 183 0 175,Ex_ 184 1 175,Pp (.alr 20 5),Fz 20 5 183,Mv 21 184] (Sq (Rs [Mv 185 21,Un 186 185] (Cn 186 (.exit 3) .skip)) (Rs [Fa 187 0 12,Lq 188 187,Bc 189 .eql 188 12] (Cn 189 (Rg [Fa 190 2 10,Pp (.ld 191 1 false true 190),Ld 192 5 true 20,Pp (.bsl 193 .aval [192] true),Pp (.app 194 .aval (.tk 191) 193),Fa 195 2 10,Sk 1 195 194]) (.reg [Fo [2] [] (.ld 196 5 true false 10),Mv 197 0,Fo [] [0] (.call 198 60 [197,kI 5]),Pp (.bin 199 .add (kI 97) 198),Pp (.cvi 200 .u8 199),Pp (.bsl 201 .u8 [200] true),Pp (.b2s 202 201),Pp (.bin 203 .add (kS [107]) 202),Ld 204 5 true 20,Ca 205 61 [196,203,204],Fo [] [2] (.st none 5 10 205)] [[],[],[1],[1,2],[1,2,3],rg 1 4,rg 1 5,rg 1 6,[],rg 0 8,rg 0 9])))))) (Rg [Mv 173 19,Bc 174 .sub 173 1,Mv 19 174]))
def su:IR:=Rs [Pp (.ld 206 5 true false 10),Sv 5 8 206,Mb 9 true] .ret
def am4:IR:=Rs [Bx 5 1,Pp (.new 8 [vU 0,vS,nl .aval,nl .str,vI 0]),Mb 9 false] (Rs [Ld 23 1 true 5,Mv 24 2,Ca 25 58 [23,24],Mv 22 25,Ex_ 26 0 22,Ex_ 27 1 22,Pp (.new 10 [vU 0,vS,nl .aval,nl .str,vI 0]),Sv 5 10 26,Mv 11 27] (Sq (Rs [Mv 28 11,Un 29 28,Mv 30 29,Gf 30 (.mov 31 3),Gf 30 (.bin 32 .gtr 31 (kI 5)),Po 33 30 32,Mv 34 33,Gf 34 (.mov 35 0),Gf 34 (.call 36 59 [35]),Po 37 34 36] (Cn 37 (Rs [Pp (.ld 38 5 true false 10),Mv 39 11,Sv 5 8 38,Mv 9 39] .ret) .skip)) (Rs [Fa 40 0 5,Lq 41 40,Mv 42 2,Ix 43 .atype 41 42,Ld 44 10 true 43,Pp (.alr 12 10),Fz 12 10 44] (Sq (Rs [Fa 45 0 12,Lq 46 45] (.block 0 (Rs [Bc 48 .eql 46 2,Mv 47 48] (Cn 47 (Rg [Mv 49 0,Ca 50 60 [49,kI 2],Pp (.cvi 51 .u64 50),Fa 52 0 10,Sv 1 52 51]) (Rs [Bc 54 .eql 46 3,Mv 53 54] (Cn 53 (Rg [Pp (.bsl 55 (.num .u64) [kU 0,kU 1,kU 18446744073709551615,kU 300,kU 2147483647,kU 18446744071562067968,kU 16777217] true),Mv 56 0,Ca 57 60 [56,kI 7],Ix 58 (.num .u64) 55 57,Lq 59 58,Fa 60 0 10,Sv 1 60 59]) (Rs [Bc 62 .eql 46 4,Mv 61 62] (Cn 61 (Rg [Pp (.bsl 63 (.num .u64) [kU 0,kU 1,kU 18446744073709551615,kU 1099511627776,kU 9223372036854775807,kU 9223372036854775808,kU 9007199254740993] true),Mv 64 0,Ca 65 60 [64,kI 7],Ix 66 (.num .u64) 63 65,Lq 67 66,Fa 68 0 10,Sv 1 68 67]) (Rs [Bc 70 .eql 46 5,Mv 69 70] (Cn 69 (Rg [Pp (.bsl 71 (.num .u64) [kU 0,kU 1065353216,kU 2139095040,kU 1,kU 3212836864,kU 2143289345,kU 2147483648] true),Mv 72 0,Ca 73 60 [72,kI 7],Ix 74 (.num .u64) 71 73,Lq 75 74,Fa 76 0 10,Sv 1 76 75]) (Rs [Bc 78 .eql 46 6,Mv 77 78] (Cn 77 (Rg [Pp (.bsl 79 (.num .u64) [kU 0,kU 4607182418800017408,kU 1,kU 9223372036854775808,kU 9218868437227405312] true),Mv 80 0,Ca 81 60 [80,kI 5],Ix 82 (.num .u64) 79 81,Lq 83 82,Fa 84 0 10,Sv 1 84 83]) (Rs [Bc 86 .eql 46 8,Mv 85 86] (Cn 85 (Rg [Pp (.bsl 87 .str [kS [],kS [97],kS [195,164],kS [116,101,120,116]] true),Mv 88 0,Ca 89 60 [88,kI 4],Ix 90 .str 87 89,Lq 91 90,Fa 92 1 10,Sv 1 92 91]) (Rs [Bc 94 .eql 46 7,Mv 93 94] (Cn 93 (Rg [Pp (.bsl 95 .str [kS [],kS [255],kS [0],kS [98]] true),Mv 96 0,Ca 97 60 [96,kI 4],Ix 98 .str 95 97,Lq 99 98,Fa 100 1 10,Sv 1 100 99]) (Rs [Bc 102 .eql 46 10,Mv 101 102] (Cn 101 (Rg [Mv 103 0,Fa 104 4 12,Lq 105 104,Ll 106 105,Ca 107 60 [103,106],Pp (.cvi 108 .u64 107),Fa 109 0 10,Sv 1 109 108]) (Rs [Bc 111 .eql 46 14,Mv 110 111] (Cn 110 (Rs [Mv 112 0,Fa 113 9 12,Lq 114 113,Ll 115 114,Ca 116 60 [112,115],Mv 13 116] (Sq (.reg [Mv 118 0,Ld 119 1 true 5,Fa 120 9 12,Lq 121 120,Mv 122 13,Ix 123 (.num .i64) 121 122,Lq 124 123,Mv 125 3,Bc 126 .add 125 1,Fo [] [0] (.call 127 26 [118,119,124,126]),Mv 117 127,Ex_ 128 0 117,Ex_ 129 1 117,Pp (.alr 14 5),Fz 14 5 128,Mv 15 129] [[],[],[],[2],[],[2,3,4],rg 2 5,[],[7],rg 0 8,rg 0 9,rg 0 10,rg 0 10,[],rg 0 11++[13],rg 0 14]) (Rs [Mv 130 15] (Cn 130 (.reg [Mv 131 13,Ld 132 5 true 14,Pp (.bsl 133 .aval [132] true),Fa 134 4 10,Fo [] [2] (.st none 1 134 131),Fa 135 2 10,Fo [] [2] (.st none 1 135 (.tk 133))] [[],[],[1],[0],[0,3],rg 0 4,rg 0 5]) .skip)))) (Rs [Bc 137 .eql 46 9,Mv 136 137] (Cn 136 (Rs [Fa 138 2 10,Pp (.st none 1 138 (.c (nl .aval)))] (Rs [Mi 16 0] (.block 1 (.loop [0,3,5,8,10,12,16,1000000] 3 aa1)))) (Sq (Rs [Bc 167 .eql 46 12,Mv 166 167] (Cn 166 .skip (Rg [Bc 168 .eql 46 13,Mv 166 168]))) (Cn 166 (Rs [Mv 169 0,Ca 170 60 [169,kI 4],Mv 19 170] (.block 3 (.loop [0,3,5,8,10,12,19,1000001] 3 zW))) .skip)))))))))))))))))))))))) su))))
def wW:List RV:=[.cell 8 5 true,.t 9]
theorem am5:FnC Try.prog nL [26,59,60,2000026,2000059,2000060] 1 adr Try.f26 am4 wW:=fnC Try.func26
def alf(R:IR→(Ex→St→Ro)→St→Ro)(a:St→Ro):Ex→St→Ro:=(bj a [0,3,5,8,10,12,16,1000000] 3 (aP 1 (aP 0 (bg (R su) (fin wW)))))
abbrev pw:Type:=(Int×List aA×aA×Int×Bs×Int×Int×Bs×List aH×Bss×Int×Int×Bs×List aH×Bool×Bss×Int)
def oA:pw→St:=fun(h,i,j,k,l,m,n,o,p,q,a,b,c,d,e,f,g)=>{env:=(.ptr 0 0::.undef::.undef::.int .i64 h::.undef::.ea [.sl .atype (.may false) i]::.undef::.undef::.ptr 1 0::.undef::.ptr 2 0::.undef::.ea (enc .atype j)::(U 3 (.int .i64 k::(U 190 [])))),hp:=[some [.sl .u8 (.may false) l,.int .i64 m],some [.int .u64 n,.str o,.sl .aval .own p,.sl .str .own q,.int .i64 a],some [.int .u64 b,.str c,.sl .aval .own d,.sl .str (.may e) f,.int .i64 g]]}
def uG(N:Nat):(St→Ro)→St→Ro:=fun a s=>run nL N aa1 (alf (run nL N) a) s
def lc(N:Nat)(g:pw→Ro):pw→Ro:=fun(x,k,h,i,l,m,n,o,p,q,r,c,d,b,a,e,f)=>
 let s:=(↑(List.length h.fields):Int)
 cond (decide (i<s)) (
 chk (ixl i h.fields) (
 let t:=(List.getD h.fields (Int.toNat i) (aB .afield))
 let u:=(IntKind.wrap .i64 (x+1))
 aG (dm l m k t.typ u) (fun j=>
 chk (decide ((List.length b+List.length ([(reA j.1)]:List aH))*80≤140737488355328)) (
 let v:=(b++([(reA j.1)]:List aH))
 let w:=(IntKind.wrap .i64 (i+1))
 g (x,k,h,w,j.2.2.1,j.2.2.2,n,o,p,q,r,c,d,v,a,e,f))))) (
 some (.tup [.agg [.int .u64 c,.str d,.sl .aval (.may false) b,.sl .str (.may a) e,.int .i64 f],.bool true],[some [.sl .u8 (.may false) l,.int .i64 m],some [.int .u64 c,.str d,.sl .aval (.may false) b,.sl .str (.may a) e,.int .i64 f],some [.int .u64 c,.str d,.sl .aval .own b,.sl .str (.may a) e,.int .i64 f]]))
theorem ajF(N:Nat):LB (uG N) oA (lc N):=fun _ _=>by kernel_rfl
def alg(R:IR→(Ex→St→Ro)→St→Ro)(a:St→Ro):Ex→St→Ro:=(bj a [0,3,5,8,10,12,19,1000001] 3 (aP 3 (aP 0 (bg (R su) (fin wW)))))
abbrev lg:Type:=(Int×List aA×aA×Int×Bs×Int×Int×Bs×List aH×Bss×Int×Int×Bs×Bool×List aH×Bool×Bss×Int)⊕(Int×List aA×aA×Int×Bs×Int×Int×Bs×List aH×Bss×Int×Int×Bs×List aH×Bool×Bss×Int)⊕(Int×List aA×aA×Int×Bs×Int×Int×Bs×List aH×Bss×Int×Int×Bs×List aH×Bss×Int)
def ahb:(Int×List aA×aA×Int×Bs×Int×Int×Bs×List aH×Bss×Int×Int×Bs×Bool×List aH×Bool×Bss×Int)→St:=fun(i,j,k,l,m,n,o,p,q,r,a,b,c,d,e,f,g,h)=>{env:=(.ptr 0 0::.undef::.undef::.int .i64 i::.undef::.ea [.sl .atype (.may false) j]::.undef::.undef::.ptr 1 0::.undef::.ptr 2 0::.undef::.ea (enc .atype k)::(U 6 (.int .i64 l::(U 187 [])))),hp:=[some [.sl .u8 (.may false) m,.int .i64 n],some [.int .u64 o,.str p,.sl .aval .own q,.sl .str .own r,.int .i64 a],some [.int .u64 b,.str c,.sl .aval (.may d) e,.sl .str (.may f) g,.int .i64 h]]}
def ahc:(Int×List aA×aA×Int×Bs×Int×Int×Bs×List aH×Bss×Int×Int×Bs×List aH×Bool×Bss×Int)→St:=fun(h,i,j,k,l,m,n,o,p,q,a,b,c,d,e,f,g)=>{env:=(.ptr 0 0::.undef::.undef::.int .i64 h::.undef::.ea [.sl .atype (.may false) i]::.undef::.undef::.ptr 1 0::.undef::.ptr 2 0::.undef::.ea (enc .atype j)::(U 6 (.int .i64 k::(U 187 [])))),hp:=[some [.sl .u8 (.may false) l,.int .i64 m],some [.int .u64 n,.str o,.sl .aval .own p,.sl .str .own q,.int .i64 a],some [.int .u64 b,.str c,.sl .aval .own d,.sl .str (.may e) f,.int .i64 g]]}
def ahd:(Int×List aA×aA×Int×Bs×Int×Int×Bs×List aH×Bss×Int×Int×Bs×List aH×Bss×Int)→St:=fun(g,h,i,j,k,l,m,n,o,p,a,b,c,d,e,f)=>{env:=(.ptr 0 0::.undef::.undef::.int .i64 g::.undef::.ea [.sl .atype (.may false) h]::.undef::.undef::.ptr 1 0::.undef::.ptr 2 0::.undef::.ea (enc .atype i)::(U 6 (.int .i64 j::(U 187 [])))),hp:=[some [.sl .u8 (.may false) k,.int .i64 l],some [.int .u64 m,.str n,.sl .aval .own o,.sl .str .own p,.int .i64 a],some [.int .u64 b,.str c,.sl .aval (.may false) d,.sl .str (.may false) e,.int .i64 f]]}
def jM:lg→St
 |(Sum.inl x)=>ahb x
 |(Sum.inr (Sum.inl x))=>ahc x
 |(Sum.inr (Sum.inr x))=>ahd x
def uH(N:Nat):(St→Ro)→St→Ro:=fun a s=>run nL N zW (alg (run nL N) a) s
def fK(N:Nat)(i:lg→Ro)(x:lg):Ro:=
 match x with
 |(Sum.inl (v3,g,k,w,m,o,q,r,t,u,v,b,c,p,a,f,d,e))=>
  let z0:=fun g0 g1=>(some (.tup [.agg [.int .u64 b,.str c,.sl .aval (.may p) a,.sl .str (.may f) d,.int .i64 e],.bool true],[some [.sl .u8 (.may false) g0,.int .i64 g1],some [.int .u64 b,.str c,.sl .aval (.may p) a,.sl .str (.may f) d,.int .i64 e],some [.int .u64 b,.str c,.sl .aval (.may p) a,.sl .str (.may f) d,.int .i64 e]]):Ro)
  cond (decide (0<w)) (
   let am:=(IntKind.wrap .i64 (v3+1))
   aG (dm m o g k.items am) (fun h=>
    cond (!h.2.1) (
     z0 h.2.2.1 h.2.2.2) (
     cond (k.kind==12) (
      chk ((p&&decide (0<List.length ([(reA h.1)]:List aH)))&&decide ((List.length a+List.length ([(reA h.1)]:List aH))*80≤140737488355328)) (
       let an:=(a++([(reA h.1)]:List aH))
       let ao:=(IntKind.wrap .i64 (w-1))
       i (Sum.inr (Sum.inl (v3,g,k,ao,h.2.2.1,h.2.2.2,q,r,t,u,v,b,c,an,f,d,e))))) (
      aG (aQ h.2.2.1 h.2.2.2 5) (fun ae=>
       let aj:=(IntKind.wrap .i64 (97+ae.1))
       chk (decide (List.length ([107]:Bs)+List.length ([(UInt8.ofNat (Int.toNat (IntKind.wrap .u8 aj)))]:Bs)≤9223372036854775807)) (
        let ap:=(([107]:Bs)++([(UInt8.ofNat (Int.toNat (IntKind.wrap .u8 aj)))]:Bs))
        aG (lw b c a d e ap h.1.n h.1.s h.1.l h.1.keys h.1.branch) (fun z=>
         let aq:=(IntKind.wrap .i64 (w-1))
         i (Sum.inr (Sum.inr (v3,g,k,aq,ae.2.1,ae.2.2,q,r,t,u,v,z.1,z.2.1,z.2.2.1,z.2.2.2.1,z.2.2.2.2)))))))))) (
   z0 m o)
 |(Sum.inr (Sum.inl (v3,g,k,w,m,o,q,r,t,u,v,b,c,a,f,d,e)))=>
  let z0:=fun g0 g1=>(some (.tup [.agg [.int .u64 b,.str c,.sl .aval (.may false) a,.sl .str (.may f) d,.int .i64 e],.bool true],[some [.sl .u8 (.may false) g0,.int .i64 g1],some [.int .u64 b,.str c,.sl .aval (.may false) a,.sl .str (.may f) d,.int .i64 e],some [.int .u64 b,.str c,.sl .aval .own a,.sl .str (.may f) d,.int .i64 e]]):Ro)
  cond (decide (0<w)) (
   let ar:=(IntKind.wrap .i64 (v3+1))
   aG (dm m o g k.items ar) (fun j=>
    cond (!j.2.1) (
     z0 j.2.2.1 j.2.2.2) (
     cond (k.kind==12) (
      chk (decide ((List.length a+List.length ([(reA j.1)]:List aH))*80≤140737488355328)) (
       let au:=(a++([(reA j.1)]:List aH))
       let av:=(IntKind.wrap .i64 (w-1))
       i (Sum.inr (Sum.inl (v3,g,k,av,j.2.2.1,j.2.2.2,q,r,t,u,v,b,c,au,f,d,e))))) (
      aG (aQ j.2.2.1 j.2.2.2 5) (fun af=>
       let ak:=(IntKind.wrap .i64 (97+af.1))
       chk (decide (List.length ([107]:Bs)+List.length ([(UInt8.ofNat (Int.toNat (IntKind.wrap .u8 ak)))]:Bs)≤9223372036854775807)) (
        let aw:=(([107]:Bs)++([(UInt8.ofNat (Int.toNat (IntKind.wrap .u8 ak)))]:Bs))
        aG (lw b c a d e aw j.1.n j.1.s j.1.l j.1.keys j.1.branch) (fun aa=>
         let ax:=(IntKind.wrap .i64 (w-1))
         i (Sum.inr (Sum.inr (v3,g,k,ax,af.2.1,af.2.2,q,r,t,u,v,aa.1,aa.2.1,aa.2.2.1,aa.2.2.2.1,aa.2.2.2.2)))))))))) (
   z0 m o)
 |(Sum.inr (Sum.inr (v3,g,k,w,m,o,q,r,t,u,v,b,c,a,d,e)))=>
  let z0:=fun g0 g1=>(some (.tup [.agg [.int .u64 b,.str c,.sl .aval (.may false) a,.sl .str (.may false) d,.int .i64 e],.bool true],[some [.sl .u8 (.may false) g0,.int .i64 g1],some [.int .u64 b,.str c,.sl .aval (.may false) a,.sl .str (.may false) d,.int .i64 e],some [.int .u64 b,.str c,.sl .aval (.may false) a,.sl .str (.may false) d,.int .i64 e]]):Ro)
  cond (decide (0<w)) (
   let ay:=(IntKind.wrap .i64 (v3+1))
   aG (dm m o g k.items ay) (fun y=>
    cond (!y.2.1) (
     z0 y.2.2.1 y.2.2.2) (
     cond (k.kind==12) (
      none) (
      aG (aQ y.2.2.1 y.2.2.2 5) (fun ag=>
       let al:=(IntKind.wrap .i64 (97+ag.1))
       chk (decide (List.length ([107]:Bs)+List.length ([(UInt8.ofNat (Int.toNat (IntKind.wrap .u8 al)))]:Bs)≤9223372036854775807)) (
        let az:=(([107]:Bs)++([(UInt8.ofNat (Int.toNat (IntKind.wrap .u8 al)))]:Bs))
        aG (lw b c a d e az y.1.n y.1.s y.1.l y.1.keys y.1.branch) (fun ab=>
         let a0:=(IntKind.wrap .i64 (w-1))
         i (Sum.inr (Sum.inr (v3,g,k,a0,ag.2.1,ag.2.2,q,r,t,u,v,ab.1,ab.2.1,ab.2.2.1,ab.2.2.2.1,ab.2.2.2.2)))))))))) (
   z0 m o)
theorem ajG(N:Nat):∀(a:St→Ro)(x:lg),uH N a (jM x)=fK N (fun y=>a (jM y)) x:=by
 intro a x
 rcases x with x|x|x<;>kernel_rfl
def ms(N:Nat)(g:Bs)(h:Int)(c:List aA)(t m:Int)(q0:pw→Ro)(q1:lg→Ro):Ro:=
 let e:=fun u v w x y z g6 g7 g8 g9=>(some (.tup [.agg [.int .u64 u,.str v,.sl .aval (.may w) x,.sl .str (.may y) z,.int .i64 g6],.bool g7],[some [.sl .u8 (.may false) g8,.int .i64 g9],some [.int .u64 u,.str v,.sl .aval (.may w) x,.sl .str (.may y) z,.int .i64 g6],some [.int .u64 u,.str v,.sl .aval (.may w) x,.sl .str (.may y) z,.int .i64 g6]]):Ro)
 aG (tS c t) (fun a=>
 cond (!a.2.2.2.2.2.2.2) (
 e a.1 a.2.1 a.2.2.1 a.2.2.2.1 a.2.2.2.2.1 a.2.2.2.2.2.1 a.2.2.2.2.2.2.1 a.2.2.2.2.2.2.2 g h) (
 cond (decide (5<m)) (
 e a.1 a.2.1 a.2.2.1 a.2.2.2.1 a.2.2.2.2.1 a.2.2.2.2.2.1 a.2.2.2.2.2.2.1 a.2.2.2.2.2.2.2 g h) (
 aG (jN g h) (fun b=>
 cond b.1 (
 e a.1 a.2.1 a.2.2.1 a.2.2.2.1 a.2.2.2.2.1 a.2.2.2.2.2.1 a.2.2.2.2.2.2.1 a.2.2.2.2.2.2.2 b.2.1 b.2.2) (
 chk (ixl t c) (
 let d:=(List.getD c (Int.toNat t) (aB .atype))
 cond (d.kind==2) (
 aG (aQ b.2.1 b.2.2 2) (fun r3=>
 e (IntKind.wrap .u64 r3.1) a.2.1 a.2.2.1 a.2.2.2.1 a.2.2.2.2.1 a.2.2.2.2.2.1 a.2.2.2.2.2.2.1 true r3.2.1 r3.2.2)) (
 cond (d.kind==3) (
 aG (aQ b.2.1 b.2.2 7) (fun n=>
 chk (ixl n.1 ([0,1,18446744073709551615,300,2147483647,18446744071562067968,16777217]:List Int)) (
 let x2:=List.getD ([0,1,18446744073709551615,300,2147483647,18446744071562067968,16777217]:List Int) (Int.toNat n.1) (aB (.num .u64))
 e x2 a.2.1 a.2.2.1 a.2.2.2.1 a.2.2.2.2.1 a.2.2.2.2.2.1 a.2.2.2.2.2.2.1 true n.2.1 n.2.2))) (
 cond (d.kind==4) (
 aG (aQ b.2.1 b.2.2 7) (fun o=>
 chk (ixl o.1 ([0,1,18446744073709551615,1099511627776,9223372036854775807,9223372036854775808,9007199254740993]:List Int)) (
 let x3:=List.getD ([0,1,18446744073709551615,1099511627776,9223372036854775807,9223372036854775808,9007199254740993]:List Int) (Int.toNat o.1) (aB (.num .u64))
 e x3 a.2.1 a.2.2.1 a.2.2.2.1 a.2.2.2.2.1 a.2.2.2.2.2.1 a.2.2.2.2.2.2.1 true o.2.1 o.2.2))) (
 cond (d.kind==5) (
 aG (aQ b.2.1 b.2.2 7) (fun p=>
 chk (ixl p.1 ([0,1065353216,2139095040,1,3212836864,2143289345,2147483648]:List Int)) (
 let x4:=List.getD ([0,1065353216,2139095040,1,3212836864,2143289345,2147483648]:List Int) (Int.toNat p.1) (aB (.num .u64))
 e x4 a.2.1 a.2.2.1 a.2.2.2.1 a.2.2.2.2.1 a.2.2.2.2.2.1 a.2.2.2.2.2.2.1 true p.2.1 p.2.2))) (
 cond (d.kind==6) (
 aG (aQ b.2.1 b.2.2 5) (fun q=>
 chk (ixl q.1 ([0,4607182418800017408,1,9223372036854775808,9218868437227405312]:List Int)) (
 let x5:=List.getD ([0,4607182418800017408,1,9223372036854775808,9218868437227405312]:List Int) (Int.toNat q.1) (aB (.num .u64))
 e x5 a.2.1 a.2.2.1 a.2.2.2.1 a.2.2.2.2.1 a.2.2.2.2.2.1 a.2.2.2.2.2.2.1 true q.2.1 q.2.2))) (
 cond (d.kind==8) (
 aG (aQ b.2.1 b.2.2 4) (fun r=>
 chk (ixl r.1 ([([]:Bs),([97]:Bs),([195,164]:Bs),([116,101,120,116]:Bs)]:Bss)) (
 let x6:=List.getD ([([]:Bs),([97]:Bs),([195,164]:Bs),([116,101,120,116]:Bs)]:Bss) (Int.toNat r.1) (aB .str)
 e a.1 x6 a.2.2.1 a.2.2.2.1 a.2.2.2.2.1 a.2.2.2.2.2.1 a.2.2.2.2.2.2.1 true r.2.1 r.2.2))) (
 cond (d.kind==7) (
 aG (aQ b.2.1 b.2.2 4) (fun s=>
 chk (ixl s.1 ([([]:Bs),([255]:Bs),([0]:Bs),([98]:Bs)]:Bss)) (
 let x7:=List.getD ([([]:Bs),([255]:Bs),([0]:Bs),([98]:Bs)]:Bss) (Int.toNat s.1) (aB .str)
 e a.1 x7 a.2.2.1 a.2.2.2.1 a.2.2.2.2.1 a.2.2.2.2.2.1 a.2.2.2.2.2.2.1 true s.2.1 s.2.2))) (
 cond (d.kind==10) (
 let x8:=(↑(List.length d.syms):Int)
 aG (aQ b.2.1 b.2.2 x8) (fun j=>
 let x9:=(IntKind.wrap .u64 j.1)
 e x9 a.2.1 a.2.2.1 a.2.2.2.1 a.2.2.2.2.1 a.2.2.2.2.2.1 a.2.2.2.2.2.2.1 true j.2.1 j.2.2)) (
 cond (d.kind==14) (
 let ac:=(↑(List.length d.branches):Int)
 aG (aQ b.2.1 b.2.2 ac) (fun i=>
 chk (ixl i.1 d.branches) (
 let ad:=List.getD d.branches (Int.toNat i.1) (aB (.num .i64))
 let ae:=(IntKind.wrap .i64 (m+1))
 aG (dm i.2.1 i.2.2 c ad ae) (fun f=>
 cond f.2.1 (
 e a.1 a.2.1 true ([(reA f.1)]:List aH) a.2.2.2.2.1 a.2.2.2.2.2.1 i.1 true f.2.2.1 f.2.2.2) (
 e a.1 a.2.1 a.2.2.1 a.2.2.2.1 a.2.2.2.2.1 a.2.2.2.2.2.1 a.2.2.2.2.2.2.1 true f.2.2.1 f.2.2.2))))) (
 cond (d.kind==9) (
 q0 (m,c,d,0,b.2.1,b.2.2,0,([]:Bs),([]:List aH),([]:Bss),0,a.1,a.2.1,([]:List aH),a.2.2.2.2.1,a.2.2.2.2.2.1,a.2.2.2.2.2.2.1)) (
 cond (d.kind==12) (
 aG (aQ b.2.1 b.2.2 4) (fun k=>
 q1 (Sum.inl (m,c,d,k.1,k.2.1,k.2.2,0,([]:Bs),([]:List aH),([]:Bss),0,a.1,a.2.1,a.2.2.1,a.2.2.2.1,a.2.2.2.2.1,a.2.2.2.2.2.1,a.2.2.2.2.2.2.1)))) (
 cond (d.kind==13) (
 aG (aQ b.2.1 b.2.2 4) (fun l=>
 q1 (Sum.inl (m,c,d,l.1,l.2.1,l.2.2,0,([]:Bs),([]:List aH),([]:Bss),0,a.1,a.2.1,a.2.2.1,a.2.2.2.1,a.2.2.2.2.1,a.2.2.2.2.2.1,a.2.2.2.2.2.2.1)))) (
 e a.1 a.2.1 a.2.2.1 a.2.2.2.1 a.2.2.2.2.1 a.2.2.2.2.2.1 a.2.2.2.2.2.2.1 true b.2.1 b.2.2))))))))))))))))))
def acP(N:Nat)(a:Bs)(b:Int)(c:List aA)(d e:Int):Ro:=ms N a b c d e (fun z=>aR N (lc N) z) (fun z=>aR N (fK N) z)
theorem alh(N:Nat)(a:Bs)(c:Int)(d:List aA)(g i:Int)(h:Tot (acP N a c d g i) (fun z=>∃(j:aH)(k:Bool)(l:Bs)(m:Int)(rest:List aK),z.1.dimR=.tup [.agg (enc .aval j),.bool k]∧z.2=some [.sl .u8 (.may false) l,.int .i64 m]::rest∧dr a c d g i (j,k,l,m))):∃r,dm a c d g i r:=FnC.finO (css:=[[.sl .u8 (.may false) a,.int .i64 c]]) am5 (N:=N) ((bo _ (by kernel_rfl) rfl (fun C=>ms N a c d g i (fun z=>C 1000000 (oA z)) (fun z=>C 1000001 (jM z))) (fun C=>by kernel_rfl)).trans (Eq.trans (b:=ms N a c d g i (fun z=>aX N (uG N) (oA z)) (fun z=>aX N (uH N) (jM z))) (by kernel_rfl) (congr (congrArg (ms N a c d g i) (funext fun z=>aW (oA) (uG N) (lc N) (ajF N) N z)) (funext fun z=>aW (jM) (uH N) (fK N) (ajG N) N z)))) h fun _ ⟨j,k,l,m,_,e,f,q⟩=>⟨(j,k,l,m),e,⟨_,f⟩,q⟩
end Go.Proofs.Ytdpajabhmmmjoaa
end
noncomputable section
namespace Go.Proofs.Ytdpajabhmmmjoaa
open Go.AM
set_option autoImplicit false
set_option linter.unusedVariables false
set_option linter.unusedSimpArgs false
set_option maxRecDepth 100000
theorem avi:∀k,12000000≤bW k
 |0=>Nat.le_refl _
 |k+1=>by have:=avi k;simp only[bW];omega
theorem am6{a b c:Bool}(h:(a&&b)=true)(hc:c=true):(c&&b)=true:=by
 cases a<;>cases b<;>simp_all
section
variable{ts:List aA}{t:Int}
theorem aA8{m:Nat}(hk:gu m (ts.getD t.toNat (aB .atype)))(hq:(ts.getD t.toNat (aB .atype)).kind=2∨(ts.getD t.toNat (aB .atype)).kind=3∨(ts.getD t.toNat (aB .atype)).kind=4∨(ts.getD t.toNat (aB .atype)).kind=5∨(ts.getD t.toNat (aB .atype)).kind=6∨(ts.getD t.toNat (aB .atype)).kind=10)
  {n x:Int} {s:List UInt8} {l:List aH} {ks:List (List UInt8)} {b:Int} (h:bm ts t (.mk n s l ks b)=true) (hx:vV (ts.getD t.toNat (aB .atype)).kind (ts.getD t.toNat (aB .atype)).syms x=true):bm ts t (.mk x s l ks b)=true:=by
 rw[bm,Bool.and_eq_true] at h ⊢
 refine⟨h.1,?_⟩
 have h:=h.2
 generalize ts.getD t.toNat (aB .atype)=k at*
 rcases hq with e|e|e|e|e|e<;>simp only[e] at h hx ⊢
 ·exact am6 (a:=vV 2 k.syms n) (b:=dE 0 s l ks b) h hx
 ·exact am6 (a:=vV 3 k.syms n) (b:=dE 0 s l ks b) h hx
 ·exact am6 (a:=vV 4 k.syms n) (b:=dE 0 s l ks b) h hx
 ·exact am6 (a:=vV 5 k.syms n) (b:=dE 0 s l ks b) h hx
 ·exact am6 (a:=vV 6 k.syms n) (b:=dE 0 s l ks b) h hx
 ·exact am6 (a:=vV 10 k.syms n) (b:=dE 0 s l ks b) h hx
theorem aAs{m:Nat}(hk:gu m (ts.getD t.toNat (aB .atype)))(hq:(ts.getD t.toNat (aB .atype)).kind=7∨(ts.getD t.toNat (aB .atype)).kind=8)
  {n:Int} {s x:List UInt8} {l:List aH} {ks:List (List UInt8)} {b:Int} (h:bm ts t (.mk n s l ks b)=true) (hx:ap6 (ts.getD t.toNat (aB .atype)).kind (ts.getD t.toNat (aB .atype)).size x=true):bm ts t (.mk n x l ks b)=true:=by
 rw[bm,Bool.and_eq_true] at h ⊢
 refine⟨h.1,?_⟩
 have h:=h.2
 generalize ts.getD t.toNat (aB .atype)=k at*
 rcases hq with e|e<;>simp only[e] at h hx ⊢
 ·exact am6 (a:=ap6 7 k.size s) (b:=dE n [] l ks b) h hx
 ·exact am6 (a:=ap6 8 k.size s) (b:=dE n [] l ks b) h hx
theorem anh{n:Int}{s:List UInt8}{l:List aH}{ks:List (List UInt8)}{b:Int}(h:dE n s l ks b=true):n=0∧s=[]∧l=[]∧ks=[]∧b=0:=by
 simp only[dE,Bool.and_eq_true,beq_iff_eq,decide_eq_true_eq] at h
 obtain⟨h1,h2,h3,h4,h5⟩:=h
 exact⟨h1,h2,List.length_eq_zero_iff.1 (by omega),List.length_eq_zero_iff.1 (by omega),h5⟩
theorem aCy(e:(ts.getD t.toNat (aB .atype)).kind=9){n:Int}{s:List UInt8}{l:List aH}{ks:List (List UInt8)}{b:Int}(h:bm ts t (.mk n s l ks b)=true):n=0∧s=[]∧ks=[]∧b=0:=by
 rw[bm,Bool.and_eq_true] at h
 have h:=h.2
 simp only[e] at h
 have h:((decide (l.length=(ts.getD t.toNat (aB .atype)).fields.length)&&oQ ts (ts.getD t.toNat (aB .atype)).fields l)&&dE n s [] ks b)=true:=h
 have:=anh (Bool.and_eq_true_iff.1 h).2
 exact⟨this.1,this.2.1,this.2.2.2.1,this.2.2.2.2⟩
theorem aBM(e:(ts.getD t.toNat (aB .atype)).kind=12){n:Int}{s:List UInt8}{l:List aH}{ks:List (List UInt8)}{b:Int}(h:bm ts t (.mk n s l ks b)=true):n=0∧s=[]∧ks=[]∧b=0:=by
 rw[bm,Bool.and_eq_true] at h
 have h:=h.2
 simp only[e] at h
 have h:(bV ts (ts.getD t.toNat (aB .atype)).items l&&dE n s [] ks b)=true:=h
 have:=anh (Bool.and_eq_true_iff.1 h).2
 exact⟨this.1,this.2.1,this.2.2.2.1,this.2.2.2.2⟩
theorem aBN(e:(ts.getD t.toNat (aB .atype)).kind=13){n:Int}{s:List UInt8}{l:List aH}{ks:List (List UInt8)}{b:Int}(h:bm ts t (.mk n s l ks b)=true):n=0∧s=[]∧b=0:=by
 rw[bm,Bool.and_eq_true] at h
 have h:=h.2
 simp only[e] at h
 have h:((((ks.length:Int)==(l.length:Int))&&(je ks&&bV ts (ts.getD t.toNat (aB .atype)).items l))&&dE n s [] [] b)=true:=h
 have:=anh (Bool.and_eq_true_iff.1 h).2
 exact⟨this.1,this.2.1,this.2.2.2.2⟩
theorem aBO(e:(ts.getD t.toNat (aB .atype)).kind=14){n:Int}{s:List UInt8}{l:List aH}{ks:List (List UInt8)}{b:Int}(h:bm ts t (.mk n s l ks b)=true):n=0∧s=[]∧ks=[]:=by
 rw[bm,Bool.and_eq_true] at h
 have h:=h.2
 simp only[e] at h
 have h:((decide (0≤b)&&(decide (b<((ts.getD t.toNat (aB .atype)).branches.length:Int))&&(((l.length:Int)==1)&&bV ts ((ts.getD t.toNat (aB .atype)).branches.getD b.toNat 0) l)))&&dE n s [] ks 0)=true:=h
 have:=anh (Bool.and_eq_true_iff.1 h).2
 exact⟨this.1,this.2.1,this.2.2.2.1⟩
theorem aA9(ht:isT ts t=true)(e:(ts.getD t.toNat (aB .atype)).kind=12){l:List aH}(h:bV ts (ts.getD t.toNat (aB .atype)).items l=true):bm ts t (.mk 0 [] l [] 0)=true:=by
 rw[bm,ht]
 simp only[Bool.true_and]
 rw[e]
 show (bV ts (ts.getD t.toNat (aB .atype)).items l&&true)=true
 rw[h];rfl
theorem aBa(ht:isT ts t=true)(e:(ts.getD t.toNat (aB .atype)).kind=13){l:List aH}{ks:List (List UInt8)}(hl:ks.length=l.length)(hk:je ks=true)(h:bV ts (ts.getD t.toNat (aB .atype)).items l=true):bm ts t (.mk 0 [] l ks 0)=true:=by
 rw[bm,ht]
 simp only[Bool.true_and]
 rw[e]
 show ((((ks.length:Int)==(l.length:Int))&&(je ks&&bV ts (ts.getD t.toNat (aB .atype)).items l))&&true)=true
 rw[h,hk,hl];simp
end
theorem arA{ts:List aA}{t:Int}(h:zd ts t=true):0≤t∧t<ts.length∧0≤rk (rkS ts) t∧rk (wtS ts) t≤2000:=by
 simp only[zd,isT,Bool.and_eq_true,decide_eq_true_eq] at h;omega
theorem azm{ts:List aA}(hs:cw ts){t:Int}(h:zd ts t=true)(h9:(ts.getD t.toNat (aB .atype)).kind=9){f:aM}(hf:f∈(ts.getD t.toNat (aB .atype)).fields):zd ts f.typ=true:=by
 obtain⟨h1,h2,h3,h4⟩:=arA h
 have hR:=aw2 ts hs
 have hW:=aAb ts hs
 have hrl:=hR.len
 have hk:=hs.at (i:=t.toNat) (by omega)
 have h3':0≤(rkS ts).getD t.toNat 0:=h3
 have hp:1≤(rkS ts).getD t.toNat 0:=by
  by_cases h0:(rkS ts).getD t.toNat 0=0
  ·exact absurd h9 (hR.nul t.toNat (by omega) h0).1
  ·omega
 have hro:=hR.ok t.toNat (by omega) hp
 have hrc:=hro.rcd (by omega)
 have hty:=hk.fields f hf
 have hpos:∀g∈(ts.getD t.toNat (aB .atype)).fields,0≤rk (wtS ts) g.typ:=fun g hg=>by
  have hg1:=hrc g hg
  have hg2:=hk.fields g hg
  have:=(hW.ok g.typ.toNat (by omega) hg1.1).pos
  unfold rk;omega
 have hle:=apg hpos f hf
 have hwt:=(hW.ok t.toNat (by omega) h3').rcd h9
 have h4':(wtS ts).getD t.toNat 0≤2000:=h4
 have hfr:=(hrc f hf).1
 simp only[zd,isT,Bool.and_eq_true,decide_eq_true_eq]
 exact⟨⟨hty.1,hty.2.1⟩,hfr,by omega⟩
theorem atI(m:Int)(h:0≤m∧m<5):iB (([107]:List UInt8)++[UInt8.ofNat (Int.toNat (IntKind.wrap .u8 (IntKind.wrap .i64 (97+m))))])=true:=by
 have:m=0∨m=1∨m=2∨m=3∨m=4:=by omega
 rcases this with rfl|rfl|rfl|rfl|rfl<;>decide
def aiC(ts:List aA)(deep:Int):Prop:=∀(l:List UInt8)(n t:Int),eA l n→∃r,dm l n ts t deep r
theorem aBb(ts:List aA)(hs:cw ts)(deep:Int)(hd:0≤deep∧deep≤5)(hV:aiC ts (deep+1))(t:Int)(hL:zd ts t=true)(h9:(ts.getD t.toNat (aB .atype)).kind=9)(a0 a4:Int)(a1:List UInt8)(a2:List aH)(a3:List (List UInt8))(kf:Bool)(l:List UInt8)(n:Int)(hp:eA l n):
  Tot (aR 1000 (lc 1000) (deep,ts,ts.getD t.toNat (aB .atype),0,l,n,a0,a1,a2,a3,a4,0,[],[],kf,[],0)) (fun z=>∃(y0:aH)(y1:Bool)(y2:Bs)(y3:Int)(rest:List aK),z.1.dimR=.tup [.agg (enc .aval y0),.bool y1]∧z.2=some [.sl .u8 (.may false) y2,.int .i64 y3]::rest∧dr l n ts t deep (y0,y1,y2,y3)):=by
 obtain⟨t1,t2, -, -⟩:=arA hL
 have hk:=hs.at (i:=t.toNat) (by omega)
 have hnf:=hk.nf
 have hfl:∀f∈(ts.getD t.toNat (aB .atype)).fields,zd ts f.typ=true:=fun f hf=>azm hs hL h9 hf
 have ed:IntKind.i64.wrap (deep+1)=deep+1:=aI (deep+1) (by omega)
 generalize hkk:ts.getD t.toNat (aB .atype)=k at*
 have hbw:bW (6-deep.toNat)=8*bW (6-(deep+1).toNat)+1000:=by
  have:6-deep.toNat=(6-(deep+1).toNat)+1:=by omega
  rw[this];rfl
 refine aU (fun x=>match x with
  |(d,ts',k',i,l',n',b0,b1,b2,b3,b4,c0,c1,c2,cf,c3,c4)=>d=deep∧ts'=ts∧k'=k∧0≤i∧i≤(k.fields.length:Int)∧l'=l∧eA l n'∧c0=0∧c1=[]∧c3=[]∧c4=0∧(c2.length:Int)=i∧oQ ts (k.fields.take i.toNat) c2=true∧wL c2≤i.toNat*bW (6-(deep+1).toNat))
  (fun x=>((k.fields.length:Int)-x.2.2.2.1).toNat) ?_ _ _ ⟨rfl,rfl,rfl,by simp,by simp,rfl,hp,rfl,rfl,rfl,rfl,rfl,rfl,by simp[wL]⟩ (by simp;omega)
 rintro again ⟨d,ts',k',i,l',n',b0,b1,b2,b3,b4,c0,c1,c2,cf,c3,c4⟩ ⟨rfl,rfl,rfl,i1,i2,rfl,i3,rfl,rfl,rfl,rfl,i4,i5,i6⟩ ih
 dsimp only at ih
 unfold lc
 dsimp only
 rw[ed]
 refine aC (fun h=>?_) (fun h=>?_)
 ·have h:=of_decide_eq_true h
  have hi:i.toNat<k'.fields.length:=by omega
  have hmem:=cA k'.fields i.toNat (aB .afield) hi
  have htk:=wE k'.fields i.toNat (aB .afield) hi
  have hff:=hfl _ hmem
  generalize k'.fields.getD i.toNat (aB .afield)=f at*
  refine vck ?_
  refine aE (hV l' n' f.typ i3) ?_
  rintro⟨v,is,l2,n2⟩ ⟨-,q1,q2,q3,q4⟩
  dsimp only at q1 q2 q3 q4 ⊢
  subst q3
  obtain⟨q5,q6⟩:=q2 (by rw[q1];exact hff)
  have ei:IntKind.i64.wrap (i+1)=i+1:=aI (i+1) (by omega)
  have eit:(i+1).toNat=i.toNat+1:=by omega
  refine vck ?_
  refine ih (d,ts',k',_,l2,n2,b0,b1,b2,b3,b4,0,[],_,cf,[],0) ?_ (by simp only[ei];omega)
  simp only[ei,tM]
  rw[eit,htk]
  refine⟨trivial,trivial,trivial,by omega,by omega,trivial,q4,trivial,trivial,trivial,trivial,by simp;omega,amP ts' _ _ _ _ (by simp;omega) i5 q5,?_⟩
  rw[ahL,Nat.add_mul]
  simp only[wL];omega
 ·have h:=of_decide_eq_false h
  rw[List.take_of_length_le (by omega)] at i5
  refine aF ⟨.mk 0 [] c2 [] 0,_,_,_,_,rfl,rfl,hL.symm,fun _=>⟨aw0 ts' t (arn ⟨t1,t2⟩) (by rw[hkk];exact h9) c2 (by rw[hkk];omega) (by rw[hkk];exact i5),?_⟩,rfl,i3⟩
  have:i.toNat*bW (6-(d+1).toNat)≤8*bW (6-(d+1).toNat):=Nat.mul_le_mul_right _ (by omega)
  simp only[wV,ab3,List.length_nil]
  omega
theorem arB(ts:List aA)(hs:cw ts)(deep:Int)(hd:0≤deep∧deep≤5)(hV:aiC ts (deep+1))(t:Int)(hL:zd ts t=true)(hkd:(ts.getD t.toNat (aB .atype)).kind=12∨(ts.getD t.toNat (aB .atype)).kind=13)(a0 a4:Int)(a1:List UInt8)(a2:List aH)(a3:List (List UInt8))(kf:Bool)(l:List UInt8)(n m:Int)(hm:0≤m∧m≤3)(hp:eA l n):
  Tot (aR 1000 (fK 1000) (Sum.inl (deep,ts,ts.getD t.toNat (aB .atype),m,l,n,a0,a1,a2,a3,a4,0,[],true,[],kf,[],0))) (fun z=>∃(y0:aH)(y1:Bool)(y2:Bs)(y3:Int)(rest:List aK),z.1.dimR=.tup [.agg (enc .aval y0),.bool y1]∧z.2=some [.sl .u8 (.may false) y2,.int .i64 y3]::rest∧dr l n ts t deep (y0,y1,y2,y3)):=by
 obtain⟨t1,t2, -, -⟩:=arA hL
 have hT:=arn ⟨t1,t2⟩
 have hk:=hs.at (i:=t.toNat) (by omega)
 have ed:IntKind.i64.wrap (deep+1)=deep+1:=aI (deep+1) (by omega)
 generalize hkk:ts.getD t.toNat (aB .atype)=k at*
 have hbw:bW (6-deep.toNat)=8*bW (6-(deep+1).toNat)+1000:=by
  have:6-deep.toNat=(6-(deep+1).toNat)+1:=by omega
  rw[this];rfl
 have hbg:=avi (6-(deep+1).toNat)
 generalize hB:bW (6-(deep+1).toNat)=W at*
 have fin:∀(c2:List aH)(c3:List (List UInt8)),((k.kind=12∧c3=[])∨(k.kind=13∧c3.length=c2.length∧je c3=true))→bV ts k.items c2=true→wL c2≤3*W→rp c3≤100→ayV ts t (.mk 0 [] c2 c3 0) (bW (6-deep.toNat)):=fun c2 c3 h1 h2 h3 h4=>by
  refine⟨?_,?_⟩
  ·rcases h1 with⟨e,rfl⟩|⟨e,h5,h6⟩
   ·exact aA9 hT (by rw[hkk];exact e) (by rw[hkk];exact h2)
   ·exact aBa hT (by rw[hkk];exact e) h5 h6 (by rw[hkk];exact h2)
  ·rw[hbw];simp only[wV,List.length_nil];omega
 have hkey:∀c:UInt8,rp [([107]:List UInt8)++[c]]=12:=fun c=>rfl
 refine aU (fun x=>match x with
  | .inl (d,ts',k',i,l',n',b0,b1,b2,b3,b4,c0,c1,lf,c2,cf,c3,c4)=>d=deep∧ts'=ts∧k'=k∧0≤i∧i≤3∧l'=l∧eA l n'∧c0=0∧c1=[]∧c4=0∧lf=true∧c2=[]∧c3=[]
  | .inr (.inl (d,ts',k',i,l',n',b0,b1,b2,b3,b4,c0,c1,c2,cf,c3,c4))=>d=deep∧ts'=ts∧k'=k∧0≤i∧i≤3∧l'=l∧eA l n'∧c0=0∧c1=[]∧c4=0∧k.kind=12∧c3=[]∧(c2.length:Int)+i≤3∧bV ts k.items c2=true∧wL c2+i.toNat*W≤3*W
  | .inr (.inr (d,ts',k',i,l',n',b0,b1,b2,b3,b4,c0,c1,c2,c3,c4))=>d=deep∧ts'=ts∧k'=k∧0≤i∧i≤3∧l'=l∧eA l n'∧c0=0∧c1=[]∧c4=0∧k.kind=13∧c3.length=c2.length∧(c2.length:Int)+i≤3∧bV ts k.items c2=true∧wL c2+i.toNat*W≤3*W∧je c3=true∧rp c3+12*i.toNat≤36)
  (fun x=>match x with
  | .inl (d,ts',k',i,_)=>i.toNat
  | .inr (.inl (d,ts',k',i,_))=>i.toNat
  | .inr (.inr (d,ts',k',i,_))=>i.toNat) ?_ _ _ ⟨rfl,rfl,rfl,hm.1,hm.2,rfl,hp,rfl,rfl,rfl,rfl,rfl,rfl⟩ (by simp only;omega)
 have mulW:∀i:Int,0<i→(i-1).toNat*W+W=i.toNat*W:=fun i hi=>by
  have:i.toNat=(i-1).toNat+1:=by omega
  rw[this,Nat.add_mul];omega
 rintro again (⟨d,ts',k',i,l',n',b0,b1,b2,b3,b4,c0,c1,lf,c2,cf,c3,c4⟩|⟨d,ts',k',i,l',n',b0,b1,b2,b3,b4,c0,c1,c2,cf,c3,c4⟩|⟨d,ts',k',i,l',n',b0,b1,b2,b3,b4,c0,c1,c2,c3,c4⟩)
 ·rintro⟨rfl,rfl,rfl,i1,i2,rfl,i3,rfl,rfl,rfl,rfl,rfl,rfl⟩ ih
  dsimp only at ih
  unfold fK
  dsimp only
  rw[ed]
  have finish:∀(n2:Int),eA l' n2→dr l' n ts' t d (.mk 0 [] [] [] 0,true,l',n2):=fun n2 h2=>⟨hL.symm,fun _=>fin [] [] (by rcases hkd with e|e;exact .inl ⟨e,rfl⟩;exact .inr ⟨e,rfl,rfl⟩) rfl (by simp[wL]) (by simp[rp]),rfl,h2⟩
  refine aC (fun h=>?_) (fun h=>aF ⟨.mk 0 [] [] [] 0,_,_,_,_,rfl,rfl,finish _ i3⟩)
  have h0:=of_decide_eq_true h
  refine aE (hV l' n' k'.items i3) ?_
  rintro⟨v,is,l2,n2⟩ ⟨-,q1,q2,q3,q4⟩
  dsimp only at q1 q2 q3 q4 ⊢
  subst q3
  refine aC (fun hn=>aF ⟨.mk 0 [] [] [] 0,_,_,_,_,rfl,rfl,finish _ q4⟩) (fun hy=>?_)
  simp only[bnl] at hy
  obtain⟨q5,q6⟩:=q2 hy
  rw[hB] at q6
  have ei:IntKind.i64.wrap (i-1)=i-1:=aI (i-1) (by omega)
  have hmw:=mulW i h0
  have h3w:i.toNat*W≤3*W:=Nat.mul_le_mul_right _ (by omega)
  refine aC (fun h12=>?_) (fun h12=>?_)
  ·simp only[bnl] at h12
   refine aJ (by simp) ?_
   refine ih (.inr (.inl (d,ts',k',_,l2,n2,b0,b1,b2,b3,b4,0,[],_,cf,[],0))) ?_ (by simp only[ei];omega)
   simp only[ei,tM,List.nil_append]
   refine⟨trivial,trivial,trivial,by omega,by omega,trivial,q4,trivial,trivial,trivial,h12,trivial,by simp;omega,by simp[bV,q5],by simp only[wL];omega⟩
  ·simp only[bnl] at h12
   have h13:k'.kind=13:=by rcases hkd with e|e;exact absurd e h12;exact e
   refine aE (db l2 n2 5 q4 (by omega) (by omega)) ?_
   rintro⟨m2,l3,n3⟩ ⟨-,p1,p2,p3,p4⟩
   dsimp only at p1 p2 p3 p4 ⊢
   subst p3
   refine aJ (by simp) ?_
   have hkv:=atI m2 ⟨p1,p2⟩
   refine aE (anf 0 [] [] [] 0 _ _ _ _ _ _ rfl (by simp)) ?_
   rintro⟨x0,x1,x2,x3,x4⟩ ⟨-,r1,r2,r3,r4,r5,r6,r7,r8,r9, -⟩
   dsimp only at r1 r2 r3 r4 r5 r6 r7 r8 r9 ⊢
   subst r3;subst r4;subst r5
   refine ih (.inr (.inr (d,ts',k',_,l3,n3,b0,b1,b2,b3,b4,0,[],x2,x3,0))) ?_ (by simp only[ei];omega)
   simp only[ei]
   have hrv:(aH.mk v.n v.s v.l v.keys v.branch)=v:=tM v
   rw[hrv] at r6 r9
   simp only[List.length_nil,wL,rp,List.length_append,List.length_cons] at r2 r6 r7
   refine⟨trivial,trivial,trivial,by omega,by omega,trivial,p4,trivial,trivial,trivial,h13,r1,by omega,r9 _ _ rfl q5,by omega,r8 rfl hkv,by omega⟩
 ·rintro⟨rfl,rfl,rfl,i1,i2,rfl,i3,rfl,rfl,rfl,h12,rfl,i4,i5,i6⟩ ih
  dsimp only at ih
  unfold fK
  dsimp only
  rw[ed]
  have finish:∀(n2:Int),eA l' n2→dr l' n ts' t d (.mk 0 [] c2 [] 0,true,l',n2):=fun n2 h2=>⟨hL.symm,fun _=>fin c2 [] (.inl ⟨h12,rfl⟩) i5 (by omega) (by simp[rp]),rfl,h2⟩
  refine aC (fun h=>?_) (fun h=>aF ⟨.mk 0 [] c2 [] 0,_,_,_,_,rfl,rfl,finish _ i3⟩)
  have h0:=of_decide_eq_true h
  refine aE (hV l' n' k'.items i3) ?_
  rintro⟨v,is,l2,n2⟩ ⟨-,q1,q2,q3,q4⟩
  dsimp only at q1 q2 q3 q4 ⊢
  subst q3
  refine aC (fun hn=>aF ⟨.mk 0 [] c2 [] 0,_,_,_,_,rfl,rfl,finish _ q4⟩) (fun hy=>?_)
  simp only[bnl] at hy
  obtain⟨q5,q6⟩:=q2 hy
  rw[hB] at q6
  have ei:IntKind.i64.wrap (i-1)=i-1:=aI (i-1) (by omega)
  have hmw:=mulW i h0
  refine aC (fun _=>?_) (fun hc=>absurd h12 (by simp only[bnl] at hc;exact hc))
  refine vck ?_
  refine ih (.inr (.inl (d,ts',k',_,l2,n2,b0,b1,b2,b3,b4,0,[],_,cf,[],0))) ?_ (by simp only[ei];omega)
  simp only[ei,tM]
  refine⟨trivial,trivial,trivial,by omega,by omega,trivial,q4,trivial,trivial,trivial,h12,trivial,by simp;omega,by rw[agt,i5];simp[bV,q5],by rw[ahL];simp only[wL];omega⟩
 ·rintro⟨rfl,rfl,rfl,i1,i2,rfl,i3,rfl,rfl,rfl,h13,i7,i4,i5,i6,i8,i9⟩ ih
  dsimp only at ih
  unfold fK
  dsimp only
  rw[ed]
  have finish:∀(n2:Int),eA l' n2→dr l' n ts' t d (.mk 0 [] c2 c3 0,true,l',n2):=fun n2 h2=>⟨hL.symm,fun _=>fin c2 c3 (.inr ⟨h13,i7,i8⟩) i5 (by omega) (by omega),rfl,h2⟩
  refine aC (fun h=>?_) (fun h=>aF ⟨.mk 0 [] c2 c3 0,_,_,_,_,rfl,rfl,finish _ i3⟩)
  have h0:=of_decide_eq_true h
  refine aE (hV l' n' k'.items i3) ?_
  rintro⟨v,is,l2,n2⟩ ⟨-,q1,q2,q3,q4⟩
  dsimp only at q1 q2 q3 q4 ⊢
  subst q3
  refine aC (fun hn=>aF ⟨.mk 0 [] c2 c3 0,_,_,_,_,rfl,rfl,finish _ q4⟩) (fun hy=>?_)
  simp only[bnl] at hy
  obtain⟨q5,q6⟩:=q2 hy
  rw[hB] at q6
  have ei:IntKind.i64.wrap (i-1)=i-1:=aI (i-1) (by omega)
  have hmw:=mulW i h0
  refine aC (fun hc=>?_) (fun _=>?_)
  ·simp only[bnl] at hc;omega
  refine aE (db l2 n2 5 q4 (by omega) (by omega)) ?_
  rintro⟨m2,l3,n3⟩ ⟨-,p1,p2,p3,p4⟩
  dsimp only at p1 p2 p3 p4 ⊢
  subst p3
  refine aJ (by simp) ?_
  have hkv:=atI m2 ⟨p1,p2⟩
  refine aE (anf 0 [] c2 c3 0 _ _ _ _ _ _ i7 (by omega)) ?_
  rintro⟨x0,x1,x2,x3,x4⟩ ⟨-,r1,r2,r3,r4,r5,r6,r7,r8,r9, -⟩
  dsimp only at r1 r2 r3 r4 r5 r6 r7 r8 r9 ⊢
  subst r3;subst r4;subst r5
  refine ih (.inr (.inr (d,ts',k',_,l3,n3,b0,b1,b2,b3,b4,0,[],x2,x3,0))) ?_ (by simp only[ei];omega)
  simp only[ei]
  have hrv:(aH.mk v.n v.s v.l v.keys v.branch)=v:=tM v
  rw[hrv] at r6 r9
  simp only[List.length_append,List.length_cons,List.length_nil] at r7
  refine⟨trivial,trivial,trivial,by omega,by omega,trivial,p4,trivial,trivial,trivial,h13,r1,by omega,r9 _ _ i5 q5,by omega,r8 i8 hkv,by omega⟩
theorem atJ(ts:List aA)(hs:cw ts)(deep:Int)(hd:0≤deep∧deep≤6)(hV:deep≤5→aiC ts (deep+1)):aiC ts deep:=by
 intro l n t hp
 have ed:IntKind.i64.wrap (deep+1)=deep+1:=aI (deep+1) (by omega)
 apply alh 1000
 unfold acP ms
 dsimp only
 refine aE (aAc ts hs t) ?_
 rintro⟨n0,s0,lf,l0,kf,ks0,b0,is⟩ ⟨-,g1,g2⟩
 dsimp only at g1 g2 ⊢
 have hbg:=avi (6-deep.toNat)
 refine aC (fun h0=>?_) (fun h0=>?_)
 ·simp only[bnl] at h0
  exact aF ⟨.mk n0 s0 l0 ks0 b0,_,_,_,_,rfl,rfl,g1,fun hh=>absurd hh (by simp[h0]),rfl,hp⟩
 simp only[bnl] at h0
 obtain⟨⟨g3,g4⟩,g5⟩:=g2 h0
 have keep:ayV ts t (.mk n0 s0 l0 ks0 b0) (bW (6-deep.toNat)):=⟨g3,by omega⟩
 have hL:zd ts t=true:=by rw[←g1];exact h0
 refine aC (fun h5=>aF ⟨.mk n0 s0 l0 ks0 b0,_,_,_,_,rfl,rfl,g1,fun _=>keep,rfl,hp⟩) (fun h5=>?_)
 have h5:=of_decide_eq_false h5
 have hV:=hV (by omega)
 refine aE (awq l n) ?_
 rintro⟨ov,l2,n2⟩ ⟨-,o1,o2⟩
 dsimp only at o1 o2 ⊢
 subst o1;subst o2
 refine aC (fun _=>aF ⟨.mk n0 s0 l0 ks0 b0,_,_,_,_,rfl,rfl,g1,fun _=>keep,rfl,hp⟩) (fun _=>?_)
 obtain⟨t1,t2, -, -⟩:=arA hL
 have hT:=arn ⟨t1,t2⟩
 have hk:=hs.at (i:=t.toNat) (by omega)
 have hbw:bW (6-deep.toNat)=8*bW (6-(deep+1).toNat)+1000:=by
  have:6-deep.toNat=(6-(deep+1).toNat)+1:=by omega
  rw[this];rfl
 have hbg':=avi (6-(deep+1).toNat)
 refine vck ?_
 rw[ed]
 have num:∀(x n3:Int),eA l2 n3→((ts.getD t.toNat (aB .atype)).kind=2∨(ts.getD t.toNat (aB .atype)).kind=3∨(ts.getD t.toNat (aB .atype)).kind=4∨(ts.getD t.toNat (aB .atype)).kind=5∨(ts.getD t.toNat (aB .atype)).kind=6∨(ts.getD t.toNat (aB .atype)).kind=10)→
   vV (ts.getD t.toNat (aB .atype)).kind (ts.getD t.toNat (aB .atype)).syms x=true→dr l2 n2 ts t deep (.mk x s0 l0 ks0 b0,true,l2,n3):=fun x n3 h1 h2 h3=>⟨hL.symm,fun _=>⟨aA8 hk h2 g3 h3,keep.2⟩,rfl,h1⟩
 have txt:∀(x:List UInt8)(n3:Int),eA l2 n3→((ts.getD t.toNat (aB .atype)).kind=7∨(ts.getD t.toNat (aB .atype)).kind=8)→x.length≤4→
   ap6 (ts.getD t.toNat (aB .atype)).kind (ts.getD t.toNat (aB .atype)).size x=true→dr l2 n2 ts t deep (.mk n0 x l0 ks0 b0,true,l2,n3):=fun x n3 h1 h2 h4 h3=>⟨hL.symm,fun _=>⟨aAs hk h2 g3 h3,by simp only[wV] at g4 ⊢;omega⟩,rfl,h1⟩
 refine aC (fun h2=>?_) (fun h2=>aC (fun h3=>?_) (fun h3=>aC (fun h4=>?_) (fun h4=>aC (fun h5=>?_) (fun h5=>aC (fun h6=>?_) (fun h6=>aC (fun h8=>?_) (fun h8=>aC (fun h7=>?_) (fun h7=>aC (fun h10=>?_) (fun h10=>aC (fun h14=>?_) (fun h14=>aC (fun h9=>?_) (fun h9=>aC (fun h12=>?_) (fun h12=>aC (fun h13=>?_) (fun h13=>?_))))))))))))
 ·have h2:(ts.getD t.toNat (aB .atype)).kind=2:=by simp only[bnl] at h2;exact h2
  refine aE (db l2 n2 2 hp (by omega) (by omega)) ?_
  rintro⟨m2,l3,n3⟩ ⟨-,p1,p2,p3,p4⟩
  dsimp only at p1 p2 p3 p4 ⊢
  subst p3
  refine aF ⟨.mk (IntKind.wrap .u64 m2) s0 l0 ks0 b0,_,_,_,_,rfl,rfl,num _ _ p4 (by omega) ?_⟩
  rw[h2,oD _ (by omega)]
  show (decide (0≤m2)&&decide (m2≤1))=true
  simp;omega
 ·have h3:(ts.getD t.toNat (aB .atype)).kind=3:=by simp only[bnl] at h3;exact h3
  refine aE (db l2 n2 7 hp (by omega) (by omega)) ?_
  rintro⟨m2,l3,n3⟩ ⟨-,p1,p2,p3,p4⟩
  dsimp only at p1 p2 p3 p4 ⊢
  subst p3
  refine vck (aF ⟨.mk _ s0 l0 ks0 b0,_,_,_,_,rfl,rfl,num _ _ p4 (by omega) ?_⟩)
  rw[h3]
  have:m2=0∨m2=1∨m2=2∨m2=3∨m2=4∨m2=5∨m2=6:=by omega
  rcases this with rfl|rfl|rfl|rfl|rfl|rfl|rfl<;>rfl
 ·have h4:(ts.getD t.toNat (aB .atype)).kind=4:=by simp only[bnl] at h4;exact h4
  refine aE (db l2 n2 7 hp (by omega) (by omega)) ?_
  rintro⟨m2,l3,n3⟩ ⟨-,p1,p2,p3,p4⟩
  dsimp only at p1 p2 p3 p4 ⊢
  subst p3
  refine vck (aF ⟨.mk _ s0 l0 ks0 b0,_,_,_,_,rfl,rfl,num _ _ p4 (by omega) ?_⟩)
  rw[h4]
  have:m2=0∨m2=1∨m2=2∨m2=3∨m2=4∨m2=5∨m2=6:=by omega
  rcases this with rfl|rfl|rfl|rfl|rfl|rfl|rfl<;>rfl
 ·have h5:(ts.getD t.toNat (aB .atype)).kind=5:=by simp only[bnl] at h5;exact h5
  refine aE (db l2 n2 7 hp (by omega) (by omega)) ?_
  rintro⟨m2,l3,n3⟩ ⟨-,p1,p2,p3,p4⟩
  dsimp only at p1 p2 p3 p4 ⊢
  subst p3
  refine vck (aF ⟨.mk _ s0 l0 ks0 b0,_,_,_,_,rfl,rfl,num _ _ p4 (by omega) ?_⟩)
  rw[h5]
  have:m2=0∨m2=1∨m2=2∨m2=3∨m2=4∨m2=5∨m2=6:=by omega
  rcases this with rfl|rfl|rfl|rfl|rfl|rfl|rfl<;>rfl
 ·have h6:(ts.getD t.toNat (aB .atype)).kind=6:=by simp only[bnl] at h6;exact h6
  refine aE (db l2 n2 5 hp (by omega) (by omega)) ?_
  rintro⟨m2,l3,n3⟩ ⟨-,p1,p2,p3,p4⟩
  dsimp only at p1 p2 p3 p4 ⊢
  subst p3
  refine vck (aF ⟨.mk _ s0 l0 ks0 b0,_,_,_,_,rfl,rfl,num _ _ p4 (by omega) ?_⟩)
  rw[h6]
  have:m2=0∨m2=1∨m2=2∨m2=3∨m2=4:=by omega
  rcases this with rfl|rfl|rfl|rfl|rfl<;>rfl
 ·have h8:(ts.getD t.toNat (aB .atype)).kind=8:=by simp only[bnl] at h8;exact h8
  refine aE (db l2 n2 4 hp (by omega) (by omega)) ?_
  rintro⟨m2,l3,n3⟩ ⟨-,p1,p2,p3,p4⟩
  dsimp only at p1 p2 p3 p4 ⊢
  subst p3
  have hm:m2=0∨m2=1∨m2=2∨m2=3:=by omega
  refine vck (aF ⟨.mk n0 _ l0 ks0 b0,_,_,_,_,rfl,rfl,txt _ _ p4 (by omega) ?_ ?_⟩)
  ·rcases hm with rfl|rfl|rfl|rfl<;>decide
  ·rw[h8]
   rcases hm with rfl|rfl|rfl|rfl
   ·show iB []=true;decide
   ·show iB [97]=true;decide
   ·show iB [195,164]=true;decide
   ·show iB [116,101,120,116]=true;decide
 ·have h7:(ts.getD t.toNat (aB .atype)).kind=7:=by simp only[bnl] at h7;exact h7
  refine aE (db l2 n2 4 hp (by omega) (by omega)) ?_
  rintro⟨m2,l3,n3⟩ ⟨-,p1,p2,p3,p4⟩
  dsimp only at p1 p2 p3 p4 ⊢
  subst p3
  have hm:m2=0∨m2=1∨m2=2∨m2=3:=by omega
  refine vck (aF ⟨.mk n0 _ l0 ks0 b0,_,_,_,_,rfl,rfl,txt _ _ p4 (by omega) ?_ ?_⟩)
  ·rcases hm with rfl|rfl|rfl|rfl<;>decide
  ·rw[h7];rfl
 ·have h10:(ts.getD t.toNat (aB .atype)).kind=10:=by simp only[bnl] at h10;exact h10
  have hsy:0<(ts.getD t.toNat (aB .atype)).syms.length:=List.length_pos_iff.2 (hk.enum h10)
  have hns:=hk.ns
  refine aE (db l2 n2 _ hp (by omega) (by omega)) ?_
  rintro⟨m2,l3,n3⟩ ⟨-,p1,p2,p3,p4⟩
  dsimp only at p1 p2 p3 p4 ⊢
  subst p3
  refine aF ⟨.mk (IntKind.wrap .u64 m2) s0 l0 ks0 b0,_,_,_,_,rfl,rfl,num _ _ p4 (by omega) ?_⟩
  rw[h10,oD _ (by omega)]
  show (decide (0≤m2)&&decide (m2<IntKind.wrap .u64 ((ts.getD t.toNat (aB .atype)).syms.length:Int)))=true
  rw[oD _ (by omega),decide_eq_true p1,decide_eq_true p2];rfl
 ·have h14:(ts.getD t.toNat (aB .atype)).kind=14:=by simp only[bnl] at h14;exact h14
  have hbr:0<(ts.getD t.toNat (aB .atype)).branches.length:=List.length_pos_iff.2 (hk.done h14)
  have hnb:=hk.nb
  refine aE (db l2 n2 _ hp (by omega) (by omega)) ?_
  rintro⟨m2,l3,n3⟩ ⟨-,p1,p2,p3,p4⟩
  dsimp only at p1 p2 p3 p4 ⊢
  subst p3
  refine vck ?_
  refine aE (hV l3 n3 _ p4) ?_
  rintro⟨v,is2,l4,n4⟩ ⟨-,q1,q2,q3,q4⟩
  dsimp only at q1 q2 q3 q4 ⊢
  subst q3
  refine aC (fun hy=>?_) (fun hy=>aF ⟨.mk n0 s0 l0 ks0 b0,_,_,_,_,rfl,rfl,hL.symm,fun _=>keep,rfl,q4⟩)
  obtain⟨q5,q6⟩:=q2 hy
  obtain⟨rfl,rfl,rfl⟩:=aBO h14 g3
  refine aF ⟨.mk 0 [] [reA v] [] m2,_,_,_,_,rfl,rfl,hL.symm,fun _=>⟨?_,?_⟩,rfl,q4⟩
  ·rw[tM];exact aw1 ts t hT h14 m2 v ⟨p1,p2⟩ q5
  ·rw[tM,hbw];simp only[wV,wL,ab3,List.length_nil];omega
 ·have h9:(ts.getD t.toNat (aB .atype)).kind=9:=by simp only[bnl] at h9;exact h9
  obtain⟨rfl,rfl,rfl,rfl⟩:=aCy h9 g3
  exact aBb ts hs deep ⟨hd.1,by omega⟩ hV t hL h9 0 0 [] [] [] kf l2 n2 hp
 ·have h12:(ts.getD t.toNat (aB .atype)).kind=12:=by simp only[bnl] at h12;exact h12
  obtain⟨rfl,rfl,rfl,rfl⟩:=aBM h12 g3
  obtain⟨g6,g7⟩:=g5 (by omega)
  obtain⟨g8, -⟩:=g7 (by omega)
  subst g6;subst g8
  refine aE (db l2 n2 4 hp (by omega) (by omega)) ?_
  rintro⟨m2,l3,n3⟩ ⟨-,p1,p2,p3,p4⟩
  dsimp only at p1 p2 p3 p4 ⊢
  subst p3
  exact arB ts hs deep ⟨hd.1,by omega⟩ hV t hL (.inl h12) 0 0 [] [] [] kf l3 n3 m2 ⟨p1,by omega⟩ p4
 ·have h13:(ts.getD t.toNat (aB .atype)).kind=13:=by simp only[bnl] at h13;exact h13
  obtain⟨rfl,rfl,rfl⟩:=aBN h13 g3
  obtain⟨g6,g7⟩:=g5 (by omega)
  obtain⟨g8,g9⟩:=g7 (by omega)
  subst g6;subst g8;subst g9
  refine aE (db l2 n2 4 hp (by omega) (by omega)) ?_
  rintro⟨m2,l3,n3⟩ ⟨-,p1,p2,p3,p4⟩
  dsimp only at p1 p2 p3 p4 ⊢
  subst p3
  exact arB ts hs deep ⟨hd.1,by omega⟩ hV t hL (.inr h13) 0 0 [] [] [] kf l3 n3 m2 ⟨p1,by omega⟩ p4
 ·exact aF ⟨.mk n0 s0 l0 ks0 b0,_,_,_,_,rfl,rfl,hL.symm,fun _=>keep,rfl,hp⟩
theorem axh(ts:List aA)(hs:cw ts):∀(n:Nat)(deep:Int),deep+n=6→0≤deep→aiC ts deep
 |0,deep,h,h1=>atJ ts hs deep (by omega) (fun h'=>by omega)
 |n+1,deep,h,h1=>atJ ts hs deep (by omega) (fun _=>axh ts hs n (deep+1) (by omega) (by omega))
theorem aBc(ts:List aA)(hs:cw ts)(l:List UInt8)(n t:Int)(hp:eA l n):∃r,dm l n ts t 0 r:=axh ts hs 6 0 (by omega) (by omega) l n t hp
end Go.Proofs.Ytdpajabhmmmjoaa
end
noncomputable section
namespace Go.Proofs.Ytdpajabhmmmjoaa
open Go.AM
set_option autoImplicit false
set_option linter.unusedVariables false
set_option linter.unusedSimpArgs false
set_option maxRecDepth 100000
theorem atd(p q:List UInt8):∃r,acw p q r:=by
 apply ai1 61
 unfold abe kN
 dsimp only
 refine aE aAn ?_
 rintro r ⟨-,hr⟩
 have hr:r=true:=hr
 subst hr
 refine aC (fun h=>absurd h (by simp)) (fun _=>?_)
 refine aC (fun _=>aF ⟨_,_,rfl,rfl,rfl⟩) (fun hlen=>?_)
 have hlen:=of_decide_eq_false hlen
 refine aC (fun _=>aF ⟨_,_,rfl,rfl,rfl⟩) (fun hlen2=>?_)
 have hlen2:=of_decide_eq_false hlen2
 refine aE (awr p) ?_
 rintro _ ⟨-,rfl⟩
 refine aE (aBL p 0 ⟨by omega,by omega,by omega⟩) ?_
 rintro⟨w,r,ok,a',n'⟩ ⟨-,hok⟩
 have hok:ok=true→cw w∧cw r∧rt r:=hok
 dsimp only
 refine aC (fun _=>aF ⟨_,_,rfl,rfl,rfl⟩) (fun he=>?_)
 obtain⟨hw,hr,hd⟩:=hok (by simpa using he)
 have hwn:=hw.1
 refine aU (fun x=>x=(q,w,r,x.2.2.2.1,a',n')∧0≤x.2.2.2.1∧x.2.2.2.1≤(w.length:Int)) (fun x=>(w.length-x.2.2.2.1:Int).toNat) ?_ _ _ ⟨rfl,by simp,by simp⟩ (by simp only;omega)
 rintro again ⟨q1,q2,q3,i,q5,q6⟩ ⟨e,i1,i2⟩ ih
 dsimp only at e i1 i2 ih
 simp only[Prod.mk.injEq] at e
 obtain⟨rfl,rfl,rfl, -,rfl,rfl⟩:=e
 unfold nW
 dsimp only
 refine aC (fun hi=>?_) (fun hi=>aF ⟨_,_,rfl,rfl,rfl⟩)
 have hi:=of_decide_eq_true hi
 rw[aI (i+1) (by omega)]
 have next:=ih (q1,q2,q3,i+1,q5,q6) ⟨rfl,by simp only;omega,by simp only;omega⟩ (by simp only;omega)
 refine aE (awr q1) ?_
 rintro _ ⟨-,rfl⟩
 refine aE (aBc q2 hw q1 0 i ⟨by omega,by omega,by omega⟩) ?_
 rintro⟨v,is,a2,n2⟩ ⟨-,h1,h2,h3⟩
 dsimp only at h1 h2 h3 ⊢
 refine aC (fun _=>next) (fun his=>?_)
 obtain⟨f1,f2⟩:=h2 (by simpa using his)
 have hb:bW (6-Int.toNat 0)≤4000000000000:=by decide
 simp only[tM]
 refine aE (ax8 hw hr i 0 v (Nat.le_trans f2 hb)) ?_
 rintro⟨y,e⟩ ⟨-,hp⟩
 have hp:bm q2 i v=true→nu (sM q2) q2 q3 i 0=true→rt q3→e=0:=hp
 refine aE (axb hw q3 hr i 0) ?_
 rintro c ⟨-,hc⟩
 have hc:c=nu (sM q2) q2 q3 i 0:=hc
 dsimp only
 refine aC (fun hc1=>aC (fun he=>?_) (fun _=>next)) (fun _=>next)
 have:=hp f1 (by rw[←hc];exact hc1) hd
 subst this
 simp at he
theorem arC(p q:List UInt8):aV Try.prog wo [.sl .u8 (.may false) p,.sl .u8 (.may false) q] (.bool true):=by
 obtain⟨r,h,rfl⟩:=atd p q
 exact h
end Go.Proofs.Ytdpajabhmmmjoaa
end
noncomputable section
namespace Go.Proofs.Ytdpajabhmmmjoaa
open Go.ChangeShapes Go.WideShapes Go.AM
set_option autoImplicit false
set_option linter.unusedVariables false
set_option maxRecDepth 100000
theorem ayt{α:Type}{p:Nat→α→Prop}:∀n,(∀i,i<n→∃x,p i x)→∃l:List α,l.length=n∧∀i x,l[i]? =some x→p i x
 |0,_=>⟨[],rfl,by simp⟩
 |n+1,h=>by
  obtain⟨l,h1,h2⟩:=ayt n fun i hi=>h i (by omega)
  obtain⟨x,hx⟩:=h n (by omega)
  refine⟨l++[x],by simp[h1],fun i y hy=>?_⟩
  rcases Nat.lt_or_ge i l.length with hi|hi
  ·rw[List.getElem?_append_left hi] at hy
   exact h2 i y hy
  ·rw[List.getElem?_append_right hi] at hy
   have h3:i=n:=by
    have:=(List.getElem?_eq_some_iff.1 hy).1
    simp at this
    omega
   subst h3
   have:x=y:=by simpa [h1] using hy
   exact this▸hx
section
variable{H:Type}{enc:TypeId×Value→H}{w:World}{base:Nat}{held:Bool}
theorem aBP(k:EK){t e:TypeId}(ht:Try.prog.underlying t=some (.slice e))(hc:Try.prog.cellsOf e=k.sz){n:Nat}{cs:List Value}{x:DataW H×List MemPlace}
  (elem:∀m,m+1=n→∀es y,DataW.trod enc Try.prog w base (fun _=>true) held m e es=some y→∃x:Ty k,∀(j:Nat) v u,(AM.enc k x)[j]? =some v→es[j]? =some u→VRel (uj w).I id 0 w v u)
  (h:DataW.trod enc Try.prog w base (fun _=>true) held n t cs=some x):∃(xs:List (Ty k))(cv:Value),cs=[cv]∧VRel (uj w).I id 0 w (.sl k (.may false) xs) cv:=by
 have hk0:0<k.sz:=by cases k<;>simp[EK.sz]
 rcases DataW.trod_slice ht h with⟨rfl, -⟩|⟨a,len,cap,elems,rest,m,rfl,rfl, -,hb,hl,hm,hlen,hel,hsp, -⟩
 ·exact⟨[],_,rfl,.sln _ _⟩
 obtain⟨hrl,hr⟩:=hsp rfl
 rw[hc] at hel hr
 by_cases h0:cap=0
 ·subst h0
  obtain rfl:len=0:=by omega
  exact⟨[],_,rfl,.sle _ _ a (by simp)⟩
 have first:∃es y,w.cells? base (a.add (0*k.sz)) k.sz=some es∧DataW.trod enc Try.prog w base (fun _=>true) held m e es=some y:=by
  by_cases hl0:len=0
  ·have h1:=hr 0 (by omega)
   rw[hl0] at h1
   have h2:0<rest.length:=by omega
   rw[List.getElem?_eq_getElem h2,Option.bind_eq_some_iff] at h1
   obtain⟨es,h3,h4⟩:=h1
   exact⟨es,_,h3,h4⟩
  ·have h1:=hel 0 (by omega)
   have h2:0<elems.length:=by omega
   rw[List.getElem?_eq_getElem h2,Option.bind_eq_some_iff] at h1
   obtain⟨es,h3,h4⟩:=h1
   exact⟨es,_,h3,h4⟩
 have hspot:a.spot=none:=by
  obtain⟨es,y,h1, -⟩:=first
  obtain⟨h2,h3,h4⟩:=World.cells?_some h1
  have h5:=h4 0 hk0
  rw[List.getElem?_eq_getElem (by omega)] at h5
  simp only[Nat.zero_mul,Addr.add,if_true,World.cell?] at h5
  split at h5
  ·cases hs:a.spot with
   |none=>rfl
   |some s=>simp[hs] at h5
  ·cases h5
 obtain⟨b,off,spot⟩:=a
 simp only at hspot
 subst hspot
 obtain⟨xs,hxl,hxs⟩:=ayt (α:=Ty k) (p:=fun i x=>∀j v,(AM.enc k x)[j]? =some v→∃u,w.cell? ⟨b,off+i*k.sz+j,none⟩=some u∧VRel (uj w).I id 0 w v u) len (by
  intro i hi
  have h1:=hel i hi
  rw[List.getElem?_eq_getElem (by omega),Option.bind_eq_some_iff] at h1
  obtain⟨es,h2,h3⟩:=h1
  obtain⟨x,hx⟩:=elem m rfl es _ h3
  obtain⟨h4,h5,h6⟩:=World.cells?_some h2
  refine⟨x,fun j v hv=>?_⟩
  have hj:j<k.sz:=by
   have:=(List.getElem?_eq_some_iff.1 hv).1
   rwa [cF] at this
  have h7:=h6 j hj
  rw[List.getElem?_eq_getElem (by omega),add_plain,add_plain] at h7
  exact⟨_,h7,hx j v _ hv (List.getElem?_eq_getElem (by omega))⟩)
 refine⟨xs,_,rfl,.sl k (.may false) xs b off len cap hxl (by omega) (by unfold maxLen at hm;unfold ey;exact hm) (by simp) (fun i j=>(w.cell? ⟨b,off+i*k.sz+j,none⟩).getD undef) ?_ ?_ ?_⟩
 ·intro i x j h1 h2
  obtain⟨u,h3, -⟩:=hxs i x h1 j _ (List.getElem?_eq_getElem h2)
  show (w.cell? _).isSome=true
  rw[h3];rfl
 ·intro i x j h1 h2
  obtain⟨u,h3, -⟩:=hxs i x h1 j _ (List.getElem?_eq_getElem h2)
  rw[h3];rfl
 ·intro i x j v h1 h2
  obtain⟨u,h3,h4⟩:=hxs i x h1 j v h2
  rw[h3];exact h4
theorem azn{n:Nat}{cs:List Value}{x:DataW H×List MemPlace}(h:DataW.trod enc Try.prog w base (fun _=>true) held n 22 cs=some x):
  ∃(xs:List UInt8)(cv:Value),cs=[cv]∧VRel (uj w).I id 0 w (.sl .u8 (.may false) xs) cv:=
 aBP .u8 Try.underlying22 (by kernel_rfl) (fun m hm es y hy=>by
  obtain⟨c,rfl, -,hw⟩:=DataW.trod_int Try.underlying5 hy
  have hr:0≤c∧c≤255:=by simpa [Lit.wf,IntKind.min,IntKind.max,IntKind.signed,IntKind.bits] using hw
  refine⟨UInt8.ofNat c.toNat,fun j v u h1 h2=>?_⟩
  obtain rfl:j=0:=by
   have:=(List.getElem?_eq_some_iff.1 h2).1
   simpa using this
  simp only[AM.enc,List.getElem?_cons_zero,Option.some.injEq] at h1 h2
  subst h1 h2
  have:((UInt8.ofNat c.toNat).toNat:Int)=c:=by
   rw[UInt8.toNat_ofNat']
   omega
  rw[this]
  exact .int _ _ (by simpa [Lit.wf] using hw)) h
theorem arD{r:Reach}{b0:Nat}{v:Value}{d:DataW H}{p:List MemPlace}(hv:Value.okWide Try.prog w r b0 22 v)(h:DataW.Trod enc Try.prog w base (fun _=>true) held 22 v d p):
  ∃xs:List UInt8,VRel (uj w).I id 0 w (.sl .u8 (.may false) xs) v:=by
 obtain⟨a,len,cap,rfl⟩:=okWide_slice Try.underlying22 hv
 obtain⟨fuel,hf⟩:=h
 obtain⟨xs,cv,e,hr⟩:=azn hf
 have e:[Value.slice a len cap]=[cv]:=e
 cases e
 exact⟨xs,hr⟩
end
end Go.Proofs.Ytdpajabhmmmjoaa
end
