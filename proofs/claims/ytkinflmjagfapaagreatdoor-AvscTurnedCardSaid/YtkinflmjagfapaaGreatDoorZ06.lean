import Derived.KernelRfl
import Derived.Test.YtkinflmjagfapaaGreatDoorChecked
import Derived.ChangeArms
import Derived.ChangeSlices
import Derived.WideShapes
import Derived.WideKeyArgs
import Derived.Test.YtkinflmjagfapaaGreatDoorZ02
import Derived.Test.YtkinflmjagfapaaGreatDoorZ03
import Derived.Test.YtkinflmjagfapaaGreatDoorZ05
open Array renaming getElem?_eq_getElem→Ao
open Eq renaming trans→A3
open Go.IntKind renaming wrap→Aj,signed→Bb,bits→Bo,max→BT,min→B2
open Go.World renaming cell?→By
open Int renaming toNat→Ae,toNat_natCast→AR,tmod→Bz,tmod_eq_emod_of_nonneg→BE,mul_le_mul_of_nonneg_right→Cu,tdiv_eq_ediv_of_nonneg→CJ,tmod_nonneg→Dk,emod_lt_of_pos→Dx
open List renaming length→Aa,getElem?_eq_getElem→Ab,getElem?_eq_some_iff→Ad,getD_eq_getElem?_getD→Af,mem_of_getElem?→Ai,getD→Ak,getElem?_append_right→Aq,getElem?_append_left→Ar,length_cons→Av,mem_append→Aw,mem_singleton→Az,length_nil→AA,length_append→AD,length_set→AF,set→AJ,getElem_mem→AK,mem_cons→AQ,drop→AY,getElem?_eq_none→AZ,getElem?_cons_zero→A4,take→A5,mem_of_mem_take→Be,length_singleton→Bh,drop_eq_getElem_cons→Bl,cons_append→Bp,not_mem_nil→Bu,take_of_length_le→Bv,length_take→Bw,mem_of_mem_drop→BC,length_drop→BJ,drop_zero→BS,drop_eq_nil_of_le→B1,getD_cons_zero→Cm,set_cons_succ→Cq,nil_append→Cr,set_cons_zero→CT,drop_succ_cons→Dr,mem_or_eq_of_mem_set→DJ
open Nat renaming le_refl→Am,beq→As,le_trans→AH,lt_or_ge→AI,zero_add→A1,zero_le→Br,beq_refl→BF
open Option renaming getD_some→Bd,bind_eq_some_iff→BK
open Option.some renaming injEq→Ah
open UInt8 renaming ofNat→Bq
set_option linter.all false
set_option maxRecDepth 100000
noncomputable section
namespace Go.Proofs.YtkinflmjagfapaaGreatDoor
open Go.AM
noncomputable def ak6:av:=tab (P:=Tryz.prog) [] [] [] [abr]
def ajT:IR:=Rs [Bx 3 0,Pp (.new 6 [vI 0,vI 0,vS,nl .jnode,nl .str])] (Sq (Rs [Mv 10 1,Ll 11 10,Bc 12 .eql 11 0,Mv 13 12,Gf 13 (.fad 14 3 3),Gf 13 (.lde 15 1 false 14),Gf 13 (.lenl 16 15),Gf 13 (.bin 17 .eql 16 (kI 0)),Po 18 13 17] (Cn 18 (Rs [Pp (.bsl 19 .str [kS [105,110,116],kS [115,116,114,105,110,103],kS [114,101,99,111,114,100],kS [101,110,117,109],kS [110,117,108,108],kS [120],kS [78,97],kS [115,46,84,111,112],kS [97,45,98],kS [],kS [109,97,112],kS [97,114,114,97,121],kS [102,105,120,101,100],kS [84,111,112],kS [115,46,78,97],kS [78,46,98]] true),Mv 7 19] (Sq (Rs [Mv 20 2,Pp (.bin 21 .rem 20 (.c (.int .u8 8)))] (.block 0 (Rs [Pp (.bin 23 .eql 21 (.c (.int .u8 0))),Mv 22 23] (Cn 22 (Rs [Mv 24 2,Pp (.cvi 25 .i64 24),Pp (.bld 26 [vI 0,vI 0,vS,fu .jnode true,fu .str true] [(0,1,kI 3),(1,1,25)]),Sv 5 6 26] .ret) (Rs [Pp (.bin 28 .eql 21 (.c (.int .u8 1))),Mv 27 28] (Cn 27 (Rs [Pp (.bld 29 [vI 0,vI 0,vS,fu .jnode true,fu .str true] [(0,1,kI 1)]),Sv 5 6 29] .ret) (Rs [Pp (.bin 31 .eql 21 (.c (.int .u8 2))),Mv 30 31] (Cn 30 (Rs [Fa 32 3 3,Lq 33 32,Pp (.bld 34 [vI 0,vI 0,vS,fu .jnode true,fu .str true] [(0,1,kI 5),(3,1,33)]),Sv 5 6 34] .ret) .skip)))))))) (Rs [Mv 35 7,Mv 36 2,Pp (.bin 37 .quo 36 (.c (.int .u8 8))),Pp (.cvi 38 .i64 37),Mv 39 7,Ll 40 39,Bi 41 .rem 38 40,Ix 42 .str 35 41,Lq 43 42,Pp (.bld 44 [vI 0,vI 0,vS,fu .jnode true,fu .str true] [(0,1,kI 4),(2,1,43)]),Sv 5 6 44] .ret))) .skip)) (Rs [Ld 45 5 true 3,Pp (.new 8 [vI 0,vI 0,vS,.ul .jnode ([]:List aa),.ul .str ([]:Bss)]),Sv 5 8 45] (Sq (.reg [Pp (.blu 46 .jnode),Fa 47 3 3,Lq 48 47,Pp (.apu 49 .jnode (.tk 46) 48),Pp (.blu 50 .str),Fa 51 4 3,Lq 52 51,Pp (.apu 53 .str (.tk 50) 52),Fa 54 3 8,Fo [] [1] (.st none 1 54 (.tk 49)),Fa 55 4 8,Fo [] [1] (.st none 1 55 (.tk 53))] [[],[],[1],[0,1,2],[],[],[5],rg 0 6,rg 0 3,rg 0 8,rg 0 9,rg 0 10]) (Sq (.reg [Mv 56 1,Pp (.ixa 57 .u8 56 (kI 0)),Lq 58 57,Pp (.cvi 59 .i64 58),Fa 60 3 3,Lq 61 60,Ll 62 61,Bi 63 .rem 59 62,Mv 9 63] [[],[0],[0,1],[0,1,2],[],[4],[4,5],rg 0 6,rg 0 7]) (Sq (.block 1 (Rs [Mv 78 1,Ll 79 78,Bc 80 .eql 79 1,Mv 81 80,Gt 81 (.mov 82 2),Gt 81 (.bin 83 .rem 82 (.c (.int .u8 5))),Gt 81 (.bin 84 .eql 83 (.c (.int .u8 0))),Pa 85 81 84,Mv 86 85,Gt 86 (.fad 87 4 8),Gt 86 (.ld 88 1 false false 87),Gt 86 (.lnw 89 88),Gt 86 (.fad 90 3 8),Gt 86 (.ld 91 1 false false 90),Gt 86 (.lnw 92 91),Gt 86 (.bin 93 .eql 89 92),Pa 94 86 93,Mv 77 94] (Cn 77 (.gh (.opn (.cell 1 3)) (.gh (.opn (.cell 1 4)) (.ghp (.cls (.cell 1 3)) (.ghp (.cls (.cell 1 4)) (.reg [Fa 95 3 8,Fo [1] [] (.ld 96 1 false false 95),Mv 97 9,Pp (.slw 98 .jnode (.t 96) none (some (.t 97))),Fa 99 3 8,Fo [1] [] (.ld 100 1 false false 99),Mv 101 9,Bc 102 .add 101 1,Pp (.slw 103 .jnode (.t 100) (some (.t 102)) none),Fo [] [2] (.apx 104 .jnode (.t 98) (.t 103)),Fa 105 4 8,Fo [1] [] (.ld 106 1 false false 105),Mv 107 9,Pp (.slw 108 .str (.t 106) none (some (.t 107))),Fa 109 4 8,Fo [1] [] (.ld 110 1 false false 109),Mv 111 9,Bc 112 .add 111 1,Pp (.slw 113 .str (.t 110) (some (.t 112)) none),Fo [] [4] (.apx 114 .str (.t 108) (.t 113)),Fa 115 3 8,Fo [] [1] (.st none 1 115 (.tk 104)),Fa 116 4 8,Fo [] [1] (.st none 1 116 (.tk 114))] [[],[0],[],[0,1,2],[],[4],[],[6],rg 4 7,rg 0 8,[],[10],[],[10,11,12],[],[14],[],[16],rg 14 17,rg 0 18,rg 0 11++[14,15],rg 0 20,rg 0 21,rg 0 22]))))) (Rs [Mv 118 1,Ll 119 118,Bc 120 .eql 119 1,Mv 121 120,Gt 121 (.mov 122 2),Gt 121 (.bin 123 .rem 122 (.c (.int .u8 5))),Gt 121 (.bin 124 .eql 123 (.c (.int .u8 1))),Pa 125 121 124,Mv 126 125,Gt 126 (.fad 127 0 3),Gt 126 (.lde 128 1 false 127),Gt 126 (.bin 129 .eql 128 (kI 5)),Pa 130 126 129,Mv 117 130] (Cn 117 (.gh (.fz (.cell 1 3)) (.reg [Fa 131 3 8,Fo [] [1] (.ld 132 1 false true 131),Fa 133 3 8,Fo [1] [] (.ld 134 1 false false 133),Mv 135 9,Ix 136 .jnode 134 135,Ld 137 5 true 136,Pp (.bsl 138 .jnode [137] true),Pp (.app 139 .jnode (.tk 132) 138),Fa 140 3 8,Fo [] [1] (.st none 1 140 (.tk 139))] [[],[0],[],[2],[],[2,3,4],rg 2 5,rg 2 6,rg 0 7,rg 0 8,rg 0 9])) (.gh (.opn (.cell 1 3)) (.ghp (.cls (.cell 1 3)) (.reg [Fa 64 3 8,Fo [1] [] (.ld 65 1 false false 64),Mv 66 9,Fa 67 3 3,Lq 68 67,Mv 69 9,Ix 70 .jnode 68 69,Ld 71 5 true 70,Mv 72 1,Pp (.subl 73 .u8 72 (some (kI 1)) none),Mv 74 2,Ca 75 5 [71,73,74],Pp (.ixw 76 .jnode 65 66),Fo [] [2] (.stw none 5 76 75)] [[],[0],[],[],[3],[],[3,4,5],rg 3 6,[],[8],[],rg 3 10,rg 0 11,rg 0 12])))))))) (Sq (.gh (.fz (.cell 1 4)) (.gh (.fz (.cell 1 3)) (Rg [Pp (.ld 141 5 true false 8),Sv 5 6 141]))) .ret))))))
def ajU:List RV:=[.cell 6 5 true]
theorem ajV:FnC Tryz.prog ak6 [] 0 abq Tryz.f5 ajT ajU:=fnC Tryz.func5
def uX(N:Nat)(c:aa)(e:Bs)(f:Int):Ro:=
 let x1:=(↑(Aa e):Int)
 let x:=λI G H g3 g4=>(some (.agg [.int .i64 I,.int .i64 G,.str H,.sl .jnode (.may g3) g4,.sl .str (.may true) ([]:Bss)],[some [.int .i64 I,.int .i64 G,.str H,.sl .jnode (.may g3) g4,.sl .str (.may true) ([]:Bss)]]):Ro)
 let i:=λI G H=>(some (.agg [.int .i64 c.kind,.int .i64 c.n,.str c.s,.sl .jnode (.may false) I,.sl .str (.may false) G],H):Ro)
 cond (x1==0) (
  cond ((Bz f 8)==0) (
   x 3 (Aj .i64 f) ([]:Bs) true ([]:List aa)) (
   cond ((Bz f 8)==1) (
    x 1 0 ([]:Bs) true ([]:List aa)) (
    cond ((Bz f 8)==2) (
     x 5 0 ([]:Bs) false c.l) (
     let x2:=(Aj .u8 (Int.tdiv f 8))
     let x3:=(↑(Aa ([([105,110,116]:Bs),([115,116,114,105,110,103]:Bs),([114,101,99,111,114,100]:Bs),([101,110,117,109]:Bs),([110,117,108,108]:Bs),([120]:Bs),([78,97]:Bs),([115,46,84,111,112]:Bs),([97,45,98]:Bs),([]:Bs),([109,97,112]:Bs),([97,114,114,97,121]:Bs),([102,105,120,101,100]:Bs),([84,111,112]:Bs),([115,46,78,97]:Bs),([78,46,98]:Bs)]:Bss)):Int)
     chk ((!(x3==0))) (
      let x4:=(Bz (Aj .i64 x2) x3)
      chk (ixl x4 ([([105,110,116]:Bs),([115,116,114,105,110,103]:Bs),([114,101,99,111,114,100]:Bs),([101,110,117,109]:Bs),([110,117,108,108]:Bs),([120]:Bs),([78,97]:Bs),([115,46,84,111,112]:Bs),([97,45,98]:Bs),([]:Bs),([109,97,112]:Bs),([97,114,114,97,121]:Bs),([102,105,120,101,100]:Bs),([84,111,112]:Bs),([115,46,78,97]:Bs),([78,46,98]:Bs)]:Bss)) (
       let x5:=Ak ([([105,110,116]:Bs),([115,116,114,105,110,103]:Bs),([114,101,99,111,114,100]:Bs),([101,110,117,109]:Bs),([110,117,108,108]:Bs),([120]:Bs),([78,97]:Bs),([115,46,84,111,112]:Bs),([97,45,98]:Bs),([]:Bs),([109,97,112]:Bs),([97,114,114,97,121]:Bs),([102,105,120,101,100]:Bs),([84,111,112]:Bs),([115,46,78,97]:Bs),([78,46,98]:Bs)]:Bss) (Ae x4) (am .str)
       x 4 0 x5 true ([]:List aa))))))) (
  let x6:=(↑(Aa c.l):Int)
  cond (x6==0) (
   cond ((Bz f 8)==0) (
    x 3 (Aj .i64 f) ([]:Bs) true ([]:List aa)) (
    cond ((Bz f 8)==1) (
     x 1 0 ([]:Bs) true ([]:List aa)) (
     cond ((Bz f 8)==2) (
      x 5 0 ([]:Bs) false c.l) (
      let x7:=(Aj .u8 (Int.tdiv f 8))
      let x8:=(↑(Aa ([([105,110,116]:Bs),([115,116,114,105,110,103]:Bs),([114,101,99,111,114,100]:Bs),([101,110,117,109]:Bs),([110,117,108,108]:Bs),([120]:Bs),([78,97]:Bs),([115,46,84,111,112]:Bs),([97,45,98]:Bs),([]:Bs),([109,97,112]:Bs),([97,114,114,97,121]:Bs),([102,105,120,101,100]:Bs),([84,111,112]:Bs),([115,46,78,97]:Bs),([78,46,98]:Bs)]:Bss)):Int)
      chk ((!(x8==0))) (
       let x9:=(Bz (Aj .i64 x7) x8)
       chk (ixl x9 ([([105,110,116]:Bs),([115,116,114,105,110,103]:Bs),([114,101,99,111,114,100]:Bs),([101,110,117,109]:Bs),([110,117,108,108]:Bs),([120]:Bs),([78,97]:Bs),([115,46,84,111,112]:Bs),([97,45,98]:Bs),([]:Bs),([109,97,112]:Bs),([97,114,114,97,121]:Bs),([102,105,120,101,100]:Bs),([84,111,112]:Bs),([115,46,78,97]:Bs),([78,46,98]:Bs)]:Bss)) (
        let a0:=Ak ([([105,110,116]:Bs),([115,116,114,105,110,103]:Bs),([114,101,99,111,114,100]:Bs),([101,110,117,109]:Bs),([110,117,108,108]:Bs),([120]:Bs),([78,97]:Bs),([115,46,84,111,112]:Bs),([97,45,98]:Bs),([]:Bs),([109,97,112]:Bs),([97,114,114,97,121]:Bs),([102,105,120,101,100]:Bs),([84,111,112]:Bs),([115,46,78,97]:Bs),([78,46,98]:Bs)]:Bss) (Ae x9) (am .str)
        x 4 0 a0 true ([]:List aa))))))) (
   chk (decide ((Aa ([]:List aa)+Aa c.l)*80<=140737488355328)) (
    let b:=(([]:List aa)++c.l)
    chk (decide ((Aa ([]:Bss)+Aa c.names)*16<=140737488355328)) (
     let d:=(([]:Bss)++c.names)
     chk (decide ((0:Int)<↑(Aa e))) (
      let a1:=(Ak e (Ae 0) (am .u8)).toNat;let D:=(↑(Aa c.l):Int)
      chk ((!(D==0))) (
       let a:=(Bz (Aj .i64 a1) D)
       let an:=(↑(Aa e):Int)
       cond (an==1) (
        cond ((Bz f 5)==0) (
         let X:=(↑(Aa d):Int)
         let bl:=(↑(Aa b):Int)
         cond (X==bl) (
          chk (decide (0<Aa b)) (
           chk (decide (0<Aa d)) (
            chk ((decide (0<=a)&&decide (a<=(↑(Aa b):Int)))) (
             let g:=(Aj .i64 (a+1))
             chk ((decide (0<=g)&&decide (g<=(↑(Aa b):Int)))) (
              chk ((decide ((Ae a)<=(Ae g))&&decide ((Ae g)+((Aa b)-(Ae g))<=Aa b))) (
               let br:=((Ae a)+((Aa b)-(Ae g)))
               let r:=((A5 (Ae a) b)++(A5 ((Aa b)-(Ae g)) (AY (Ae g) b)))
               chk ((decide (0<=a)&&decide (a<=(↑(Aa d):Int)))) (
                let h:=(Aj .i64 (a+1))
                chk ((decide (0<=h)&&decide (h<=(↑(Aa d):Int)))) (
                 chk ((decide ((Ae a)<=(Ae h))&&decide ((Ae h)+((Aa d)-(Ae h))<=Aa d))) (
                  let O:=((Ae a)+((Aa d)-(Ae h)))
                  let p:=((A5 (Ae a) d)++(A5 ((Aa d)-(Ae h)) (AY (Ae h) d)))
                  chk (As O (Aa p)) (
                   chk (As br (Aa r)) (
                    i r p [some [.int .i64 c.kind,.int .i64 c.n,.str c.s,.sl .jnode (.may false) r,.sl .str (.may false) p],some [.int .i64 c.kind,.int .i64 c.n,.str c.s,.sl .jnode .own r,.sl .str .own p],none,none,none,none]))))))))))) (
          let W:=(↑(Aa e):Int)
          cond (W==1) (
           cond ((Bz f 5)==1) (
            cond (c.kind==5) (
             chk (ixl a b) (
              let E:=(Ak b (Ae a) (am .jnode))
              chk (decide ((Aa b+Aa ([(reJ E)]:List aa))*80<=140737488355328)) (
               let y:=(b++([(reJ E)]:List aa))
               i y d [some [.int .i64 c.kind,.int .i64 c.n,.str c.s,.sl .jnode (.may false) y,.sl .str (.may false) d],some [.int .i64 c.kind,.int .i64 c.n,.str c.s,.sl .jnode .own y,.sl .str .own d]]))) (
             chk (decide (0<Aa b)) (
              chk (ixl a c.l) (
               let al:=(Ak c.l (Ae a) (am .jnode))
               chk ((decide (0<=1)&&decide (1<=(↑(Aa e):Int)))) (
                let M:=(AY (Ae 1) (A5 (Aa e) e))
                af (cG (reJ al) M f) (λ(r1:aa)=>
                 chk ((decide (0<=a)&&decide (a<↑(Aa b)))) (
                  chk (decide ((Ae a)<Aa b)) (
                   let o:=(AJ b (Ae a) (reJ r1))
                   chk (As (Aa b) (Aa o)) (
                    i o d [some [.int .i64 c.kind,.int .i64 c.n,.str c.s,.sl .jnode (.may false) o,.sl .str (.may false) d],some [.int .i64 c.kind,.int .i64 c.n,.str c.s,.sl .jnode .own o,.sl .str .own d],none,none]))))))))) (
            chk (decide (0<Aa b)) (
             chk (ixl a c.l) (
              let a2:=(Ak c.l (Ae a) (am .jnode))
              chk ((decide (0<=1)&&decide (1<=(↑(Aa e):Int)))) (
               let L:=(AY (Ae 1) (A5 (Aa e) e))
               af (cG (reJ a2) L f) (λ(r2:aa)=>
                chk ((decide (0<=a)&&decide (a<↑(Aa b)))) (
                 chk (decide ((Ae a)<Aa b)) (
                  let k:=(AJ b (Ae a) (reJ r2))
                  chk (As (Aa b) (Aa k)) (
                   i k d [some [.int .i64 c.kind,.int .i64 c.n,.str c.s,.sl .jnode (.may false) k,.sl .str (.may false) d],some [.int .i64 c.kind,.int .i64 c.n,.str c.s,.sl .jnode .own k,.sl .str .own d],none,none]))))))))) (
           chk (decide (0<Aa b)) (
            chk (ixl a c.l) (
             let P:=(Ak c.l (Ae a) (am .jnode))
             chk ((decide (0<=1)&&decide (1<=(↑(Aa e):Int)))) (
              let a4:=(AY (Ae 1) (A5 (Aa e) e))
              af (cG (reJ P) a4 f) (λ(r3:aa)=>
               chk ((decide (0<=a)&&decide (a<↑(Aa b)))) (
                chk (decide ((Ae a)<Aa b)) (
                 let w:=(AJ b (Ae a) (reJ r3))
                 chk (As (Aa b) (Aa w)) (
                  i w d [some [.int .i64 c.kind,.int .i64 c.n,.str c.s,.sl .jnode (.may false) w,.sl .str (.may false) d],some [.int .i64 c.kind,.int .i64 c.n,.str c.s,.sl .jnode .own w,.sl .str .own d],none,none])))))))))) (
         let ar:=(↑(Aa e):Int)
         cond (ar==1) (
          cond ((Bz f 5)==1) (
           cond (c.kind==5) (
            chk (ixl a b) (
             let F:=(Ak b (Ae a) (am .jnode))
             chk (decide ((Aa b+Aa ([(reJ F)]:List aa))*80<=140737488355328)) (
              let B:=(b++([(reJ F)]:List aa))
              i B d [some [.int .i64 c.kind,.int .i64 c.n,.str c.s,.sl .jnode (.may false) B,.sl .str (.may false) d],some [.int .i64 c.kind,.int .i64 c.n,.str c.s,.sl .jnode .own B,.sl .str .own d]]))) (
            chk (decide (0<Aa b)) (
             chk (ixl a c.l) (
              let S:=(Ak c.l (Ae a) (am .jnode))
              chk ((decide (0<=1)&&decide (1<=(↑(Aa e):Int)))) (
               let Y:=(AY (Ae 1) (A5 (Aa e) e))
               af (cG (reJ S) Y f) (λ(r4:aa)=>
                chk ((decide (0<=a)&&decide (a<↑(Aa b)))) (
                 chk (decide ((Ae a)<Aa b)) (
                  let j:=(AJ b (Ae a) (reJ r4))
                  chk (As (Aa b) (Aa j)) (
                   i j d [some [.int .i64 c.kind,.int .i64 c.n,.str c.s,.sl .jnode (.may false) j,.sl .str (.may false) d],some [.int .i64 c.kind,.int .i64 c.n,.str c.s,.sl .jnode .own j,.sl .str .own d],none,none]))))))))) (
           chk (decide (0<Aa b)) (
            chk (ixl a c.l) (
             let Z:=(Ak c.l (Ae a) (am .jnode))
             chk ((decide (0<=1)&&decide (1<=(↑(Aa e):Int)))) (
              let a5:=(AY (Ae 1) (A5 (Aa e) e))
              af (cG (reJ Z) a5 f) (λ(r5:aa)=>
               chk ((decide (0<=a)&&decide (a<↑(Aa b)))) (
                chk (decide ((Ae a)<Aa b)) (
                 let q:=(AJ b (Ae a) (reJ r5))
                 chk (As (Aa b) (Aa q)) (
                  i q d [some [.int .i64 c.kind,.int .i64 c.n,.str c.s,.sl .jnode (.may false) q,.sl .str (.may false) d],some [.int .i64 c.kind,.int .i64 c.n,.str c.s,.sl .jnode .own q,.sl .str .own d],none,none]))))))))) (
          chk (decide (0<Aa b)) (
           chk (ixl a c.l) (
            let Q:=(Ak c.l (Ae a) (am .jnode))
            chk ((decide (0<=1)&&decide (1<=(↑(Aa e):Int)))) (
             let a3:=(AY (Ae 1) (A5 (Aa e) e))
             af (cG (reJ Q) a3 f) (λ(r6:aa)=>
              chk ((decide (0<=a)&&decide (a<↑(Aa b)))) (
               chk (decide ((Ae a)<Aa b)) (
                let v:=(AJ b (Ae a) (reJ r6))
                chk (As (Aa b) (Aa v)) (
                 i v d [some [.int .i64 c.kind,.int .i64 c.n,.str c.s,.sl .jnode (.may false) v,.sl .str (.may false) d],some [.int .i64 c.kind,.int .i64 c.n,.str c.s,.sl .jnode .own v,.sl .str .own d],none,none])))))))))) (
        let bs:=(↑(Aa e):Int)
        cond (bs==1) (
         cond ((Bz f 5)==1) (
          cond (c.kind==5) (
           chk (ixl a b) (
            let C:=(Ak b (Ae a) (am .jnode))
            chk (decide ((Aa b+Aa ([(reJ C)]:List aa))*80<=140737488355328)) (
             let A:=(b++([(reJ C)]:List aa))
             i A d [some [.int .i64 c.kind,.int .i64 c.n,.str c.s,.sl .jnode (.may false) A,.sl .str (.may false) d],some [.int .i64 c.kind,.int .i64 c.n,.str c.s,.sl .jnode .own A,.sl .str .own d]]))) (
           chk (decide (0<Aa b)) (
            chk (ixl a c.l) (
             let bn:=(Ak c.l (Ae a) (am .jnode))
             chk ((decide (0<=1)&&decide (1<=(↑(Aa e):Int)))) (
              let a9:=(AY (Ae 1) (A5 (Aa e) e))
              af (cG (reJ bn) a9 f) (λ(r7:aa)=>
               chk ((decide (0<=a)&&decide (a<↑(Aa b)))) (
                chk (decide ((Ae a)<Aa b)) (
                 let u:=(AJ b (Ae a) (reJ r7))
                 chk (As (Aa b) (Aa u)) (
                  i u d [some [.int .i64 c.kind,.int .i64 c.n,.str c.s,.sl .jnode (.may false) u,.sl .str (.may false) d],some [.int .i64 c.kind,.int .i64 c.n,.str c.s,.sl .jnode .own u,.sl .str .own d],none,none]))))))))) (
          chk (decide (0<Aa b)) (
           chk (ixl a c.l) (
            let ad:=(Ak c.l (Ae a) (am .jnode))
            chk ((decide (0<=1)&&decide (1<=(↑(Aa e):Int)))) (
             let R:=(AY (Ae 1) (A5 (Aa e) e))
             af (cG (reJ ad) R f) (λ(r8:aa)=>
              chk ((decide (0<=a)&&decide (a<↑(Aa b)))) (
               chk (decide ((Ae a)<Aa b)) (
                let t:=(AJ b (Ae a) (reJ r8))
                chk (As (Aa b) (Aa t)) (
                 i t d [some [.int .i64 c.kind,.int .i64 c.n,.str c.s,.sl .jnode (.may false) t,.sl .str (.may false) d],some [.int .i64 c.kind,.int .i64 c.n,.str c.s,.sl .jnode .own t,.sl .str .own d],none,none]))))))))) (
         chk (decide (0<Aa b)) (
          chk (ixl a c.l) (
           let ae:=(Ak c.l (Ae a) (am .jnode))
           chk ((decide (0<=1)&&decide (1<=(↑(Aa e):Int)))) (
            let J:=(AY (Ae 1) (A5 (Aa e) e))
            af (cG (reJ ae) J f) (λ(r9:aa)=>
             chk ((decide (0<=a)&&decide (a<↑(Aa b)))) (
              chk (decide ((Ae a)<Aa b)) (
               let m:=(AJ b (Ae a) (reJ r9))
               chk (As (Aa b) (Aa m)) (
                i m d [some [.int .i64 c.kind,.int .i64 c.n,.str c.s,.sl .jnode (.may false) m,.sl .str (.may false) d],some [.int .i64 c.kind,.int .i64 c.n,.str c.s,.sl .jnode .own m,.sl .str .own d],none,none])))))))))))))))
def uY(N:Nat)(a:aa)(c:Bs)(b:Int):Ro:=uX N a c b
theorem zu(N:Nat)(c:aa)(d:Bs)(b:Int)(h:Tot (uY N c d b) (λz=>∃(a:aa)(rest:List ai),z.1.dimR=.agg (enc .jnode a)∧z.2=rest∧xK c d b (a))):∃r,cG c d b r:=ajV.finP (N:=N) (by kernel_rfl) h λ_ ⟨a,_,e,_,q⟩=>⟨(a),e,q⟩
noncomputable abbrev tb_:= @tab Tryz.prog
def cr:av:=tb_ [] [vq,oJ,rD,agL,afl] [] [afk,wB]
def lz:IR:=Cn 62 (Sq (.reg [Mv 72 2,Nk 73 72,Fo [1] [] (.ld 74 1 false false 73),Mv 75 0,Mv 76 2,Nk 77 76,Fo [1] [] (.ld 78 1 false false 77),Ll 79 78,Fo [] [0] (.call 80 21 [75,79]),Ix 81 .str 74 80,Lq 82 81,Ca 83 24 [82],Fo [] [2] (.st none 5 6 83)] [[],[0],[0,1],[],[],[4],[4,5],[4,5,6],rg 3 7,rg 0 8,rg 0 9,rg 0 10,rg 0 11]) .ret) .skip
def tL:IR:=Rs [Mv 84 2,Nk 85 84,Lo 86 85,Ll 87 86,Bc 88 .rem 87 26,Pp (.bin 89 .add (kI 97) 88),Pp (.cvi 90 .u8 89),Pp (.bsl 91 .u8 [90] true),Pp (.b2s 92 91),Pp (.bin 93 .add (kS [78]) 92),Mv 9 93] (Rs [Mv 94 2,Mv 95 2,Nk 96 95,Pp (.ld 97 1 false true 96),Mv 98 9,Pp (.bsl 99 .str [98] true),Pp (.app 100 .str (.tk 97) 99),Nk 101 94,Sk 1 101 100] (Sq (.block 1 (Rs [Mv 103 7,Bc 104 .eql 103 15,Mv 102 104] (Cn 102 (Rs [Pp (.bsl 105 .str [kS [116,121,112,101],kS [110,97,109,101],kS [115,105,122,101]] true),Ca 106 24 [kS [102,105,120,101,100]],Mv 107 9,Ca 108 24 [107],Mv 109 0,Ca 110 21 [109,kI 4],Pp (.bld 111 [vI 0,vI 0,vS,fu .jnode true,fu .str true] [(0,1,kI 3),(1,1,110)]),Pp (.bsl 112 .jnode [106,108,111] true),Ca 113 23 [105,112],Sv 5 6 113] .ret) (Rs [Mv 115 7,Bc 116 .eql 115 16,Mv 114 116] (Cn 114 (Rs [Ca 117 24 [kS [88]],Ca 118 24 [kS [89]],Ca 119 24 [kS [90]],Pp (.bsl 120 .jnode [117,118,119] true),Mv 121 0,Ca 122 21 [121,kI 3],Pp (.bin 123 .add (kI 1) 122),Pp (.subl 124 .jnode 120 none (some 123)),Mv 10 124] (Rs [Pp (.bsl 125 .str [kS [116,121,112,101],kS [110,97,109,101],kS [115,121,109,98,111,108,115]] true),Ca 126 24 [kS [101,110,117,109]],Mv 127 9,Ca 128 24 [127],Mv 129 10,Pp (.bld 130 [vI 0,vI 0,vS,fu .jnode true,fu .str true] [(0,1,kI 5),(3,1,129)]),Pp (.bsl 131 .jnode [126,128,130] true),Ca 132 23 [125,131],Pp (.new 11 [vI 0,vI 0,vS,nl .jnode,nl .str]),Sv 5 11 132] (Sq (Rs [Mv 133 0,Ca 134 21 [133,kI 2],Bc 135 .eql 134 0] (Cn 135 (.reg [Fa 136 4 11,Fo [3] [] (.ld 137 1 false false 136),Pp (.bsl 138 .str [kS [100,101,102,97,117,108,116]] true),Pp (.app 139 .str (.tk 137) 138),Fa 140 3 11,Fo [3] [] (.ld 141 1 false false 140),Ca 142 24 [kS [88]],Pp (.bsl 143 .jnode [142] true),Pp (.app 144 .jnode (.tk 141) 143),Fa 145 4 11,Fo [] [3] (.st none 1 145 (.tk 139)),Fa 146 3 11,Fo [] [3] (.st none 1 146 (.tk 144))] [[],[0],[],[0,1,2],[],[4],rg 0 3,[0,1,2,3,6],rg 0 7,rg 0 5,rg 0 9,rg 0 10,rg 0 11]) .skip)) (Rs [Pp (.ld 147 5 true false 11),Sv 5 6 147] .ret)))) .skip))))) (Rs [Mv 148 0,Mv 149 9,Mv 150 1,Mv 151 2,Ca 152 13 [148,149,150,151],Sv 5 6 152] .ret)))
def oe:IR:=.cut [0,1,2,6,7,1000001] 3 tL
def kM:IR:=Rs [Pp (.bsl 22 .str [kS [105,110,116],kS [108,111,110,103],kS [115,116,114,105,110,103],kS [98,121,116,101,115],kS [98,111,111,108,101,97,110],kS [110,117,108,108],kS [102,108,111,97,116],kS [100,111,117,98,108,101]] true),Mv 8 22] (Sq (.block 0 (Rs [Mv 24 7,Bc 25 .lss 24 8,Mv 23 25] (Cn 23 (Rs [Mv 26 8,Mv 27 7,Ix 28 .str 26 27,Lq 29 28,Ca 30 24 [29],Sv 5 6 30] .ret) (Rs [Mv 32 7,Bc 33 .lss 32 10,Mv 31 33] (Cn 31 (Rs [Pp (.bsl 34 .str [kS [116,121,112,101],kS [105,116,101,109,115]] true),Ca 35 24 [kS [97,114,114,97,121]],Mv 36 0,Mv 37 1,Bc 38 .add 37 1,Mv 39 2,Ca 40 22 [36,38,39],Pp (.bsl 41 .jnode [35,40] true),Ca 42 23 [34,41],Sv 5 6 42] .ret) (Rs [Mv 44 7,Bc 45 .eql 44 10,Mv 43 45] (Cn 43 (Rs [Pp (.bsl 46 .str [kS [116,121,112,101],kS [118,97,108,117,101,115]] true),Ca 47 24 [kS [109,97,112]],Mv 48 0,Mv 49 1,Bc 50 .add 49 1,Mv 51 2,Ca 52 22 [48,50,51],Pp (.bsl 53 .jnode [47,52] true),Ca 54 23 [46,53],Sv 5 6 54] .ret) (Rs [Mv 56 7,Bc 57 .lss 56 14,Mv 55 57] (Cn 55 (Rs [Mv 58 0,Mv 59 1,Mv 60 2,Ca 61 43 [58,59,60],Sv 5 6 61] .ret) (Rs [Mv 63 7,Bc 64 .eql 63 14,Mv 65 64,Gt 65 (.mov 66 2),Gt 65 (.nck 67 66),Gt 65 (.ld 68 1 false false 67),Gt 65 (.lenl 69 68),Gt 65 (.bin 70 .gtr 69 (kI 0)),Pa 71 65 70,Mv 62 71] (.cut [0,1,2,6,7,62,1000000] 3 lz))))))))))) oe)
def agj:IR:=Rs [Pp (.new 6 [vI 0,vI 0,vS,nl .jnode,nl .str])] (Rs [Mv 12 0,Ca 13 21 [12,kI 20],Mv 7 13] (Sq (Rs [Mv 14 1,Bc 15 .gtr 14 3,Mv 16 15,Gf 16 (.mov 17 0),Gf 16 (.call 18 42 [17]),Po 19 16 18] (Cn 19 (Rg [Mv 20 7,Bc 21 .rem 20 8,Mv 7 21]) .skip)) (.cut [0,1,2,6,7,1000002] 3 kM)))
def d8:List RV:=[.cell 6 5 true]
theorem agk:FnC Tryz.prog cr [13,21,22,42,43,2000013,2000021,2000022,2000042,2000043] 2 22 Tryz.f22 agj d8:=fnC Tryz.func22
abbrev dD:Type:=(Int×Int×Bs×Int×Bss×Int×Int×Bs×List aa×Bss)
def iR:dD->St:=λ(a,b,c,d,e,f,g,h,i,j)=>{env:=(.ptr 0 0::vI a::.ptr 1 0::(U 3 (.ptr 2 0::vI b::(U 145 [])))),hp:=[some [vF .u8 c,vI d],some [vO .str e],some [vI f,vI g,vT h,vO .jnode i,vO .str j]]}
abbrev jG:Type:=(Int×Int×Bool×Bs×Int×Bss×Int×Int×Bs×List aa×Bss)
def fH:jG->St:=λ(b,c,d,e,f,g,h,i,j,k,a)=>{env:=(.ptr 0 0::vI b::.ptr 1 0::(U 3 (.ptr 2 0::vI c::(U 54 (vB d::(U 90 [])))))),hp:=[some [vF .u8 e,vI f],some [vO .str g],some [vI h,vI i,vT j,vO .jnode k,vO .str a]]}
def pG(R:TRr):TE:=(aG 0 (bR (R oe) (fin d8)))
def lA:dD->St:=λ(a,b,c,d,e,f,g,h,i,j)=>{env:=(.ptr 0 0::vI a::.ptr 1 0::(U 3 (.ptr 2 0::vI b::(U 145 [])))),hp:=[some [vF .u8 c,vI d],some [vO .str e],some [vI f,vI g,vT h,vO .jnode i,vO .str j]]}
def pH(N:Nat):TS:=λs=>run cr N tL (fin d8) s
def jH(N:Nat):dD->Ro:=λ(M,x,h,i,j,_,_,_,_,_)=>let H:=(↑(Aa j):Int);let y:=(Aj .i64 (97+(Bz H 26)));let z:=λA G E B F C D I J L=>(some (.agg [vI A,vI G,vT E,.sl .jnode (.may B) F,.sl .str (.may C) D],[some [vF .u8 I,vI J],some [vO .str L],some [vI A,vI G,vT E,.sl .jnode (.may B) F,.sl .str (.may C) D]]):Ro);chk (decide (Aa ([78]:Bs)+Aa ([(Bq (Ae (Aj .u8 y)))]:Bs)<=9223372036854775807)) (let v:=([78]++([(Bq (Ae (Aj .u8 y)))]:Bs));chk (decide ((Aa j+Aa ([v]:Bss))*16<=140737488355328)) (let p:=(j++([v]:Bss));cond (x==15) (af (bw [102,105,120,101,100]) (λk=>af (bw v) (λl=>af (bi h i 4) (λq=>af (ge true [([116,121,112,101]:Bs),([110,97,109,101]:Bs),([115,105,122,101]:Bs)] true ([⟨k.1,k.2.1,k.2.2.1,k.2.2.2.1,k.2.2.2.2⟩,⟨l.1,l.2.1,l.2.2.1,l.2.2.2.1,l.2.2.2.2⟩,⟨3,q.1,([]:Bs),([]:List aa),([]:Bss)⟩]:List aa)) (λg=>z g.1 g.2.1 g.2.2.1 g.2.2.2.1 g.2.2.2.2.1 g.2.2.2.2.2.1 g.2.2.2.2.2.2 q.2.1 q.2.2 p))))) (cond (x==16) (af (bw [88]) (λc=>af (bw [89]) (λd=>af (bw [90]) (λe=>af (bi h i 3) (λr=>let s:=(Aj .i64 (1+r.1));chk (decide (0<=s)&&decide (s<=(↑(Aa ([⟨c.1,c.2.1,c.2.2.1,c.2.2.2.1,c.2.2.2.2⟩,⟨d.1,d.2.1,d.2.2.1,d.2.2.2.1,d.2.2.2.2⟩,⟨e.1,e.2.1,e.2.2.1,e.2.2.2.1,e.2.2.2.2⟩]:List aa)):Int))) (let w:=(AY 0 (A5 (Ae s) ([⟨c.1,c.2.1,c.2.2.1,c.2.2.2.1,c.2.2.2.2⟩,⟨d.1,d.2.1,d.2.2.1,d.2.2.2.1,d.2.2.2.2⟩,⟨e.1,e.2.1,e.2.2.1,e.2.2.2.1,e.2.2.2.2⟩]:List aa)));af (bw [101,110,117,109]) (λm=>af (bw v) (λn=>af (ge true [([116,121,112,101]:Bs),([110,97,109,101]:Bs),([115,121,109,98,111,108,115]:Bs)] true ([⟨m.1,m.2.1,m.2.2.1,m.2.2.2.1,m.2.2.2.2⟩,⟨n.1,n.2.1,n.2.2.1,n.2.2.2.1,n.2.2.2.2⟩,⟨5,0,([]:Bs),w,([]:Bss)⟩]:List aa)) (λa=>af (bi r.2.1 r.2.2 2) (λo=>cond (o.1==0) (chk ((a.2.2.2.2.2.1&&decide (0<Aa ([([100,101,102,97,117,108,116]:Bs)]:Bss)))&&decide ((Aa a.2.2.2.2.2.2+Aa ([([100,101,102,97,117,108,116]:Bs)]:Bss))*16<=140737488355328)) (let t:=(a.2.2.2.2.2.2++([([100,101,102,97,117,108,116]:Bs)]:Bss));af (bw [88]) (λb=>chk ((a.2.2.2.1&&decide (0<Aa ([⟨b.1,b.2.1,b.2.2.1,b.2.2.2.1,b.2.2.2.2⟩]:List aa)))&&decide ((Aa a.2.2.2.2.1+Aa ([⟨b.1,b.2.1,b.2.2.1,b.2.2.2.1,b.2.2.2.2⟩]:List aa))*80<=140737488355328)) (let u:=(a.2.2.2.2.1++([⟨b.1,b.2.1,b.2.2.1,b.2.2.2.1,b.2.2.2.2⟩]:List aa));some (.agg [vI a.1,vI a.2.1,vT a.2.2.1,vF .jnode u,vF .str t],[some [vF .u8 o.2.1,vI o.2.2],some [vO .str p],some [vI a.1,vI a.2.1,vT a.2.2.1,vF .jnode u,vF .str t],some [vI a.1,vI a.2.1,vT a.2.2.1,vO .jnode u,vO .str t]]))))) (some (.agg [vI a.1,vI a.2.1,vT a.2.2.1,.sl .jnode (.may a.2.2.2.1) a.2.2.2.2.1,.sl .str (.may a.2.2.2.2.2.1) a.2.2.2.2.2.2],[some [vF .u8 o.2.1,vI o.2.2],some [vO .str p],some [vI a.1,vI a.2.1,vT a.2.2.1,.sl .jnode (.may a.2.2.2.1) a.2.2.2.2.1,.sl .str (.may a.2.2.2.2.2.1) a.2.2.2.2.2.2],some [vI a.1,vI a.2.1,vT a.2.2.1,.sl .jnode (.may a.2.2.2.1) a.2.2.2.2.1,.sl .str (.may a.2.2.2.2.2.1) a.2.2.2.2.2.2]])))))))))))) (af (jy h i p v M) (λf=>z f.1 f.2.1 f.2.2.1 false f.2.2.2.1 false f.2.2.2.2.1 f.2.2.2.2.2.1 f.2.2.2.2.2.2.1 f.2.2.2.2.2.2.2)))))
theorem adt(N:Nat):LJ (pH N) lA (jH N):=λ_=>by kernel_rfl
def lZ(N:Nat):TS:=λs=>run cr N lz (pG (run cr N)) s
def lB(N:Nat)(l:dD->Ro):jG->Ro:=λ(m,n,k,d,e,b,f,g,h,i,j)=>cond k (let o:=(↑(Aa b):Int);af (bi d e o) (λc=>chk (ixl c.1 b) (let p:=Ak b (Ae c.1) (am .str);af (bw p) (λa=>some (.agg [vI a.1,vI a.2.1,vT a.2.2.1,vF .jnode a.2.2.2.1,vF .str a.2.2.2.2],[some [vF .u8 c.2.1,vI c.2.2],some [vO .str b],some [vI a.1,vI a.2.1,vT a.2.2.1,vF .jnode a.2.2.2.1,vF .str a.2.2.2.2]]))))) (l (m,n,d,e,b,f,g,h,i,j))
def jI(N:Nat)(x:jG):Ro:=lB N (λz=>jH N z) x
def pI(N:Nat):List (Nat×(TS)):=(d5 cr N lz (pG (run cr N))++(d5 cr N oe (fin d8)++[]))
theorem adu(N:Nat):∀(x:jG),lZ N (fH x)=jI N x:=by
 intro x;have a:∀C:Nat->TS,dn C cr N lz (pG (dn C cr N)) (fH x)=lB N (λz=>C 1000001 (lA z)) x:=by intro C;kernel_rfl
 have h:lZ N (fH x)=lB N (λz=>pH N (lA z)) x:=(kP (C:=mz (pI N)) (eY (bV (l:=(pI N)) (by kernel_rfl))) (iU (np (eY (iu (bV (l:=(pI N)) (by kernel_rfl)))) rfl)) _).trans ((a _).trans (by kernel_rfl));have b:(λz=>pH N (lA z))=(λz=>jH N z):=funext λz=>adt N z
 rw[h,b];rfl
def pJ(N:Nat):TS:=λs=>run cr N kM (fin d8) s
def lC(N:Nat)(C:jG->Ro):dD->Ro:=λ(r,d,b,c,a,j,k,l,m,n)=>let s:=λt u v w x y z I F H=>(some (.agg [vI t,vI u,vT v,.sl .jnode (.may w) x,.sl .str (.may y) z],[some [vF .u8 I,vI F],some [vO .str H],some [vI t,vI u,vT v,.sl .jnode (.may w) x,.sl .str (.may y) z]]):Ro);let A:=λt=>C (r,d,t,b,c,a,j,k,l,m,n);cond (decide (d<8)) (chk (ixl d [([105,110,116]:Bs),([108,111,110,103]:Bs),([115,116,114,105,110,103]:Bs),([98,121,116,101,115]:Bs),([98,111,111,108,101,97,110]:Bs),([110,117,108,108]:Bs),([102,108,111,97,116]:Bs),([100,111,117,98,108,101]:Bs)]) (let B:=Ak [([105,110,116]:Bs),([108,111,110,103]:Bs),([115,116,114,105,110,103]:Bs),([98,121,116,101,115]:Bs),([98,111,111,108,101,97,110]:Bs),([110,117,108,108]:Bs),([102,108,111,97,116]:Bs),([100,111,117,98,108,101]:Bs)] (Ae d) (am .str);af (bw B) (λo=>s o.1 o.2.1 o.2.2.1 false o.2.2.2.1 false o.2.2.2.2 b c a))) (cond (decide (d<10)) (af (bw [97,114,114,97,121]) (λp=>let D:=(Aj .i64 (r+1));af (dF b c a D) (λe=>af (ge true [([116,121,112,101]:Bs),([105,116,101,109,115]:Bs)] true ([⟨p.1,p.2.1,p.2.2.1,p.2.2.2.1,p.2.2.2.2⟩,⟨e.1,e.2.1,e.2.2.1,e.2.2.2.1,e.2.2.2.2.1⟩]:List aa)) (λh=>s h.1 h.2.1 h.2.2.1 h.2.2.2.1 h.2.2.2.2.1 h.2.2.2.2.2.1 h.2.2.2.2.2.2 e.2.2.2.2.2.1 e.2.2.2.2.2.2.1 e.2.2.2.2.2.2.2)))) (cond (d==10) (af (bw [109,97,112]) (λq=>let G:=(Aj .i64 (r+1));af (dF b c a G) (λf=>af (ge true [([116,121,112,101]:Bs),([118,97,108,117,101,115]:Bs)] true ([⟨q.1,q.2.1,q.2.2.1,q.2.2.2.1,q.2.2.2.2⟩,⟨f.1,f.2.1,f.2.2.1,f.2.2.2.1,f.2.2.2.2.1⟩]:List aa)) (λi=>s i.1 i.2.1 i.2.2.1 i.2.2.2.1 i.2.2.2.2.1 i.2.2.2.2.2.1 i.2.2.2.2.2.2 f.2.2.2.2.2.1 f.2.2.2.2.2.2.1 f.2.2.2.2.2.2.2)))) (cond (decide (d<14)) (af (mC b c a r) (λg=>s g.1 g.2.1 g.2.2.1 false g.2.2.2.1 false g.2.2.2.2.1 g.2.2.2.2.2.1 g.2.2.2.2.2.2.1 g.2.2.2.2.2.2.2)) (cond (d==14) (let E:=(↑(Aa a):Int);A (decide (0<E))) (A false)))))
def l7(N:Nat)(x:dD):Ro:=lC N (λz=>jI N z) x
def vY(N:Nat):List (Nat×(TS)):=(d5 cr N kM (fin d8)++[])
theorem adv(N:Nat):∀(x:dD),pJ N (iR x)=l7 N x:=by
 intro x;have a:∀C:Nat->TS,dn C cr N kM (fin d8) (iR x)=lC N (λz=>C 1000000 (fH z)) x:=by intro C;kernel_rfl
 have h:pJ N (iR x)=lC N (λz=>lZ N (fH z)) x:=(kP (C:=mz (vY N)) (eY (bV (l:=(vY N)) (by kernel_rfl))) rfl _).trans ((a _).trans (by kernel_rfl));have b:(λz=>lZ N (fH z))=(λz=>jI N z):=funext λz=>adu N z
 rw[h,b];rfl
def ku(N:Nat)(c:Bs)(d:Int)(e:Bss)(g:Int)(h:dD->Ro):Ro:=let f:=λi j k=>h (g,i,j,k,e,0,0,[],[],[]);af (bi c d 20) (λb=>cond (decide (3<g)) (f (Bz b.1 8) b.2.1 b.2.2) (af (nr b.2.1 b.2.2) (λa=>cond a.1 (f (Bz b.1 8) a.2.1 a.2.2) (f b.1 a.2.1 a.2.2))))
def xf(N:Nat)(a:Bs)(b:Int)(c:Bss)(d:Int):Ro:=ku N a b c d (λz=>l7 N z)
theorem aeI(N:Nat)(a:Bs)(c:Int)(d:Bss)(g:Int)(h:Tot (xf N a c d g) (λz=>∃i j k l m n o p rest,z.1.dimR=.agg [vI i,vI j,vT k,vF .jnode l,vF .str m]∧z.2=some [vF .u8 n,vI o]::some [vO .str p]::rest∧fC a c d g (i,j,k,l,m,n,o,p))):∃r,dF a c d g r:=FnK.finO (css:=[[vF .u8 a,vI c],[vO .str d]]) agk (N:=N) ((cV _ (by kernel_rfl) rfl (λC=>ku N a c d g (λz=>C 1000002 (iR z))) (λC=>by kernel_rfl)).trans (A3 (b:=ku N a c d g (λz=>pJ N (iR z))) (by kernel_rfl) (congrArg (ku N a c d g) (funext λz=>adv N z)))) h λ_ ⟨i,j,k,l,m,n,o,p,_,e,f,q⟩=>⟨(i,j,k,l,m,n,o,p),e,⟨_,f⟩,q⟩
def agl:av:=tb_ [] [oJ,rD] [] [wB]
def aeJ:IR:=Rs [Pp (.new 6 [vI 0,vI 0,vS,nl .jnode,nl .str])] (Rs [Ca 9 24 [kS [110,117,108,108]],Pp (.bsl 10 .jnode [9] true),Pp (.bld 11 [vI 0,vI 0,vS,nl .jnode,nl .str] [(0,1,kI 5),(3,1,10)]),Pp (.new 7 [vI 0,vI 0,vS,nl .jnode,nl .str]),Sv 5 7 11] (Sq (Rs [Mv 12 0,Ca 13 21 [12,kI 2],Bc 14 .eql 13 0] (Cn 14 (.reg [Fa 15 3 7,Fo [3] [] (.ld 16 1 false false 15),Pp (.bsl 17 .str [kS [105,110,116],kS [115,116,114,105,110,103]] true),Mv 18 0,Fo [] [0] (.call 19 21 [18,kI 2]),Ix 20 .str 17 19,Lq 21 20,Ca 22 24 [21],Pp (.bsl 23 .jnode [22] true),Pp (.app 24 .jnode (.tk 16) 23),Fa 25 3 7,Fo [] [3] (.st none 1 25 (.tk 24))] [[],[0],[],[],[3],[2,3,4],rg 2 5,rg 2 6,rg 2 7,rg 0 8,rg 0 9,rg 0 10]) .skip)) (Rs [Mv 26 0,Mv 27 1,Bc 28 .add 27 1,Mv 29 2,Ca 30 22 [26,28,29],Pp (.alr 8 5),Fz 8 5 30] (Sq (Rs [Fa 31 0 8,Lq 32 31,Bc 33 .eql 32 6] (Cn 33 (Rg [Fa 34 3 7,Pp (.ld 35 1 false true 34),Ld 36 5 true 8,Pp (.bsl 37 .jnode [36] true),Pp (.app 38 .jnode (.tk 35) 37),Fa 39 3 7,Sk 1 39 38]) .skip)) (Rs [Pp (.ld 40 5 true false 7),Sv 5 6 40] .ret)))))
theorem aeK:FnC Tryz.prog agl [21,22,2000021,2000022] 2 43 Tryz.f43 aeJ d8:=fnC Tryz.func43
def vZ(N:Nat)(f:Bs)(g:Int)(e:Bss)(l:Int):Ro:=let i:=λm n q r s t=>(some (.agg [vI 5,vI 0,vT [],.sl .jnode (.may m) n,vF .str []],[some [vF .u8 q,vI r],some [vO .str s],some [vI 5,vI 0,vT [],.sl .jnode (.may m) n,vF .str []],some [vI 5,vI 0,vT [],t,vO .str []]]):Ro);af (bw [110,117,108,108]) (λa=>af (bi f g 2) (λh=>cond (h.1==0) (af (bi h.2.1 h.2.2 2) (λj=>chk (ixl j.1 [([105,110,116]:Bs),([115,116,114,105,110,103]:Bs)]) (let u:=Ak [([105,110,116]:Bs),([115,116,114,105,110,103]:Bs)] (Ae j.1) (am .str);af (bw u) (λd=>chk ((true&&decide (0<Aa ([⟨d.1,d.2.1,d.2.2.1,d.2.2.2.1,d.2.2.2.2⟩]:List aa)))&&decide ((Aa ([⟨a.1,a.2.1,a.2.2.1,a.2.2.2.1,a.2.2.2.2⟩]:List aa)+Aa ([⟨d.1,d.2.1,d.2.2.1,d.2.2.2.1,d.2.2.2.2⟩]:List aa))*80<=140737488355328)) (let k:=(([⟨a.1,a.2.1,a.2.2.1,a.2.2.2.1,a.2.2.2.2⟩]:List aa)++([⟨d.1,d.2.1,d.2.2.1,d.2.2.2.1,d.2.2.2.2⟩]:List aa));let v:=(Aj .i64 (l+1));af (dF j.2.1 j.2.2 e v) (λc=>cond (c.1==6) (chk (decide ((Aa k+Aa ([⟨c.1,c.2.1,c.2.2.1,c.2.2.2.1,c.2.2.2.2.1⟩]:List aa))*80<=140737488355328)) (let o:=(k++([⟨c.1,c.2.1,c.2.2.1,c.2.2.2.1,c.2.2.2.2.1⟩]:List aa));i false o c.2.2.2.2.2.1 c.2.2.2.2.2.2.1 c.2.2.2.2.2.2.2 (vO .jnode o))) (i false k c.2.2.2.2.2.1 c.2.2.2.2.2.2.1 c.2.2.2.2.2.2.2 (vO .jnode k)))))))) (let w:=(Aj .i64 (l+1));af (dF h.2.1 h.2.2 e w) (λb=>cond (b.1==6) (chk ((true&&decide (0<Aa ([⟨b.1,b.2.1,b.2.2.1,b.2.2.2.1,b.2.2.2.2.1⟩]:List aa)))&&decide ((Aa ([⟨a.1,a.2.1,a.2.2.1,a.2.2.2.1,a.2.2.2.2⟩]:List aa)+Aa ([⟨b.1,b.2.1,b.2.2.1,b.2.2.2.1,b.2.2.2.2.1⟩]:List aa))*80<=140737488355328)) (let p:=(([⟨a.1,a.2.1,a.2.2.1,a.2.2.2.1,a.2.2.2.2⟩]:List aa)++([⟨b.1,b.2.1,b.2.2.1,b.2.2.2.1,b.2.2.2.2.1⟩]:List aa));i false p b.2.2.2.2.2.1 b.2.2.2.2.2.2.1 b.2.2.2.2.2.2.2 (vO .jnode p))) (i true ([⟨a.1,a.2.1,a.2.2.1,a.2.2.2.1,a.2.2.2.2⟩]:List aa) b.2.2.2.2.2.1 b.2.2.2.2.2.2.1 b.2.2.2.2.2.2.2 (.sl .jnode (.may true) ([⟨a.1,a.2.1,a.2.2.1,a.2.2.2.1,a.2.2.2.2⟩]:List aa)))))))
def wa(N:Nat)(a:Bs)(b:Int)(c:Bss)(d:Int):Ro:=vZ N a b c d
theorem adw(N:Nat)(a:Bs)(b:Int)(c:Bss)(o:Int)(h:Tot (wa N a b c o) (λz=>∃d g i j k l m n rest,z.1.dimR=.agg [vI d,vI g,vT i,vF .jnode j,vF .str k]∧z.2=some [vF .u8 l,vI m]::some [vO .str n]::rest∧te a b c o (d,g,i,j,k,l,m,n))):∃r,mC a b c o r:=FnK.finO (css:=[[vF .u8 a,vI b],[vO .str c]]) aeK (N:=N) (by kernel_rfl) h λ_ ⟨d,g,i,j,k,l,m,n,_,e,f,q⟩=>⟨(d,g,i,j,k,l,m,n),e,⟨_,f⟩,q⟩
def pK:av:=tb_ [] [oJ,rD,acM] [] [afk,wB]
def su:IR:=Sq (Rs [Mv 17 10,Mv 18 11,Bi 19 .lss 17 18] (Cn 19 .skip (.exit 0))) (Sq (.block 1 (Rs [Mv 22 0,Mv 23 2,Bc 24 .add 23 1,Mv 25 3,Ca 26 22 [22,24,25],Pp (.alr 12 5),Fz 12 5 26] (Sq (.reg [Pp (.bsl 27 .str [kS [110,97,109,101],kS [116,121,112,101]] true),Mv 28 10,Pp (.bin 29 .add (kI 97) 28),Pp (.cvi 30 .u8 29),Pp (.bsl 31 .u8 [30] true),Pp (.b2s 32 31),Pp (.bin 33 .add (kS [102]) 32),Ca 34 24 [33],Ld 35 5 true 12,Pp (.bsl 36 .jnode [34,35] true),Ca 37 23 [27,36],Pp (.new 13 [vI 0,vI 0,vS,nl .jnode,nl .str]),Fo [] [4] (.st none 5 13 37)] [[],[],[1],[1,2],[1,2,3],rg 1 4,rg 1 5,rg 1 6,[],rg 1 8,rg 0 9,[],rg 0 11]) (Sq (Rs [Mv 38 0,Ca 39 21 [38,kI 3],Bc 40 .eql 39 0] (Cn 40 (.reg [Fa 41 4 13,Fo [4] [] (.ld 42 1 false false 41),Pp (.bsl 43 .str [kS [100,101,102,97,117,108,116]] true),Pp (.app 44 .str (.tk 42) 43),Fa 45 3 13,Fo [4] [] (.ld 46 1 false false 45),Mv 47 0,Ld 48 5 true 12,Fo [] [0] (.call 49 25 [47,48]),Pp (.bsl 50 .jnode [49] true),Pp (.app 51 .jnode (.tk 46) 50),Fa 52 4 13,Fo [] [4] (.st none 1 52 (.tk 44)),Fa 53 3 13,Fo [] [4] (.st none 1 53 (.tk 51))] [[],[0],[],[0,1,2],[],[4],[],[],[0,1,2,3,6,7],[0,1,2,3,6,7,8],rg 0 9,rg 0 5,rg 0 11,rg 0 12,rg 0 13]) .skip)) (Rg [Fa 54 3 9,Pp (.ld 55 1 false true 54),Pp (.ld 56 5 true false 13),Pp (.bsl 57 .jnode [56] true),Pp (.app 58 .jnode (.tk 55) 57),Fa 59 3 9,Sk 1 59 58]))))) (Rg [Mv 20 10,Bc 21 .add 20 1,Mv 10 21]))
def rB:IR:=Sq (.reg [Pp (.bsl 60 .str [kS [116,121,112,101],kS [110,97,109,101],kS [110,97,109,101,115,112,97,99,101],kS [102,105,101,108,100,115]] true),Ca 61 24 [kS [114,101,99,111,114,100]],Mv 62 1,Ca 63 24 [62],Ca 64 24 [kS [115]],Fo [3] [] (.ld 65 5 true false 9),Pp (.bsl 66 .jnode [61,63,64,65] true),Ca 67 23 [60,66],Fo [] [2] (.st none 5 8 67)] [[],[],[],[1,2],[1,2,3],[],rg 1 5,rg 0 6,rg 0 7]) .ret
def adx:IR:=Rs [Pp (.new 8 [vI 0,vI 0,vS,nl .jnode,nl .str])] (Rs [Pp (.bld 14 [vI 0,vI 0,vS,nl .jnode,nl .str] [(0,1,kI 5)]),Pp (.new 9 [vI 0,vI 0,vS,nl .jnode,nl .str]),Sv 5 9 14] (Sq (Rs [Mv 15 0,Ca 16 21 [15,kI 5],Mi 10 0,Mv 11 16] (.block 0 (.loop [0,1,2,3,8,9,10,11,1000000] 4 su))) rB))
def uZ:List RV:=[.cell 8 5 true]
theorem ady:FnC Tryz.prog pK [21,22,25,2000021,2000022,2000025] 2 13 Tryz.f13 adx uZ:=fnC Tryz.func13
def acp(R:TRr)(a:TS):TE:=(ce a [0,1,2,3,8,9,10,11,1000000] 4 (aG 0 (bR (R rB) (fin uZ))))
abbrev kN:Type:=(Bs×Int×Int×Int×Bs×Int×Bss×Int×Int×Bs×List aa×Bss×Int×Int×Bs×List aa×Bss)
def kb:kN->St:=λ(h,i,j,k,l,m,n,o,p,q,a,b,c,d,e,f,g)=>{env:=(.ptr 0 0::vT h::vI i::.ptr 1 0::(U 4 (.ptr 2 0::.ptr 3 0::vI j::vI k::(U 56 [])))),hp:=[some [vF .u8 l,vI m],some [vO .str n],some [vI o,vI p,vT q,vO .jnode a,vO .str b],some [vI c,vI d,vT e,vO .jnode f,vO .str g]]}
def og(N:Nat):TS->TS:=λa s=>run pK N su (acp (run pK N) a) s
def kO(N:Nat)(j:kN->Ro):kN->Ro:=λ(z,A,k,o,l,m,n,p,q,r,s,t,f,g,h,c,i)=>let B:=λO M J P L=>j (z,A,O,o,M,J,P,p,q,r,s,t,f,g,h,L,i);cond (decide (k<o)) (let F:=(Aj .i64 (A+1));af (dF l m n F) (λe=>let C:=(Aj .i64 (97+k));chk (decide (Aa ([102]:Bs)+Aa ([(Bq (Ae (Aj .u8 C)))]:Bs)<=9223372036854775807)) (let Q:=([102]++([(Bq (Ae (Aj .u8 C)))]:Bs));af (bw Q) (λu=>af (ge true [([110,97,109,101]:Bs),([116,121,112,101]:Bs)] true ([⟨u.1,u.2.1,u.2.2.1,u.2.2.2.1,u.2.2.2.2⟩,⟨e.1,e.2.1,e.2.2.1,e.2.2.2.1,e.2.2.2.2.1⟩]:List aa)) (λb=>af (bi e.2.2.2.2.2.1 e.2.2.2.2.2.2.1 3) (λv=>cond (v.1==0) (chk ((b.2.2.2.2.2.1&&decide (0<Aa ([([100,101,102,97,117,108,116]:Bs)]:Bss)))&&decide ((Aa b.2.2.2.2.2.2+Aa ([([100,101,102,97,117,108,116]:Bs)]:Bss))*16<=140737488355328)) (let E:=(b.2.2.2.2.2.2++([([100,101,102,97,117,108,116]:Bs)]:Bss));af (lg v.2.1 v.2.2 e.1 e.2.1 e.2.2.1 e.2.2.2.1 e.2.2.2.2.1) (λd=>chk ((b.2.2.2.1&&decide (0<Aa ([⟨d.1,d.2.1,d.2.2.1,d.2.2.2.1,d.2.2.2.2.1⟩]:List aa)))&&decide ((Aa b.2.2.2.2.1+Aa ([⟨d.1,d.2.1,d.2.2.1,d.2.2.2.1,d.2.2.2.2.1⟩]:List aa))*80<=140737488355328)) (let D:=(b.2.2.2.2.1++([⟨d.1,d.2.1,d.2.2.1,d.2.2.2.1,d.2.2.2.2.1⟩]:List aa));chk (decide ((Aa c+Aa ([⟨b.1,b.2.1,b.2.2.1,D,E⟩]:List aa))*80<=140737488355328)) (let H:=(c++([⟨b.1,b.2.1,b.2.2.1,D,E⟩]:List aa));let G:=(Aj .i64 (k+1));B G d.2.2.2.2.2.1 d.2.2.2.2.2.2 e.2.2.2.2.2.2.2 H))))) (chk (decide ((Aa c+Aa ([⟨b.1,b.2.1,b.2.2.1,b.2.2.2.2.1,b.2.2.2.2.2.2⟩]:List aa))*80<=140737488355328)) (let R:=(c++([⟨b.1,b.2.1,b.2.2.1,b.2.2.2.2.1,b.2.2.2.2.2.2⟩]:List aa));let I:=(Aj .i64 (k+1));B I v.2.1 v.2.2 e.2.2.2.2.2.2.2 R)))))))) (af (bw [114,101,99,111,114,100]) (λw=>af (bw z) (λx=>af (bw [115]) (λy=>af (ge true [([116,121,112,101]:Bs),([110,97,109,101]:Bs),([110,97,109,101,115,112,97,99,101]:Bs),([102,105,101,108,100,115]:Bs)] true ([⟨w.1,w.2.1,w.2.2.1,w.2.2.2.1,w.2.2.2.2⟩,⟨x.1,x.2.1,x.2.2.1,x.2.2.2.1,x.2.2.2.2⟩,⟨y.1,y.2.1,y.2.2.1,y.2.2.2.1,y.2.2.2.2⟩,⟨f,g,h,c,i⟩]:List aa)) (λa=>some (.agg [vI a.1,vI a.2.1,vT a.2.2.1,.sl .jnode (.may a.2.2.2.1) a.2.2.2.2.1,.sl .str (.may a.2.2.2.2.2.1) a.2.2.2.2.2.2],[some [vF .u8 l,vI m],some [vO .str n],some [vI a.1,vI a.2.1,vT a.2.2.1,.sl .jnode (.may a.2.2.2.1) a.2.2.2.2.1,.sl .str (.may a.2.2.2.2.2.1) a.2.2.2.2.2.2],some [vI f,vI g,vT h,vO .jnode c,vO .str i]]))))))
theorem aba(N:Nat):LB (og N) kb (kO N):=λ_ _=>by kernel_rfl
def iS(N:Nat)(a:Bs)(b:Int)(c:Bss)(e:Bs)(f:Int)(g:kN->Ro):Ro:=af (bi a b 5) (λd=>g (e,f,0,d.1,d.2.1,d.2.2,c,0,0,[],[],[],5,0,[],[],[]))
def va(N:Nat)(a:Bs)(b:Int)(c:Bss)(d:Bs)(e:Int):Ro:=iS N a b c d e (λz=>aO N (kO N) z)
theorem acq(N:Nat)(a:Bs)(c:Int)(d:Bss)(g:Bs)(i:Int)(h:Tot (va N a c d g i) (λz=>∃j k l m n o p s rest,z.1.dimR=.agg [vI j,vI k,vT l,vF .jnode m,vF .str n]∧z.2=some [vF .u8 o,vI p]::some [vO .str s]::rest∧rN a c d g i (j,k,l,m,n,o,p,s))):∃r,jy a c d g i r:=FnK.finO (css:=[[vF .u8 a,vI c],[vO .str d]]) ady (N:=N) ((cV _ (by kernel_rfl) rfl (λC=>iS N a c d g i (λz=>C 1000000 (kb z))) (λC=>by kernel_rfl)).trans (A3 (b:=iS N a c d g i (λz=>bg N (og N) (kb z))) (by kernel_rfl) (congrArg (iS N a c d g i) (funext λz=>bz (kb) (og N) (kO N) (aba N) N z)))) h λ_ ⟨j,k,l,m,n,o,p,s,_,e,f,q⟩=>⟨(j,k,l,m,n,o,p,s),e,⟨_,f⟩,q⟩
def cz:av:=tb_ [] [oJ] [] [wB,ap0]
def iT:IR:=Cn 12 (Rs [Mv 17 0,Ca 18 21 [17,kI 200],Bc 19 .sub 18 50,Pp (.bld 20 [vI 0,vI 0,vS,nl .jnode,nl .str] [(0,1,kI 3),(1,1,19)]),Sv 5 4 20] .ret) (Sq (Rs [Pp (.bin 22 .eql 11 (kS [115,116,114,105,110,103])),Mv 21 22] (Cn 21 .skip (Rg [Pp (.bin 23 .eql 11 (kS [98,121,116,101,115])),Mv 21 23]))) (Cn 21 (Rs [Pp (.bsl 24 .str [kS [],kS [100],kS [195,164]] true),Mv 25 0,Ca 26 21 [25,kI 3],Ix 27 .str 24 26,Lq 28 27,Ca 29 24 [28],Sv 5 4 29] .ret) (Rs [Pp (.bin 31 .eql 11 (kS [98,111,111,108,101,97,110])),Mv 30 31] (Cn 30 (Rs [Mv 32 0,Ca 33 21 [32,kI 2],Pp (.bld 34 [vI 0,vI 0,vS,nl .jnode,nl .str] [(0,1,kI 2),(1,1,33)]),Sv 5 4 34] .ret) (Rs [Pp (.bin 36 .eql 11 (kS [110,117,108,108])),Mv 35 36] (Cn 35 (Rs [Pp (.bld 37 [vI 0,vI 0,vS,nl .jnode,nl .str] [(0,1,kI 1)]),Sv 5 4 37] .ret) .skip))))))
def lQ:IR:=Sq (Rs [Fa 38 0 3,Lq 39 38,Bc 40 .eql 39 5] (Cn 40 (Rs [Pp (.bld 41 [vI 0,vI 0,vS,nl .jnode,nl .str] [(0,1,kI 1)]),Sv 5 4 41] .ret) .skip)) (Rs [Ld 43 5 true 3,Ca 44 44 [43,kS [116,121,112,101]],Mv 42 44,Ex_ 45 0 42,Ex_ 46 1 42,Pp (.alr 5 5),Fz 5 5 45,Mv 6 46] (Sq (Rs [Fa 47 2 5,Lq 48 47] (.block 1 (Rs [Pp (.bin 50 .eql 48 (kS [97,114,114,97,121])),Mv 49 50] (Cn 49 (Rs [Pp (.bld 51 [vI 0,vI 0,vS,nl .jnode,nl .str] [(0,1,kI 5)]),Sv 5 4 51] .ret) (Rs [Pp (.bin 53 .eql 48 (kS [101,110,117,109])),Mv 52 53] (Cn 52 (Rs [Ca 54 24 [kS [88]],Sv 5 4 54] .ret) .skip)))))) (Rs [Pp (.bld 55 [vI 0,vI 0,vS,nl .jnode,nl .str] [(0,1,kI 6)]),Sv 5 4 55] .ret)))
def lR:IR:=.cut [3,4,1000001] 2 lQ
def acr:IR:=Rs [Bx 3 1,Pp (.new 4 [vI 0,vI 0,vS,nl .jnode,nl .str])] (Sq (Rs [Fa 7 0 3,Lq 8 7,Bc 9 .eql 8 4] (Cn 9 (Rs [Fa 10 2 3,Lq 11 10] (.block 0 (Sq (Rs [Pp (.bin 13 .eql 11 (kS [105,110,116])),Mv 12 13] (Cn 12 .skip (Rs [Pp (.bin 14 .eql 11 (kS [108,111,110,103])),Mv 12 14] (Cn 12 .skip (Rs [Pp (.bin 15 .eql 11 (kS [102,108,111,97,116])),Mv 12 15] (Cn 12 .skip (Rg [Pp (.bin 16 .eql 11 (kS [100,111,117,98,108,101])),Mv 12 16]))))))) (.cut [0,3,4,11,12,1000000] 2 iT)))) .skip)) lR)
def dT:List RV:=[.cell 4 5 true]
theorem acs:FnC Tryz.prog cz [21,2000021] 1 25 Tryz.f25 acr dT:=fnC Tryz.func25
abbrev gq:Type:=(Int×Int×Bs×List aa×Bss×Bs×Bool×Bs×Int×Int×Int×Bs×List aa×Bss)
def fP:gq->St:=λ(e,f,g,h,i,j,k,l,m,n,a,b,c,d)=>{env:=(.ptr 0 0::.undef::.undef::.ea [vI e,vI f,vT g,vF .jnode h,vF .str i]::.ptr 1 0::(U 6 (vT j::vB k::(U 43 [])))),hp:=[some [vF .u8 l,vI m],some [vI n,vI a,vT b,vO .jnode c,vO .str d]]}
def mX(R:TRr):TE:=(aG 0 (bR (R lR) (fin dT)))
abbrev eJ:Type:=(Int×Int×Bs×List aa×Bss×Bs×Int×Int×Int×Bs×List aa×Bss)
def jw:eJ->St:=λ(c,d,e,f,g,h,i,j,k,l,a,b)=>{env:=(U 3 (.ea [vI c,vI d,vT e,vF .jnode f,vF .str g]::.ptr 1 0::(U 51 []))),hp:=[some [vF .u8 h,vI i],some [vI j,vI k,vT l,vO .jnode a,vO .str b]]}
def mY(N:Nat):TS:=λs=>run cz N lQ (fin dT) s
def gr(N:Nat):eJ->Ro:=λ(a,c,d,e,f,g,h,_,_,_,_,_)=>let i:=λk l m o p q r=>(some (.agg [vI k,vI l,vT m,vF .jnode o,vF .str p],[some [vF .u8 g,vI h],some [vI k,vI l,vT m,q,r]]):Ro);cond (a==5) (i 1 0 [] [] [] (vO .jnode []) (vO .str [])) (af (uu a c d e f [116,121,112,101]) (λn=>let s:=decide (n.2.2.1=[97,114,114,97,121]);cond s (i 5 0 [] [] [] (vO .jnode []) (vO .str [])) (let j:=decide (n.2.2.1=[101,110,117,109]);cond j (af (bw [88]) (λb=>i b.1 b.2.1 b.2.2.1 b.2.2.2.1 b.2.2.2.2 (vF .jnode b.2.2.2.1) (vF .str b.2.2.2.2))) (i 6 0 [] [] [] (vO .jnode []) (vO .str [])))))
theorem zQ(N:Nat):LJ (mY N) jw (gr N):=λ_=>by kernel_rfl
def mZ(N:Nat):TS:=λs=>run cz N iT (mX (run cz N)) s
def jx(N:Nat)(y:eJ->Ro):gq->Ro:=λ(f,g,h,i,j,c,s,a,b,k,l,m,n,o)=>let p:=λv w x z J F G M D=>(some (.agg [vI v,vI w,vT x,vF .jnode z,vF .str J],[some [vF .u8 F,vI G],some [vI v,vI w,vT x,M,D]]):Ro);cond s (af (bi a b 200) (λt=>let A:=(Aj .i64 (t.1-50));p 3 A [] [] [] t.2.1 t.2.2 (vO .jnode []) (vO .str []))) (let I:=decide (c=[115,116,114,105,110,103]);cond I (af (bi a b 3) (λq=>chk (ixl q.1 [([]:Bs),([100]:Bs),([195,164]:Bs)]) (let C:=Ak [([]:Bs),([100]:Bs),([195,164]:Bs)] (Ae q.1) (am .str);af (bw C) (λd=>p d.1 d.2.1 d.2.2.1 d.2.2.2.1 d.2.2.2.2 q.2.1 q.2.2 (vF .jnode d.2.2.2.1) (vF .str d.2.2.2.2))))) (let E:=decide (c=[98,121,116,101,115]);cond E (af (bi a b 3) (λr=>chk (ixl r.1 [([]:Bs),([100]:Bs),([195,164]:Bs)]) (let H:=Ak [([]:Bs),([100]:Bs),([195,164]:Bs)] (Ae r.1) (am .str);af (bw H) (λe=>p e.1 e.2.1 e.2.2.1 e.2.2.2.1 e.2.2.2.2 r.2.1 r.2.2 (vF .jnode e.2.2.2.1) (vF .str e.2.2.2.2))))) (let B:=decide (c=[98,111,111,108,101,97,110]);cond B (af (bi a b 2) (λu=>p 2 u.1 [] [] [] u.2.1 u.2.2 (vO .jnode []) (vO .str []))) (let L:=decide (c=[110,117,108,108]);cond L (p 1 0 [] [] [] a b (vO .jnode []) (vO .str [])) (y (f,g,h,i,j,a,b,k,l,m,n,o))))))
def kc(N:Nat)(x:gq):Ro:=jx N (λz=>gr N z) x
def na(N:Nat):List (Nat×(TS)):=(d5 cz N iT (mX (run cz N))++(d5 cz N lR (fin dT)++[]))
theorem zR(N:Nat):∀(x:gq),mZ N (fP x)=kc N x:=by
 intro x;have a:∀C:Nat->TS,dn C cz N iT (mX (dn C cz N)) (fP x)=jx N (λz=>C 1000001 (jw z)) x:=by intro C;kernel_rfl
 have h:mZ N (fP x)=jx N (λz=>mY N (jw z)) x:=(kP (C:=mz (na N)) (eY (bV (l:=(na N)) (by kernel_rfl))) (iU (np (eY (iu (bV (l:=(na N)) (by kernel_rfl)))) rfl)) _).trans ((a _).trans (by kernel_rfl));have b:(λz=>mY N (jw z))=(λz=>gr N z):=funext λz=>zQ N z
 rw[h,b];rfl
def mi:eJ->St:=λ(c,d,e,f,g,h,i,j,k,l,a,b)=>{env:=(U 3 (.ea [vI c,vI d,vT e,vF .jnode f,vF .str g]::.ptr 1 0::(U 51 []))),hp:=[some [vF .u8 h,vI i],some [vI j,vI k,vT l,vO .jnode a,vO .str b]]}
def sv(N:Nat):TS:=λs=>run cz N lQ (fin dT) s
def kd(N:Nat):eJ->Ro:=λ(b,c,d,e,f,g,h,_,_,_,_,_)=>let i:=λl m n p q r s=>(some (.agg [vI l,vI m,vT n,vF .jnode p,vF .str q],[some [vF .u8 g,vI h],some [vI l,vI m,vT n,r,s]]):Ro);cond (b==5) (i 1 0 [] [] [] (vO .jnode []) (vO .str [])) (af (uu b c d e f [116,121,112,101]) (λo=>let j:=decide (o.2.2.1=[97,114,114,97,121]);cond j (i 5 0 [] [] [] (vO .jnode []) (vO .str [])) (let k:=decide (o.2.2.1=[101,110,117,109]);cond k (af (bw [88]) (λa=>i a.1 a.2.1 a.2.2.1 a.2.2.2.1 a.2.2.2.2 (vF .jnode a.2.2.2.1) (vF .str a.2.2.2.2))) (i 6 0 [] [] [] (vO .jnode []) (vO .str [])))))
theorem zS(N:Nat):LJ (sv N) mi (kd N):=λ_=>by kernel_rfl
def gU(N:Nat)(c:Bs)(d b e:Int)(a:Bs)(f:List aa)(g:Bss)(l:gq->Ro)(m:eJ->Ro):Ro:=let h:=λn=>l (b,e,a,f,g,a,n,c,d,0,0,[],[],[]);cond (b==4) (let o:=decide (a=[105,110,116]);cond o (h true) (let i:=decide (a=[108,111,110,103]);cond i (h true) (let j:=decide (a=[102,108,111,97,116]);cond j (h true) (let k:=decide (a=[100,111,117,98,108,101]);h k)))) (m (b,e,a,f,g,c,d,0,0,[],[],[]))
def tM(N:Nat)(a:Bs)(b c d:Int)(e:Bs)(f:List aa)(g:Bss):Ro:=gU N a b c d e f g (λz=>kc N z) (λz=>kd N z)
theorem abb(N:Nat)(a:Bs)(c d g:Int)(i:Bs)(j:List aa)(k:Bss)(h:Tot (tM N a c d g i j k) (λz=>∃l m n o p s t rest,z.1.dimR=.agg [vI l,vI m,vT n,vF .jnode o,vF .str p]∧z.2=some [vF .u8 s,vI t]::rest∧fI a c d g i j k (l,m,n,o,p,s,t))):∃r,lg a c d g i j k r:=FnK.finO (css:=[[vF .u8 a,vI c]]) acs (N:=N) ((cV _ (by kernel_rfl) rfl (λC=>gU N a c d g i j k (λz=>C 1000000 (fP z)) (λz=>C 1000001 (mi z))) (λC=>by kernel_rfl)).trans (A3 (b:=gU N a c d g i j k (λz=>mZ N (fP z)) (λz=>sv N (mi z))) (by kernel_rfl) (congr (congrArg (gU N a c d g i j k) (funext λz=>zR N z)) (funext λz=>zS N z)))) h λ_ ⟨l,m,n,o,p,s,t,_,e,f,q⟩=>⟨(l,m,n,o,p,s,t),e,⟨_,f⟩,q⟩
def vb:List RV:=[.t 2]
def an1:List RV:=[.t 4]
def aix:av:=tb_ [] [] [] []
def ag5:IR:=Rs [Mi 4 0] (Sq (Sq (.reg [Mv 5 0,Nk 6 5,Fa 7 1 6,Fo [0] [] (.ld 8 1 false false 7),Mv 9 0,Nk 10 9,Fa 11 0 10,Fo [0] [] (.ld 12 1 false false 11),Ll 13 12,Bi 14 .geq 8 13] [[],[0],[0,1],[0,1,2],[],[4],[4,5],[4,5,6],rg 4 7,rg 0 8]) (Cn 14 (Rs [Mi 4 0] .ret) .skip)) (Rs [Mv 15 0,Nk 16 15,Fa 17 1 16,Lo 18 17,Bc 19 .add 18 1,Nk 20 15,Fa 21 1 20,Sv 1 21 19] (Sq (.reg [Mv 22 0,Nk 23 22,Fa 24 0 23,Fo [0] [] (.ld 25 1 false false 24),Mv 26 0,Nk 27 26,Fa 28 1 27,Fo [0] [] (.ld 29 1 false false 28),Bc 30 .sub 29 1,Ix 31 .u8 25 30,Lq 32 31,Pp (.cvi 33 .i64 32),Mv 34 1,Bi 35 .rem 33 34,Mv 4 35] [[],[0],[0,1],[0,1,2],[],[4],[4,5],[4,5,6],rg 4 7,rg 0 8,rg 0 9,rg 0 10,[],rg 0 12,rg 0 13]) .ret)))
theorem ag6:FnC Tryz.prog aix [] 1 21 Tryz.f21 ag5 an1:=fnC Tryz.func21
def yc(N:Nat)(a:Bs)(b c:Int):Ro:=let g:=(↑(Aa a):Int);let d:=λh i=>(some (vI h,[some [vF .u8 a,vI i]]):Ro);cond (decide (g<=b)) (d 0 b) (let e:=(Aj .i64 (b+1));let f:=(Aj .i64 (e-1));chk (ixl f a) (let j:=(Ak a (Ae f) (am .u8)).toNat;chk (!(c==0)) (let k:=(Bz (Aj .i64 j) c);d k e)))
def yd(N:Nat)(a:Bs)(b c:Int):Ro:=yc N a b c
theorem agm(N:Nat)(a:Bs)(b i:Int)(h:Tot (yd N a b i) (λz=>∃c d g rest,z.1.dimR=vI c∧z.2=some [vF .u8 d,vI g]::rest∧vl a b i (c,d,g))):∃r,bi a b i r:=FnK.finO (css:=[[vF .u8 a,vI b]]) ag6 (N:=N) (by kernel_rfl) h λ_ ⟨c,d,g,_,e,f,q⟩=>⟨(c,d,g),e,⟨_,f⟩,q⟩
def ag7:av:=tb_ [] [] [] []
def agn:IR:=Rs [Mb 2 false] (Sq (.reg [Mv 3 0,Nk 4 3,Fa 5 1 4,Fo [0] [] (.ld 6 1 false false 5),Mv 7 0,Nk 8 7,Fa 9 0 8,Fo [0] [] (.ld 10 1 false false 9),Ll 11 10,Bi 12 .geq 6 11,Mv 2 12] [[],[0],[0,1],[0,1,2],[],[4],[4,5],[4,5,6],rg 4 7,rg 0 8,rg 0 9]) .ret)
theorem ago:FnC Tryz.prog ag7 [] 1 42 Tryz.f42 agn vb:=fnC Tryz.func42
def xg(N:Nat)(a:Bs)(b:Int):Ro:=let c:=(↑(Aa a):Int);some (vB (decide (c<=b)),[some [vF .u8 a,vI b]])
def xh(N:Nat)(a:Bs)(b:Int):Ro:=xg N a b
theorem aeL(N:Nat)(a:Bs)(b:Int)(h:Tot (xh N a b) (λz=>∃c d g rest,z.1.dimR=vB c∧z.2=some [vF .u8 d,vI g]::rest∧uj a b (c,d,g))):∃r,nr a b r:=FnK.finO (css:=[[vF .u8 a,vI b]]) ago (N:=N) (by kernel_rfl) h λ_ ⟨c,d,g,_,e,f,q⟩=>⟨(c,d,g),e,⟨_,f⟩,q⟩
def ahy:av:=tb_ [] [] [] []
def agp:IR:=Rs [Pp (.mov 2 (.c .nilp))] (Rs [Mv 3 0,Pp (.bld 4 [fu .u8 true,vI 0] [(0,1,3)]),Pp (.box 5 4),Mv 2 5] .ret)
theorem an2:FnC Tryz.prog ahy [] 0 6 Tryz.f6 agp vb:=fnC Tryz.func6
def agq(N:Nat)(a:Bs):Ro:=some (.ptr 0 0,[some [vF .u8 a,vI 0]])
def zv(N:Nat)(a:Bs):Ro:=agq N a
theorem aml(N:Nat)(a:Bs):wt ahy N 6 vb agp [.sl .u8 (.may false) a] []=zv N a:=by kernel_rfl
theorem amm(N:Nat)(a:Bs)(h:Tot (zv N a) (λz=>∃(b c:_)(rest:List ai),z=(.ptr 0 0,[some [vF .u8 b,vI c]])∧abj a (b,c))):∃r,wA a r:=by obtain⟨z,e,b,c,rest,rfl,d⟩:=h;exact⟨(b,c),an2.newFn (aml N a) e,d⟩
def aoO:av:=tb_ [] [] [] []
def an3:IR:=Rs [Pp (.new 2 [vI 0,vI 0,vS,nl .jnode,nl .str])] (Rs [Mv 3 0,Pp (.bld 4 [vI 0,vI 0,vS,nl .jnode,nl .str] [(0,1,kI 4),(2,1,3)]),Sv 5 2 4] .ret)
def agr:List RV:=[.cell 2 5 true]
theorem an4:FnC Tryz.prog aoO [] 0 24 Tryz.f24 an3 agr:=fnC Tryz.func24
def ags(N:Nat)(a:Bs):Ro:=some (.agg [vI 4,vI 0,vT a,vF .jnode [],vF .str []],[some [vI 4,vI 0,vT a,vO .jnode [],vO .str []]])
def agt(N:Nat)(a:Bs):Ro:=ags N a
theorem amn(N:Nat)(g:Bs)(h:Tot (agt N g) (λz=>∃a b c d f rest,z.1.dimR=.agg [vI a,vI b,vT c,vF .jnode d,vF .str f]∧z.2=rest∧abk g (a,b,c,d,f))):∃r,bw g r:=an4.finP (N:=N) (by kernel_rfl) h λ_ ⟨a,b,c,d,f,_,e,_,q⟩=>⟨(a,b,c,d,f),e,q⟩
def agu:av:=tb_ [] [] [] []
def adZ:IR:=Rs [Pp (.new 4 [vI 0,vI 0,vS,nl .jnode,nl .str])] (Rs [Mv 5 0,Mv 6 1,Pp (.bld 7 [vI 0,vI 0,vS,nl .jnode,nl .str] [(0,1,kI 6),(4,1,5),(3,1,6)]),Sv 5 4 7] .ret)
theorem amo:FnC Tryz.prog agu [] 0 23 Tryz.f23 adZ dT:=fnC Tryz.func23
def ad0(N:Nat)(a:Bool)(c:Bss)(b:Bool)(d:List aa):Ro:=some (.agg [vI 6,vI 0,vT [],.sl .jnode (.may b) d,.sl .str (.may a) c],[some [vI 6,vI 0,vT [],.sl .jnode (.may b) d,.sl .str (.may a) c]])
def xD(N:Nat)(a:Bool)(c:Bss)(b:Bool)(d:List aa):Ro:=ad0 N a c b d
theorem ak7(N:Nat)(a:Bool)(c:Bss)(b:Bool)(d:List aa):wt agu N 8 dT adZ [.sl .str (.may a) c,.sl .jnode (.may b) d] []=xD N a c b d:=by kernel_rfl
theorem ak8(N:Nat)(a:Bool)(c:Bss)(b:Bool)(d:List aa)(h:Tot (xD N a c b d) (λz=>∃e f g i j k l rest,z.1=.agg [vI e,vI f,vT g,.sl .jnode (.may i) j,.sl .str (.may k) l]∧z.2=rest∧zW a c b d (e,f,g,i,j,k,l))):∃r,ge a c b d r:=by obtain⟨⟨v,hp⟩,q,e,f,g,i,j,k,l,rest,o,m,p⟩:=h;simp only at o m;subst m;subst o;exact⟨(e,f,g,i,j,k,l),amo.pure (ak7 N a c b d) q,p⟩
def adz:av:=tb_ [] [] [] []
def ad1:IR:=Sq (Rs [Mv 7 6,Fa 8 4 2,Lq 9 8,Ll 10 9,Bi 11 .lss 7 10] (Cn 11 .skip (.exit 0))) (Sq (.block 1 (Rs [Fa 14 4 2,Lq 15 14,Mv 16 6,Ix 17 .str 15 16,Lq 18 17,Mv 19 1,Bi 20 .eql 18 19] (Cn 20 (Rs [Fa 21 3 2,Lq 22 21,Mv 23 6,Ix 24 .jnode 22 23,Ld 25 5 true 24,Sv 5 4 25,Mb 5 true] .ret) .skip))) (Rg [Mv 12 6,Bc 13 .add 12 1,Mv 6 13]))
def ad2:IR:=Rs [Pp (.bld 26 [vI 0,vI 0,vS,nl .jnode,nl .str] []),Sv 5 4 26,Mb 5 false] .ret
def aoP:IR:=Rs [Bx 2 0,Pp (.new 4 [vI 0,vI 0,vS,nl .jnode,nl .str]),Mb 5 false] (Sq (Rs [Mi 6 0] (.block 0 (.loop [1,2,4,6,1000000] 1 ad1))) ad2)
def ahz:List RV:=[.cell 4 5 true,.t 5]
theorem aoQ:FnC Tryz.prog adz [] 0 44 Tryz.f44 aoP ahz:=fnC Tryz.func44
def an5(R:TRr)(a:TS):TE:=(ce a [1,2,4,6,1000000] 1 (aG 0 (bR (R ad2) (fin ahz))))
abbrev vc:Type:=(Bs×Int×Int×Bs×List aa×Bss×Int×Int×Int×Bs×List aa×Bss)
def sP:vc->St:=λ(c,d,e,f,g,h,i,j,k,l,a,b)=>{env:=(.undef::vT c::.ea [vI d,vI e,vT f,vF .jnode g,vF .str h]::.undef::.ptr 0 0::.undef::vI i::(U 20 [])),hp:=[some [vI j,vI k,vT l,vO .jnode a,vO .str b]]}
def zw(N:Nat):TS->TS:=λa s=>run adz N ad1 (an5 (run adz N) a) s
def vd(N:Nat)(c:vc->Ro):vc->Ro:=λ(p,f,g,h,b,a,e,i,j,k,m,o)=>let v:=(↑(Aa a):Int);let q:=λr t u w x y z C=>(some (.tup [.agg [vI r,vI t,vT u,vF .jnode w,vF .str x],vB y],[some [vI r,vI t,vT u,z,C]]):Ro);cond (decide (e<v)) (chk (ixl e a) (let A:=Ak a (Ae e) (am .str);cond (decide (A=p)) (chk (ixl e b) (let d:=(Ak b (Ae e) (am .jnode));q d.kind d.n d.s d.l d.names true (vF .jnode d.l) (vF .str d.names))) (let B:=(Aj .i64 (e+1));c (p,f,g,h,b,a,B,i,j,k,m,o)))) (q 0 0 [] [] [] false (vO .jnode []) (vO .str []))
theorem amp(N:Nat):LB (zw N) sP (vd N):=λ_ _=>by kernel_rfl
def sA(N:Nat)(a b:Int)(c:Bs)(d:List aa)(e:Bss)(f:Bs)(g:vc->Ro):Ro:=g (f,a,b,c,d,e,0,0,0,[],[],[])
def ahA(N:Nat)(a b:Int)(c:Bs)(d:List aa)(e:Bss)(f:Bs):Ro:=sA N a b c d e f (λz=>aO N (vd N) z)
theorem an6(N:Nat)(a c:Int)(d:Bs)(f:List aa)(g:Bss)(i:Bs)(h:Tot (ahA N a c d f g i) (λz=>∃j k l m n o rest,z.1.dimR=.tup [.agg [vI j,vI k,vT l,vF .jnode m,vF .str n],vB o]∧z.2=rest∧sD a c d f g i (j,k,l,m,n,o))):∃r,uu a c d f g i r:=aoQ.finP (N:=N) ((cV _ (by kernel_rfl) rfl (λC=>sA N a c d f g i (λz=>C 1000000 (sP z))) (λC=>by kernel_rfl)).trans (A3 (b:=sA N a c d f g i (λz=>bg N (zw N) (sP z))) (by kernel_rfl) (congrArg (sA N a c d f g i) (funext λz=>bz (sP) (zw N) (vd N) (amp N) N z)))) h λ_ ⟨j,k,l,m,n,o,_,e,_,q⟩=>⟨(j,k,l,m,n,o),e,q⟩
def aeM:av:=tb_ [] [vq] [] []
def adA:IR:=Rs [Pp (.new 2 [vI 0,vI 0,vS,nl .jnode,nl .str])] (Rs [Pp (.bsl 4 .str [kS [84,111,112]] false),Pp (.new 3 [nl .str]),Sk 1 3 4] (Rs [Mv 5 0,Ca 6 13 [5,kS [84,111,112],kI 0,3],Sv 5 2 6] .ret))
theorem adB:FnC Tryz.prog aeM [13,2000013] 1 7 Tryz.f7 adA agr:=fnC Tryz.func7
def ve(N:Nat)(b:Bs)(c:Int):Ro:=af (jy b c [([84,111,112]:Bs)] [84,111,112] 0) (λa=>some (.agg [vI a.1,vI a.2.1,vT a.2.2.1,vF .jnode a.2.2.2.1,vF .str a.2.2.2.2.1],[some [vF .u8 a.2.2.2.2.2.1,vI a.2.2.2.2.2.2.1],some [vI a.1,vI a.2.1,vT a.2.2.1,vF .jnode a.2.2.2.1,vF .str a.2.2.2.2.1],some [vO .str a.2.2.2.2.2.2.2]]))
def vf(N:Nat)(a:Bs)(b:Int):Ro:=ve N a b
theorem act(N:Nat)(a:Bs)(b:Int)(h:Tot (vf N a b) (λz=>∃c d g i j k l rest,z.1.dimR=.agg [vI c,vI d,vT g,vF .jnode i,vF .str j]∧z.2=some [vF .u8 k,vI l]::rest∧rO a b (c,d,g,i,j,k,l))):∃r,lU a b r:=FnK.finO (css:=[[vF .u8 a,vI b]]) adB (N:=N) (by kernel_rfl) h λ_ ⟨c,d,g,i,j,k,l,_,e,f,q⟩=>⟨(c,d,g,i,j,k,l),e,⟨_,f⟩,q⟩
theorem an7(l:List UInt8)(n m:Int)(h:pz l n)(c:0<m):∃r,bi l n m r:=by
 obtain⟨d,e,a⟩:=h;apply agm 1;unfold yd yc;dsimp only
 repeat' (first|(with_reducible refine ac ?_ ?_<;>(intro b;(try simp only[bnl] at b);(try revert b;intro _)))|with_reducible refine dH ?_ ?_|with_reducible refine aj ?_|fail)
 ·exact⟨_,_,_,_,rfl,rfl,by simp,by simpa using c,rfl,d,e,a⟩
 ·simp(disch:=omega) only[atZ,bnl]
 ·simp only[bnl];omega
 ·refine⟨_,_,_,_,rfl,rfl,?_,?_,rfl,?_,?_,a⟩;·simp only;have:=UInt8.toNat_lt (l.getD (IntKind.i64.wrap (IntKind.i64.wrap (n+1)-1)).toNat (am .u8));rw[ax _ (by omega)];exact Dk _ (by omega)
  ·simp only;exact Int.tmod_lt_of_pos _ c
  ·simp only;rw[ax _ (by omega)];omega
  ·simp only;rw[ax _ (by omega)];omega
theorem rn(l:List UInt8)(n m:Int)(h:pz l n)(b:0<m)(a:m<=1000):∃r,bi l n m r:=an7 l n m h b
theorem asw(l:List UInt8)(n:Int):∃r,nr l n r:=by
 apply aeL 1;unfold xh xg;dsimp only
 repeat' (first|(with_reducible refine ac ?_ ?_<;>(intro a;(try simp only[bnl] at a);(try revert a;intro _)))|with_reducible refine dH ?_ ?_|with_reducible refine aj ?_|fail)
 exact⟨_,_,_,_,rfl,rfl,rfl,rfl⟩
theorem asx(l:List UInt8):∃r,wA l r:=by
 apply amm 1;unfold zv agq
 repeat' (first|(with_reducible refine ac ?_ ?_<;>(intro a;(try simp only[bnl] at a);(try revert a;intro _)))|with_reducible refine dH ?_ ?_|with_reducible refine aj ?_|fail)
 exact⟨_,_,[],rfl,rfl⟩
theorem dU(s:List UInt8):∃r,bw s r:=by
 apply amn 1;unfold agt ags
 repeat' (first|(with_reducible refine ac ?_ ?_<;>(intro a;(try simp only[bnl] at a);(try revert a;intro _)))|with_reducible refine dH ?_ ?_|with_reducible refine aj ?_|fail)
 exact⟨_,_,_,_,_,_,rfl,rfl,rfl⟩
theorem xi(c:Bool)(names:List (List UInt8))(b:Bool)(l:List aa):∃r,ge c names b l r:=by
 apply ak8 1;unfold xD ad0
 repeat' (first|(with_reducible refine ac ?_ ?_<;>(intro a;(try simp only[bnl] at a);(try revert a;intro _)))|with_reducible refine dH ?_ ?_|with_reducible refine aj ?_|fail)
 exact⟨_,_,_,_,_,_,_,_,rfl,rfl,rfl⟩
theorem ak9:∀(names:List (List UInt8))(l:List aa)(name:List UInt8)(i:Nat),(∀j,j<i->names.getD j []≠name)->fa names l name=fa (names.drop i) (l.drop i) name
 |names,l,name,0,_=>rfl
 | [],l,name,i+1,h=>by simp[fa]
 |x::a,[],name,i+1,h=>by
  have:∀a:List (List UInt8),fa a [] name=none:=λa=>by cases a<;>rfl
  simp[fa,this]
 |x::a,c::l,name,i+1,h=>by have b:=h 0 (by omega);simp only[Cm] at b;simp only[fa,if_neg b,Dr];exact ak9 a l name i λj d=>by simpa using h (j+1) (by omega)
theorem asy{names:List (List UInt8)}{l:List aa}{name:List UInt8}{i:Nat}(b:i<names.length)(c:i<l.length)(h:∀j,j<i->names.getD j []≠name)(a:names.getD i []=name):
  fa names l name=some (l.getD i (am .jnode)):=by
 rw[ak9 names l name i h,Bl b,Bl c];simp only[fa];rw[Af,Ab b,Bd] at a;rw[if_pos a,Af,Ab c,Bd]
theorem arF{names:List (List UInt8)}{l:List aa}{name:List UInt8}{i:Nat}(h:∀j,j<i->names.getD j []≠name)(a:names.length<=i∨l.length<=i):fa names l name=none:=by
 rw[ak9 names l name i h];rcases a with a|a;·rw[B1 a];rfl
 ·rw[List.drop_of_length_le (l:=l) a];cases names.drop i<;>rfl
theorem apf(k n:Int)(s:List UInt8)(l:List aa)(names:List (List UInt8))(name:List UInt8)(h:names.length<=l.length)(v:names.length<=1000):∃r,uu k n s l names name r:=by
 apply an6 2000;unfold ahA sA
 refine a8 (λx=>x.1=name∧x.2.2.2.2.1=l∧x.2.2.2.2.2.1=names∧0<=x.2.2.2.2.2.2.1∧x.2.2.2.2.2.2.1<=(names.length:Int)∧∀j:Nat,(j:Int)<x.2.2.2.2.2.2.1->names.getD j []≠name)
  (λx=>((names.length:Int)-x.2.2.2.2.2.2.1).toNat) ?_ _ _ ⟨rfl,rfl,rfl,by simp,by simp,λj f=>by simp at f;omega⟩ (by simp;omega)
 rintro g ⟨q,w,E,F,o,u,i,y,B,D,C,A⟩ ⟨rfl,rfl,rfl,t,p,c⟩ m;simp only at t p c m h v ⊢;unfold vd;dsimp only
 repeat' (first|(with_reducible refine ac ?_ ?_<;>(intro b;(try simp only[bnl] at b);(try revert b;intro _)))|with_reducible refine dH ?_ ?_|with_reducible refine aj ?_|fail)
 ·simp only[bnl];omega
 ·simp only[bnl];omega
 ·rename_i b a;have e:=asy (names:=u) (l:=o) (name:=q) (i:=i.toNat) (by omega) (by omega) (λj f=>c j (by omega)) a;refine⟨_,_,_,_,_,_,_,rfl,rfl,?_⟩;simp only[sD];rw[e];rfl
 ·rename_i b a;have d:=ax (i+1) (by omega);refine m _ ⟨rfl,rfl,rfl,?_,?_,?_⟩ ?_;·simp only[d];omega
  ·simp only[d];omega
  ·simp only[d];intro j f;by_cases e:(j:Int)=i
   ·have:i.toNat=j:=by omega
    rw[this] at a;exact a
   ·exact c j (by omega)
  ·simp only[d];omega
 ·rename_i b;refine⟨_,_,_,_,_,_,_,rfl,rfl,?_⟩;simp only[sD];rw[arF (i:=i.toNat) (λj f=>c j (by omega)) (.inl (by omega))];rfl
theorem nz{e c:Int}(a:c≠0):(if e=0 then c else e)≠0:=by split<;>assumption
structure rI(ts:List ab)(e:Int)(t0:ab)(at_:Int)(ts2:List ab)(e2:Int):Prop where
 len:ts.length<=ts2.length
 cap:ts2.length<=60
 grow:e2=0->at_=ts.length∧kQ (ts++[t0]) e ts2 e2
theorem rI.add{a:List ab}{e:Int}{c:ab}(h:a.length<=60){r:Int×List ab×Int}(b:r=if 60<=a.length then (0,a,if e=0 then 3 else e) else ((a.length:Int),a++[c],e)):rI a e c r.1 r.2.1 r.2.2:=by
 by_cases d:60<=a.length;·rw[if_pos d] at b;subst b;exact⟨Am _,h,λh=>absurd h (nz (by decide))⟩
 ·rw[if_neg d] at b;subst b;exact⟨by simp,by simp;omega,λh=>⟨rfl,kQ.refl (by simp;omega)⟩⟩
theorem rI.more{g d b:List ab}{e k i:Int}{j:ab}{a:Int}(h:rI g e j a d k)(c:kQ d k b i):rI g e j a b i:=
 ⟨AH h.len c.len,c.cap,λf=>⟨(h.grow (c.err f)).1,(h.grow (c.err f)).2.trans c⟩⟩
theorem rI.bad{c b:List ab}{e j d:Int}{f:ab}{a:Int}(h:rI c e f a b j)(g:d≠0):rI c e f a b d:=
 ⟨h.len,h.cap,λi=>absurd i g⟩
theorem rI.range{f b:List ab}{e c:Int}{i:ab}{a:Int}(h:rI f e i a b c)(d:c=0):0<=a∧a<b.length:=by obtain⟨rfl,g⟩:=h.grow d;have:=g.len;simp only[AD,Bh] at this;omega
theorem rI.done{f b:List ab}{e c:Int}{i t:ab}{a:Int}(h:rI f e i a b c)(j:c=0)(k:yJ b.length t)(m:ar6 i t)(d:ae9 (b.set a.toNat t) a.toNat t):kQ f e (b.set a.toNat t) c:=by obtain⟨rfl,g⟩:=h.grow j;rw[AR] at d ⊢;exact g.close k (λ_=>m) (λ_=>d)
theorem rI.get{i b:List ab}{e f:Int}{d:ab}{a:Int}(h:rI i e d a b f)(c:f=0):b[a.toNat]? =some d:=by obtain⟨rfl,g⟩:=h.grow c;rw[AR];exact g.at_open c
theorem rI.zero{c b:List ab}{e d:Int}{i:ab}{a:Int}(h:rI c e i a b d)(f:d=0):a.toNat=c.length∧c.length<b.length∧(c=[]->a=0):=by obtain⟨rfl,g⟩:=h.grow f;have:=g.len;simp only[AD,Bh] at this;exact⟨by simp,by omega,λh=>by rw[h];rfl⟩
def atV(a:List ab)(n:Nat)(b:List Int)(m:Nat):Prop:=∃w:Nat->Nat,apR w b.length<=m∧∀(k:Nat) c,b[k]? =some c->le a n c (w k)
theorem atV.nil(a:List ab)(n:Nat):atV a n [] 0:=⟨λ_=>0,Am _,by simp⟩
theorem aqC{l:List (List UInt8)}(h:dy l)(i:Nat):(l.getD i (am .str)).length<=100:=by
 rw[Af];cases a:l[i]? with
 |none=>exact Br _
 |some y=>exact h y (Ai a)
theorem ahT.grow{d c:List ab}{e j:Int}{i:Nat}{l:List aA}(h:ahT d i l)(g:kQ d e c j)(k:j=0):ahT c i l:=
 ⟨h.1,λf a=>⟨⟨(h.2.1 f a).1.1,by have:=(h.2.1 f a).1.2.1;have:=g.len;omega,(h.2.1 f a).1.2.2⟩,(h.2.1 f a).2⟩,λf a=>by obtain⟨b,m,o⟩:=h.2.2 f a;exact⟨b,m,o.grow g k⟩⟩
theorem eH(k n:Int)(s:List UInt8)(h:s.length<=100):lS (.mk k n s [] []):=.mk _ _ _ _ _ h (by simp) (by simp) (by simp) (by simp) (by simp) (by simp[bj]) (by simp[bj])
theorem acu(k n:Int)(l:List aa)(h:l.length<=7)(b:∀c∈l,lS c)(a:k≠6):lS (.mk k n [] l []):=.mk _ _ _ _ _ (by simp) h (by simp) (by simp) (λh=>absurd h a) b (by simp[bj]) (by simp[bj])
theorem adC(k n:Int)(l:List aa)(names:List (List UInt8))(a:names.length=l.length)(h:l.length<=7)(e:dy names)(f:∀c∈l,lS c)
  (b:bj [115,105,122,101] (λc=>c.n<=apQ) names l) (d:bj [110,97,109,101] (λc=>mc c.s) names l):lS (.mk k n [] l names):=.mk _ _ _ _ _ (by simp) h (by omega) e (λ_=>a) f b d
theorem fx:∀l m:List aa,dI (l++m)=dI l+dI m
 | [],m=>by simp[dI]
 |c::l,m=>by simp only[Bp,dI,fx l m];omega
theorem aqD(l:List aa)(n:Nat):dI (AY 0 (A5 n l))<=dI l:=by rw[BS];have:=fx (l.take n) (l.drop n);rw[List.take_append_drop] at this;omega
theorem agI{l:List (List UInt8)}(h:dy l)(i:Nat):(l.getD i (am .str)).length<=100:=aqC h i
theorem aoR(a:List UInt8)(n e f:Int)(d:List UInt8)(h:List aa)(k:List (List UInt8))(hp:pz a n)(F:lS (.mk e f d h k)):∃r,lg a n e f d h k r:=by
 obtain⟨L,M,E,P,J,N⟩:=F.kids;apply abb 1;unfold tM gU;dsimp only;have one:∀(g w v:Int)(x:List UInt8)(B:List aa)(y:List (List UInt8)),pz a g->Tot (gr 1 (e,f,d,h,k,a,g,w,v,x,B,y)) (λz=>∃(j p:Int)(i:List UInt8)(t:List aa)(u:List (List UInt8))(o:List UInt8)(q:Int)(rest:List ai),z.1.dimR=.agg [.int .i64 j,.int .i64 p,.str i,.sl .jnode (.may false) t,.sl .str (.may false) u]∧z.2=some [.sl .u8 (.may false) o,.int .i64 q]::rest∧fI a n e f d h k (j,p,i,t,u,o,q)):=by
  intro g w v x B y hp';unfold gr;dsimp only
  repeat' (first|(with_reducible refine ac ?_ ?_<;>(intro c;(try simp only[bnl] at c);(try revert c;intro _)))|with_reducible refine dH ?_ ?_|with_reducible refine aj ?_|(refine ag (apf _ _ _ _ _ _ E (by omega)) ?_;rintro r ⟨-,D⟩;clear D)|(refine ag (dU _) ?_;rintro _ ⟨-,rfl⟩;dsimp only)|fail)
  all_goals exact⟨_,_,_,_,_,_,_,_,rfl,rfl,eH _ _ _ (by simp),rfl,rfl,hp'⟩
 have A:∀(g w v:Int)(x:List UInt8)(B:List aa)(y:List (List UInt8)),pz a g->Tot (kd 1 (e,f,d,h,k,a,g,w,v,x,B,y)) (λz=>∃(j p:Int)(i:List UInt8)(t:List aa)(u:List (List UInt8))(o:List UInt8)(q:Int)(rest:List ai),z.1.dimR=.agg [.int .i64 j,.int .i64 p,.str i,.sl .jnode (.may false) t,.sl .str (.may false) u]∧z.2=some [.sl .u8 (.may false) o,.int .i64 q]::rest∧fI a n e f d h k (j,p,i,t,u,o,q)):=by
  intro g w v x B y hp';unfold kd;dsimp only
  repeat' (first|(with_reducible refine ac ?_ ?_<;>(intro c;(try simp only[bnl] at c);(try revert c;intro _)))|with_reducible refine dH ?_ ?_|with_reducible refine aj ?_|(refine ag (apf _ _ _ _ _ _ E (by omega)) ?_;rintro r ⟨-,D⟩;clear D)|(refine ag (dU _) ?_;rintro _ ⟨-,rfl⟩;dsimp only)|fail)
  all_goals exact⟨_,_,_,_,_,_,_,_,rfl,rfl,eH _ _ _ (by simp),rfl,rfl,hp'⟩
 have zero:∀(b:Bool),Tot (kc 1 (e,f,d,h,k,d,b,a,n,0,0,[],[],[])) (λz=>∃(j p:Int)(i:List UInt8)(t:List aa)(u:List (List UInt8))(o:List UInt8)(q:Int)(rest:List ai),z.1.dimR=.agg [.int .i64 j,.int .i64 p,.str i,.sl .jnode (.may false) t,.sl .str (.may false) u]∧z.2=some [.sl .u8 (.may false) o,.int .i64 q]::rest∧fI a n e f d h k (j,p,i,t,u,o,q)):=by
  intro b;unfold kc jx;dsimp only;have I:dy ([([]:List UInt8),([100]:List UInt8),([195,164]:List UInt8)]:List (List UInt8)):=by simp[dy]
  repeat' (first|(with_reducible refine ac ?_ ?_<;>(intro c;(try simp only[bnl] at c);(try revert c;intro _)))|with_reducible refine dH ?_ ?_|with_reducible refine aj ?_|(refine ag (rn _ _ _ hp (by omega) (by omega)) ?_;rintro⟨m,O,g⟩ ⟨-,G,H,rfl,C⟩;dsimp only at G H C ⊢)|(refine ag (dU _) ?_;rintro _ ⟨-,rfl⟩;dsimp only)|fail)
  all_goals first|exact⟨_,_,_,_,_,_,_,_,rfl,rfl,eH _ _ _ (Br _),rfl,rfl,hp⟩|exact⟨_,_,_,_,_,_,_,_,rfl,rfl,eH _ _ _ (Br _),rfl,rfl,C⟩|exact⟨_,_,_,_,_,_,_,_,rfl,rfl,eH _ _ _ (agI I _),rfl,rfl,C⟩|exact one _ _ _ _ _ _ hp|exact A _ _ _ _ _ _ hp|(first|(simp only[bnl,lnl];done)|(simp only[bnl,lnl];omega))|skip
 repeat' (first|(with_reducible refine ac ?_ ?_<;>(intro c;(try simp only[bnl] at c);(try revert c;intro _)))|with_reducible refine dH ?_ ?_|with_reducible refine aj ?_|fail)
 all_goals first|exact zero _|exact A _ _ _ _ _ _ hp
def ajW(deep:Int):Prop:=∀(a:List UInt8)(n:Int)(b:List (List UInt8)),pz a n->dy b->b.length+qo (5-deep.toNat)<=100000->∃r,dF a n b deep r
theorem abc{deep:Int}(h:0<=deep∧deep<=4):qo (5-deep.toNat)=1+4*qo (5-(deep+1).toNat):=by
 have:5-deep.toNat=(5-(deep+1).toNat)+1:=by omega
 rw[this];rfl
theorem abd{deep:Int}(h:0<=deep∧deep<=4):ui (5-deep.toNat)=50+4*ui (5-(deep+1).toNat):=by
 have:5-deep.toNat=(5-(deep+1).toNat)+1:=by omega
 rw[this];rfl
theorem aaw:∀n,20<=ui n
 |0=>Am _
 |n+1=>by have:=aaw n;simp only[ui];omega
theorem aqE(deep:Int)(Q:0<=deep∧deep<=3)(x:ajW (deep+1))(a:List UInt8)(n:Int)(t:List (List UInt8))(hp:pz a n)(h:dy t)(R:t.length+qo (5-deep.toNat)<=100000):∃r,mC a n t deep r:=by
 have P:=abc (deep:=deep) (by omega);have N:=abd (deep:=deep) (by omega);have M:=aaw (5-(deep+1).toNat);have y:IntKind.i64.wrap (deep+1)=deep+1:=ax (deep+1) (by omega);apply adw 1;unfold wa vZ;dsimp only;have L:dy ([([105,110,116]:List UInt8),([115,116,114,105,110,103]:List UInt8)]:List (List UInt8)):=by simp[dy]
 refine ag (dU _) ?_;rintro _ ⟨-,rfl⟩;refine ag (rn _ _ _ hp (by omega) (by omega)) ?_;rintro⟨m,G,O⟩ ⟨-,C,H,rfl,q⟩;dsimp only at C H q ⊢;refine ac (λ_=>?_) (λ_=>?_)
 ·refine ag (rn _ _ _ q (by omega) (by omega)) ?_;rintro⟨m',G,I⟩ ⟨-,u,v,rfl,k⟩;dsimp only at u v k ⊢;refine vck ?_;refine ag (dU _) ?_;rintro _ ⟨-,rfl⟩;dsimp only;refine vck ?_;rw[y];refine ag (x _ _ _ k h (by omega)) ?_;rintro⟨B,J,D,F,A,w,E,o⟩ ⟨-,⟨i,d⟩,rfl,f,g,p⟩;dsimp only at i d f g p ⊢;rw[eq] at d;have e:∀c∈([aa.mk 4 0 [110,117,108,108] [] []]++[aa.mk 4 0 (Ak ([([105,110,116]:List UInt8),([115,116,114,105,110,103]:List UInt8)]:List (List UInt8)) (Ae m') (am .str)) [] []]),lS c:=by
   intro c b;simp only[Bp,Cr,AQ,Bu,or_false] at b;rcases b with rfl|rfl;·exact eH _ _ _ (by simp)
   ·exact eH _ _ _ (agI L _)
  repeat' (first|(with_reducible refine ac ?_ ?_<;>(intro j;(try simp only[bnl] at j);(try revert j;intro _)))|with_reducible refine dH ?_ ?_|with_reducible refine aj ?_|fail)
  ·first|(simp only[bnl,lnl];done)|(simp only[bnl,lnl];omega)
  ·refine⟨_,_,_,_,_,_,_,_,_,rfl,rfl,⟨acu _ _ _ (by simp) ?_ (by simp),by simp only[eq,fx,dI];omega⟩,rfl,f,g,by simp only;omega⟩;intro c b;rcases Aw.1 b with b|b;·exact e c b
   ·simp only[Az] at b;subst b;exact i
  ·exact⟨_,_,_,_,_,_,_,_,_,rfl,rfl,⟨acu _ _ _ (by simp) e (by simp),by simp only[eq,fx,dI];omega⟩,rfl,f,g,by simp only;omega⟩
 ·rw[y];refine ag (x _ _ _ q h (by omega)) ?_;rintro⟨B,J,D,F,A,w,E,o⟩ ⟨-,⟨i,d⟩,rfl,f,g,p⟩;dsimp only at i d f g p ⊢;rw[eq] at d
  repeat' (first|(with_reducible refine ac ?_ ?_<;>(intro j;(try simp only[bnl] at j);(try revert j;intro _)))|with_reducible refine dH ?_ ?_|with_reducible refine aj ?_|fail)
  ·first|(simp only[bnl,lnl];done)|(simp only[bnl,lnl];omega)
  ·refine⟨_,_,_,_,_,_,_,_,_,rfl,rfl,⟨acu _ _ _ (by simp) ?_ (by simp),by simp only[eq,fx,dI];omega⟩,rfl,f,g,by simp only;omega⟩;intro c b;simp only[Bp,Cr,AQ,Bu,or_false] at b;rcases b with rfl|rfl;·exact eH _ _ _ (by simp)
   ·exact i
  ·refine⟨_,_,_,_,_,_,_,_,_,rfl,rfl,⟨acu _ _ _ (by simp) ?_ (by simp),by simp only[eq,fx,dI];omega⟩,rfl,f,g,by simp only;omega⟩;intro c b;simp only[Az] at b;subst b;exact eH _ _ _ (by simp)
theorem ahB(deep:Int)(e:0<=deep∧deep<=3)(hT:ajW (deep+1))(a:List UInt8)(n:Int)(y:List (List UInt8))(name:List UInt8)(hp:pz a n)(B:dy y)(u:name.length<=100∧mc name)(hl:y.length+qo (5-deep.toNat)<=100001):∃r,jy a n y name deep r:=by
 have hN:=abc (deep:=deep) (by omega);have hM:=abd (deep:=deep) (by omega);have b4:=aaw (5-(deep+1).toNat);have ed:IntKind.i64.wrap (deep+1)=deep+1:=ax (deep+1) (by omega);apply acq 100;unfold va iS;refine ag (rn _ _ _ hp (by omega) (by omega)) ?_;rintro⟨m,a',n'⟩ ⟨-,m1,m2,rfl,m3⟩;dsimp only at m1 m2 m3 ⊢
 refine a8 (λx=>match x with|(A,o,i,m',R,O,j,J,G,E,H,N,k0,P,W,l,Z)=>A=name∧o=deep∧0<=i∧i<=m∧m'=m∧R=a'∧pz a' O∧dy j∧(j.length:Int)<=y.length+i*qo (5-(deep+1).toNat)∧k0=5∧P=0∧W=[]∧Z=[]∧(l.length:Int)=i∧(∀c∈l,lS c)∧(dI l:Int)<=i*(ui (5-(deep+1).toNat)+3:Nat)) (λx=>(m-x.2.2.1).toNat) ?_ _ _
  ⟨rfl,rfl,by simp,m1,rfl,rfl,m3,B,by simp,rfl,rfl,rfl,rfl,rfl,by simp,by simp[dI]⟩ (by simp only;omega)
 rintro g ⟨A,o,i,m',R,O,j,J,G,E,H,N,k0,P,W,l,Z⟩ ⟨rfl,rfl,i1,i2,rfl,rfl,i3,i4,i5,rfl,rfl,rfl,rfl,i6,i7,i8⟩ ih;dsimp only at ih;have Y:i<m'->IntKind.i64.wrap (i+1)=i+1:=λh=>ax (i+1) (by omega)
 generalize S:qo (5-(o+1).toNat)=q at*
 generalize L:ui (5-(o+1).toNat)=p at*
 have b1:i*((p+3:Nat):Int)<=4*((p+3:Nat):Int):=Cu (by omega) (by omega);have bY:i*(q:Int)<=4*q:=Cu (by omega) (by omega);have br:dy ([]:List (List UInt8)):=by simp[dy]
 unfold kO;dsimp only;refine ac (λh=>?_) (λh=>?_)
 ·have h:=of_decide_eq_true h;rw[ed];have b6:(i+1)*(q:Int)<=4*q:=Cu (by omega) (by omega);have b5:(i+1)*(q:Int)=i*q+q:=by rw[Int.add_mul,Int.one_mul]
  have C:(i+1)*((p+3:Nat):Int)=i*((p+3:Nat):Int)+((p+3:Nat):Int):=by rw[Int.add_mul,Int.one_mul]
  refine ag (hT _ _ _ i3 i4 (by rw[S];omega)) ?_;rintro⟨t0,t1,t2,t3,t4,b2,n3,v⟩ ⟨-,⟨w,k⟩,rfl,h3,h4,h5⟩;dsimp only at w k h3 h4 h5 ⊢;rw[eq] at k;rw[S] at h5;rw[L] at k;refine vck ?_;refine ag (dU _) ?_;rintro _ ⟨-,rfl⟩;refine ag (xi _ _ _ _) ?_;rintro _ ⟨-,rfl⟩;dsimp only;refine ag (rn _ _ _ h3 (by omega) (by omega)) ?_;rintro⟨mm,I,n4⟩ ⟨-,D,F,rfl,f⟩;dsimp only at D F f ⊢
  have next:∀(t:Int)(c:aa),pz I t->lS c->szJ c<=p+3->Tot (g (A,o,IntKind.i64.wrap (i+1),m',I,t,v,J,G,E,H,N,5,0,[],l++[c],[])) _:=λt c M b b3=>ih (A,o,IntKind.i64.wrap (i+1),m',I,t,v,J,G,E,H,N,5,0,[],l++[c],[])
   (by
    simp only[Y h,AD,Av,AA];refine⟨trivial,trivial,by omega,by omega,trivial,trivial,M,h4,by omega,trivial,trivial,trivial,trivial,by omega,?_,by rw[fx,C];simp only[dI];omega⟩;intro d e;rcases Aw.1 e with e|e;·exact i7 d e
    ·simp only[Az] at e;subst e;exact b) (by simp only[Y h];omega)
  have X:lS (.mk 4 0 ([102]++[Bq (Ae (Aj .u8 (Aj .i64 (97+i))))]) [] []):=eH _ _ _ (by simp);refine ac (λ_=>?_) (λ_=>?_)
  ·refine vck ?_;refine ag (aoR _ _ _ _ _ _ _ f w) ?_;rintro⟨d0,d1,d2,d3,d4,a4,t⟩ ⟨-,Q,qz,rfl,q5⟩;dsimp only at Q qz q5 ⊢;rw[eq] at qz;refine vck ?_;refine vck ?_;refine next _ _ q5 (adC _ _ _ _ (by simp) (by simp) (by simp[dy]) ?_ (by simp[bj]) (by simp[bj,mc,aa.s])) (by simp only[eq,fx,dI];omega)
   intro c b;simp only[Bp,Cr,AQ,Bu,or_false] at b;rcases b with rfl|rfl|rfl;·exact X
   ·exact w
   ·exact Q
  ·refine vck ?_;refine next _ _ f (adC _ _ _ _ (by simp) (by simp) (by simp[dy]) ?_ (by simp[bj]) (by simp[bj,mc,aa.s])) (by simp only[eq,fx,dI];omega)
   intro c b;simp only[AQ,Bu,or_false] at b;rcases b with rfl|rfl;·exact X
   ·exact w
 ·refine ag (dU _) ?_;rintro _ ⟨-,rfl⟩;refine ag (dU _) ?_;rintro _ ⟨-,rfl⟩;refine ag (dU _) ?_;rintro _ ⟨-,rfl⟩;refine ag (xi _ _ _ _) ?_;rintro _ ⟨-,rfl⟩;dsimp only;refine aj ⟨_,_,_,_,_,_,_,_,_,rfl,rfl,⟨⟨adC _ _ _ _ (by simp) (by simp) (by simp[dy]) ?_ (by simp[bj]) (by simp[bj];exact u.2),by simp only[eq,fx,dI];omega⟩,rfl,i3,i4,by simp only;omega⟩,by simp only;omega⟩;intro c b;simp only[AQ,Bu,or_false] at b;rcases b with rfl|rfl|rfl|rfl;·exact eH _ _ _ (by simp)
  ·exact eH _ _ _ u.1
  ·exact eH _ _ _ (by simp)
  ·exact acu _ _ _ (by omega) i7 (by decide)
theorem ajX(deep:Int)(hd:0<=deep∧deep<=4)(Q:deep<=3->ajW (deep+1)):ajW deep:=by
 intro a n o hp t hl;have hN:=abc (deep:=deep) (by omega);have hM:=abd (deep:=deep) (by omega);have c2:=aaw (5-(deep+1).toNat);have ed:IntKind.i64.wrap (deep+1)=deep+1:=ax (deep+1) (by omega);apply aeI 1;unfold xf ku;dsimp only;have w8:dy ([([105,110,116]:List UInt8),([108,111,110,103]:List UInt8),([115,116,114,105,110,103]:List UInt8),([98,121,116,101,115]:List UInt8),([98,111,111,108,101,97,110]:List UInt8),([110,117,108,108]:List UInt8),([102,108,111,97,116]:List UInt8),([100,111,117,98,108,101]:List UInt8)]:List (List UInt8)):=by simp[dy]
 have br:∀(k j:Int),deep<=3->pz a j->Tot (jH 1 (deep,k,a,j,o,0,0,[],[],[])) (λz=>∃(G B:Int)(y:List UInt8)(E:List aa)(v:List (List UInt8))(u:List UInt8)(C:Int)(A:List (List UInt8))(rest:List ai),z.1.dimR=.agg [.int .i64 G,.int .i64 B,.str y,.sl .jnode (.may false) E,.sl .str (.may false) v]∧z.2=some [.sl .u8 (.may false) u,.int .i64 C]::some [.sl .str .own A]::rest∧fC a n o deep (G,B,y,E,v,u,C,A)):=by
  intro k j i hp';have Q:=Q i;unfold jH;dsimp only;refine vck ?_;refine vck ?_;generalize S:([78]:List UInt8)++[(Bq (Ae (Aj .u8 (Aj .i64 (97+(Bz (↑(Aa o):Int) 26))))))]=J;have H:J.length<=100:=by subst S;simp
  have M:mc J:=by subst S;simp[mc]
  have q:dy (o++[J]):=by
   intro x N;rcases Aw.1 N with N|N;·exact t x N
   ·simp only[Az] at N;subst N;exact H
  have e:(o++[J]).length=o.length+1:=by simp
  refine ac (λ_=>?_) (λ_=>ac (λ_=>?_) (λ_=>?_))
  ·refine ag (dU _) ?_;rintro _ ⟨-,rfl⟩;refine ag (dU _) ?_;rintro _ ⟨-,rfl⟩;refine ag (rn _ _ _ hp' (by omega) (by omega)) ?_;rintro⟨O,a3,n4⟩ ⟨-,w,D,rfl,f⟩;dsimp only at w D f ⊢;refine ag (xi _ _ _ _) ?_;rintro _ ⟨-,rfl⟩;dsimp only;refine aj ⟨_,_,_,_,_,_,_,_,_,rfl,rfl,⟨adC _ _ _ _ (by simp) (by simp) (by simp[dy]) ?_ (by simp[bj];show _<=(255:Int);simp only[aa.n];omega) (by simp[bj];exact M),by simp only[eq,fx,dI];omega⟩,rfl,f,q,by simp only[e];omega⟩;intro c g;simp only[AQ,Bu,or_false] at g;rcases g with rfl|rfl|rfl;·exact eH _ _ _ (by simp)
   ·exact eH _ _ _ H
   ·exact eH _ _ _ (by simp)
  ·refine ag (dU _) ?_;rintro _ ⟨-,rfl⟩;refine ag (dU _) ?_;rintro _ ⟨-,rfl⟩;refine ag (dU _) ?_;rintro _ ⟨-,rfl⟩;refine ag (rn _ _ _ hp' (by omega) (by omega)) ?_;rintro⟨O,a3,n4⟩ ⟨-,w,D,rfl,f⟩;dsimp only at w D f ⊢;have em:IntKind.i64.wrap (1+O)=1+O:=ax (1+O) (by omega);rw[em];refine vck ?_;refine ag (dU _) ?_;rintro _ ⟨-,rfl⟩;refine ag (dU _) ?_;rintro _ ⟨-,rfl⟩;refine ag (xi _ _ _ _) ?_;rintro _ ⟨-,rfl⟩;dsimp only;refine ag (rn _ _ _ f (by omega) (by omega)) ?_;rintro⟨m5,a5,n5⟩ ⟨-,b1,b2,rfl,R⟩;dsimp only at b1 b2 R ⊢;have ar:∀c∈(AY 0 (A5 (Ae (1+O)) ([aa.mk 4 0 [88] [] [],aa.mk 4 0 [89] [] [],aa.mk 4 0 [90] [] []]:List aa))),lS c:=by
    intro c g;rw[BS] at g;have g:=Be g;simp only[AQ,Bu,or_false] at g;rcases g with rfl|rfl|rfl<;>exact eH _ _ _ (by simp)
   have bs:(AY 0 (A5 (Ae (1+O)) ([aa.mk 4 0 [88] [] [],aa.mk 4 0 [89] [] [],aa.mk 4 0 [90] [] []]:List aa))).length<=7:=by simp only[BJ,Bw,Av,AA];omega
   have a4:=acu 5 0 _ bs ar (by decide);have Y:=aqD ([aa.mk 4 0 [88] [] [],aa.mk 4 0 [89] [] [],aa.mk 4 0 [90] [] []]:List aa) (Ae (1+O));simp only[dI,eq] at Y;refine ac (λ_=>?_) (λ_=>?_)
   ·refine vck ?_;refine ag (dU _) ?_;rintro _ ⟨-,rfl⟩;dsimp only;refine vck ?_;refine aj ⟨_,_,_,_,_,_,_,_,_,rfl,rfl,⟨adC _ _ _ _ (by simp) (by simp) (by simp[dy]) ?_ (by simp[bj]) (by simp[bj];exact M),by simp only[eq,fx,dI];have:=Y;omega⟩,rfl,R,q,by simp only[e];omega⟩;intro c g;simp only[Bp,Cr,AQ,Bu,or_false] at g;rcases g with rfl|rfl|rfl|rfl;·exact eH _ _ _ (by simp)
    ·exact eH _ _ _ H
    ·exact a4
    ·exact eH _ _ _ (by simp)
   ·refine aj ⟨_,_,_,_,_,_,_,_,_,rfl,rfl,⟨adC _ _ _ _ (by simp) (by simp) (by simp[dy]) ?_ (by simp[bj]) (by simp[bj];exact M),by simp only[eq,fx,dI];have:=Y;omega⟩,rfl,R,q,by simp only[e];omega⟩;intro c g;simp only[AQ,Bu,or_false] at g;rcases g with rfl|rfl|rfl;·exact eH _ _ _ (by simp)
    ·exact eH _ _ _ H
    ·exact a4
  ·refine ag (ahB deep (by omega) Q _ _ _ _ hp' q ⟨H,M⟩ ?_) ?_;·rw[e];omega
   rintro⟨t0,t1,t2,t3,t4,al,n3,a1⟩ ⟨-,⟨⟨d,I⟩,rfl,W,X,h5⟩,h6⟩;dsimp only at d I W X h5 h6 ⊢;rw[e] at h6;exact aj ⟨_,_,_,_,_,_,_,_,_,rfl,rfl,⟨d,I⟩,rfl,W,X,by simp only;omega⟩
 have one:∀(k j:Int)(b:Bool),deep<=3->pz a j->(b=true->0<o.length)->Tot (jI 1 (deep,k,b,a,j,o,0,0,[],[],[])) (λz=>∃(G B:Int)(y:List UInt8)(E:List aa)(v:List (List UInt8))(u:List UInt8)(C:Int)(A:List (List UInt8))(rest:List ai),z.1.dimR=.agg [.int .i64 G,.int .i64 B,.str y,.sl .jnode (.may false) E,.sl .str (.may false) v]∧z.2=some [.sl .u8 (.may false) u,.int .i64 C]::some [.sl .str .own A]::rest∧fC a n o deep (G,B,y,E,v,u,C,A)):=by intro k j b i hp' Z;unfold jI lB;dsimp only;refine ac (λd=>?_) (λd=>br _ _ i hp');have Z:=Z d;have L:∃r,bi a j (o.length:Int) r:=an7 _ _ _ hp' (by omega);refine ag L ?_;rintro⟨O,a3,n4⟩ ⟨-,w,D,rfl,f⟩;dsimp only at w D f ⊢;refine vck ?_;refine ag (dU _) ?_;rintro _ ⟨-,rfl⟩;exact aj ⟨_,_,_,_,_,_,_,_,_,rfl,rfl,⟨eH _ _ _ (agI t _),by simp only[eq,fx,dI];omega⟩,rfl,f,t,by simp only;omega⟩
 have zero:∀(k j:Int),0<=k->(8<=k->deep<=3)->pz a j->Tot (l7 1 (deep,k,a,j,o,0,0,[],[],[])) (λz=>∃(G B:Int)(y:List UInt8)(E:List aa)(v:List (List UInt8))(u:List UInt8)(C:Int)(A:List (List UInt8))(rest:List ai),z.1.dimR=.agg [.int .i64 G,.int .i64 B,.str y,.sl .jnode (.may false) E,.sl .str (.may false) v]∧z.2=some [.sl .u8 (.may false) u,.int .i64 C]::some [.sl .str .own A]::rest∧fC a n o deep (G,B,y,E,v,u,C,A)):=by
  intro k j hk bY hp';unfold l7 lC;dsimp only;refine ac (λd=>?_) (λd=>?_);·have d:=of_decide_eq_true d;refine vck ?_;refine ag (dU _) ?_;rintro _ ⟨-,rfl⟩;exact aj ⟨_,_,_,_,_,_,_,_,_,rfl,rfl,⟨eH _ _ _ (agI w8 _),by simp only[eq,fx,dI];omega⟩,rfl,hp',t,by simp only;omega⟩
  have i:=bY (by have:=of_decide_eq_false d;omega);have Q:=Q i;rw[ed]
  have tab:∀(F w2:List UInt8),F.length<=100->w2.length<=100->¬w2=[115,105,122,101]->¬w2=[110,97,109,101]->∀(J:List UInt8),J.length<=100->¬J=[115,105,122,101]->¬J=[110,97,109,101]->Tot (af (bw F) (λr3=>af (dF a j o (deep+1)) (λP=>
     af (ge true ([J,w2]:List (List UInt8)) true ([⟨r3.1,r3.2.1,r3.2.2.1,r3.2.2.2.1,r3.2.2.2.2⟩,⟨P.1,P.2.1,P.2.2.1,P.2.2.2.1,P.2.2.2.2.1⟩]:List aa)) (λp=>
      some (V.agg [.int .i64 p.1,.int .i64 p.2.1,.str p.2.2.1,.sl .jnode (.may p.2.2.2.1) p.2.2.2.2.1,.sl .str (.may p.2.2.2.2.2.1) p.2.2.2.2.2.2],([some [.sl .u8 (.may false) P.2.2.2.2.2.1,.int .i64 P.2.2.2.2.2.2.1],some [.sl .str .own P.2.2.2.2.2.2.2],some [.int .i64 p.1,.int .i64 p.2.1,.str p.2.2.1,.sl .jnode (.may p.2.2.2.1) p.2.2.2.2.1,.sl .str (.may p.2.2.2.2.2.1) p.2.2.2.2.2.2]]:List ai)))))) (λz=>∃(G B:Int)(y:List UInt8)(E:List aa)(v:List (List UInt8))(u:List UInt8)(C:Int)(A:List (List UInt8))(rest:List ai),z.1.dimR=.agg [.int .i64 G,.int .i64 B,.str y,.sl .jnode (.may false) E,.sl .str (.may false) v]∧z.2=some [.sl .u8 (.may false) u,.int .i64 C]::some [.sl .str .own A]::rest∧fC a n o deep (G,B,y,E,v,u,C,A)):=by
   intro F w2 hw c1 b0 bn J S an a0;refine ag (dU _) ?_;rintro _ ⟨-,rfl⟩;refine ag (Q _ _ _ hp' t (by omega)) ?_;rintro⟨t0,t1,t2,t3,t4,al,n3,a1⟩ ⟨-,⟨d,I⟩,rfl,W,X,h5⟩;dsimp only at d I W X h5 ⊢;rw[eq] at I;refine ag (xi _ _ _ _) ?_;rintro _ ⟨-,rfl⟩;dsimp only;refine aj ⟨_,_,_,_,_,_,_,_,_,rfl,rfl,⟨adC _ _ _ _ (by simp) (by simp) ?_ ?_ (by simp[bj,b0,an]) (by simp[bj,bn,a0]),by simp only[eq,fx,dI];omega⟩,rfl,W,X,by simp only;omega⟩;·intro x N;simp only[AQ,Bu,or_false] at N;rcases N with rfl|rfl<;>assumption
   ·intro c g;simp only[AQ,Bu,or_false] at g;rcases g with rfl|rfl;·exact eH _ _ _ hw
    ·exact d
  refine ac (λ_=>?_) (λ_=>ac (λ_=>?_) (λ_=>ac (λ_=>?_) (λ_=>ac (λ_=>one _ _ _ i hp' λZ=>?_) (λ_=>one _ _ _ i hp' λZ=>by cases Z))));·exact tab _ _ (by simp) (by simp) (by simp) (by simp) _ (by simp) (by simp) (by simp)
  ·exact tab _ _ (by simp) (by simp) (by simp) (by simp) _ (by simp) (by simp) (by simp)
  ·refine ag (aqE deep (by omega) Q _ _ _ hp' t hl) ?_;rintro⟨t0,t1,t2,t3,t4,al,n3,a1⟩ ⟨-,d,rfl,W,X,h5⟩;exact aj ⟨_,_,_,_,_,_,_,_,_,rfl,rfl,d,rfl,W,X,h5⟩
  ·have:=of_decide_eq_true Z;omega
 refine ag (rn _ _ _ hp (by omega) (by omega)) ?_;rintro⟨m,a',j⟩ ⟨-,m1,m2,rfl,m3⟩;dsimp only at m1 m2 m3 ⊢;have t8:0<=Bz m 8∧Bz m 8<8:=⟨Dk _ m1,Int.tmod_lt_of_pos _ (by omega)⟩
 refine ac (λd=>zero _ _ t8.1 (λh=>by omega) m3) (λd=>?_);have d:=of_decide_eq_false d;refine ag (asw _ _) ?_;rintro⟨b,a2,n2⟩ ⟨-,rfl,rfl⟩;dsimp only;exact ac (λ_=>zero _ _ t8.1 (λh=>by omega) m3) (λ_=>zero _ _ m1 (λ_=>by omega) m3)
theorem alM:∀(k:Nat)(deep:Int),deep+k=4->0<=deep->ajW deep
 |0,deep,h,a=>ajX deep (by omega) (λb=>by omega)
 |k+1,deep,h,a=>ajX deep (by omega) (λ_=>alM k (deep+1) (by omega) (by omega))
theorem aqF(a:List UInt8)(n:Int)(hp:pz a n):∃r,lU a n r:=by apply act 1;unfold vf ve;refine ag (ahB 0 (by omega) (alM 3 1 (by omega) (by omega)) _ _ _ _ hp (by simp[dy]) ⟨by simp,by simp[mc]⟩ (by simp[qo])) ?_;rintro⟨m,j,k,h,g,e,o,c⟩ ⟨-,⟨b,rfl,d,f,i⟩,p⟩;exact aj ⟨_,_,_,_,_,_,_,_,rfl,rfl,b,rfl,d⟩
theorem yr{name:List UInt8}{q:aa->Prop}(l:List aa):bj name q [] l:=by cases l<;>simp[bj]
theorem adD{name:List UInt8}{q:aa->Prop}{d:aa}:∀{names:List (List UInt8)}{l:List aa}{i:Nat},bj name q names l->(∀c,l[i]? =some c->q c->q d)->bj name q names (l.set i d)
 | [],l,i,_,_=>yr _
 |x::b,[],i,_,_=>by simp[bj]
 |x::b,c::l,0,h,a=>by simp only[bj,CT] at h ⊢;exact⟨λe=>a c rfl (h.1 e),h.2⟩
 |x::b,c::l,i+1,h,a=>by simp only[bj,Cq] at h ⊢;exact⟨h.1,adD h.2 λc f=>a c (by simpa using f)⟩
theorem adE{name:List UInt8}{q:aa->Prop}:∀{names:List (List UInt8)}{l:List aa}{i:Nat},names.length=l.length->bj name q names l->bj name q (names.take i++names.drop (i+1)) (l.take i++l.drop (i+1))
 | [],[],i,_,_=>by simp[bj]
 |x::a,c::l,0,_,h=>by simp only[bj] at h;simpa using h.2
 |x::a,c::l,i+1,b,h=>by simp only[bj] at h;simp only[List.take_succ_cons,Dr,Bp,bj];exact⟨h.1,adE (by simpa using b) h.2⟩
theorem adF{name:List UInt8}{q:aa->Prop}{d:aa}:∀{names:List (List UInt8)}{l:List aa},names.length<=l.length->bj name q names l->bj name q names (l++[d])
 | [],l,_,_=>yr _
 |x::b,[],a,_=>by simp at a
 |x::b,c::l,a,h=>by simp only[bj,Bp] at h ⊢;exact⟨h.1,adF (by simpa using a) h.2⟩
theorem asz(l:List aa)(i:Nat)(d:aa)(h:i<l.length):dI (l.set i d)+szJ l[i]=dI l+szJ d:=by
 induction l generalizing i with
 |nil=>simp at h
 |cons c l a=>
  cases i with
  |zero=>simp[dI];omega
  |succ i=>have:=a i (by simpa using h);simp only[Cq,dI,List.getElem_cons_succ] at this ⊢;omega
theorem asA(l:List aa)(i:Nat):dI (l.take i++l.drop (i+1))<=dI l:=by
 induction l generalizing i with
 |nil=>simp[dI]
 |cons c l a=>
  cases i with
  |zero=>simp[dI]
  |succ i=>have:=a i;simp only[List.take_succ_cons,Dr,Bp,dI] at this ⊢;omega
theorem tN{n:aa}(k m:Int)(s:List UInt8)(c:m<=255)(a:s.length<=100)(b:mc s)(d:k≠6):z7 n (.mk k m s [] []):=by
 intro _;refine⟨.mk _ _ _ _ _ a (by simp) (by simp) (by simp) (by simp) (by simp) (by simp[bj]) (by simp[bj]),?_,λ_=>c,λ_=>b⟩;have:0<szJ n:=by cases n;simp[eq]
 simp only[eq,dI];omega
theorem alN{n:aa}:z7 n (.mk 5 0 [] n.l []):=by intro a;obtain⟨k,m,s,l,names⟩:=n;obtain⟨i,e,h,f,g,d⟩:=a.kids;refine⟨.mk _ _ _ _ _ (by simp) (by simp only[aa.l];omega) (by simp) (by simp) (by simp) (λc b=>(d c b).up (by omega)) (yr _) (yr _),?_,λ_=>(show (0:Int)<=255 by decide),λ_=>by simp[aa.s,mc]⟩;simp only[eq,aa.l];omega
theorem fB.every{b:Nat}{k n:Int}{s:List UInt8}{l:List aa}{names:List (List UInt8)}(h:fB b (.mk k n s l names)):
  bj [115,105,122,101] (λc=>c.n<=apQ) names l∧bj [110,97,109,101] (λc=>mc c.s) names l:=by
 cases h with
 |mk _ _ _ _ _ f j g e i m d a=>exact⟨d,a⟩
theorem asB{n:aa}(i:Nat)(d:n.names.length=n.l.length):z7 n (.mk n.kind n.n n.s (n.l.take i++n.l.drop (i+1)) (n.names.take i++n.names.drop (i+1))):=by
 intro f;obtain⟨k,m,s,l,names⟩:=n;obtain⟨q,g,v,o,u,j⟩:=f.kids;obtain⟨r,p⟩:=f.every;have d:names.length=l.length:=d;have a:(names.take i++names.drop (i+1)).length=(l.take i++l.drop (i+1)).length:=by simp;omega
 have e:(l.take i++l.drop (i+1)).length<=l.length:=by simp;omega
 have sub:∀{α:Type}{l:List α}{x:α},x∈l.take i++l.drop (i+1)->x∈l:=by
  intro α l x b;rcases Aw.1 b with b|b;·exact Be b
  ·exact BC b
 refine⟨.mk _ _ _ _ _ q (AH e (AH g (by omega))) (Nat.le_of_eq a) (λx b=>o x (sub b)) (λ_=>a) (λc t=>(j c (sub t)).up (by omega)) (adE d r) (adE d p),?_,λh=>h,λh=>h⟩;have:=asA l i;simp only[eq,aa.l];omega
theorem asC{n:aa}(i:Nat)(b:i<n.l.length)(q:n.kind=5):z7 n (.mk n.kind n.n n.s (n.l++[n.l.getD i (am .jnode)]) n.names):=by
 intro d;obtain⟨k,m,s,l,names⟩:=n;obtain⟨p,t,e,j,u,f⟩:=d.kids;obtain⟨r,o⟩:=d.every;have b:i<l.length:=b;have g:l.getD i (am .jnode)∈l:=by rw[Af,Ab b];exact AK b
 have v:=akh l _ g;refine⟨.mk _ _ _ _ _ p (by simp only[aa.l,AD,Av,AA];omega) (by simp only[aa.l,aa.names,AD];omega) j (λh=>by have:k=5:=q;have:k=6:=h;omega) ?_ (adF e r) (adF e o),?_,λh=>h,λh=>h⟩
 ·intro c a;rcases Aw.1 a with a|a;·exact(f c a).up (by omega)
  ·simp only[Az] at a;subst a;exact(f _ g).up (by omega)
 ·simp only[eq,aa.l,fx,dI];omega
theorem asD{n r:aa}(i:Nat)(b:i<n.l.length)(e:z7 (n.l.getD i (am .jnode)) r):z7 n (.mk n.kind n.n n.s (n.l.set i r) n.names):=by
 intro f;obtain⟨k,m,s,l,names⟩:=n;obtain⟨p,A,B,x,o,g⟩:=f.kids;obtain⟨q,j⟩:=f.every;have b:i<l.length:=b;have v:l.getD i (am .jnode)=l[i]:=by rw[Af,Ab b];rfl
 have e:z7 l[i] r:=by rw[<-v];exact e
 obtain⟨t,y,u,w⟩:=e (g _ (AK b));have D:=asz l i r b;have C:=akh l _ (AK b);refine⟨.mk _ _ _ _ _ p (by simp only[aa.l,AF];omega) (by simp only[aa.l,aa.names,AF];omega) x (λh=>by simp only[aa.l,aa.names,AF];exact o h) ?_ (adD q ?_) (adD j ?_),?_,λh=>h,λh=>h⟩
 ·intro c a;rcases DJ a with a|rfl;·exact(g c a).up (by omega)
  ·exact t
 ·intro c a d;have a:l[i]? =some c:=a;rw[Ab b] at a;cases a;exact u d
 ·intro c a d;have a:l[i]? =some c:=a;rw[Ab b] at a;cases a;exact w d
 ·simp only[eq,aa.l];omega
abbrev oz:List (List UInt8):=[[105,110,116],[115,116,114,105,110,103],[114,101,99,111,114,100],[101,110,117,109],[110,117,108,108],[120],[78,97],[115,46,84,111,112],[97,45,98],[],[109,97,112],[97,114,114,97,121],[102,105,120,101,100],[84,111,112],[115,46,78,97],[78,46,98]]
theorem agv(i:Nat):(oz.getD i (am .str)).length<=100∧mc (oz.getD i (am .str)):=by
 by_cases h:i<16
 ·have:∀i:Fin 16,(oz.getD i.val (am .str)).length<=100∧mc (oz.getD i.val (am .str)):=by decide
  exact this ⟨i,h⟩
 ·rw[Af,AZ (by simp;omega)];exact⟨by decide,by decide⟩
theorem aqG(b:Int)(E:0<=b∧b<=255):∀(d:List UInt8)(n:aa),lS n->d.length<=100->∃r,cG n d b r:=by
 intro d;induction d with
 |nil=>
  intro n B _;apply zu 1;unfold uY uX;dsimp only;have w:IntKind.u8.wrap (b.tdiv 8)=b / 8:=by rw[CJ E.1,yi _ (by omega)]
  have x:(IntKind.i64.wrap (b / 8)).tmod 16=(b / 8)%16:=by rw[ax _ (by omega),BE (by omega)]
  refine ac (λ_=>?_) (λh=>by simp at h)
  repeat' (first|(with_reducible refine ac ?_ ?_<;>(intro i;(try simp only[bnl] at i);(try revert i;intro _)))|with_reducible refine dH ?_ ?_|with_reducible refine aj ?_|fail)
  ·exact⟨.mk 3 (IntKind.i64.wrap b) [] [] [],_,rfl,rfl,tN _ _ _ (by rw[ax _ (by omega)];omega) (by simp) (by simp[mc]) (by decide)⟩
  ·exact⟨.mk 1 0 [] [] [],_,rfl,rfl,tN _ _ _ (by decide) (by simp) (by simp[mc]) (by decide)⟩
  ·exact⟨.mk 5 0 [] n.l [],_,rfl,rfl,alN⟩
  ·rfl
  ·rw[w];show ixl ((IntKind.i64.wrap (b / 8)).tmod 16) oz=true;rw[x];refine ixt ?_;show _∧_<(16:Int);omega
  ·have:=agv (((IntKind.i64.wrap (IntKind.u8.wrap (b.tdiv 8))).tmod (16:Int)).toNat);exact⟨.mk 4 0 (oz.getD (((IntKind.i64.wrap (IntKind.u8.wrap (b.tdiv 8))).tmod (16:Int)).toNat) (am .str)) [] [],_,rfl,rfl,tN _ _ _ (by decide) this.1 this.2 (by decide)⟩
 |cons a d H=>
  intro n B I;have q:d.length<=100:=by simp at I;omega
  apply zu 1;unfold uY uX;dsimp only;refine ac (λh=>?_) (λ_=>?_);·exfalso;simp at h;omega
  refine ac (λj=>?_) (λj=>?_)
  ·have w:IntKind.u8.wrap (b.tdiv 8)=b / 8:=by rw[CJ E.1,yi _ (by omega)]
   have x:(IntKind.i64.wrap (b / 8)).tmod 16=(b / 8)%16:=by rw[ax _ (by omega),BE (by omega)]
   repeat' (first|(with_reducible refine ac ?_ ?_<;>(intro i;(try simp only[bnl] at i);(try revert i;intro _)))|with_reducible refine dH ?_ ?_|with_reducible refine aj ?_|fail)
   ·exact⟨.mk 3 (IntKind.i64.wrap b) [] [] [],_,rfl,rfl,tN _ _ _ (by rw[ax _ (by omega)];omega) (by simp) (by simp[mc]) (by decide)⟩
   ·exact⟨.mk 1 0 [] [] [],_,rfl,rfl,tN _ _ _ (by decide) (by simp) (by simp[mc]) (by decide)⟩
   ·exact⟨.mk 5 0 [] n.l [],_,rfl,rfl,alN⟩
   ·rfl
   ·rw[w];show ixl ((IntKind.i64.wrap (b / 8)).tmod 16) oz=true;rw[x];refine ixt ?_;show _∧_<(16:Int);omega
   ·have:=agv (((IntKind.i64.wrap (IntKind.u8.wrap (b.tdiv 8))).tmod (16:Int)).toNat);exact⟨.mk 4 0 (oz.getD (((IntKind.i64.wrap (IntKind.u8.wrap (b.tdiv 8))).tmod (16:Int)).toNat) (am .str)) [] [],_,rfl,rfl,tN _ _ _ (by decide) this.1 this.2 (by decide)⟩
  have j:(n.l.length:Int)≠0:=by simpa using j
  obtain⟨e,g⟩:∃k,Bz (Aj .i64 (a.toNat:Int)) (n.l.length:Int)=k:=⟨_,rfl⟩
  have N:=a.toNat_lt;have u:0<=e∧e<(n.l.length:Int):=by rw[ax _ (by omega),BE (by omega)] at g;exact⟨g▸Int.emod_nonneg _ j,g▸Dx _ (by omega)⟩
  have kids:n.l.length<=7∧n.names.length<=n.l.length∧∀c∈n.l,lS c:=by obtain⟨k,m,s,l,names⟩:=n;obtain⟨L,C,D,M,J,v⟩:=B.kids;exact⟨C,D,v⟩
  obtain⟨C,D,v⟩:=kids;have f:e.toNat<n.l.length:=by omega
  have o:lS (n.l.getD e.toNat (am .jnode)):=by rw[Af,Ab f];exact v _ (AK f)
  have G:Ak (a::d) (Ae 0) (am .u8)=a:=rfl;have y:AY (Ae 1) (A5 (Aa (a::d)) (a::d))=d:=by simp
  have A:Aj .i64 (e+1)=e+1:=ax _ (by omega);have t:(e+1).toNat=e.toNat+1:=by omega
  have p:∀{α:Type}(l:List α),A5 (l.length-(e.toNat+1)) (AY (e.toNat+1) l)=AY (e.toNat+1) l:=by intro α l;exact Bv (by simp)
  simp only[G,g,y,Cr,AA,A1,bo,A,t,p]
  repeat' (first|(with_reducible refine ac ?_ ?_<;>(intro i;(try simp only[bnl] at i);(try revert i;intro _)))|with_reducible refine dH ?_ ?_|with_reducible refine aj ?_|(refine ag (H _ o q) (λr F=>?_))|fail)
  all_goals first
   |exact⟨.mk n.kind n.n n.s _ _,_,rfl,rfl,asD _ f F.2⟩
   |exact⟨.mk n.kind n.n n.s _ _,_,rfl,rfl,asB _ (by omega)⟩
   |exact⟨.mk n.kind n.n n.s _ _,_,rfl,rfl,asC _ f (by assumption)⟩
   |exact ixt u
   |(simp;done)
   |(simp;omega)
   |(rw[beq_eq_false_iff_ne.2 j];rfl)
theorem ajY(n:aa)(w:aE n)(q:∀t∈(fT n).1,t.fields=[]):∃r,ml n r:=by
 obtain⟨N,G⟩:∃N:Nat,N=100:=⟨_,rfl⟩
 apply ajO N;unfold acd n7;simp only[bo];refine ag (ajS 20 (by decide) m0 n [] agH w (by simp)) ?_;intro j A;have o:j=bh 21 m0 n []:=yx A agH;have b:fT n=(if j.2.2.2.1=0 then (j.2.2.1,0) else ([],j.2.2.2.1)):=by rw[o];rfl
 refine ac (λg=>aj ⟨[],j.2.2.2.1,_,rfl,rfl,?_⟩) (λg=>?_);·show _=fT n;rw[b,if_neg (by simpa using g)]
 have y:j.2.2.2.1=0:=by simpa using g
 rw[if_pos y] at b;have f:=afh w (by rw[<-o];exact y);rw[<-o] at f;rw[b] at q;clear o A;refine vck ?_ (decide_eq_true f.pos);obtain⟨h,p⟩:∃h,j.2.2.1=h:=⟨_,rfl⟩
 rw[p] at f q b ⊢;have C:=f.cap;refine a8 (λx=>match x with|(m,i,F,l,e,d,a)=>m=(h.length:Int)∧(0<=i∧i<=(h.length:Int))∧l=h.length∧a=h) (λx=>((h.length:Int)-x.2.1).toNat) ?_ _ _ ⟨rfl,⟨by simp,by simp⟩,rfl,rfl⟩ (by simp;omega);rintro c ⟨m,i,F,l,e,d,a⟩ ⟨rfl,⟨E,H⟩,rfl,rfl⟩ B;dsimp only at B;unfold qc o6;dsimp only;refine ac (λg=>?_) (λg=>?_)
 ·have v:i<(a.length:Int):=of_decide_eq_true g;have k:i.toNat<a.length:=by omega
  refine vck ?_ (by simp[E,v]);refine vck ?_ (decide_eq_true k);have u:(a.getD i.toNat (am .atype)).fields=[]:=by rw[Af,Ab k];exact q _ (AK k)
  rw[u];obtain⟨M,rfl⟩:∃M,N=M+1:=⟨N-1,by omega⟩
  show Tot (iP (M+1) c (aO M (iP (M+1) c)) _) _;unfold iP;dsimp only;refine ac (λg=>absurd g (by simp)) (λ_=>?_);have D:IntKind.i64.wrap (i+1)=i+1:=ax (i+1) (by omega);rw[D];exact B _ ⟨rfl,⟨by first|omega|(dsimp only;omega),by first|omega|(dsimp only;omega)⟩,rfl,rfl⟩ (by simp only;omega)
 ·refine vck ?_ (BF _);exact aj ⟨_,_,_,rfl,rfl,by show _=fT n;rw[b]⟩
theorem an8:fT ⟨4,0,[105,110,116],[],[]⟩=([bk 3],0):=by kernel_rfl
theorem arG:fT ⟨4,0,[120],[],[]⟩=([],4):=by kernel_rfl
theorem apg(s:List UInt8)(a:s.length<=100):aE ⟨4,0,s,[],[]⟩:=
 .mk _ _ _ _ _ a (by simp) (by simp) (λx d=>by cases d) (λh=>by cases h) (λc b=>by cases b) (by simp[bj]) (by simp[bj])
theorem aoS:∃r,pf r:=by apply ajP 1;unfold acf ace;refine ag (ajY _ (apg _ (by decide)) (by rw[an8];intro t a;rw[Az.1 a];rfl)) ?_;rintro e ⟨-,b⟩;obtain rfl:e=([bk 3],0):=b.trans an8;refine ag (ajY _ (apg _ (by decide)) (by rw[arG];intro t a;cases a)) ?_;rintro c ⟨-,d⟩;obtain rfl:c=([],4):=d.trans arG;refine ac (λ_=>?_) (λh=>absurd h (by decide));refine ac (λ_=>?_) (λh=>absurd h (by decide));refine vck ?_ (by decide);refine ac (λ_=>?_) (λh=>absurd h (by decide));refine ac (λ_=>?_) (λh=>absurd h (by decide));refine ag (arv _ (by decide)) ?_;rintro _ ⟨-,rfl⟩;refine ac (λ_=>?_) (λh=>absurd h (by decide));refine ag (apc _ _) ?_;rintro _ ⟨-,rfl⟩;exact aj ⟨_,_,rfl,rfl,by show decide _=true;decide⟩
theorem ala(p q:List UInt8)(h:Int)(k:0<=h∧h<=255):∃r,wW p q h r:=by
 apply acW 1;unfold vx vw;dsimp only;refine ag aoS ?_;rintro _ ⟨-,rfl⟩;refine ac (λh=>absurd h (by simp)) (λ_=>?_);refine ac (λ_=>aj ⟨_,_,rfl,rfl,rfl⟩) (λb=>?_);refine ac (λ_=>aj ⟨_,_,rfl,rfl,rfl⟩) (λa=>?_);have b:=of_decide_eq_false b;have a:=of_decide_eq_false a;refine ag (asx p) ?_;rintro _ ⟨-,rfl⟩;refine ag (aqF p 0 ⟨by omega,by omega,by omega⟩) ?_;rintro⟨w,B,x,y,u,A,v⟩ ⟨-,⟨e,o⟩, -, -⟩;dsimp only at e o ⊢;refine ag (aqG h k q _ e (by omega)) ?_;rintro t ⟨-,d⟩;obtain⟨d,i, -, -⟩:=d e;have j:aa.mk t.kind t.n t.s t.l t.names=t:=by cases t;rfl
 rw[j];refine ag (arE t d) ?_;rintro r ⟨-,c⟩;obtain rfl:r=fT t:=c;refine ag (arC t d) ?_;rintro r ⟨-,c⟩;obtain rfl:r=fT t:=c;refine ac (λ_=>?_) (λg=>absurd g (by simp));have m:(fT t).1 =[]∨afg (fT t).1 :=by
  by_cases f:(fT t).2 =0;·exact .inr (asb d f)
  ·exact .inl (arc f)
 refine ag (akY m) ?_;rintro r ⟨-,c⟩;obtain rfl:r=true:=c rfl;exact aj ⟨_,_,rfl,rfl,rfl⟩
theorem amq(p q:List UInt8)(h:Int):pM Tryz.prog qC [.sl .u8 (.may false) p,.sl .u8 (.may false) q,.int .u8 h] (.bool true):=by
 by_cases e:0<=h∧h<=255;·obtain⟨r,f,rfl⟩:=ala p q h e;exact f
 ·refine⟨[],λw g a k i b d c=>absurd ?_ e⟩;have j:2<a.size:=by simp at b;omega
  have:=(c 2 (.int .u8 h) a[2] rfl (Ao j)).inRange;simpa [V.inRange,B2,BT,Bb,Bo] using this
section
open Go.ChangeShapes Go.WideShapes Go.AM
theorem aph{α:Type}{p:Nat->α->Prop}:∀n,(∀i,i<n->∃x,p i x)->∃l:List α,l.length=n∧∀i x,l[i]? =some x->p i x
 |0,_=>⟨[],rfl,by simp⟩
 |n+1,h=>by
  obtain⟨l,c,f⟩:=aph n λi b=>h i (by omega)
  obtain⟨x,e⟩:=h n (by omega);refine⟨l++[x],by simp[c],λi y a=>?_⟩;rcases AI i l.length with b|b;·rw[Ar b] at a;exact f i y a
  ·rw[Aq b] at a;have d:i=n:=by
    have:=(Ad.1 a).1;simp at this;omega
   subst d;have:x=y:=by simpa [c] using a
   exact this▸e
section
variable{H:Type}{enc:TypeId×Value->H}{w:World}{base:Nat}{held:Bool}
theorem atd(k:EK){t e:TypeId}(Z:Tryz.prog.underlying t=some (.slice e))(Y:Tryz.prog.cellsOf e=k.sz){n:Nat}{cs:List Value}{x:DataW H×List MemPlace}
  (E:∀m,m+1=n->∀es y,DataW.trod enc Tryz.prog w base (λ_=>true) held m e es=some y->∃x:Ty k,∀(j:Nat) v u,(AM.enc k x)[j]? =some v->es[j]? =some u->VRel (td w).I id 0 w v u)
  (h:DataW.trod enc Tryz.prog w base (λ_=>true) held n t cs=some x):∃(xs:List (Ty k))(cv:Value),cs=[cv]∧VRel (td w).I id 0 w (.sl k (.may false) xs) cv:=by
 have G:0<k.sz:=by cases k<;>simp[EK.sz]
 rcases DataW.trod_slice Z h with⟨rfl, -⟩|⟨a,o,cap,A,rest,m,rfl,rfl, -,hb,hl,P,Q,B,L, -⟩
 ·exact⟨[],_,rfl,.sln _ _⟩
 obtain⟨S,O⟩:=L rfl;rw[Y] at B O;by_cases X:cap=0
 ·subst X;obtain rfl:o=0:=by omega
  exact⟨[],_,rfl,.sle _ _ a (by simp)⟩
 have first:∃es y,w.cells? base (a.add (0*k.sz)) k.sz=some es∧DataW.trod enc Tryz.prog w base (λ_=>true) held m e es=some y:=by
  by_cases J:o=0
  ·have c:=O 0 (by omega);rw[J] at c;have f:0<rest.length:=by omega
   rw[Ab f,BK] at c;obtain⟨es,d,q⟩:=c;exact⟨es,_,d,q⟩
  ·have c:=B 0 (by omega);have f:0<A.length:=by omega
   rw[Ab f,BK] at c;obtain⟨es,d,q⟩:=c;exact⟨es,_,d,q⟩
 have g:a.spot=none:=by
  obtain⟨es,y,c, -⟩:=first
  obtain⟨f,d,q⟩:=World.cells?_some c;have D:=q 0 G;rw[Ab (by omega)] at D;simp only[Nat.zero_mul,Addr.add,if_true,By] at D;split at D
  ·cases hs:a.spot with
   |none=>rfl
   |some s=>simp[hs] at D
  ·cases D
 obtain⟨b,r,R⟩:=a;simp only at g;subst g;obtain⟨xs,F,C⟩:=aph (α:=Ty k) (p:=λi x=>∀j v,(AM.enc k x)[j]? =some v->∃u,w.cell? ⟨b,r+i*k.sz+j,none⟩=some u∧VRel (td w).I id 0 w v u) o (by
  intro i W;have c:=B i W;rw[Ab (by omega),BK] at c;obtain⟨es,f,d⟩:=c;obtain⟨x,hx⟩:=E m rfl es _ d;obtain⟨q,D,h6⟩:=World.cells?_some f;refine⟨x,λj v M=>?_⟩;have hj:j<k.sz:=by
   have:=(Ad.1 M).1
   rwa [bT] at this
  have N:=h6 j hj;rw[Ab (by omega),add_plain,add_plain] at N;exact⟨_,N,hx j v _ M (Ab (by omega))⟩)
 refine⟨xs,_,rfl,.sl k (.may false) xs b r o cap F (by omega) (by unfold maxLen at P;unfold dl;exact P) (by simp) (λi j=>(w.cell? ⟨b,r+i*k.sz+j,none⟩).getD undef) ?_ ?_ ?_⟩;·intro i x j c f;obtain⟨u,d, -⟩:=C i x c j _ (Ab f);show (w.cell? _).isSome=true;rw[d];rfl
 ·intro i x j c f;obtain⟨u,d, -⟩:=C i x c j _ (Ab f);rw[d];rfl
 ·intro i x j v c f;obtain⟨u,d,q⟩:=C i x c j v f;rw[d];exact q
theorem aqH{n:Nat}{cs:List Value}{x:DataW H×List MemPlace}(h:DataW.trod enc Tryz.prog w base (λ_=>true) held n 22 cs=some x):
  ∃(xs:List UInt8)(cv:Value),cs=[cv]∧VRel (td w).I id 0 w (.sl .u8 (.may false) xs) cv:=
 atd .u8 Tryz.underlying22 (by kernel_rfl) (λm g es y e=>by
  obtain⟨c,rfl, -,d⟩:=DataW.trod_int Tryz.underlying5 e;have f:0<=c∧c<=255:=by simpa [Lit.wf,B2,BT,Bb,Bo] using d
  refine⟨Bq c.toNat,λj v u b a=>?_⟩;obtain rfl:j=0:=by have:=(Ad.1 a).1;simpa using this
  simp only[AM.enc,A4,Ah] at b a;subst b a;have:((Bq c.toNat).toNat:Int)=c:=by rw[UInt8.toNat_ofNat'];omega
  rw[this];exact .int _ _ (by simpa [Lit.wf] using d)) h
theorem ajZ{r:Reach}{f:Nat}{v:Value}{d:DataW H}{p:List MemPlace}(j:Value.okWide Tryz.prog w r f 22 v)(h:DataW.Trod enc Tryz.prog w base (λ_=>true) held 22 v d p):
  ∃xs:List UInt8,VRel (td w).I id 0 w (.sl .u8 (.may false) xs) v:=by
 obtain⟨a,b,cap,rfl⟩:=okWide_slice Tryz.underlying22 j;obtain⟨c,i⟩:=h;obtain⟨xs,cv,e,g⟩:=aqH i;have e:[Value.slice a b cap]=[cv]:=e;cases e;exact⟨xs,g⟩
end
end
end Go.Proofs.YtkinflmjagfapaaGreatDoor
end
