import Derived.Laws.Tables
import Derived.Laws.StructEq
import Derived.Laws.MakeOwn
import Derived.Lib.ConvBytes
import Derived.WideKeyRuns
import Derived.WalkSpells
import Derived.Orders
import Derived.Below
import Derived.KernelRfl
import Derived.Test.YtdpajabhmmmjoaaZ03
open Array renaming getElem?_eq_getElem→Ag,getElem?_eq_some_iff→AN,length_toList→AY,getElem?_modify→A3,getD→BA,getElem?_append_left→BD,getElem?_toList→BM,getElem?_push→Cl,eq_empty_of_size_eq_zero→CJ,getD_eq_getD_getElem?→CU,toList_zipIdx→C1,ext_getElem?→C9,foldl_toList→Dc,findIdx?_eq_some_iff_getElem→Dj,replicate→DL,range→DX,getElem?_append_right→D3,toList_setIfInBounds→D8,size_append→Eh
open Bool renaming and_eq_true→Aa,rec→Ar,not_eq_true'→AK,or_eq_true→AQ,eq_iff_iff→A2,false_eq_true→BO,cond_eq_ite→Cq,not_true→D9
open Function renaming comp_def→CA,comp→Ea
open Go.Addr renaming add_lit→Bv
open Go.Builtin renaming append_→Cd,firstCells→Da,zeroCells→Ee
open Go.Deferred renaming ofValue→Dt
open Go.Instr renaming checkKey→A8,sameBits→Br,sureAddr→BE,fill→BK,mapUpdate→Cf,loadAt→Ct,findAsking→CF,sameNow→CI,mapEntry→CO,buildSlice→CV,keyThatStays→C4,findNow→Do,lookup→DN,storeAt→D5
open Go.IntKind renaming wrap→Az,signed→Bh,bits→Bu
open Go.Op renaming equalIn→BI
open Go.Oper renaming wp→Ch
open Go.Region renaming wanted→BW,binds→CE
open Go.Result renaming andThen_ok→Bn
open Go.Sem renaming run_bind→B2,run_pure→DF
open Go.Value renaming cells→BN
open Go.World renaming frozen?→Ci
open Int renaming toNat_natCast→Dh
open List renaming getElem?_eq_getElem→Ac,getElem?_eq_some_iff→Ad,getElem?_append_right→Aj,all_eq_true→Ak,getElem?_append_left→Am,mem_of_getElem?→Ap,getElem?_set→At,getElem?_map→Au,mem_map→Av,length_cons→Ay,mem_append→AB,mem_cons_self→AD,range→AE,mem_cons_of_mem→AH,map_cons→AI,mem_flatMap→AJ,map_congr_left→AP,getElem?_eq_none→AR,mem_cons→AT,length_map→AU,mem_iff_getElem→AZ,eq_nil_of_length_eq_zero→A4,getElem?_cons_succ→A5,mem_range→A6,mem_of_mem_take→A7,length_append→Ba,mem_of_mem_drop→Bd,append_assoc→Be,getElem_mem→Bf,replicate→Bg,mem_append_left→Bp,range'→Bq,length_singleton→BB,rec→BC,flatMap_cons→BJ,range'_succ→BQ,drop_eq_getElem_cons→BU,foldl_cons→BZ,all_cons→B3,length_take→B5,mem_append_right→B8,any_eq_true→Co,length_drop→Cp,map_map→Cu,filterMap_cons_some→CD,filterMap_append→CN,contains_iff_mem→CR,pairwise_append→CY,nil_append→C3,pairwise_cons→Db,size_toArray→Df,ext_getElem?→Dg,take_succ_eq_append_getElem→Dq,eq_nil_iff_forall_not_mem→DH,range_eq_range'→DJ,replicate_succ→DQ,drop_drop→DW,zip_cons_cons→D0
open List.Sublist renaming append_left→Ej
open List.cons renaming injEq→Cw
open Nat renaming beq→Af,le_refl→Ao,zero_add→Aw,add_mul→Ax,eq_of_beq_eq_true→AA,lt_of_lt_of_le→AF,lt_or_ge→AG,ble→AO,mul_le_mul_right→AS,blt→AV,le_trans→AX,div→A1,blt_eq→Bb,succ→Bk,mod→Bo,ble_eq→Bz,sub→BV,le_mul_of_pos_right→Cj,add_zero→Cv,mod_lt→CB,lt_succ_self→CC,sub_zero→CG,add→CH,sub_self→CP,mul→CT,le_add_right→CW,mod_eq_of_lt→Dv,ble_eq_true_of_le→DB,le_of_ble_eq_true→DC,add_one_sub_one→DR,lt_irrefl→Eb
open Ne renaming symm→Cr
open Option renaming map_eq_some_iff→Ah,isSome_iff_exists→A0,map_some→Bt,rec→Cg,map_map→CS
open Option.some renaming injEq→Ab,inj→Ai
open PUnit renaming unit→DE
open Prod.mk renaming injEq→Ae
open Std.Legacy.Range renaming forIn_eq_forIn_range'→Cm,size→Dx
set_option linter.all false
noncomputable section
namespace Go.DM
open Go.AM
def iX(cx:Cx):List ac->List (Nat×Operand)->Nat->Bool
 | [],[],_=>true
 |x::xs,(i,y)::ys,n=>(i==n)&&(ag cx x y&&iX cx xs ys (n+1))
 |_,_,_=>false
def iY(P:Program)(cx:Cx)(fs:Array Field):List (Nat×Nat×ac)->List (Nat×Operand)->Bool
 | [],[]=>true
 |(b,n,x)::xs,(i,y)::ys=>(match fs[i]? with|some f=>(f.offset==b)&&(be P f.type==some n)|none=>false)&&(ag cx x y&&iY P cx fs xs ys)
 |_,_=>false
def tf(cx:Cx)(sz:Nat):List (Nat×Nat×ac)->List (Nat×Operand)->Bool
 | [],[]=>true
 |(b,n,x)::xs,(i,y)::ys=>(b==i*sz)&&((n==sz)&&(ag cx x y&&tf cx sz xs ys))
 |_,_=>false
def mR(P:Program)(t:TypeId)(zero:List D):Bool:=match P.info? t with|some i=>(match i.zero with|some z=>cK zero z.cells.toList|none=>false)|none=>false
def zT(P:Program)(t:TypeId)(e sz b:Nat):Bool:=match P.underlying t with
 |some (.slice c)=>(e==c)&&(match P.info? e with|some i=>(i.size==sz)&&((i.bytes==b)&&(AV 0 sz&&(AV 0 b&&(match i.zero with|some z=>z.cells.size==sz|none=>false))))|none=>false)
 |_=>false
def xy(P:Program)(t:TypeId):Bool:=match P.underlying t with|some (.slice _)=>true|_=>false
def gI(P:Program)(cx:Cx)(o:IOp)(m:Op):Bool:=match o with
 | .new e zero=>(match m with| .alloc t=>(e==t)&&mR P t zero|_=>false)
 | .box e x=>(match m with| .box t y=>(e==t)&&ag cx x y|_=>false)
 | .bsl e sz d=>(match m with| .buildSlice t n j=>(match P.underlying t with|some (.slice p)=>(e==p)&&((be P e==some sz)&&(AV 0 sz&&(match P.info? e with|some i=>i.zero.isSome|none=>false)))|_=>false)&&((n==d.length)&&(decide (d.length*sz<=16777216)&&iX cx d j.toList 0))|_=>false)
 | .bld zero d=>(match m with| .build t j=>mR P t zero&&(match P.underlying t with|some (.struct fs)=>iY P cx fs d j.toList&&fs.all (λf=>(P.info? f.type).isSome)|some (.array n e)=>(match be P e with|some sz=>tf cx sz d j.toList|none=>false)|_=>false)|_=>false)
 | .mks e sz b zero x=>(match m with| .makeSlice t c h=>zT P t e sz b&&(mR P e zero&&(ag cx x c&&ag cx x h))|_=>false)
 | .st n x v=>(match m with| .store t c k=>(be P t==some n)&&(ag cx x c&&ag cx v k)|_=>false)
 | .apt e b x y=>(match kh m with|some (.append,[c,h],[t,u])=>zT P t e 1 b&&((match P.underlying u with|some .string=>true|_=>false)&&(ag cx x c&&ag cx y h))|_=>false)
 | .app e sz b x y=>(match kh m with|some (.append,[c,h],[t,u])=>zT P t e sz b&&(xy P u&&(ag cx x c&&ag cx y h))|_=>false)
 | .mkm=>(match m with| .makeMap _ none=>true|_=>false)
 |_=>false
variable{g g':Gh}{cx:Cx}{s:FS}{w w':World}{a:Act}{P:Program}{at_:Nat}{v:D}{ws:List (Nat×Option Obj)}{next:Act->World->Prop}{Q:Exit->Act->World->Prop}
 {dst:Option Nat} {op:Op} {ty:TypeId} {pos:String} {aft:Array Edge} {gd:Option (Nat×Bool)}
theorem bQ{m:Oper}{cv:Value}(b:(execOp a.eval m).run P w=.ok (.value cv) w')(h:SG g' cx ⟨s.E,bE s.H ws,s.n⟩ w' a)(k:FR (λid=>id=at_) g s.H w g' (bE s.H ws) w')(d:VRel g' v cv)
  (c:ax at_ cx g s w a m.dst v ws next):m.wp P a w next Q:=by
 unfold Ch;rw[b,Oper.upon_value];exact c _ _ g' (SG.put (s:=⟨s.E,bE s.H ws,s.n⟩) h m.dst d) k (e8 _ _ _)
theorem iq{t:TypeId}{zero:List D}(h:mR P t zero=true):∃i z,P.info? t=some i∧i.zero=some z∧cK zero z.cells.toList=true:=by
 unfold mR at h;split at h
 ·rename_i i b;split at h;·rename_i z c;exact⟨i,z,b,c,h⟩
  ·simp at h
 ·simp at h
theorem Row.up{cs:List D}{us:List Value}(h:Row g cs us)(u:Up g g'):Row g' cs us:=⟨h.len,h.one,λi c cv d b=>(h.rel i c cv d b).up u⟩
theorem Row.obj{id:Nat}{cs:List D}{b:Array Value}(h:Row g cs b.toList):fv g id true cs b (0,0):=
 ⟨by rw[h.len];simp,λ_=>by rw[h.len];simp,by simp,by simp,h.one,λj c cv e d=>h.rel j c cv e (by simpa using d)⟩
theorem Row.app{cs f:List D}{us vs:List Value}(h:Row g cs us)(k:Row g f vs):Row g (cs++f) (us++vs):=by
 have j:=h.len;refine⟨by simp[h.len,k.len],λc b=>(AB.1 b).elim (h.one c) (k.one c),?_⟩;intro i c cv b d;rcases AG i cs.length with e|e;·rw[Am e] at b;rw[Am (by omega)] at d;exact h.rel i c cv b d
 ·rw[Aj e] at b;rw[Aj (by omega),<-j] at d;exact k.rel _ c cv b d
theorem sh{v:D}{cv:Value}(h:VRel g v cv)(b:v.cells.all D.one=true):Row g v.cells cv.cells.toList:=by
 have d:∀c∈v.cells,c.one=true:=λc i=>Ak.1 b c i
 have m:=h;cases h with
 |agg cs us k _ f=>exact⟨by simpa [D.cells,BN] using k,d,by simpa [D.cells,BN] using f⟩
 |undef=>simp[D.cells,D.one] at b
 |tup=>simp[D.cells,D.one] at b
 |_=>
  refine⟨by simp[D.cells,BN],d,?_⟩;intro j c u b e;cases j with
  |zero=>simp[D.cells,BN] at b e;subst b e;exact m
  |succ j=>simp[D.cells] at b
theorem aih{e:Nat}{zero:List D}(b:gI P cx (.new e zero) op=true)(f:eff at_ s.E s.H (.new e zero)=some (v,ws))(h:SG g cx s w a)(m:¬g.A at_)(d:at_<s.n)(j:ax at_ cx g s w a dst v ws next):(⟨dst,op,ty,pos,aft,gd⟩:Oper).wp P a w next Q:=by
 simp only[gI] at b;split at b
 ·rename_i t;simp only[Aa,beq_iff_eq] at b;obtain⟨rfl,b⟩:=b;obtain⟨i,z,q,r,c⟩:=iq b;simp only[eff,Ab,Ae] at f;obtain⟨rfl,rfl⟩:=f;obtain⟨p,o,k⟩:=ce w (.cells z.cells e);obtain⟨k1,k2⟩:=h.make m d (.cells e true zero) 0 p o k rfl rfl rfl ⟨_,_,rfl,(dw c).obj⟩;refine bQ (w':=w.alloc (.cells z.cells e)) (cv:=.pointer (some ⟨w.heap.size,0,none⟩)) ?_ k1 k2 ?_ j;·simp[execOp,Instr.alloc,zeroValue,typeInfo,q,r,newVar,newRow]
  ·have:=VRel.ptr (g:=g.add at_ w.heap.size 0) at_ 0 (.inr rfl);simpa [Gh.add,upd] using this
 ·simp at b
theorem abB{e:Nat}{x:ac}(c:gI P cx (.box e x) op=true)(f:eff at_ s.E s.H (.box e x)=some (v,ws))(h:SG g cx s w a)(i:¬g.A at_)(d:at_<s.n)(j:ax at_ cx g s w a dst v ws next):(⟨dst,op,ty,pos,aft,gd⟩:Oper).wp P a w next Q:=by
 simp only[gI] at c;split at c
 ·rename_i t y;simp only[Aa,beq_iff_eq] at c;obtain⟨rfl,m⟩:=c;have q:=af m h;simp only[eff,aI,Ab,Ae] at f;obtain⟨b,rfl,rfl⟩:=f;obtain⟨r,o,k⟩:=ce w (.cells (a.eval y).cells e);have p:=sh q b;obtain⟨k1,k2⟩:=h.make i d (.cells e true (x.ev s.E).cells) 0 r o k rfl rfl rfl ⟨_,_,rfl,(p.up (Gh.add_up i _ _)).obj⟩;refine bQ (w':=w.alloc (.cells (a.eval y).cells e)) (cv:=.pointer (some ⟨w.heap.size,0,none⟩)) ?_ k1 k2 ?_ j;·simp[execOp,Instr.box,newVar,newRow]
  ·have:=VRel.ptr (g:=g.add at_ w.heap.size 0) at_ 0 (.inr rfl);simpa [Gh.add,upd] using this
 ·simp at c
theorem lK:∀(vs:List Value)(b j:Nat)(cells:Array Value),b+j+vs.length<=cells.size->
  ((vs.zipIdx j).foldl (λ(cs:Array Value)(x:Value×Nat)=>cs.setIfInBounds (b+x.2) x.1) cells).toList=cells.toList.take (b+j)++vs++cells.toList.drop (b+j+vs.length)
 | [],b,j,cells,h=>by simp
 |v::vs,b,j,cells,h=>by
  simp only[Ay] at h;rw[List.zipIdx_cons,BZ,lK vs b (j+1) _ (by simp;omega)];simp only[D8,Ay];have c:b+j<cells.toList.length:=by rw[AY];omega
  rw[show b+(j+1)=b+j+1 by omega,Dq (by simpa using c),List.take_set_of_le (by omega),List.drop_set_of_lt (by omega)];simp[Be];omega
theorem qH(sz:Nat):∀(vs:List (Array Value))(i:Nat)(cells:Array Value),(∀v∈vs,v.size=sz)->(i+vs.length)*sz<=cells.size->∀(e:List (Nat×Value)),e.map (·.1)=Bq i vs.length->e.map (·.2.cells)=vs->
  BK (λi=>some (i*sz,sz)) cells e=some (cells.toList.take (i*sz)++(vs.map (·.toList)).flatten++cells.toList.drop ((i+vs.length)*sz)).toArray
 | [],i,cells,j,d,e,p,f=>by
   have:e=[]:=by simpa using f
   subst this;simp[BK]
 |v::vs,i,cells,j,d,e,p,f=>by
  match e,p,f with
  |(b,x)::h,k1,k2=>
  simp only[AI,Ay,BQ,Cw] at k1 k2;obtain⟨rfl,k3⟩:=k1;obtain⟨rfl,k4⟩:=k2;have c:x.cells.size=sz:=j _ (AD ..);simp only[Ay] at d;have e1:(b+(vs.length+1))*sz=b*sz+sz+vs.length*sz:=by rw[Ax,Ax];omega
  have m:b*sz+sz<=cells.size:=by omega
  have k:(x.cells.zipIdx.foldl (λ(cs:Array Value)(y:Value×Nat)=>cs.setIfInBounds (b*sz+y.2) y.1) cells).toList=cells.toList.take (b*sz)++x.cells.toList++cells.toList.drop (b*sz+sz):=by have:=lK x.cells.toList (b*sz) 0 cells (by simp[c];omega);simp only[Cv,AY,c] at this;rw[<-this,<-Dc,C1]
  have q:(x.cells.zipIdx.foldl (λ(cs:Array Value)(y:Value×Nat)=>cs.setIfInBounds (b*sz+y.2) y.1) cells).size=cells.size:=by rw[<-AY,k];simp[c];omega
  simp only[BK,c];rw[if_neg (by simp;omega)];rw[qH sz vs (b+1) _ (λv c=>j v (AH _ c)) (by rw[q];rw[show (b+1+vs.length)=b+(vs.length+1) by omega];exact d) h k3 k4,k];have r:x.cells.toList.length=sz:=by simp[c]
  have o:(cells.toList.take (b*sz)++x.cells.toList).length=b*sz+sz:=by simp[c];omega
  rw[show (b+1)*sz=b*sz+sz by rw[Ax];omega,show (b+1+vs.length)*sz=(b*sz+sz)+vs.length*sz by rw[Ax,Ax];omega,Ay,e1];rw[List.take_left' o,<-DW,List.drop_left' o,DW];simp[Be]
theorem pE(h:SG g cx s w a){sz:Nat}:∀(b:List ac)(c:List (Nat×Operand))(n:Nat),iX cx b c n=true->(∀x∈b,(x.ev s.E).cells.all D.one=true∧(x.ev s.E).cells.length=sz)->
  c.map (·.1)=Bq n b.length∧c.length=b.length∧(∀q∈c,(a.eval q.2).cells.size=sz)∧Row g (b.flatMap λx=>(x.ev s.E).cells) ((c.map λq=>(a.eval q.2).cells.toList).flatten)
 | [],[],n,_,_=>⟨rfl,rfl,by simp,⟨rfl,by simp,by simp⟩⟩
 |x::b,(i,y)::c,n,hp,f=>by
  simp only[iX,Aa,beq_iff_eq] at hp;obtain⟨rfl,m,j⟩:=hp;obtain⟨k1,k2,k3,k4⟩:=pE h b c (i+1) j (λx k=>f x (AH _ k));obtain⟨o,c2⟩:=f x (AD ..);have e:=sh (af m h) o;refine⟨by simp[k1,BQ],by simp[k2],?_,?_⟩
  ·intro q d;rcases AT.1 d with rfl|d;·have:=e.len;simp at this;simp;omega
   ·exact k3 q d
  ·simpa using e.app k4
 | [],_::_,_,hp,_=>by simp[iX] at hp
 |_::_,[],_,hp,_=>by simp[iX] at hp
theorem abz{e sz:Nat}{b:List ac}(y:gI P cx (.bsl e sz b) op=true)(N:eff at_ s.E s.H (.bsl e sz b)=some (v,ws))(h:SG g cx s w a)(O:¬g.A at_)(L:at_<s.n)(hn:ax at_ cx g s w a dst v ws next):(⟨dst,op,ty,pos,aft,gd⟩:Oper).wp P a w next Q:=by
 simp only[gI] at y;split at y
 ·rename_i t n k;simp only[Aa,beq_iff_eq,decide_eq_true_eq] at y;obtain⟨f,rfl,bb,h3⟩:=y;split at f
  ·rename_i e' R;simp only[Aa,beq_iff_eq,Bb] at f;obtain⟨rfl,W,M,f⟩:=f;split at f
   ·rename_i inf F;obtain⟨z,i4⟩:=A0.1 f;simp only[eff,aI,Ab,Ae] at N;obtain⟨C,rfl,rfl⟩:=N;obtain⟨k1,k2,k3,k4⟩:=pE (sz:=sz) h b k.toList 0 h3 (λx hx=>by
     have:=Ak.1 C x hx;simpa [Aa,Tr.beq_iff] using this)
    let B:Array Value:=(DX (b.length*sz)).map (λj=>z.cells[j%z.cells.size]!);have m:B.size=b.length*sz:=by simp[B]
    have d:BK (λi=>some (i*sz,sz)) B ((k.map λx=>(x.1,a.eval x.2)).toList)=some ((k.toList.map λq=>(a.eval q.2).cells.toList)).flatten.toArray:=by have:=qH sz (k.toList.map λq=>(a.eval q.2).cells) 0 B (by intro v Y;obtain⟨q,hq,rfl⟩:=Av.1 Y;exact k3 q hq) (by simp[m,k2]) ((k.map λx=>(x.1,a.eval x.2)).toList) (by simp only[Array.toList_map,Cu,CA,AU,k2];exact k1) (by simp);rw[this];simp[k2,m,Cu,CA]
    let c:Array Value:=((k.toList.map λq=>(a.eval q.2).cells.toList)).flatten.toArray;obtain⟨f1,S,X⟩:=ce w (.cells c e);have r:Row g (b.flatMap λx=>(x.ev s.E).cells) c.toList:=by simpa [c] using k4
    obtain⟨m1,m2⟩:=h.make O L (.cells e true (b.flatMap λx=>(x.ev s.E).cells)) 0 f1 S X rfl rfl rfl ⟨_,_,rfl,(r.up (Gh.add_up O _ _)).obj⟩;have p:inf.size=sz:=by simpa [be,F] using W
    refine bQ (w':=w.alloc (.cells c e)) (cv:=.slice (some ⟨w.heap.size,0,none⟩) b.length b.length) ?_ m1 m2 ?_ hn
    ·have o:¬(16777216<b.length*sz):=by omega
     simp only[Array.toList_map,B] at d;by_cases G:b.length*sz=0
     ·have J:b.length=0:=by
       rcases Nat.mul_eq_zero.1 G with h|h;·exact h
       ·omega
      have I:k.toList=[]:=A4 (by omega);have u:k= #[]:=by simpa using I
      simp[execOp,CV,run_underlying R,sizeOf,typeInfo,F,p,o,G,J,u,BK,newRow,c];rw[show DX 0= #[] from CJ (by simp),Array.map_empty]
     ·simp[execOp,CV,run_underlying R,sizeOf,typeInfo,F,p,o,G,zeroValue,i4,d,newRow,c]
    ·have Z:b.length<=maxI:=by
      have:b.length<=b.length*sz:=Cj _ M;unfold maxI;omega
     have:=VRel.sl (g:=g.add at_ w.heap.size 0) at_ 0 b.length sz (some b.length) b.length (.inr rfl) M (Ao _) Z rfl;simpa [Gh.add,upd] using this
   ·simp at f
  ·simp at f
 ·simp at y
theorem Row.over{cs news:List D}{us vs:List Value}(h:Row g cs us)(k:Row g news vs)(o:Nat)(f:o+news.length<=cs.length):
  Row g (cs.take o++news++cs.drop (o+news.length)) (us.take o++vs++us.drop (o+vs.length)):=by
 have q:=h.len;have p:=k.len;have m:=km cs news o f;have j:=km us vs o (by omega);refine⟨by simp;omega,?_,?_⟩
 ·intro c b;simp only[AB] at b;rcases b with(b|b)|b;·exact h.one c (A7 b)
  ·exact k.one c b
  ·exact h.one c (Bd b)
 ·intro i c cv b d;rw[m] at b;rw[j,<-p] at d;split at b;·rename_i e;rw[if_pos e] at d;exact k.rel _ _ _ b d
  ·rename_i e;rw[if_neg e] at d;exact h.rel _ _ _ b d
theorem uW(fs:List Field)(h:fs.all (λf=>(P.info? f.type).isSome)=true):
  ∃places,fs.mapM (λf=>(P.info? f.type).map λi=>(f.offset,i.size))=some places∧∀(i:Nat) f n,fs[i]? =some f->be P f.type=some n->places[i]? =some (f.offset,n):=by
 induction fs with
 |nil=>exact⟨[],rfl,by simp⟩
 |cons f fs m=>
  simp only[B3,Aa] at h;obtain⟨places,k,e⟩:=m h.2;obtain⟨i,d⟩:=A0.1 h.1;refine⟨(f.offset,i.size)::places,by simp[List.mapM_cons,d,k],?_⟩;intro j o n c b;cases j with
  |zero=>simp at c;subst c;simp[be,d] at b;simp[b]
  |succ j=>exact e j o n (by simpa using c) b
def we(P:Program)(cx:Cx)(places:Nat->Option (Nat×Nat)):List (Nat×Nat×ac)->List (Nat×Operand)->Prop
 | [],[]=>True
 |(b,n,x)::xs,(i,y)::ys=>places i=some (b,n)∧ag cx x y=true∧we P cx places xs ys
 |_,_=>False
theorem nv(h:SG g cx s w a){places:Nat->Option (Nat×Nat)}:
  ∀(u:List (Nat×Nat×ac))(z:List (Nat×Operand))(cs e:List D)(c:Array Value),we P cx places u z->Row g cs c.toList->
   lay cs (u.map λp=>(p.1,p.2.1,p.2.2.ev s.E))=some e->∃d,BK places c (z.map λq=>(q.1,a.eval q.2))=some d∧Row g e d.toList
 | [],[],cs,e,c,_,A,j=>by simp[lay] at j;subst j;exact⟨c,by simp[BK],A⟩
 |(o,n,x)::u,(i,y)::z,cs,e,c,m,A,j=>by
  obtain⟨C,B,F⟩:=m;simp only[AI,lay,aI,Aa,Tr.beq_iff,decide_eq_true_eq,Bz] at j;obtain⟨⟨⟨G,r⟩,I⟩,j⟩:=j;have f:=sh (af B h) r;have t:(a.eval y).cells.size=n:=by have:=f.len;simp at this;omega
  have H:c.size=cs.length:=by have:=A.len;simpa using this.symm
  have k:=lK (a.eval y).cells.toList o 0 c (by simp[t];omega);simp only[Cv,AY] at k;have b:=A.over f o (by omega);simp only[G,AY] at b;rw[<-k] at b;obtain⟨d,k1,k2⟩:=nv h u z _ e _ F b j;refine⟨d,?_,k2⟩;simp only[AI,BK,C,t];rw[if_neg (by simp;omega)];rw[<-k1]
  congr 1
  rw[<-Dc,C1]
 | [],_::_,_,_,_,m,_,_=>m.elim
 |_::_,[],_,_,_,m,_,_=>m.elim
theorem aax{fs:Array Field}{places:Nat->Option (Nat×Nat)}(hp:∀(i:Nat) f n,fs[i]? =some f->be P f.type=some n->places i=some (f.offset,n)):
  ∀(d:List (Nat×Nat×ac))(e:List (Nat×Operand)),iY P cx fs d e=true->we P cx places d e
 | [],[],_=>trivial
 |(k,n,x)::d,(i,y)::e,c=>by
  simp only[iY,Aa] at c;obtain⟨b,j,h⟩:=c;split at b;·rename_i f o;simp only[Aa,beq_iff_eq] at b;obtain⟨rfl,m⟩:=b;exact⟨hp i f n o m,j,aax hp d e h⟩
  ·simp at b
 | [],_::_,c=>by simp[iY] at c
 |_::_,[],c=>by simp[iY] at c
theorem aay{sz:Nat}:∀(c:List (Nat×Nat×ac))(d:List (Nat×Operand)),tf cx sz c d=true->we P cx (λi=>some (i*sz,sz)) c d
 | [],[],_=>trivial
 |(h,n,x)::c,(i,y)::d,b=>by simp only[tf,Aa,beq_iff_eq] at b;obtain⟨rfl,rfl,f,e⟩:=b;exact⟨rfl,f,aay c d e⟩
 | [],_::_,b=>by simp[tf] at b
 |_::_,[],b=>by simp[tf] at b
theorem abC{zero:List D}{d:List (Nat×Nat×ac)}(p:gI P cx (.bld zero d) op=true)(C:eff at_ s.E s.H (.bld zero d)=some (v,ws))(h:SG g cx s w a)(q:ax at_ cx g s w a dst v ws next):(⟨dst,op,ty,pos,aft,gd⟩:Oper).wp P a w next Q:=by
 simp only[gI] at p;split at p
 ·rename_i t o;simp only[Aa] at p;obtain⟨J,c⟩:=p;obtain⟨i,z,F,B,j⟩:=iq J;simp only[eff,Ah,Ae] at C;obtain⟨k,G,rfl,rfl⟩:=C;split at c
  ·rename_i fs u;simp only[Aa] at c;obtain⟨c,M⟩:=c;obtain⟨places,e1,I⟩:=uW (P:=P) fs.toList (by simpa using M);obtain⟨b,A,r⟩:=nv (P:=P) (places:=λi=>places.toArray[i]?) h d o.toList zero k z.cells (aax (λi f n L q=>by simpa using I i f n (by simpa using L) q) d o.toList c) (dw j) G;have m:=run_build (P:=P) w t (o.map λ(i,y)=>(i,a.eval y)) b (by
    simp only[Program.built,F,u,B,e1];simpa using A)
   exact ae h (cv:=.agg b) (by simp[execOp,m]) r.agg q
  ·rename_i n e u;split at c;·rename_i sz x;obtain⟨b,A,r⟩:=nv (P:=P) (places:=λi=>some (i*sz,sz)) h d o.toList zero k z.cells (aay d o.toList c) (dw j) G;refine ae h (cv:=.agg b) ?_ r.agg q;simp[execOp,Instr.build,zeroValue,typeInfo,F,B,run_underlying u,db x,A]
   ·simp at c
  ·simp at c
 ·simp at p
theorem ad2{n:Nat}{x y:ac}(d:gI P cx (.st n x y) op=true)(q:eff at_ s.E s.H (.st n x y)=some (v,ws))(h:SG g cx s w a)(hn:ax at_ cx g s w a dst v ws next):(⟨dst,op,ty,pos,aft,gd⟩:Oper).wp P a w next Q:=by
 simp only[gI] at d;split at d
 ·rename_i t X r;simp only[Aa,beq_iff_eq] at d;obtain⟨h1,h2,h3⟩:=d;have N:=af h2 h;have r2:=af h3 h;simp only[eff] at q;split at q
  ·rename_i id o hx;split at q
   ·rename_i e f cs I;simp only[aI,Aa,Ab,Ae,Tr.beq_iff,decide_eq_true_eq,Bz] at q;obtain⟨⟨⟨R,B⟩,a0⟩,rfl,rfl⟩:=q;rw[hx] at N;generalize L:a.eval X=Z at N;cases N with
    |ptr _ _ hA=>
     have I:=cells?_some I;obtain⟨M,S,J,i⟩:=h.hr.obj _ _ _ _ I;have Y:=i.len;have b:=sh r2 B;have G:(a.eval r).cells.size=n:=by have:=b.len;simp at this;omega
     have p:∀j,j<cs.length->w.frozen? ⟨g.ρ id,j,none⟩=false:=by
      intro j m;have:=i.cold j (by
       cases f with
       |true=>simp;omega
       |false=>have:=(i.part rfl).1;simp;omega)
      simp only[Ci,J];simpa using this
     have z:(execOp a.eval ⟨dst,.store t X r,ty,pos,aft,gd⟩).run P w=.ok .skip (w.setCells (g.ρ id) o (a.eval r).cells.toList):=by
      have:=run_storeCells_cells (P:=P) (g.ρ id) o (a.eval r).cells.toList 0 w
       (λj m=>by rw[cell_of_heap J,Ag (by simp at m;omega)];rfl)
       (λj m=>p _ (by simp at m;omega))
       (λu hu=>by
        obtain⟨j,m,rfl⟩:=AZ.1 hu;have C:j<(y.ev s.E).cells.length:=by rw[b.len];exact m
        exact(b.rel j _ _ (Ac C) (Ac m)).oneCell (b.one _ (Bf C)))
      simp[execOp,L,D5,BE,storeVar,db h1,G,this]
     obtain⟨_,q3,q4,q5,q6,q7⟩:=cI (g.ρ id) (a.eval r).cells.toList o w M e S J;obtain⟨A,k1,k2,k3⟩:=rt J o (a.eval r).cells.toList (by simp;omega);have W:=km cs (y.ev s.E).cells o (by omega);rw[R] at W;have av:(cs.take o++(y.ev s.E).cells++cs.drop (o+n)).length=cs.length:=by simp;omega
     obtain⟨m1,m2⟩:=h.turn (F:=λid=>id=at_) I (.cells e f (cs.take o++(y.ev s.E).cells++cs.drop (o+n))) q4 q3 k1 q5 q6 q7 ⟨A,S,rfl,by omega,λO=>by have:=i.whole O;omega,λO=>by have:=i.part O;omega,by
       have:=i.cold;rw[k2];exact this,by
       intro c d;simp only[AB] at d;rcases d with(d|d)|d;·exact i.one c (A7 d)
       ·exact b.one c d
       ·exact i.one c (Bd d),by
       intro j c cv d k;rw[W] at d;rw[k3] at k;simp only[AY,G] at k;split at d;·rename_i m;rw[if_pos m] at k;exact b.rel _ _ _ d k
       ·rename_i m;rw[if_neg m] at k;exact i.rel _ _ _ d k⟩
     unfold Ch;rw[z,Oper.upon_skip];exact hn _ _ g (m1.put dst (.undef _)) m2 (e8 _ _ _)
   ·simp at q
  ·simp at q
 ·simp at d
theorem abS(b:gI P cx (.mkm) op=true)(d:eff at_ s.E s.H (.mkm)=some (v,ws))(h:SG g cx s w a)(i:¬g.A at_)(c:at_<s.n)(e:ax at_ cx g s w a dst v ws next):(⟨dst,op,ty,pos,aft,gd⟩:Oper).wp P a w next Q:=by
 simp only[gI] at b;split at b
 ·rename_i t;simp only[eff,Ab,Ae] at d;obtain⟨rfl,rfl⟩:=d;obtain⟨k,j,f⟩:=ce w (.map #[] 0);obtain⟨k1,k2⟩:=h.make i c (.map []) 0 k j f rfl rfl rfl ⟨#[],0,rfl,rfl,rfl,by simp⟩;refine bQ (w':=w.alloc (.map #[] 0)) (cv:=.map (some w.heap.size)) ?_ k1 k2 ?_ e;·simp[execOp,Instr.makeMap]
  ·have:=VRel.mp (g:=g.add at_ w.heap.size 0) at_ (.inr rfl);simpa [Gh.add,upd] using this
 ·simp at b
variable{g g':Gh}{cx:Cx}{s:FS}{w w':World}{a:Act}{P:Program}{at_:Nat}{v:D}{ws:List (Nat×Option Obj)}{next:Act->World->Prop}{Q:Exit->Act->World->Prop}
 {dst:Option Nat} {op:Op} {ty:TypeId} {pos:String} {aft:Array Edge} {gd:Option (Nat×Bool)}
theorem qw{t e sz b:Nat}(h:zT P t e sz b=true):P.underlying t=some (.slice e)∧0<sz∧0<b∧∃i z,P.info? e=some i∧i.size=sz∧i.bytes=b∧i.zero=some z∧z.cells.size=sz:=by
 unfold zT at h;split at h
 ·rename_i q k;simp only[Aa,beq_iff_eq] at h;obtain⟨rfl,h⟩:=h;split at h
  ·rename_i i d;simp only[Aa,beq_iff_eq,Bb] at h;obtain⟨f,m,j,o,c⟩:=h;split at c;·rename_i z p;exact⟨k,j,o,i,z,d,f,m,p,by simpa using c⟩
   ·simp at c
  ·simp at h
 ·simp at h
theorem zU{t:Nat}(h:xy P t=true):∃e,P.underlying t=some (.slice e):=by
 unfold xy at h;split at h;·exact⟨_,by assumption⟩
 ·simp at h
theorem SG.kill{F:Nat->Prop}(h:SG g cx s w a)(id:Nat):SG g cx ⟨s.E,upd s.H id none,s.n⟩ w a∧FR F g s.H w g (upd s.H id none) w:=by
 have look:∀i o,upd s.H id none i=some o->s.H i=some o:=by
  intro i o b;simp only[upd] at b;split at b;·simp at b
  ·exact b
 refine⟨⟨HR.of (λi o c=>h.hr.holds (look i o c)) (λi j o o' b d=>h.hr.apart i j o o' (look _ _ b) (look _ _ d)) (λi o c=>h.hr.made i o (look i o c)) h.hr.lt,h.er,h.gl⟩,?_⟩;exact⟨rfl,rfl,rfl,Ao _,λ_ _ _=>rfl,Up.refl _,λ_ h=>.inl h,λi o c=>.inr ⟨i,o,look i o c,rfl⟩⟩
theorem Row.flat{b:List D}{us:List Value}(h:Row g b us):∀n:Nat,Row g ((Bg n b).flatMap id) ((Bg n us).flatMap id)
 |0=>⟨rfl,by simp,by simp⟩
 |n+1=>by simpa [DQ] using h.app (h.flat n)
theorem qI{c:List Value}:∀(n j:Nat),j<n*c.length->((Bg n c).flatMap id)[j]? =c[j%c.length]?
 |0,j,h=>by simp at h
 |n+1,j,h=>by
  simp only[DQ,BJ,id];rcases AG j c.length with b|b;·rw[Am b,Dv b]
  ·rw[Aj b,qI n _ (by rw[Ax] at h;omega),<-Nat.mod_eq_sub_mod b]
theorem acA{α:Type}(b:List α):∀n:Nat,((Bg n b).flatMap id).length=n*b.length
 |0=>by simp
 |n+1=>by simp only[DQ,BJ,id,Ba,acA b n,Ax];omega
theorem aii{e sz b:Nat}{zero:List D}{x:ac}(o:gI P cx (.mks e sz b zero x) op=true)(i:eff at_ s.E s.H (.mks e sz b zero x)=some (v,ws))(h:SG g cx s w a)(O:¬g.A at_)(I:at_<s.n)(hn:ax at_ cx g s w a dst v ws next):(⟨dst,op,ty,pos,aft,gd⟩:Oper).wp P a w next Q:=by
 simp only[gI] at o;split at o
 ·rename_i t Z y';simp only[Aa] at o;obtain⟨h1,q,h3,h4⟩:=o;have B:=af h3 h;have C:=af h4 h;obtain⟨u1,f,u,inf,z,J,W,i3,S,p⟩:=qw h1;obtain⟨i',z',M,L,r⟩:=iq q;rw[J] at M;cases M;rw[S] at L;cases L;simp only[eff] at i;split at i
  ·rename_i R n hx;simp only[aI,Ab,Ae,Aa,Bz,Tr.beq_iff,decide_eq_true_eq] at i;obtain⟨⟨d,a1⟩,rfl,rfl⟩:=i;rw[hx] at B C;generalize y:a.eval Z=Y at B;generalize F:a.eval y'=a0 at C;cases B;cases C;have N:n<=140737488355328:=by
    have:n*1<=n*b:=Nat.mul_le_mul_left _ u;unfold cd at d;omega
   have hb:(inf.bytes:Int)*(n:Int)<=281474976710656:=by
    have:n*b<=281474976710656:=by unfold cd at d;omega
    have q:((n*b:Nat):Int)<=281474976710656:=by omega
    rw[Int.natCast_mul] at q;rw[i3,Int.mul_comm];exact q
   have c:=run_make (P:=P) w t e inf z u1 J S R R n n (by omega) (Int.le_refl _) hb (by omega);simp only[Dh] at c;rw[W] at c;obtain⟨f1,X,f3⟩:=ce w (.cells (madeCells z.cells (n*sz)) e);have k:Row g ((Bg n zero).flatMap id) (madeCells z.cells (n*sz)).toList:=by
    have:=(dw (g:=g) r).flat n;have he:(madeCells z.cells (n*sz)).toList=(Bg n z.cells.toList).flatMap id:=by
     apply Dg;intro j;have G:=size_madeCells z.cells (n*sz);rcases AG j (n*sz) with m|m;·rw[qI n j (by simpa [p] using m),BM];simp only[madeCells,AY];rw[Array.getElem?_map,Array.getElem?_range,if_pos m,Bt,getElem!_pos z.cells (j%z.cells.size) (by rw[p];exact CB _ f),BM,Ag (by rw[p];exact CB _ f)]
     ·rw[AR (by rw[AY,G];exact m),AR (by rw[acA];simpa [p] using m)]
    rw[he];exact this
   obtain⟨m1,m2⟩:=h.make O I (.cells e true ((Bg n zero).flatMap id)) 0 f1 X f3 rfl rfl rfl ⟨_,_,rfl,(k.up (Gh.add_up O _ _)).obj⟩;refine bQ (w':=w.alloc (.cells (madeCells z.cells (n*sz)) e)) (cv:=.slice (some ⟨w.heap.size,0,none⟩) n n) ?_ m1 m2 ?_ hn;·simp[execOp,y,F,c]
   ·have:=VRel.sl (g:=g.add at_ w.heap.size 0) at_ 0 n sz (some n) n (.inr rfl) f (Ao _) (by unfold maxI;omega) rfl;simpa [Gh.add,upd] using this
  ·simp at i
 ·simp at o
theorem adk(h:SG g cx s w a){y:D}{cv:Value}{n sz u:Nat}{news:List D}(r:VRel g y cv)(d:ik s.H y=some (n,news))(k:∃e,P.underlying u=some (.slice e))(z:news.length=n*sz):
  ∃L,Row g news L∧_root_.Go.Src P sz u cv n L w:=by
 obtain⟨N,k⟩:=k;unfold ik at d;split at d;·simp only[Ab,Ae] at d;obtain⟨rfl,rfl⟩:=d;cases r;exact⟨[],⟨rfl,by simp,by simp⟩,_root_.Go.Src.ofNil w k 0⟩
 ·simp only[Ab,Ae] at d;obtain⟨rfl,rfl⟩:=d;cases r;exact⟨[],⟨rfl,by simp,by simp⟩,_root_.Go.Src.ofSlice w k _ _ _ _ (by simp) (by simp) (by simp)⟩
 ·rename_i id i len x cap;split at d
  ·rename_i e f cs E;simp only[aI,Ab,Ae,Bz] at d;obtain⟨q,rfl,rfl⟩:=d;cases r with
   |sl _ _ _ _ _ c M J R O G=>
   obtain⟨C,I,F,o⟩:=h.hr.obj _ _ _ _ (cells?_some E);have A:=o.len;have b:=rq o q;have B:=b.len;refine⟨_,b,_root_.Go.Src.ofSlice w k ⟨g.ρ id,i,none⟩ len c _ (by rw[<-B];exact z) (λj u p=>by rw[Bv];exact oK F i _ j u p) ?_⟩;intro u t;obtain⟨j,p,rfl⟩:=AZ.1 t;have m:j<((cs.drop i).take (len*x)).length:=by rw[B];exact p
   exact(b.rel j _ _ (Ac m) (Ac p)).oneCell (b.one _ (Bf m))
  ·simp at d
 ·simp at d
theorem pu{t u e sz J n len cap:Nat}{o:Option Addr}{X S:Operand}{olds news:List D}{L M:List Value}(h:SG g cx s w a)(hf:¬g.A at_)(Z:at_<s.n)(h1:zT P t e sz J=true)
  (p:a.eval X=.slice o len cap) (q:cap<len+n) (r:(len+n)*J<=cd) (hL:Row g olds L) (I:L.length=len*sz) (O:(Da sz len (.slice o len cap)).run P w.drew=.ok L.toArray w.drew)
  (hM:Row g news M) (hs:_root_.Go.Src P sz u (a.eval S) n M w)
  (hn:∀b k w',FR (λid=>id=at_) g s.H w (g.add at_ b k) (upd s.H at_ (some (.cells e false (olds++news)))) w'->SG (g.add at_ b k) cx ⟨dH s.E dst (.sl at_ 0 (len+n) sz none),upd s.H at_ (some (.cells e false (olds++news))),s.n⟩ w' (a.put dst (.slice (some ⟨b,0,none⟩) (len+n) (k / sz)))->next (a.put dst (.slice (some ⟨b,0,none⟩) (len+n) (k / sz))) w'):
  (⟨dst,.call ⟨.builtin .append,⟨[X,S]⟩,⟨[t,u]⟩⟩,ty,pos,aft,gd⟩:Oper).wp P a w next Q:=by
 obtain⟨ut,G,W,inf,z,i1,i2,i3,i4,i5⟩:=qw h1;have x:len+n<=cd:=AX (Cj _ W) r;have Y:=run_append_grow_src w t u ty e inf z ut i1 i4 o len cap L (by rw[i2];exact O) (a.eval S) n M (by rw[i2];exact hs) q (by unfold cd at x;omega) (growslice_fits q (by rw[i3];exact r));have i:len+n<=grownCap w (len+n) cap e:=by unfold grownCap Question.cut;exact CW _ _
 have R:grownCap w (len+n) cap e<=maxI:=by have:=grownCap_le_maxLen w (len+n) cap e (by unfold maxLen;unfold cd at x;omega);simpa [maxLen,maxI] using this
 generalize hC:grownCap w (len+n) cap e=C at Y i R;let d:Array Value:=(L++M).toArray++Ee z.cells (C-(len+n));have F:=hs.newsLen;have a0:d.size=C*sz:=by
  simp only[d,Eh,Df,Ba,I,F,size_zeroCells,i5];rw[<-Ax,<-Ax]
  congr 1
  omega
 have f:=ce w.drew (.cells d e);have m:=hL.app hM;have b5:(olds++news).length=(len+n)*sz:=by rw[m.len,Ba,I,F,Ax]
 have a2:(len+n)*sz<=C*sz:=AS _ i;have u0:=Gh.add_up hf w.heap.size (C*sz);have N:(g.add at_ w.heap.size (C*sz)).κ at_=C*sz:=by simp[Gh.add,upd]
 obtain⟨m1,m2⟩:=h.make (w':=w.drew.alloc (.cells d e)) hf Z (.cells e false (olds++news)) (C*sz) f.1 f.2.1 f.2.2 rfl rfl rfl ⟨d,(0,0),rfl,by omega,by simp,λ_=>by rw[N];omega,by simp,m.one,by
  intro j c cv hc p;have hj:j<(L++M).length:=by rw[<-m.len];exact(Ad.1 hc).1
  refine(m.rel j c cv hc ?_).up u0;simp only[d] at p;rw[BD (by simpa using hj)] at p;simpa using p⟩
 have y:(execOp a.eval ⟨dst,.call ⟨.builtin .append,⟨[X,S]⟩,⟨[t,u]⟩⟩,ty,pos,aft,gd⟩).run P w=.ok (.value (.slice (some ⟨w.heap.size,0,none⟩) (len+n) C)) (w.drew.alloc (.cells d e)):=by rw[<-p] at Y;simp[execOp,resolve,invoke,builtin,Y,d]
 have B:C*sz / sz=C:=Nat.mul_div_cancel _ G;unfold Ch;rw[y,Oper.upon_value];have:=hn w.heap.size (C*sz) _ m2;rw[B] at this;refine this (m1.put dst ?_);have:=VRel.sl (g:=g.add at_ w.heap.size (C*sz)) at_ 0 (len+n) sz none C (.inr rfl) G i R (by simp[sc,N]);simpa [Gh.add,upd] using this
theorem aij{e r:Nat}{x y:ac}(d:gI P cx (.apt e r x y) op=true)(m:eff at_ s.E s.H (.apt e r x y)=some (v,ws))(h:SG g cx s w a)(hf:¬g.A at_)(O:at_<s.n)(X:ax at_ cx g s w a dst v ws next):(⟨dst,op,ty,pos,aft,gd⟩:Oper).wp P a w next Q:=by
 simp only[gI] at d;split at d
 ·rename_i x' y' t u J;obtain rfl:=dV J;simp only[Aa] at d;obtain⟨W,Z,h3,h4⟩:=d;have I:=af h3 h;have M:=af h4 h;obtain⟨ut,a2,a0,inf,z,i1,i2,i3,i4,i5⟩:=qw W;have S:P.underlying u=some .string:=by
   split at Z;·assumption
   ·simp at Z
  simp only[eff] at m;split at m
  ·rename_i l hx hy;rw[hx] at I;rw[hy] at M;generalize f:a.eval x'=cv at I;generalize C:a.eval y'=cy at M;cases I;cases M with
   |str _ p Y hm=>
   have N:=_root_.Go.Src.ofString (P:=P) (w:=w) S p;have j:l.length=p.size:=by rw[<-Y,AU,AY];rfl
   simp only[fa,Aw,Tr.beq_iff] at m;by_cases R:l.length=0
   ·rw[decide_eq_true R] at m;simp only[cond_true,Ab,Ae] at m;obtain⟨rfl,rfl⟩:=m;have o:p.size=0:=by omega
    refine ae h (cv:=.slice none 0 0) ?_ .nils X;have d:=N.cells;have G:_root_.Go.byteCells p=[]:=A4 (by rw[_root_.Go.byteCells_length];exact o);rw[G,o] at d;have F:=N.len;rw[o] at F;simp[execOp,resolve,invoke,builtin,f,C,Cd,run_underlying ut,run_underlying S,sizeOf,typeInfo,i1,i2,F] at*
    simp[d,storeCells]
   ·rw[decide_eq_false R] at m;simp only[cond_false,aI,Ab,Ae,Bz] at m;obtain⟨B,rfl,rfl⟩:=m;have hM:Row g (l.map tW) (_root_.Go.byteCells p):=by
     refine⟨by rw[AU,j,_root_.Go.byteCells_length],?_,?_⟩;·intro c d;obtain⟨n,_,rfl⟩:=Av.1 d;rfl
     ·intro i c cv d f;subst Y;simp only[_root_.Go.byteCells,Au,Ah] at d f;obtain⟨n,⟨b,hb,rfl⟩,rfl⟩:=d;obtain⟨b',q,rfl⟩:=f;rw[hb] at q;obtain rfl:=Ai q;refine .int _ _ ⟨?_,?_⟩;·show (0:Int)<=((b.toNat:Nat):Int);omega
      ·have:=UInt8.toNat_lt b;show ((b.toNat:Nat):Int)<=(255:Int);omega
    refine pu (olds:=[]) (L:=[]) (len:=0) (n:=p.size) h hf O W f (by omega) (by rw[Aw,<-j];exact B) ⟨rfl,by simp,by simp⟩ (by simp) (by simpa using run_firstCells_none (P:=P) w.drew 1 0 0 0) hM (by rw[C];exact N) ?_;intro b k w' k1 k2;simp only[C3,Aw] at k1 k2 ⊢;rw[<-j] at k2 ⊢;exact X _ _ _ k2 k1 (e8 _ _ _)
  ·simp at m
 ·simp at d
theorem abA{e sz b4:Nat}{x y:ac}(q:gI P cx (.app e sz b4 x y) op=true)(o:eff at_ s.E s.H (.app e sz b4 x y)=some (v,ws))(h:SG g cx s w a)(W:¬g.A at_)(X:at_<s.n)(hn:ax at_ cx g s w a dst v ws next):(⟨dst,op,ty,pos,aft,gd⟩:Oper).wp P a w next Q:=by
 simp only[gI] at q;split at q
 ·rename_i x' y' t u ec;obtain rfl:=dV ec;simp only[Aa] at q;obtain⟨h1,h2,h3,h4⟩:=q;have r1:=af h3 h;have r2:=af h4 h;obtain⟨ut,e7,e5,inf,z,i1,i2,i3,i4,i5⟩:=qw h1;obtain⟨ue,uu⟩:=zU h2;simp only[eff] at o;split at o
  ·rename_i n news bY;rw[aI] at o;obtain⟨S,o⟩:=o;simp only[Tr.beq_iff,decide_eq_true_eq,fa,Aw] at S;obtain⟨M,hM,hS⟩:=adk h r2 bY ⟨ue,uu⟩ S;have a1:M.length=n*sz:=by rw[<-hM.len];exact S
   generalize m:a.eval x'=cv at r1;have Y:∀J len c,cv=.slice J len c->n=0->len<=c->(execOp a.eval ⟨dst,.call ⟨.builtin .append,⟨[x',y']⟩,⟨[t,u]⟩⟩,ty,pos,aft,gd⟩).run P w=.ok (.value cv) w:=by
    rintro J len c rfl rfl a4;have c8:M=[]:=by simpa using a1
    subst c8;have q:=hS.cells;rcases hS.kind with⟨e',hk⟩|hk<;>cases J<;>simp[execOp,resolve,invoke,builtin,m,Cd,run_underlying ut,run_underlying hk,sizeOf,typeInfo,i1,i2,hS.len,a4] at* <;>simp[q,storeCells]
   split at o
   ·rename_i hx;rw[hx] at r1;cases r1;by_cases h0:n=0
    ·have:Af n 0=true:=by simp[Tr.beq_iff,h0]
     rw[this] at o;simp only[cond_true,Ab,Ae] at o;obtain⟨rfl,rfl⟩:=o;exact ae h (Y none 0 0 rfl h0 (Ao _)) .nils hn
    ·have:Af n 0=false:=by simp[Tr.beq_iff,h0]
     rw[this] at o;simp only[cond_false,aI,Ab,Ae,Bz] at o;obtain⟨G,rfl,rfl⟩:=o;refine pu (olds:=[]) (L:=[]) (len:=0) h W X h1 m (by omega) (by simpa using G) ⟨rfl,by simp,by simp⟩ (by simp) (by simpa using run_firstCells_none (P:=P) w.drew sz 0 0 0) hM hS ?_;intro b k w' k1 k2;simp only[C3,Aw] at k1 k2 ⊢;exact hn _ _ _ k2 k1 (e8 _ _ _)
   ·rename_i id d len e6 cap hx;rw[hx] at r1;rw[aI] at o;obtain⟨b3,o⟩:=o;simp only[Aa,Tr.beq_iff,decide_eq_true_eq,Bz] at b3;obtain⟨rfl,G⟩:=b3;cases r1 with
    |sl _ _ _ _ _ c hA hz q hm hk=>
    split at o
    ·rename_i e' f cs ho;have ho:=cells?_some ho;obtain⟨B,fz,hb,r⟩:=h.hr.obj _ _ _ _ ho;have ew:=r.len;by_cases h0:n=0
     ·have:Af n 0=true:=by simp[Tr.beq_iff,h0]
      rw[this] at o;simp only[cond_true,Ab,Ae] at o;obtain⟨rfl,rfl⟩:=o;exact ae h (Y _ len c rfl h0 q) (.sl _ _ _ _ _ _ hA hz q hm hk) hn
     ·have:Af n 0=false:=by simp[Tr.beq_iff,h0]
      rw[this] at o;simp only[cond_false] at o;have olds:∀p,d+len*sz<=cs.length->Row g ((cs.drop d).take (len*sz)) ((B.toList.drop d).take (len*sz))∧((B.toList.drop d).take (len*sz)).length=len*sz∧(Da sz len (.slice (some ⟨g.ρ id,d,none⟩) len p)).run P w.drew=.ok ((B.toList.drop d).take (len*sz)).toArray w.drew:=by
       intro p a4;have bx:((B.toList.drop d).take (len*sz)).length=len*sz:=by simp;omega
       refine⟨rq r a4,bx,run_firstCells_some w.drew sz len ⟨g.ρ id,d,none⟩ len p _ bx ?_⟩;intro j u I;rw[Bv];exact oK (w:=w.drew) hb d _ j u I
      have Z:len+n<=c->d+(len+n)*sz<=B.size->(∀j,j<d+(len+n)*sz->¬(fz.1<=j∧j<fz.2))->(execOp a.eval ⟨dst,.call ⟨.builtin .append,⟨[x',y']⟩,⟨[t,u]⟩⟩,ty,pos,aft,gd⟩).run P w=.ok (.value (.slice (some ⟨g.ρ id,d,none⟩) (len+n) c)) (w.setCells (g.ρ id) (d+len*sz) M):=by
       intro i N R;rw[Ax] at N R;have hr:=run_append_room_src w t u ty e inf ut i1 (g.ρ id) d len c (a.eval y') n M (by rw[i2];exact hS) i (by
        intro j I;rw[i2,cell_of_heap hb,Ag (by omega)];rfl) (by
        intro j I;rw[i2];have:=R (d+len*sz+j) (by omega);simp only[Ci,hb];simpa using this)
       rw[i2] at hr;simp[execOp,resolve,invoke,builtin,m,hr]
      split at o
      ·rename_i k;simp only[sc] at hk;subst hk;by_cases i:len+n<=c
       ·have:AO (len+n) c=true:=by simpa [Bz] using i
        rw[this] at o;simp only[cond_true,aI,Ab,Ae,Bz] at o;obtain⟨N,rfl,rfl⟩:=o;have cc:=N;rw[Ax] at cc;have C:=Z i (by omega) (by
         intro j I;refine r.cold j ?_;cases f with
         |true=>simp;omega
         |false=>have:=(r.part rfl).1;simp;omega)
        obtain⟨_,q3,q4,q5,q6,q7⟩:=cI (g.ρ id) M (d+len*sz) w B e' fz hb;obtain⟨O,k1,k2,k3⟩:=rt hb (d+len*sz) M (by omega);have hg:=km cs news (d+len*sz) (by omega);rw[S,show d+len*sz+n*sz=d+(len+n)*sz by rw[Ax];omega] at hg;have fi:(cs.take (d+len*sz)++news++cs.drop (d+(len+n)*sz)).length=cs.length:=by rw[Ax];simp;omega
        obtain⟨m1,m2⟩:=h.turn (F:=λid=>id=at_) ho (.cells e' f (cs.take (d+len*sz)++news++cs.drop (d+(len+n)*sz))) q4 q3 k1 q5 q6 q7 ⟨O,fz,rfl,by omega,λW=>by have:=r.whole W;omega,λW=>by have:=r.part W;omega,by
         have:=r.cold;rw[k2];exact this,by
         intro c q;simp only[AB] at q;rcases q with(q|q)|q;·exact r.one c (A7 q)
         ·exact hM.one c q
         ·exact r.one c (Bd q),by
         intro j c cv q m;rw[hg] at q;rw[k3,a1,show d+len*sz+n*sz=d+(len+n)*sz by rw[Ax];omega] at m;split at q;·rename_i I;rw[if_pos I] at m;exact hM.rel _ _ _ q m
         ·rename_i I;rw[if_neg I] at m;exact r.rel _ _ _ q m⟩
        exact bQ C m1 m2 (.sl id d (len+n) sz (some c) c hA hz i hm rfl) hn
       ·have:AO (len+n) c=false:=by
         cases ds:AO (len+n) c with
         |false=>rfl
         |true=>exact absurd (DC ds) i
        rw[this] at o;simp only[cond_false,aI,Ab,Ae,Bz] at o;obtain⟨N,rfl,rfl⟩:=o;obtain⟨o1,o2,o3⟩:=olds c N;refine pu h W X h1 m (by omega) G o1 o2 o3 hM hS ?_;intro b k w' k1 k2;exact hn _ _ _ k2 k1 (e8 _ _ _)
      ·simp only[aI,Aa,AK,Ab,Ae,Tr.beq_iff,decide_eq_true_eq] at o;obtain⟨⟨⟨⟨rfl,d0⟩,rfl⟩,c6⟩,rfl,rfl⟩:=o;subst c6;simp only[sc,Aw] at hk;obtain⟨p1,p2⟩:=r.part rfl;by_cases i:len+n<=c
       ·have b2:(len+n)*sz<=c*sz:=AS _ i;have b6:=b2;rw[Ax] at b6;have C:=Z i (by omega) (by
         intro j I;refine r.cold j ?_;simp;omega)
        rw[Aw] at C;obtain⟨_,q3,q4,q5,q6,q7⟩:=cI (g.ρ id) M (len*sz) w B e fz hb;obtain⟨O,k1,k2,k3⟩:=rt hb (len*sz) M (by omega);have u0:=Gh.add_up W (g.ρ id) (g.κ id);have a3:(g.add at_ (g.ρ id) (g.κ id)).κ at_=g.κ id:=by simp[Gh.add,upd]
        obtain⟨m1,m2⟩:=h.move W X ho (.cells e false (cs++news)) q4 q3 k1 q5 q6 q7 ⟨O,fz,rfl,by simp;omega,by simp,λ_=>by rw[a3,k2];simp;omega,by
         have:=r.cold;simpa [a3] using this,by
         intro c q;exact(AB.1 q).elim (r.one c) (hM.one c),by
         intro j c cv q m;rw[k3,a1] at m;rcases AG j cs.length with I|I;·rw[Am I] at q;rw[if_neg (by omega)] at m;exact(r.rel j c cv q m).up u0
         ·rw[Aj I] at q;have es:=(Ad.1 q).1;rw[if_pos (by omega),show j-len*sz=j-cs.length by omega] at m;exact(hM.rel _ c cv q m).up u0⟩
        refine bQ C m1 m2 ?_ hn;have:=VRel.sl (g:=g.add at_ (g.ρ id) (g.κ id)) at_ 0 (len+n) sz none c (.inr rfl) hz i hm (by simp only[sc,a3,Aw];exact hk);simpa [Gh.add,upd] using this
       ·obtain⟨o1,o2,o3⟩:=olds c (by omega);have c4:(cs.drop 0).take (len*sz)=cs:=by simp[d0]
        rw[c4] at o1;obtain⟨s1,s2⟩:=h.kill (F:=λid=>id=at_) id;refine pu (s:=⟨s.E,upd s.H id none,s.n⟩) s1 W X h1 m (by omega) G o1 o2 o3 hM hS ?_;intro b k w' k1 k2;exact hn _ _ _ k2 (s2.trans (λ_ h=>h) k1) (e8 _ _ _)
    ·simp at o
   ·simp at o
  ·simp at o
 ·simp at q
def mg(P:Program)(t c n:Nat):Bool:=match c,P.underlying t with
 |0,some (.int _)=>true
 |1,some .string=>true
 |2,some (.array b e)=>(n==b)&&((be P e==some 1)&&(match P.underlying e with|some (.int _)=>true|_=>false))
 |3,some (.array b e)=>(n==b)&&((be P e==some 1)&&(match P.underlying e with|some .string=>true|_=>false))
 |_,_=>false
def xz(P:Program)(t b n:Nat)(k:Nat->Bool):Bool:=match P.underlying t with|some (.map c e)=>mg P c b n&&k e|_=>false
def abb(P:Program)(e:Nat)(zero:List D)(agg:Bool):Bool:=mR P e zero&&((cn P e==some agg)&&(agg||zero.length==1)&&(match P.info? e with|some i=>(match i.zero with|some z=>(match z with| .agg _=>agg| .tuple _=>false|_=> !agg)|none=>false)|none=>false))
def mO(P:Program)(cx:Cx)(o:IOp)(m:Op):Bool:=match o with
 | .lkp c n zero agg ok x k=>(match m with| .lookup t b k' f=>xz P t c n (λe=>abb P e zero agg)&&((ok==f)&&(ag cx x b&&ag cx k k'))|_=>false)
 | .mup c n x k v=>(match m with| .mapUpdate t b k' d=>xz P t c n (λ_=>true)&&(ag cx x b&&(ag cx k k'&&ag cx v d))| .insert t b k' d=>xz P t c n (λ_=>true)&&(ag cx x b&&(ag cx k k'&&ag cx v d))|_=>false)
 | .ment c n zero agg x k=>(match m with| .mapEntry t b k'=>xz P t c n (λe=>abb P e zero agg)&&(ag cx x b&&ag cx k k')|_=>false)
 | .mest x i v=>(match m with| .entryStore _ b h d=>ag cx x b&&(ag cx i h&&ag cx v d)|_=>false)
 |_=>false
variable{g g':Gh}{cx:Cx}{s:FS}{w w':World}{a:Act}{P:Program}{at_:Nat}{v:D}{ws:List (Nat×Option Obj)}{next:Act->World->Prop}{Q:Exit->Act->World->Prop}
 {dst:Option Nat} {op:Op} {ty:TypeId} {pos:String} {aft:Array Edge} {gd:Option (Nat×Bool)}
theorem ad1{z:Bool}{x y:ac}(j:bT P cx (.mx z x y) op=true)(f:eff at_ s.E s.H (.mx z x y)=some (v,ws))(h:SG g cx s w a)(m:ax at_ cx g s w a dst v ws next):(⟨dst,op,ty,pos,aft,gd⟩:Oper).wp P a w next Q:=by
 simp only[bT] at j;simp only[eff] at f;have fin:∀c d ts (b:Builtin),op=.call ⟨.builtin b,⟨[c,d]⟩,ts⟩->(b=if z then Builtin.min else Builtin.max)->ag cx x c=true->ag cx y d=true->(⟨dst,op,ty,pos,aft,gd⟩:Oper).wp P a w next Q:=by
  rintro c d ts b rfl G t u;have B:=af t h;have C:=af u h;split at f
  ·rename_i k p k' q L M;rw[aI] at f;obtain⟨I,f⟩:=f;obtain rfl:=mf I;simp only[Ab,Ae] at f;obtain⟨rfl,rfl⟩:=f;rw[L] at B;rw[M] at C;generalize o:a.eval c=J at B;generalize r:a.eval d=N at C;cases B with
   |int _ _ hp=>
   cases C with
   |int _ _ O=>
   cases z with
   |true=>
    subst G;simp only[cond_true,pQ] at m;have e:(cond (decide (q<p)) q p)=if q<p then q else p:=by by_cases A:q<p<;>simp[A]
    rw[e] at m;refine ae h (cv:=.int k (if q<p then q else p)) ?_ (.int _ _ (by split<;>assumption)) m;simp[execOp,resolve,o,r,invoke,builtin,Builtin.min_,Builtin.min2]
   |false=>
    subst G;simp only[cond_false,pQ] at m;have e:(cond (decide (p<q)) q p)=if p<q then q else p:=by by_cases A:p<q<;>simp[A]
    rw[e] at m;refine ae h (cv:=.int k (if p<q then q else p)) ?_ (.int _ _ (by split<;>assumption)) m;simp[execOp,resolve,o,r,invoke,builtin,Builtin.max_,Builtin.max2]
  ·simp at f
 split at j;·rename_i c d ts i;simp only[Aa] at j;obtain⟨F,t,u⟩:=j;exact fin c d _ .min (dV i) (by simp[F]) t u
 ·rename_i c d ts i;simp only[Aa,AK] at j;obtain⟨F,t,u⟩:=j;exact fin c d _ .max (dV i) (by simp[F]) t u
 ·simp at j
theorem ajz{t:Nat}(h:eqT P 0 t=true):P.underlying t=some .bool:=by unfold eqT at h;split at h<;>first|assumption|contradiction
theorem ajA{t:Nat}(h:eqT P 1 t=true):∃e,P.underlying t=some (.pointer e):=by unfold eqT at h;split at h<;>first|exact⟨_,by assumption⟩|contradiction
theorem ajB{t:Nat}(h:eqT P 2 t=true):∃e,P.underlying t=some (.slice e):=by unfold eqT at h;split at h<;>first|exact⟨_,by assumption⟩|contradiction
theorem ajC{t:Nat}(h:eqT P 3 t=true):∃k e,P.underlying t=some (.map k e):=by unfold eqT at h;split at h<;>first|exact⟨_,_,by assumption⟩|contradiction
theorem ajD{t:Nat}(h:eqT P 4 t=true):∃x y z,P.underlying t=some (.func x y z):=by unfold eqT at h;split at h<;>first|exact⟨_,_,_,by assumption⟩|contradiction
theorem ru{t:Nat}{x y:Value}{b:Bool}(h:∀(d:Nat)(w:World),(BI (d+1) t x y).run P w=.ok b w)(w:World):(Op.equal t x y).run P w=.ok b w:=h 9999 w
theorem ajE{M:Nat}{f:Bool}{x y:ac}(u:bT P cx (.eq M f x y) op=true)(L:eff at_ s.E s.H (.eq M f x y)=some (v,ws))(h:SG g cx s w a)(W:ax at_ cx g s w a dst v ws next):(⟨dst,op,ty,pos,aft,gd⟩:Oper).wp P a w next Q:=by
 simp only[bT] at u;split at u
 ·rename_i o t z A J;simp only[Aa,decide_eq_true_eq] at u;obtain⟨r,rfl,S,h2⟩:=u;have F:=af S h;have G:=af h2 h;simp only[eff,Ah,Ae] at L;obtain⟨b,j,rfl,rfl⟩:=L;generalize B:a.eval z=c at F;generalize I:a.eval A=C at G;generalize x.ev s.E=xe at F j;generalize y.ev s.E=ye at G j
  have fin:(execOp a.eval ⟨dst,.binOp (if f then .neq else .eql) t z A J,ty,pos,aft,gd⟩).run P w=.ok (.value (.bool (cond f (!b) b))) w->(⟨dst,.binOp (if f then .neq else .eql) t z A J,ty,pos,aft,gd⟩:Oper).wp P a w next Q:=
   λY=>ae h Y (.bool _) W
  have p:(Op.equal t c C).run P w=.ok b w->(∀k n,c≠.int k n)->(∀q,c≠.string q)->(∀q,c≠.agg q)->c≠.nilIface->(∀k n,c≠.float k n)->(∀k n m,c≠.complex k n m)->(⟨dst,.binOp (if f then .neq else .eql) t z A J,ty,pos,aft,gd⟩:Oper).wp P a w next Q:=by
   intro hq n1 O N R Z X;refine fin ?_
   cases f<;>cases c<;>first
    |(exfalso;exact n1 _ _ rfl)|(exfalso;exact O _ rfl)|(exfalso;exact N _ rfl)|(exfalso;exact R rfl)|(exfalso;exact Z _ _ rfl)|(exfalso;exact X _ _ _ rfl)
    |(simp[execOp,B,I,eqGuard,binOp,hq];done)
  unfold eqN at j;split at j<;>(try (obtain rfl:=Ai j))<;>(try cases F)<;>(try cases G)
  ·have i:=ajz r;exact p (ru (λd w=>by simp[BI,run_underlying i]) w) (by simp) (by simp) (by simp) (by simp) (by simp) (by simp)
  all_goals first
   |(exfalso;simp at j;done)
   |(
     obtain⟨e,i⟩:=ajA r;exact p (ru (λd w=>by simp[BI,run_underlying i]) w) (by simp) (by simp) (by simp) (by simp) (by simp) (by simp))
   |(
     obtain⟨e,i⟩:=ajB r;exact p (ru (λd w=>by simp[BI,run_underlying i]) w) (by simp) (by simp) (by simp) (by simp) (by simp) (by simp))
   |(
     obtain⟨k,e,i⟩:=ajC r;exact p (ru (λd w=>by simp[BI,run_underlying i]) w) (by simp) (by simp) (by simp) (by simp) (by simp) (by simp))
   |(
     obtain⟨k,e,q,i⟩:=ajD r;exact p (ru (λd w=>by simp[BI,run_underlying i]) w) (by simp) (by simp) (by simp) (by simp) (by simp) (by simp))
   |fail
 ·simp at u
section
open Go.MapKept
variable{g g':Gh}{cx:Cx}{s:FS}{w w':World}{a:Act}{P:Program}{at_:Nat}{v:D}{ws:List (Nat×Option Obj)}{next:Act->World->Prop}{Q:Exit->Act->World->Prop}
 {dst:Option Nat} {op:Op} {ty:TypeId} {pos:String} {aft:Array Edge} {gd:Option (Nat×Bool)}
theorem afA{x y:ByteArray}{l m:List Nat}(c:x.data.toList.map (·.toNat)=l)(b:y.data.toList.map (·.toNat)=m):(x==y)=eqL l m:=by
 subst c b;rw[zR,A2,bytes_beq,decide_eq_true_iff];constructor;·rintro rfl;rfl
 ·intro h;obtain⟨x⟩:=x;obtain⟨y⟩:=y
  congr 1
  exact Array.toList_inj.1 h
theorem xA{x y:D}{cv f:Value}{b:Bool}(h:VRel g x cv)(i:VRel g y f)(c:eqV x y=some b):
  (b=true->∀n,Br n f cv=true)∧((∃k n m,x=.int k n∧cv=.int k n∧f=.int k m∧b=(n==m))∨(∃l p q,x=.str l∧cv=.string p∧f=.string q∧b=(p==q))):=by
 unfold eqV at c;split at c
 ·rename_i k n k' m;rw[aI] at c;obtain⟨r,c⟩:=c;obtain rfl:=mf r;obtain rfl:=Ai c;cases h;cases i;have e:eqI n m=(n==m):=by rw[me];rfl
  refine⟨λd j=>?_,.inl ⟨k,n,m,rfl,rfl,rfl,e⟩⟩;rw[e] at d;have:n=m:=by simpa using d
  subst this;cases j<;>simp[Br]
 ·rename_i l m;obtain rfl:=Ai c;cases h with
  |str _ p hp _=>
  cases i with
  |str _ q o _=>
  have e:eqL l m=(p==q):=(afA hp o).symm;refine⟨λd j=>?_,.inr ⟨l,p,q,rfl,rfl,rfl,e⟩⟩;rw[e] at d;have:p=q:=(bytes_beq _ _).1 d;subst this;cases j<;>simp[Br,(bytes_beq _ _).2 rfl]
 ·simp at c
theorem acB{t n:Nat}(h:mg P t 0 n=true):∃k,P.underlying t=some (.int k):=by unfold mg at h;split at h<;>first|exact⟨_,by assumption⟩|contradiction
theorem acC{t n:Nat}(h:mg P t 1 n=true):P.underlying t=some .string:=by unfold mg at h;split at h<;>first|assumption|contradiction
theorem acD{t n:Nat}(h:mg P t 2 n=true):∃e k,P.underlying t=some (.array n e)∧be P e=some 1∧P.underlying e=some (.int k):=by
 unfold mg at h;split at h<;>first|contradiction|skip
 rename_i f e _ d;simp only[Aa,beq_iff_eq] at h;obtain⟨rfl,c,b⟩:=h;split at b;·exact⟨e,_,d,c,by assumption⟩
 ·simp at b
theorem acE{t n:Nat}(h:mg P t 3 n=true):∃e,P.underlying t=some (.array n e)∧be P e=some 1∧P.underlying e=some .string:=by
 unfold mg at h;split at h<;>first|contradiction|skip
 rename_i f e _ d;simp only[Aa,beq_iff_eq] at h;obtain⟨rfl,c,b⟩:=h;split at b;·exact⟨e,d,c,by assumption⟩
 ·simp at b
def acF(P:Program)(e:Nat)(c:D):Prop:=(∃k,P.underlying e=some (.int k)∧∃k n,c=.int k n)∨(P.underlying e=some .string∧∃l,c=.str l)
theorem eP{e:Nat}(b:cn P e=some false){xs:Array Value}{j:Nat}{u:Value}(c:xs[j]? =some u)(w:World):(part e xs j).run P w=.ok u w:=by simp[part,gW b,c]
theorem wS{e:Nat}(E:cn P e=some false)(d:Nat){xs ys:Array Value}:∀(cs y:List D)(j:Nat)(b:Bool),(∀c∈cs,acF P e c)->(∀(i:Nat) c cv,cs[i]? =some c->xs[j+i]? =some cv->VRel g c cv)->(∀(i:Nat) c cv,y[i]? =some c->ys[j+i]? =some cv->VRel g c cv)->
  j+cs.length<=xs.size->j+y.length<=ys.size->eqC cs y=some b->∀w:World,(Op.eqItems (d+1) e 1 xs ys (Bq j cs.length)).run P w=.ok b w
 | [],[],j,b,_,_,_,_,_,h,w=>by simp only[eqC,Ab] at h;subst h;simp[Op.eqItems]
 |c::cs,L::y,j,b,G,J,M,R,S,h,w=>by
  simp only[Ay] at R S;have z:xs[j]? =some (xs[j]'(by omega)):=Ag _;have A:ys[j]? =some (ys[j]'(by omega)):=Ag _;have H:=J 0 c _ rfl z;have I:=M 0 L _ rfl A;generalize xs[j]'(by omega)=u at z H;generalize ys[j]'(by omega)=N at A I;have O:=eP E z w;have p2:=eP E A w;have r:∀C,eqV c L=some C->(BI (d+1) e u N).run P w=.ok C w:=by
   intro C f;obtain⟨-,F⟩:=xA H I f;rcases G c (AD ..) with⟨k0,B,k1,X,o⟩|⟨B,W,o⟩
   ·rcases F with⟨k,n,m,x,rfl,rfl,rfl⟩|⟨l,p,q,x,rfl,rfl,rfl⟩
    ·simp[BI,run_underlying B]
    ·rw[o] at x;cases x
   ·rcases F with⟨k,n,m,x,rfl,rfl,rfl⟩|⟨l,p,q,x,rfl,rfl,rfl⟩
    ·rw[o] at x;cases x
    ·simp[BI,run_underlying B]
  rw[Ay,BQ];simp only[Op.eqItems,B2,Nat.mul_one,O,p2,Bn];simp only[eqC] at h;split at h;·rename_i f;rw[r _ f];simp only[Bn,D9,BO,if_false];exact wS E d cs y (j+1) b (λc o=>G c (AH _ o)) (λi c cv o t=>J (i+1) c cv (by simpa using o) (by rw[<-t];congr 1;omega)) (λi c cv o t=>M (i+1) c cv (by simpa using o) (by rw[<-t];congr 1;omega)) (by omega) (by omega) h w
  ·rename_i f;obtain rfl:=Ai h;rw[r _ f];simp
  ·simp at h
 | [],_::_,_,_,_,_,_,_,_,h,_=>by simp[eqC] at h
 |_::_,[],_,_,_,_,_,_,_,h,_=>by simp[eqC] at h
theorem agl{xs ys:List Value}:∀(cs b:List D),(∀(i:Nat) c cv,cs[i]? =some c->xs[i]? =some cv->VRel g c cv)->(∀(i:Nat) c cv,b[i]? =some c->ys[i]? =some cv->VRel g c cv)->cs.length=xs.length->b.length=ys.length->eqC cs b=some true->
  xs.length=ys.length∧∀n,(ys.zip xs).all (λ(x,y)=>Br n x y)=true:=by
 intro cs;induction cs generalizing xs ys with
 |nil=>
  intro b _ _ e f h;cases b with
  |cons=>simp[eqC] at h
  |nil=>
   have e1:xs=[]:=by simpa using e.symm
   have o:ys=[]:=by simpa using f.symm
   subst e1 o;simp
 |cons c cs q=>
  intro b k m e f h;cases b with
  |nil=>simp[eqC] at h
  |cons t b=>
   cases xs with
   |nil=>simp at e
   |cons x xs=>
   cases ys with
   |nil=>simp at f
   |cons y ys=>
   simp only[eqC] at h;split at h;·rename_i r;obtain⟨p, -⟩:=xA (k 0 c x rfl rfl) (m 0 t y rfl rfl) r;obtain⟨k1,k2⟩:=q (xs:=xs) (ys:=ys) b (λi c cv j d=>k (i+1) c cv (by simpa using j) (by simpa using d)) (λi c cv j d=>m (i+1) c cv (by simpa using j) (by simpa using d)) (by simpa using e) (by simpa using f) h;refine⟨by simp[k1],λn=>?_⟩;simp only[D0,B3,Aa];exact⟨p rfl n,k2 n⟩
   ·simp at h
   ·simp at h
def wg(P:Program)(d:Nat)(b:Value)(es:List (D×D))(ents:List MapEntry)(i:Nat)(w:World):Option (Nat×D)->Option (Nat×Value)->Prop
 |none,none=>True
 |some (j,v),some (c,u)=>c=j∧i<=j∧(∃k',es[j-i]? =some (k',v))∧∃en,ents[j-i]? =some en∧u=en.val∧Br 10000 en.key b=true
 |_,_=>False
theorem wg.more{k:Nat}{d:Value}{es:List (D×D)}{ents:List MapEntry}{i:Nat}{t:D×D}{c:MapEntry}{r:Option (Nat×D)}{b:Option (Nat×Value)}(h:wg P k d es ents (i+1) w r b):wg P k d (t::es) (c::ents) i w r b:=by
 cases r with
 |none=>cases b<;>exact h
 |some p=>
  obtain⟨j,v⟩:=p;cases b with
  |none=>exact h
  |some q=>
   obtain⟨f,u⟩:=q;obtain⟨rfl,z,⟨k',x⟩,en,o,y,m⟩:=h;have e:f-i=(f-(i+1))+1:=by omega
   exact⟨rfl,by omega,⟨k',by rw[e];simpa using x⟩,en,by rw[e];simpa using o,y,m⟩
theorem yI{y e n:Nat}{k a:D}{o f:Value}{b:Bool}(c:e=0∨e=1)(u:mg P y e n=true)(h:gc e n k=true)(A:VRel g k o)(B:VRel g a f)(i:eqD k a=some b):
  ∃d,P.underlying y=some d∧CI d o f=some b∧(b=true->Br 10000 f o=true):=by
 have z:eqV k a=some b:=by
  unfold eqD at i;split at i;·rcases c with rfl|rfl<;>simp[gc] at h
  ·exact i
 obtain⟨t,x⟩:=xA A B z;rcases c with rfl|rfl
 ·obtain⟨k0,r⟩:=acB u;refine⟨_,r,?_,λj=>t j _⟩;rcases x with⟨k,n,m,rfl,rfl,rfl,rfl⟩|⟨l,p,q,rfl,rfl,rfl,rfl⟩
  ·simp[CI]
  ·simp[gc] at h
 ·have r:=acC u;refine⟨_,r,?_,λj=>t j _⟩;rcases x with⟨k,n,m,rfl,rfl,rfl,rfl⟩|⟨l,p,q,rfl,rfl,rfl,rfl⟩
  ·simp[gc] at h
  ·simp[CI]
theorem aaz{t m n:Nat}{k:D}{z:Value}(c:m=0∨m=1)(y:mg P t m n=true)(p:gc m n k=true)(e:VRel g k z){d:TypeDesc}(q:P.underlying t=some d):∀(es:List (D×D))(ents:List MapEntry)(i:Nat)(r:Option (Nat×D)),
  es.length=ents.length->(∀(j:Nat) k v en,es[j]? =some (k,v)->ents[j]? =some en->VRel g k en.key)->iI k es i=some r->∃o,Do d z ents i=some o∧wg P t z es ents i w r o
 | [],ents,i,r,f,_,h=>by
   have:ents=[]:=by simpa using f.symm
   subst this;simp only[iI,Ab] at h;subst h;exact⟨none,rfl,trivial⟩
 |(a,v)::es,[],i,r,f,_,h=>by simp at f
 |(a,v)::es,en::ents,i,r,f,B,h=>by
  have A:=B 0 a v en rfl rfl;simp only[iI] at h;split at h;·rename_i x;obtain rfl:=Ai h;obtain⟨F,b,u,C⟩:=yI c y p e A x;rw[q] at b;cases b;exact⟨some (i,en.val),by simp[Do,u],rfl,Ao _,⟨a,by simp⟩,en,by simp,rfl,C rfl⟩
  ·rename_i x;obtain⟨F,b,u,C⟩:=yI c y p e A x;rw[q] at b;cases b;obtain⟨o,H,G⟩:=aaz c y p e q es ents (i+1) r (by simpa using f) (λj k v en e E=>B (j+1) k v en (by simpa using e) (by simpa using E)) h;exact⟨o,by simp[Do,u,H],G.more⟩
  ·simp at h
theorem adG{n:Nat}{k:D}(h:gc 2 n k=true):∃cs,k=.agg cs∧cs.length=n∧∀c∈cs,∃k n,c=.int k n:=by
 unfold gc at h;split at h<;>first|contradiction|skip
 rename_i cs _;simp only[Aa,Tr.beq_iff,decide_eq_true_eq,fa,Aw,Ak] at h;refine⟨_,rfl,h.1,λc b=>?_⟩;have:=h.2 c b;split at this;·exact⟨_,_,rfl⟩
 ·simp at this
theorem adH{n:Nat}{k:D}(h:gc 3 n k=true):∃cs,k=.agg cs∧cs.length=n∧∀c∈cs,∃l,c=.str l:=by
 unfold gc at h;split at h<;>first|contradiction|skip
 rename_i cs _;simp only[Aa,Tr.beq_iff,decide_eq_true_eq,fa,Aw,Ak] at h;refine⟨_,rfl,h.1,λc b=>?_⟩;have:=h.2 c b;split at this;·exact⟨_,rfl⟩
 ·simp at this
theorem acG{u z n:Nat}{k a:D}{A C:Value}{b:Bool}(H:z=2∨z=3)(N:mg P u z n=true)(J:gc z n k=true)(X:VRel g k A)(h2:VRel g a C)(m:eqD k a=some b):
  (∀w:World,(Op.equal u A C).run P w=.ok b w)∧(b=true->Br 10000 C A=true):=by
 obtain⟨cs,rfl,r,t⟩:∃cs,k=.agg cs∧cs.length=n∧∃e,P.underlying u=some (.array n e)∧be P e=some 1∧cn P e=some false∧∀c∈cs,acF P e c:=by
  rcases H with rfl|rfl;·obtain⟨e,k0,q,o,f⟩:=acD N;obtain⟨cs,rfl,F,I⟩:=adG J;exact⟨cs,rfl,F,e,q,o,by simp[cn,f],λc j=>.inl ⟨k0,f,I c j⟩⟩
  ·obtain⟨e,q,o,f⟩:=acE N;obtain⟨cs,rfl,F,I⟩:=adH J;exact⟨cs,rfl,F,e,q,o,by simp[cn,f],λc j=>.inr ⟨f,I c j⟩⟩
 obtain⟨e,q,o,B,G⟩:=t;unfold eqD at m;split at m
 ·rename_i x y W;cases W;cases X with
  |agg _ xs Y _ L=>
  cases h2 with
  |agg _ ys l2 _ M=>
  obtain⟨inf,p⟩:∃i,P.info? e=some i∧i.size=1:=by unfold be at o;obtain⟨i,p,h⟩:=Ah.1 o;exact⟨i,p,h⟩
  have E:P.cellsOf e=1:=by simp[Program.cellsOf,p.1,p.2]
  refine⟨λw=>?_,λZ=>?_⟩;·show (BI (9999+1) u (.agg xs) (.agg ys)).run P w=_;rw[run_equalIn_array w 9999 xs ys q p.1,E,DJ,<-r];exact wS B 9998 cs y 0 b G (λi c cv j d=>L i c cv j (by simpa using d)) (λi c cv j d=>M i c cv j (by simpa using d)) (by omega) (by omega) m w
  ·subst Z;obtain⟨q1,R⟩:=agl (xs:=xs.toList) (ys:=ys.toList) cs y (λi c cv j d=>L i c cv j (by simpa using d)) (λi c cv j d=>M i c cv j (by simpa using d)) (by simpa using Y) (by simpa using l2) m;have O:xs.size=ys.size:=by simpa using q1
   have:=R 9999;show (ys.size==xs.size&&(ys.toList.zip xs.toList).all λ(x,y)=>Br 9999 x y)=true;rw[this,O];simp
 ·rename_i S;exfalso;unfold eqV at m;split at m;·simp at*
  ·simp at*
  ·simp at m
theorem aaA{o e n:Nat}{k:D}{u:Value}(b:e=2∨e=3)(t:mg P o e n=true)(m:gc e n k=true)(c:VRel g k u):∀(es:List (D×D))(ents:List MapEntry)(i:Nat)(r:Option (Nat×D)),
  es.length=ents.length->(∀(j:Nat) k v en,es[j]? =some (k,v)->ents[j]? =some en->VRel g k en.key)->iI k es i=some r->∃f,(CF o u ents i).run P w=.ok f w∧wg P o u es ents i w r f
 | [],ents,i,r,d,_,h=>by
   have:ents=[]:=by simpa using d.symm
   subst this;simp only[iI,Ab] at h;subst h;exact⟨none,by simp[CF],trivial⟩
 |(a,v)::es,[],i,r,d,_,h=>by simp at d
 |(a,v)::es,en::ents,i,r,d,y,h=>by
  have x:=y 0 a v en rfl rfl;simp only[iI] at h;split at h;·rename_i q;obtain rfl:=Ai h;obtain⟨p,z⟩:=acG b t m c x q;exact⟨some (i,en.val),by simp[CF,p],rfl,Ao _,⟨a,by simp⟩,en,by simp,rfl,z rfl⟩
  ·rename_i q;obtain⟨p,z⟩:=acG b t m c x q;obtain⟨f,C,B⟩:=aaA b t m c es ents (i+1) r (by simpa using d) (λj k v en c A=>y (j+1) k v en (by simpa using c) (by simpa using A)) h;exact⟨f,by simp[CF,p,C],B.more⟩
  ·simp at h
theorem acH{b n:Nat}{k:D}(h:gc b n k=true):(b=0∨b=1)∨(b=2∨b=3):=by unfold gc at h;split at h<;>simp at*
theorem pR{i z n:Nat}{k:D}{o:Value}{es:List (D×D)}{ents:Array MapEntry}{clock:Nat}{r:Option (Nat×D)}(c:mg P i z n=true)(p:gc z n k=true)(m:VRel g k o)(t:cU g es ents clock)(y:iI k es 0=some r):
  ∃f,(Instr.findKey i o ents.toList).run P w=.ok f w∧wg P i o es ents.toList 0 w r f:=by
 have A:∀(j:Nat) k v en,es[j]? =some (k,v)->ents.toList[j]? =some en->VRel g k en.key:=λj k v en m C=>(t.2.2 j k v en m (by simpa using C)).2.1
 rcases acH p with b|b
 ·have:∃d,P.underlying i=some d:=by
   rcases b with rfl|rfl;·obtain⟨k,h⟩:=acB c;exact⟨_,h⟩
   ·exact⟨_,acC c⟩
  obtain⟨d,B⟩:=this;obtain⟨f,x,q⟩:=aaz (w:=w) b c p m B es ents.toList 0 r (by simpa using t.1) A y;exact⟨f,run_findKey B x,q⟩
 ·obtain⟨f,x,q⟩:=aaA (w:=w) b c p m es ents.toList 0 r (by simpa using t.1) A y;refine⟨f,?_,q⟩;rw[run_findKey_eq w ?_ o ents.toList];·exact x
  ·rcases b with rfl|rfl;·obtain⟨e,k,u,_⟩:=acD c;rw[u]
   ·obtain⟨e,u,_⟩:=acE c;rw[u]
theorem mS{e:Nat}(m:cn P e=some false)(c:Bool)(d:Nat){xs:Array Value}(b:∀(j:Nat) u,xs[j]? =some u->(A8 c d e u).run P w=.ok () w)(k:be P e=some 1):∀(n j:Nat),j+n<=xs.size->
  (forIn (Bq j n) DE λi r=>do A8 c d e (<-part e xs (i*(<-sizeOf e)));pure (ForInStep.yield DE):Sem PUnit).run P w=.ok DE w
 |0,j,h=>by simp
 |n+1,j,h=>by have f:xs[j]? =some (xs[j]'(by omega)):=Ag _;have o:=eP m f w;rw[BQ,List.forIn_cons];simp only[B2,db k,Bn,Nat.mul_one,o,b j _ f,DF];exact mS m c d b k n (j+1) (by omega)
theorem aeE(q:Nat){r p n:Nat}{k:D}{o:Value}(d:mg P r p n=true)(i:gc p n k=true)(m:VRel g k o)(f:Bool):(A8 f (q+2) r o).run P w=.ok () w:=by
 rcases acH i with(rfl|rfl)|(rfl|rfl)
 ·obtain⟨k0,b⟩:=acB d;simp[A8,run_underlying b]
 ·have b:=acC d;simp[A8,run_underlying b]
 ·obtain⟨e,k0,b,h,c⟩:=acD d;obtain⟨cs,rfl,x,z⟩:=adG i;cases m with
  |agg _ xs y _ t=>
  have:=mS (P:=P) (w:=w) (e:=e) (by simp[cn,c]) f (q+1) (xs:=xs) (λj u _=>by simp[A8,run_underlying c]) h n 0 (by omega);rw[A8];simp only[B2,run_underlying b,Bn];simp only[Cm,Dx,CG,DR,Nat.div_one];simp at this ⊢;rw[this];rfl
 ·obtain⟨e,b,h,c⟩:=acE d;obtain⟨cs,rfl,x,z⟩:=adH i;cases m with
  |agg _ xs y _ t=>
  have:=mS (P:=P) (w:=w) (e:=e) (by simp[cn,c]) f (q+1) (xs:=xs) (λj u _=>by simp[A8,run_underlying c]) h n 0 (by omega);rw[A8];simp only[B2,run_underlying b,Bn];simp only[Cm,Dx,CG,DR,Nat.div_one];simp at this ⊢;rw[this];rfl
theorem vH{e d n:Nat}{k:D}{c:Value}(i:mg P e d n=true)(h:gc d n k=true)(f:VRel g k c)(b:Bool):(A8 b 10000 e c).run P w=.ok () w:=aeE 9998 i h f b
theorem tZ{t c n:Nat}{k:Nat->Bool}(h:xz P t c n k=true):∃b e,P.underlying t=some (.map b e)∧mg P b c n=true∧k e=true:=by
 unfold xz at h;split at h;·rename_i b e d;simp only[Aa] at h;exact⟨b,e,d,h.1,h.2⟩
 ·simp at h
theorem aaB{e:Nat}{zero:List D}{agg:Bool}(h:abb P e zero agg=true):∃z,VRel g (a6 agg zero) z∧∀w:World,(zeroValue e).run P w=.ok z w:=by
 unfold abb at h;simp only[Aa,AQ,beq_iff_eq] at h;obtain⟨k,⟨q,o⟩,b⟩:=h;obtain⟨i,z,d,f,c⟩:=iq k;simp only[d,f] at b;refine⟨z,?_,λw=>by simp[zeroValue,typeInfo,d,f]⟩;have m:=dw (g:=g) c;have:=fT (agg:=agg) m o;cases agg with
 |true=>
  split at b;·rename_i cs;simpa [BN] using this
  ·simp at b
  ·simp at b
 |false=>
  have j:(if false=true then Value.agg z.cells.toList.toArray else z.cells.toList.headD undef)=z:=by
   split at b;·simp at b
   ·simp at b
   ·rename_i p r t;cases z<;>simp[BN] at*
  rw[j] at this;exact this
theorem acI{kk n:Nat}{zero:List D}{agg ok:Bool}{x k:ac}{kd v0:D}(f:mO P cx (.lkp kk n zero agg ok x k) op=true)(b:vA kk n zero agg ok (x.ev s.E) kd s.H=some (v0,ws))(S:∀cv,VRel g (k.ev s.E) cv->VRel g kd cv)(B:∀cv,VRel g v0 cv->VRel g v cv)(h:SG g cx s w a)(hn:ax at_ cx g s w a dst v ws next):(⟨dst,op,ty,pos,aft,gd⟩:Oper).wp P a w next Q:=by
 simp only[mO] at f;split at f
 ·rename_i t Y k' b0;simp only[Aa,beq_iff_eq] at f;obtain⟨h1,rfl,h2,h3⟩:=f;obtain⟨kt,e,R,ht,hz⟩:=tZ h1;have G:=af h2 h;have N:=S _ (af h3 h);obtain⟨z,z1,M⟩:=aaB (g:=g) hz;simp only[vA,aI] at b;obtain⟨X,b⟩:=b;generalize q:a.eval Y=A at G;generalize y:a.eval k'=ck at N
  have key:∀es ents clock,cU g es ents clock->((A=.map none∧ents= #[])∨∃r,A=.map (some r)∧w.heap[r]? =some (.map ents clock))->
    (match iI kd es 0 with
     |some (some (_,v))=>some (cond ok (.tup [v,.bool true]) v,[])
     |some none=>some (cond ok (.tup [a6 agg zero,.bool false]) (a6 agg zero),([]:List (Nat×Option Obj)))
     |none=>none)=some (v0,ws)->(⟨dst,.lookup t Y k' ok,ty,pos,aft,gd⟩:Oper).wp P a w next Q:=by
   intro es ents clock I o b;have m:=vH (w:=w) ht X N ents.isEmpty;cases O:iI kd es 0 with
   |none=>rw[O] at b;simp at b
   |some r=>
    rw[O] at b;obtain⟨Z,J,L⟩:=pR (w:=w) ht X N I O;cases r with
    |none=>
     simp only[Ab,Ae] at b;obtain⟨rfl,rfl⟩:=b;cases Z with
     |some p=>exact L.elim
     |none=>
     refine ae h (cv:=if ok then .tuple #[z,.bool false] else z) ?_ (B _ ?_) hn
     ·rcases o with⟨rfl,rfl⟩|⟨r,rfl,C⟩
      ·simp[execOp,DN,run_underlying R,q,y,M w] at m J ⊢;simp[m,J,M w]
      ·simp[execOp,DN,run_underlying R,q,y,Go.MapKept.run_getObj_map C,m,J,M w]
     ·cases ok with
      |false=>exact z1
      |true=>
       refine .tup _ _ rfl ?_;intro i c cv f d;match i with
       |0=>simp at f d;subst f d;exact z1
       |1=>simp at f d;subst f d;exact .bool _
       |i+2=>simp at f
    |some p=>
     obtain⟨j,u⟩:=p;simp only[Ab,Ae] at b;obtain⟨rfl,rfl⟩:=b;cases Z with
     |none=>exact L.elim
     |some p'=>
     obtain⟨j',u'⟩:=p';obtain⟨rfl,hj,⟨k2,he⟩,en,F,rfl,bb⟩:=L;have hv:=(I.2.2 _ _ _ _ he (by simpa using F)).2.2;refine ae h (cv:=if ok then .tuple #[en.val,.bool true] else en.val) ?_ (B _ ?_) hn
     ·rcases o with⟨rfl,rfl⟩|⟨r,rfl,C⟩
      ·simp at F
      ·simp[execOp,DN,run_underlying R,q,y,Go.MapKept.run_getObj_map C,m,J]
     ·cases ok with
      |false=>exact hv
      |true=>
       refine .tup _ _ rfl ?_;intro i c cv f d;match i with
       |0=>simp at f d;subst f d;exact hv
       |1=>simp at f d;subst f d;exact .bool _
       |i+2=>simp at f
  unfold wb at b;generalize x.ev s.E=xe at G b;cases xe with
  |nilm=>simp only at b;cases G;exact key [] #[] 0 ⟨rfl,rfl,by simp⟩ (.inl ⟨rfl,rfl⟩) b
  |mp id=>
   simp only at b;cases G with
   |mp _ hA=>
   split at b;·rename_i es I;obtain⟨ents,clock,C,W⟩:=h.hr.map _ _ (se I);exact key es ents clock W (.inr ⟨_,rfl,C⟩) b
   ·simp at b
  |_=>simp at b
 ·simp at f
theorem wT{n:Int}:∀{es:List (D×D)}{l:List (Int×Int)},vC es=some l->∀i,(∃j,iI (.int .u8 n) es i=some (some (j,.int .i64 (lookI l n))))∨(iI (.int .u8 n) es i=some none∧lookI l n=0)
 | [],l,h,i=>by simp only[vC,Ab] at h;subst h;exact .inr ⟨rfl,rfl⟩
 |(a,b)::es,l,h,i=>by
  unfold vC at h;split at h;·rename_i e;cases e
  ·rename_i p q d e;cases e;simp only[Ah] at h;obtain⟨f,c,rfl⟩:=h;simp only[iI,eqD,eqV,lookI];by_cases hp:n=p;·subst hp;refine .inl ⟨i,?_⟩;simp[gv,me,chk]
   ·have:=wT c (n:=n) (Bk i);simp[gv,me,hp,chk];simpa using this
  ·simp at h
theorem aik{o n:Nat}{zero:List D}{agg ok:Bool}{x k:ac}(t:mO P cx (.lkp o n zero agg ok x k) op=true)(b:eff at_ s.E s.H (.lkp o n zero agg ok x k)=some (v,ws))(h:SG g cx s w a)(p:ax at_ cx g s w a dst v ws next):(⟨dst,op,ty,pos,aft,gd⟩:Oper).wp P a w next Q:=by
 simp only[eff] at b;unfold xv at b;split at b
 ·rename_i key i u;unfold wc at b;rw[aI] at b;obtain⟨f,b⟩:=b;simp only[Aa,AK] at f;obtain⟨F,rfl,rfl,e⟩:=f;obtain rfl:=AA F;split at b
  ·rename_i es A;split at b
   ·rename_i l B;simp only[Ah,Ae] at b;obtain⟨r,d,rfl,rfl⟩:=b;have d:=pe g.s d;simp only[SOp.ev] at d;split at d
    ·rename_i q C;have d:=Ai d;refine acI (kd:=.int .u8 q) (v0:=.int .i64 (lookI l q)) (ws:=[]) t ?_ (λcv c=>by rw[u] at c;have:=c.conc;rwa [C] at this) (λcv c=>VRel.unconc (by rw[<-d];exact c)) h p;unfold vA;rw[A];refine(aI ..).2 ⟨rfl,?_⟩;simp only;rcases wT B (n:=q) 0 with⟨j,m⟩|⟨m,y⟩
     ·rw[m];rfl
     ·rw[m,y];unfold ag2 at e;split at e;·rename_i z;rw[me,decide_eq_true_eq] at e;subst e;rfl
      ·cases e
    ·simp at d
   ·simp at b
  ·simp at b
 ·exact acI t b (λ_ h=>h) (λ_ h=>h) h p
end
section
open Go.MapKept
variable{g g':Gh}{cx:Cx}{s:FS}{w w':World}{a:Act}{P:Program}{at_:Nat}{v:D}{ws:List (Nat×Option Obj)}{next:Act->World->Prop}{Q:Exit->Act->World->Prop}
 {dst:Option Nat} {op:Op} {ty:TypeId} {pos:String} {aft:Array Edge} {gd:Option (Nat×Bool)}
theorem cU.set{es:List (D×D)}{ents:Array MapEntry}{clock:Nat}(h:cU g es ents clock){i:Nat}{k v:D}{o m:Value}(r:VRel g k o)(q:VRel g v m):
  cU g (es.set i (k,v)) (ents.modify i λe=>{e with key:=o,val:=m}) clock:=by
 refine⟨by simp[h.1],by simp[h.2.1],?_⟩;intro j k' p en b c;rw[At] at b;rw[A3] at c;by_cases e:i=j
 ·subst e;rw[if_pos rfl] at b c;split at b
  ·cases b;rw[Ah] at c;obtain⟨u,t,rfl⟩:=c;rename_i f;obtain⟨x,d⟩:∃k0 v0,es[i]? =some (k0,v0):=⟨_,_,Ac f⟩
   obtain⟨v0,d⟩:=d;exact⟨(h.2.2 _ _ _ _ d t).1,r,q⟩
  ·simp at b
 ·rw[if_neg e] at b;rw[if_neg e] at c;exact h.2.2 j k' p en b c
theorem cU.push{es:List (D×D)}{ents:Array MapEntry}{clock:Nat}(h:cU g es ents clock){k v:D}{i f:Value}(p:VRel g k i)(o:VRel g v f):
  cU g (es++[(k,v)]) (ents.push {key:=i,val:=f,born:=clock}) (clock+1):=by
 refine⟨by simp[h.1],by simp[h.2.1],?_⟩;intro j k' m en b d;rcases AG j es.length with e|e;·rw[Am e] at b;rw[Cl,if_neg (by rw[<-h.1];omega)] at d;exact h.2.2 j k' m en b d
 ·rw[Aj e] at b;have q:j-es.length=0:=by
   have:=(Ad.1 b).1;simp at this;omega
  rw[q] at b;simp at b;obtain⟨rfl,rfl⟩:=b;have c:j=ents.size:=by rw[<-h.1];omega
  rw[Cl,if_pos c] at d;obtain rfl:=Ai d;exact⟨by rw[h.2.1];exact c.symm,p,o⟩
theorem xB(h:SG g cx s w a){id:Nat}{es d:List (D×D)}(j:s.H id=some (.map es)){ents c:Array MapEntry}{clock b:Nat}(f:w.heap[g.ρ id]? =some (.map ents clock))(m:cU g d c b):
  SG g cx ⟨s.E,upd s.H id (some (.map d)),s.n⟩ {w with heap:=w.heap.setIfInBounds (g.ρ id) (.map c b)} a∧FR (λi=>i=at_) g s.H w g (upd s.H id (some (.map d))) {w with heap:=w.heap.setIfInBounds (g.ρ id) (.map c b)}:=by
 obtain⟨e,k⟩:=Go.MapKept.heap_set (o':=.map c b) f;exact h.turn j (.map d) (by simp) k e rfl rfl rfl ⟨c,b,rfl,m⟩
theorem keeps{c b:Value}(h:Br 10000 c b=true)(w:World):(C4 c b).run P w=.ok b w:=by simp[C4,h]
theorem ail{X n:Nat}{x k y:ac}(m:mO P cx (.mup X n x k y) op=true)(c:eff at_ s.E s.H (.mup X n x k y)=some (v,ws))(h:SG g cx s w a)(hn:ax at_ cx g s w a dst v ws next):(⟨dst,op,ty,pos,aft,gd⟩:Oper).wp P a w next Q:=by
 have A:∀t q k' r,(∀ρ:Operand->Value,∀d ty pos aft gd,execOp ρ ⟨d,op,ty,pos,aft,gd⟩=(do Cf t (ρ q) (ρ k') (ρ r);pure .skip))->xz P t X n (λ_=>true)=true->ag cx x q=true->ag cx k k'=true->ag cx y r=true->(⟨dst,op,ty,pos,aft,gd⟩:Oper).wp P a w next Q:=by
  intro t q k' r hx h1 h2 h3 h4;obtain⟨kt,e,hu,Y, -⟩:=tZ h1;have O:=af h2 h;have C:=af h3 h;have r3:=af h4 h;simp only[eff,aI] at c;obtain⟨J,c⟩:=c;split at c
  ·rename_i id N;rw[N] at O;split at c
   ·rename_i es hm;have ho:=se hm;obtain⟨ents,clock,F,o⟩:=h.hr.map _ _ ho;generalize L:a.eval q=a1 at O;cases O;have z:=vH (w:=w) Y J C false;have fin:∀f b B,cU g B f b->v=.undef->ws=[(id,some (.map B))]->(Cf t (.map (some (g.ρ id))) (a.eval k') (a.eval r)).run P w=.ok () {w with heap:=w.heap.setIfInBounds (g.ρ id) (.map f b)}->(⟨dst,op,ty,pos,aft,gd⟩:Oper).wp P a w next Q:=by
     rintro f b B S rfl rfl hr;obtain⟨m1,m2⟩:=xB (at_:=at_) h ho F S;unfold Ch;rw[hx,L];simp only[B2,hr,Bn,DF];rw[Oper.upon_skip];exact hn _ _ g (m1.put dst (.undef _)) m2 (e8 _ _ _)
    split at c
    ·rename_i j u W;simp only[Ab,Ae] at c;obtain⟨M,Z,I⟩:=pR (w:=w) Y J C o W;cases M with
     |none=>exact I.elim
     |some p'=>
     obtain⟨j',u'⟩:=p';obtain⟨rfl,hj,⟨k2,he⟩,en,G,rfl,R⟩:=I;simp only[CG,BM] at G;refine fin _ _ _ (o.set (i:=j') C r3) c.1.symm c.2.symm ?_;simp[Cf,run_underlying hu,Go.MapKept.run_getObj_map F,z,Z,G,keeps R,Go.MapKept.run_setObj_map _ F]
    ·rename_i W;simp only[Ab,Ae] at c;obtain⟨M,Z,I⟩:=pR (w:=w) Y J C o W;cases M with
     |some p=>exact I.elim
     |none=>
     refine fin _ _ _ (o.push C r3) c.1.symm c.2.symm ?_;simp[Cf,run_underlying hu,Go.MapKept.run_getObj_map F,z,Z,Go.MapKept.run_setObj_map _ F]
    ·simp at c
   ·simp at c
  ·simp at c
 simp only[mO] at m;split at m;·rename_i t q k' r;simp only[Aa] at m;exact A t q k' r (λρ d ty pos aft gd=>by simp[execOp]) m.1 m.2.1 m.2.2.1 m.2.2.2
 ·rename_i t q k' r;simp only[Aa] at m;exact A t q k' r (λρ d ty pos aft gd=>by simp[execOp]) m.1 m.2.1 m.2.2.1 m.2.2.2
 ·simp at m
theorem ze{kk n:Nat}{zero:List D}{agg:Bool}{x k:ac}(o:mO P cx (.ment kk n zero agg x k) op=true)(d:eff at_ s.E s.H (.ment kk n zero agg x k)=some (v,ws))(h:SG g cx s w a)(hn:ax at_ cx g s w a dst v ws next):(⟨dst,op,ty,pos,aft,gd⟩:Oper).wp P a w next Q:=by
 simp only[mO] at o;split at o
 ·rename_i t x' k';simp only[Aa] at o;obtain⟨h1,h2,h3⟩:=o;obtain⟨kt,e,hu,ht,hz⟩:=tZ h1;have r1:=af h2 h;have J:=af h3 h;obtain⟨z,z1,z2⟩:=aaB (g:=g) hz;simp only[eff,aI] at d;obtain⟨S,d⟩:=d;split at d
  ·rename_i id ad;rw[ad] at r1;split at d
   ·rename_i es hm;rw[aI] at d;obtain⟨N,d⟩:=d;simp only[Bb,fa,Aw] at N;have ho:=se hm;obtain⟨ents,clock,M,m⟩:=h.hr.map _ _ ho;generalize W:a.eval x'=b3 at r1;cases r1;have B:=vH (w:=w) ht S J false;have L:∀i:Nat,i<=1000000000->VRel g (.int .i64 (.ofNat i)) (goInt i):=λi hi=>.int _ _ (sd (by unfold maxI;omega))
    have A:∀(p q:D)(X qv:Value),VRel g p X->VRel g q qv->VRel g (.tup [p,q]) (.tuple #[X,qv]):=by
     intro p q X qv hp hq;refine .tup _ _ rfl ?_;intro i c cv o r;match i with
     |0=>simp at o r;subst o r;exact hp
     |1=>simp at o r;subst o r;exact hq
     |i+2=>simp at o
    have fin:∀f b G cv,cU g G f b->VRel g v cv->ws=[(id,some (.map G))]->(CO t (.map (some (g.ρ id))) (a.eval k')).run P w=.ok cv {w with heap:=w.heap.setIfInBounds (g.ρ id) (.map f b)}->(⟨dst,.mapEntry t x' k',ty,pos,aft,gd⟩:Oper).wp P a w next Q:=by rintro f b G cv a2 hv rfl hr;obtain⟨m1,m2⟩:=xB (at_:=at_) h ho M a2;exact bQ (by simp[execOp,W,hr]) m1 m2 hv hn
    split at d
    ·rename_i j u hf;simp only[Ab,Ae] at d;obtain⟨Z,q1,O⟩:=pR (w:=w) ht S J m hf;cases Z with
     |none=>exact O.elim
     |some p'=>
     obtain⟨I,u'⟩:=p';obtain⟨rfl,hj,⟨k2,he⟩,en,y,rfl,a1⟩:=O;simp only[CG,BM] at y he;obtain⟨F, -,C⟩:=m.2.2 _ _ _ _ he y;have c4:I<es.length:=(Ad.1 he).1;obtain⟨e1,R⟩:=d;refine fin (ents.modify I λe=>{e with key:=a.eval k'}) clock _ (.tuple #[en.val,goInt I]) ?_ (e1▸A _ _ _ _ C (L _ (by omega))) R.symm ?_
     ·have:=m.set (i:=I) J C;have e3:(ents.modify I λe=>{e with key:=a.eval k',val:=en.val})=ents.modify I λe=>{e with key:=a.eval k'}:=by
       apply C9;intro q;rw[A3,A3];split;·rename_i e;subst e;rw[y];rfl
       ·rfl
      rw[e3] at this;exact this
     ·simp[CO,run_underlying hu,Go.MapKept.run_getObj_map M,B,q1,y,F,keeps a1,Go.MapKept.run_setObj_map _ M]
    ·rename_i hf;simp only[Ab,Ae] at d;obtain⟨Z,q1,O⟩:=pR (w:=w) ht S J m hf;cases Z with
     |some p=>exact O.elim
     |none=>
     obtain⟨e1,R⟩:=d;have Y:clock=es.length:=by rw[m.2.1,m.1]
     rw[fa,Aw] at e1;refine fin _ _ _ (.tuple #[z,goInt clock]) (m.push J z1) (e1▸A _ _ _ _ z1 (by rw[Y];exact L _ (by omega))) R.symm ?_;simp[CO,run_underlying hu,Go.MapKept.run_getObj_map M,B,q1,z2 w,Go.MapKept.run_setObj_map _ M]
    ·simp at d
   ·simp at d
  ·simp at d
 ·simp at o
theorem va{es:List (D×D)}{ents:Array MapEntry}{clock:Nat}(h:cU g es ents clock){i:Nat}(k:i<es.length):ents.findIdx? (λe=>(e.born:Int)==(i:Int))=some i:=by
 have f:∀j (c:j<ents.size),ents[j].born=j:=by
  intro j c;have d:j<es.length:=by rw[h.1];exact c
  exact(h.2.2 j _ _ _ (Ac d) (Ag c)).1
 have b:i<ents.size:=by rw[<-h.1];exact k
 rw[Dj];refine⟨b,by simp[f i b],?_⟩;intro j c;simp[f j (by omega)];omega
theorem zf{x i y:ac}(m:mO P cx (.mest x i y) op=true)(b:eff at_ s.E s.H (.mest x i y)=some (v,ws))(h:SG g cx s w a)(Z:ax at_ cx g s w a dst v ws next):(⟨dst,op,ty,pos,aft,gd⟩:Oper).wp P a w next Q:=by
 simp only[mO] at m;split at m
 ·rename_i t J L p;simp only[Aa] at m;obtain⟨h2,Y,h4⟩:=m;have C:=af h2 h;have F:=af Y h;have X:=af h4 h;simp only[eff] at b;split at b
  ·rename_i id q j B G;rw[B] at C;rw[G] at F;split at b
   ·rename_i es R;split at b
    ·rename_i k0 v0 N;simp only[Ab,Ae] at b;obtain⟨rfl,rfl⟩:=b;have M:=se R;obtain⟨ents,clock,I,c⟩:=h.hr.map _ _ M;generalize r:a.eval J=O at C;generalize u:a.eval L=ci at F;cases C;cases F;have o:j<es.length:=(Ad.1 N).1;have A:j<ents.size:=by rw[<-c.1];exact o
     have k:ents[j]? =some ents[j]:=Ag A;obtain⟨z,f, -⟩:=c.2.2 _ _ _ _ N k;have d:=c.set (i:=j) f X;have S:(ents.modify j λe=>{e with key:=ents[j].key,val:=a.eval p})=ents.modify j λe=>{e with val:=a.eval p}:=by
      apply C9;intro q;rw[A3,A3];split;·rename_i e;subst e;rw[k];rfl
      ·rfl
     rw[S] at d;obtain⟨m1,m2⟩:=xB (at_:=at_) h M I d;have W:=va c o;have hr:(execOp a.eval ⟨dst,.entryStore t J L p,ty,pos,aft,gd⟩).run P w=.ok .skip {w with heap:=w.heap.setIfInBounds (g.ρ id) (.map (ents.modify j λe=>{e with val:=a.eval p}) clock)}:=by simp[execOp,Instr.entryStore,r,u,Go.MapKept.run_getObj_map I,asInt,asIntOf,W,Go.MapKept.run_setObj_map _ I]
     unfold Ch;rw[hr,Oper.upon_skip];exact Z _ _ g (m1.put dst (.undef _)) m2 (e8 _ _ _)
    ·simp at b
   ·simp at b
  ·simp at b
 ·simp at m
end
def ac.slots:ac->List Nat
 | .t n=>[n]
 | .c _=>[]
def od:Option ac->List Nat
 |some x=>x.slots
 |none=>[]
def IOp.rd:IOp->List Nat
 | .mov x| .un _ x| .cvi _ x| .cvs x| .s2b _ x| .b2s x| .i2s x| .len _ x| .fld _ _ _ x| .box _ x| .fad _ x| .ld _ _ x| .mks _ _ _ _ x| .ext _ x| .nck x=>x.slots
 | .pick c x y=>c.slots++(x.slots++y.slots)
 | .bin _ x y| .idx x y| .ixa _ x y| .ixp _ _ x y| .st _ x y| .app _ _ _ x y| .apt _ _ x y| .mx _ x y| .lkp _ _ _ _ _ x y| .ment _ _ _ _ x y| .eq _ _ x y=>x.slots++y.slots
 | .mup _ _ x y z| .mest x y z=>x.slots++(y.slots++z.slots)
 | .subs x b d| .subl _ x b d=>x.slots++(od b++od d)
 | .bsl _ _ a=>a.flatMap ac.slots
 | .bld _ a=>a.flatMap λp=>p.2.2.slots
 | .new _ _| .mkm=>[]
 | .mkf _ cs=>cs.flatMap ac.slots
 | .call _ aa=>aa.flatMap ac.slots
 | .dcall x aa=>x.slots++aa.flatMap ac.slots
def GOp.rd(x:GOp):List Nat:=(match x.g with|some (g,_)=>[g]|none=>[])++x.o.rd
def eE:D->List Nat
 | .ptr id _=>[id]
 | .sl id _ _ _ _=>[id]
 | .mp id=>[id]
 |_=>[]
def jj(E:Nat->D):IOp->List Nat
 | .ld _ _ x| .st _ x _| .b2s x| .lkp _ _ _ _ _ x _| .mup _ _ x _ _| .ment _ _ _ _ x _| .mest x _ _=>eE (x.ev E)
 | .app _ _ _ x y=>eE (x.ev E)++eE (y.ev E)
 |_=>[]
def kS(at_:Nat)(E:Nat->D)(H:Nat->Option Obj)(o:IOp):List Nat:=match eff at_ E H o with
 |some (_,ws)=>ws.map (·.1)
 |none=>[]
section
variable{E E2:Nat->D}{H H2:Nat->Option Obj}
theorem tg{x:ac}(h:∀n∈x.slots,E2 n=E n):x.ev E2=x.ev E:=by
 cases x with
 |t n=>exact h n (by simp[ac.slots])
 |c v=>rfl
theorem uZ{x:Option ac}(h:∀n∈od x,E2 n=E n):bF E2 x=bF E x:=by
 cases x with
 |none=>rfl
 |some x=>simp only[bF];rw[tg h]
theorem vJ{d:D}(h:∀id∈eE d,H2 id=H id):ik H2 d=ik H d:=by
 cases d<;>first|rfl|skip
 rename_i id _ _ _ _;simp only[ik,cells?,h id (by simp[eE])]
theorem afB{at_:Nat}{o:IOp}(C:∀n∈o.rd,E2 n=E n)(b:∀id∈jj E o,H2 id=H id):eff at_ E2 H2 o=eff at_ E H o:=by
 have e1:∀{x:ac},(∀n∈x.slots,n∈o.rd)->x.ev E2=x.ev E:=λh=>tg λn g=>C n (h n g)
 have u:∀{x:Option ac},(∀n∈od x,n∈o.rd)->bF E2 x=bF E x:=λh=>uZ λn g=>C n (h n g)
 cases o with
 |mov x=>simp only[eff,e1 (x:=x) (by simp[IOp.rd])]
 |pick c x y=>simp only[eff,e1 (x:=c) (by simp+contextual [IOp.rd]),e1 (x:=x) (by simp+contextual [IOp.rd]),e1 (x:=y) (by simp+contextual [IOp.rd])]
 |bin o x y=>simp only[eff,e1 (x:=x) (by simp+contextual [IOp.rd]),e1 (x:=y) (by simp+contextual [IOp.rd])]
 |un o x=>simp only[eff,e1 (x:=x) (by simp[IOp.rd])]
 |cvi k x=>simp only[eff,e1 (x:=x) (by simp[IOp.rd])]
 |cvs x=>simp only[eff,e1 (x:=x) (by simp[IOp.rd])]
 |s2b e x=>simp only[eff,e1 (x:=x) (by simp[IOp.rd])]
 |b2s x=>simp only[eff,e1 (x:=x) (by simp[IOp.rd]),vJ (d:=x.ev E) (λid m=>b id (by simpa [jj] using m))]
 |i2s x=>simp only[eff,e1 (x:=x) (by simp[IOp.rd])]
 |len st x=>simp only[eff,e1 (x:=x) (by simp[IOp.rd])]
 |idx x i=>simp only[eff,e1 (x:=x) (by simp+contextual [IOp.rd]),e1 (x:=i) (by simp+contextual [IOp.rd])]
 |ixa sz x i=>simp only[eff,e1 (x:=x) (by simp+contextual [IOp.rd]),e1 (x:=i) (by simp+contextual [IOp.rd])]
 |ixp n sz x i=>simp only[eff,e1 (x:=x) (by simp+contextual [IOp.rd]),e1 (x:=i) (by simp+contextual [IOp.rd])]
 |subs x v w=>simp only[eff,e1 (x:=x) (by simp+contextual [IOp.rd]),u (x:=v) (by simp+contextual [IOp.rd]),u (x:=w) (by simp+contextual [IOp.rd])]
 |subl sz x v w=>simp only[eff,e1 (x:=x) (by simp+contextual [IOp.rd]),u (x:=v) (by simp+contextual [IOp.rd]),u (x:=w) (by simp+contextual [IOp.rd])]
 |bsl e sz j=>
  have r:∀x∈j,x.ev E2=x.ev E:=λx a=>e1 λn g=>by simp only[IOp.rd,AJ];exact⟨x,a,g⟩
  have B:(j.all λx=>(x.ev E2).cells.all D.one&&Af (x.ev E2).cells.length sz)=j.all λx=>(x.ev E).cells.all D.one&&Af (x.ev E).cells.length sz:=by rw[A2,Ak,Ak];exact forall_congr' λx=>forall_congr' λa=>by rw[r x a]
  have G:(j.flatMap λx=>(x.ev E2).cells)=j.flatMap λx=>(x.ev E).cells:=by
   simp only[List.flatMap]
   congr 1
   exact AP λx a=>by rw[r x a]
  simp only[eff,B,G]
 |bld zero j=>
  have r:(j.map λp=>(p.1,p.2.1,p.2.2.ev E2))=j.map λp=>(p.1,p.2.1,p.2.2.ev E):=AP λp hp=>by rw[e1 (x:=p.2.2) λn g=>by simp only[IOp.rd,AJ];exact⟨p,hp,g⟩]
  simp only[eff,r]
 |fld A n agg x=>simp only[eff,e1 (x:=x) (by simp[IOp.rd])]
 |new e zero=>rfl
 |box e x=>simp only[eff,e1 (x:=x) (by simp[IOp.rd])]
 |fad A x=>simp only[eff,e1 (x:=x) (by simp[IOp.rd])]
 |ld n agg x=>
  simp only[eff,e1 (x:=x) (by simp[IOp.rd])];cases a:x.ev E<;>first|rfl|skip
  rename_i id o;simp only[cells?,b id (by simp[jj,a,eE])]
 |st n x y=>
  simp only[eff,e1 (x:=x) (by simp+contextual [IOp.rd]),e1 (x:=y) (by simp+contextual [IOp.rd])];cases a:x.ev E<;>first|rfl|skip
  rename_i id o;simp only[cells?,b id (by simp[jj,a,eE])]
 |app e sz t x y=>
  have B:ik H2 (y.ev E)=ik H (y.ev E):=vJ λid m=>b id (by simp[jj,m])
  simp only[eff,e1 (x:=x) (by simp+contextual [IOp.rd]),e1 (x:=y) (by simp+contextual [IOp.rd]),B];cases a:x.ev E<;>first|rfl|skip
  rename_i id o N M J;simp only[cells?,b id (by simp[jj,a,eE])]
 |apt e t x y=>simp only[eff,e1 (x:=x) (by simp+contextual [IOp.rd]),e1 (x:=y) (by simp+contextual [IOp.rd])]
 |mks e sz t zero x=>simp only[eff,e1 (x:=x) (by simp[IOp.rd])]
 |ext i x=>simp only[eff,e1 (x:=x) (by simp[IOp.rd])]
 |nck x=>simp only[eff,e1 (x:=x) (by simp[IOp.rd])]
 |mx L x y=>simp only[eff,e1 (x:=x) (by simp+contextual [IOp.rd]),e1 (x:=y) (by simp+contextual [IOp.rd])]
 |mkf f cs=>
  have r:cs.map (·.ev E2)=cs.map (·.ev E):=AP λx a=>e1 λn g=>by simp only[IOp.rd,AJ];exact⟨x,a,g⟩
  simp only[eff,r]
 |mkm=>rfl
 |lkp z n zero agg ok x k=>
  simp only[eff,e1 (x:=x) (by simp+contextual [IOp.rd]),e1 (x:=k) (by simp+contextual [IOp.rd])];have F:wb H2 (x.ev E)=wb H (x.ev E):=by
   cases a:x.ev E<;>first|rfl|skip
   rename_i id;simp only[wb,pd,b id (by simp[jj,a,eE])]
  simp only[xv,vA,wc,F]
 |mup z n x k y=>
  simp only[eff,e1 (x:=x) (by simp+contextual [IOp.rd]),e1 (x:=k) (by simp+contextual [IOp.rd]),e1 (x:=y) (by simp+contextual [IOp.rd])];cases a:x.ev E<;>first|rfl|skip
  rename_i id;simp only[pd,b id (by simp[jj,a,eE])]
 |ment z n zero agg x k=>
  simp only[eff,e1 (x:=x) (by simp+contextual [IOp.rd]),e1 (x:=k) (by simp+contextual [IOp.rd])];cases a:x.ev E<;>first|rfl|skip
  rename_i id;simp only[pd,b id (by simp[jj,a,eE])]
 |mest x i y=>
  simp only[eff,e1 (x:=x) (by simp+contextual [IOp.rd]),e1 (x:=i) (by simp+contextual [IOp.rd]),e1 (x:=y) (by simp+contextual [IOp.rd])];cases a:x.ev E<;>first|rfl|skip
  rename_i id;cases i.ev E<;>first|rfl|skip
  rename_i q n;cases n<;>first|rfl|skip
  simp only[pd,b id (by simp[jj,a,eE])]
 |eq z I x y=>simp only[eff,e1 (x:=x) (by simp+contextual [IOp.rd]),e1 (x:=y) (by simp+contextual [IOp.rd])]
 |call f aa=>rfl
 |dcall x aa=>rfl
end
def g9(M:List Nat)(H:Nat->Option Obj):Nat->Option Obj:=λid=>if id∈M then none else H id
def ey(M:List Nat)(H a:Nat->Option Obj):Nat->Option Obj:=λid=>if id∈M then H id else a id
def pw(Γ:Sp)(at_:Nat)(M:List Nat)(x:GOp)(s s':FS):Prop:=match x.o with
 | .call f aa=>∃(hp:Hp)(v:D)(hp':Hp),hp.t.get=g9 M s.H∧hp.n=s.n∧Γ f (aa.map (·.ev s.E)) hp=some (v,hp')∧s'=⟨dH s.E x.d v,ey M s.H hp'.t.get,hp'.n⟩
 | .dcall y aa=>∃f cs,y.ev s.E=.fn f cs∧∃(hp:Hp)(v:D)(hp':Hp),hp.t.get=g9 M s.H∧hp.n=s.n∧Γ f (aa.map (·.ev s.E)++cs) hp=some (v,hp')∧s'=⟨dH s.E x.d v,ey M s.H hp'.t.get,hp'.n⟩
 |o=>∃v ws,eff at_ s.E s.H o=some (v,ws)∧s'=⟨dH s.E x.d v,bE s.H ws,s.n⟩
def jk(E:Nat->D):Option (Nat×Bool)->Option Bool
 |none=>some true
 |some (g,w)=>match E g with
  | .bool b=>some (b==w)
  | .tup []=>some false
  |_=>none
def mI(Γ:Sp)(at_:Nat)(M:List Nat)(x:GOp)(s s':FS):Prop:=match jk s.E x.g with
 |some true=>pw Γ at_ M x s s'
 |some false=>s'=⟨dH s.E x.d (.tup []),s.H,s.n⟩
 |none=>False
theorem ahw(n0:Nat)(a:List Nat)(h:Hp):(hide n0 a h).t.get=g9 (a.map (n0+·)) h.t.get∧(hide n0 a h).n=h.n:=by
 obtain⟨b,c⟩:=zQ (a.map λi=>(n0+i,none)) h;refine⟨b.trans ?_,c⟩;have:∀(a:List Nat)(H:Nat->Option Obj),bE H (a.map λi=>(n0+i,none))=g9 (a.map (n0+·)) H:=by
  intro a;induction a with
  |nil=>intro H;funext id;simp[bE,g9]
  |cons i a d=>
   intro H;show bE (upd H (n0+i) none) (a.map λi=>(n0+i,none))=_;rw[d];funext id;simp only[g9,upd,AI,AT];by_cases b:id∈a.map (n0+·);·simp[b]
   ·by_cases c:id=n0+i<;>simp[b,c]
 exact this a _
theorem ahx(n0:Nat)(a:List Nat)(h b:Hp):(back n0 a h b).t.get=ey (a.map (n0+·)) h.t.get b.t.get∧(back n0 a h b).n=b.n:=by
 obtain⟨c,d⟩:=zQ (a.map λi=>(n0+i,h.t.get (n0+i))) b;refine⟨c.trans ?_,d⟩;have:∀(a:List Nat)(H:Nat->Option Obj),bE H (a.map λi=>(n0+i,h.t.get (n0+i)))=ey (a.map (n0+·)) h.t.get H:=by
  intro a;induction a with
  |nil=>intro H;funext id;simp[bE,ey]
  |cons i a e=>
   intro H;show bE (upd H (n0+i) (h.t.get (n0+i))) (a.map λi=>(n0+i,h.t.get (n0+i)))=_;rw[e];funext id;simp only[ey,upd,AI,AT];by_cases c:id∈a.map (n0+·);·simp[c]
   ·by_cases d:id=n0+i<;>simp[c,d]
 exact this a _
theorem afC{Γ:Sp}{at_ n n0:Nat}{c:List Nat}{x:GOp}{s:St}{R:Type}{k:St->Option R}{r:R}(j:x.o.isCall=true->n=s.hp.n)(h:step Γ at_ n n0 c x s k=some r):
  ∃s',k s'=some r∧pw Γ at_ (c.map (n0+·)) x ⟨s.fs.E,s.fs.H,n⟩ s'.fs:=by
 have e:∀f b v hp,Γ f b (hide n0 c s.hp)=some (v,hp)->tX ⟨s.env,back n0 c s.hp hp⟩ x.d v k=some r->n=s.hp.n->
   ∃s',k s'=some r∧∃(hp:Hp)(v:D)(hp':Hp),hp.t.get=g9 (c.map (n0+·)) s.fs.H∧hp.n=n∧Γ f b hp=some (v,hp')∧s'.fs=⟨dH s.fs.E x.d v,ey (c.map (n0+·)) s.fs.H hp'.t.get,hp'.n⟩:=by
  intro f b v hp g q j;rw[kU] at q;obtain⟨m,p⟩:=ahw n0 c s.hp;obtain⟨u,z⟩:=ahx n0 c s.hp hp;refine⟨_,q,_,v,hp,m,p.trans j.symm,g,?_⟩;rw[yD];show FS.mk (dH s.fs.E x.d v) (back n0 c s.hp hp).t.get (back n0 c s.hp hp).n=_;rw[u,z];rfl
 obtain⟨d,C,o⟩:=x;unfold step at h;unfold pw;cases a:IOp.isCall o with
 |true=>
  simp only[a,cond_true] at h;unfold aba at h;split at h
  ·rename_i f aa i;simp only at i;subst i;split at h;·rename_i v hp g;exact e _ _ v hp g h (j rfl)
   ·simp at h
  ·rename_i y aa i;simp only at i;subst i;split at h
   ·rename_i f cs B;split at h;·rename_i v hp g;obtain⟨s',m,p⟩:=e _ _ v hp g h (j rfl);exact⟨s',m,f,cs,B,p⟩
    ·simp at h
   ·simp at h
  ·simp at h
 |false=>
  simp only[a,cond_false,zO] at h;unfold yC at h;split at h
  ·rename_i v ws A;have key:∃s',k s'=some r∧s'.fs=⟨dH s.fs.E d v,bE s.fs.H ws,n⟩:=by
    obtain⟨w,p2⟩:=zQ ws ⟨n,s.hp.t⟩;simp only[j8,vE,tY,hD,kU,Bool.cond_self] at h;·refine⟨_,h,?_⟩;rw[yD];show FS.mk (dH s.fs.E d v) ((⟨n,s.hp.t⟩:Hp).puts ws).t.get n=_;rw[w];rfl
   obtain⟨s',k1,k2⟩:=key;refine⟨s',k1,?_⟩;cases o<;>first|exact⟨v,ws,A,k2⟩|(simp[IOp.isCall] at a)
  ·simp at h
theorem adI{Γ:Sp}{at_ n n0:Nat}{m:List Nat}{x:GOp}{s:St}{R:Type}{k:St->Option R}{r:R}(j:x.o.isCall=true->n=s.hp.n)(p:x.g.isSome=true->n=s.hp.n∨x.o.makes=true)(h:aW Γ at_ n n0 m x s k=some r):
  ∃s' i,(i=n∨(i=s.hp.n∧jk s.fs.E x.g=some false))∧k s'=some r∧mI Γ at_ (m.map (n0+·)) x ⟨s.fs.E,s.fs.H,i⟩ s'.fs:=by
 unfold aW at h;unfold mI;split at h;·rename_i e;obtain⟨s',d,f⟩:=afC j h;refine⟨s',n,.inl rfl,d,?_⟩;rw[e];exact f
 ·rename_i g w e;rw[e];simp only[jk];split at h
  ·rename_i b c;rw[c];cases a:(b==w) with
   |true=>rw[a] at h;obtain⟨s',d,f⟩:=afC j h;refine⟨s',n,.inl rfl,d,?_⟩;simp only[a];exact f
   |false=>rw[a] at h;simp only[cond_false,kU] at h;refine⟨_,s.hp.n,.inr ⟨rfl,by simp only[jk,c,a]⟩,h,?_⟩;simp only[a];exact yD _ _ _
  ·rename_i c;rw[c];simp only[kU] at h;exact⟨_,s.hp.n,.inr ⟨rfl,by simp only[jk,c]⟩,h,yD _ _ _⟩
  ·simp at h
def qL:Op->Option (FuncId×List Operand)
 | .call c=>match c.callee with| .value (.func f)=>some (f,c.args.toList)|_=>none
 |_=>none
def qM:Op->Option (Operand×List Operand)
 | .call c=>match c.callee with| .value (.tmp n)=>some (.tmp n,c.args.toList)|_=>none
 |_=>none
def kJ(P:Program)(f:FuncId):Bool:=match P.funcs[f]? with|some fn=>fn.body.isSome&&fn.name !="runtime.NumGoroutine"|none=>false
def iS(P:Program)(cx:Cx)(T:Nat->Bool)(o:IOp)(m:Op):Bool:=match o with
 | .call f aa=>(match qL m with|some (d,b)=>(f==d)&&(gJ cx aa b&&T f)|none=>false)
 | .dcall x aa=>(match qM m with|some (c,b)=>ag cx x c&&gJ cx aa b|none=>false)
 |_=>false
def oX(P:Program)(cx:Cx)(T:Nat->Bool)(c:Array Oper)(x:GOp)(m:Oper):Bool:=
 (bT P cx x.o m.op||(gI P cx x.o m.op||(mO P cx x.o m.op||iS P cx T x.o m.op)))&&((x.d==m.dst)&&(match x.g,m.guard with
  |none,none=>true
  |some (n,b),some (j,e)=>(b==e)&&(((c[j]?).bind (·.dst)==some n)&&AV n cx.nt)
  |_,_=>false))
def FnOK(P:Program)(G:List Nat)(f:FuncId)(vs:List D)(hp:Hp)(v:D)(hp':Hp):Prop:=
 ∀(w:World)(g:Gh)(cargs:Array Value),HR g hp.t.get hp.n w->(∀(i b:Nat),G[i]? =some b->g.A i∧g.ρ i=b)->vs.length=cargs.size->(∀(i:Nat) x cv,vs[i]? =some x->cargs[i]? =some cv->VRel g x cv)->
  Calls P f cargs w λe w'=>∃cv g',e=.returned cv∧HR g' hp'.t.get hp'.n w'∧FR (λid=>hp.n<=id) g hp.t.get w g' hp'.t.get w'∧VRel g' v cv∧hp.n<=hp'.n
def bt(P:Program)(G:List Nat)(Γ:Sp):Prop:=∀f vs hp v hp',Γ f vs hp=some (v,hp')->kJ P f=true∧FnOK P G f vs hp v hp'
section
variable{g g':Gh}{cx:Cx}{s s':FS}{w w':World}{a:Act}{P:Program}{Γ:Sp}{at_:Nat}{M:List Nat}{T:Nat->Bool}{v:D}{ws:List (Nat×Option Obj)}{next:Act->World->Prop}{Q:Exit->Act->World->Prop}
theorem tE{m:Oper}{o:IOp}(b:bT P cx o m.op=true∨gI P cx o m.op=true∨mO P cx o m.op=true)(d:eff at_ s.E s.H o=some (v,ws))(h:SG g cx s w a)(e:o.makes=true->¬g.A at_∧at_<s.n)
  (c:ax at_ cx g s w a m.dst v ws next):m.wp P a w next Q:=by
 obtain⟨dst,k,j,i,f,p⟩:=m;rcases b with b|b|b
 ·cases o with
  |mov=>exact aby b d h c
  |pick=>exact y6 b d h c
  |bin=>exact abr b d h c
  |un=>exact ad0 b d h c
  |cvi=>exact aia b d h c
  |cvs=>exact aib b d h c
  |i2s=>exact aic b d h c
  |len=>exact aid b d h c
  |idx=>exact abq b d h c
  |ixa=>exact abt b d h c
  |ixp=>exact aie b d h c
  |subs=>exact y7 b d h c
  |subl=>exact ahv b d h c
  |fld=>exact aif b d h c
  |fad=>exact abu b d h c
  |ld=>exact xI b d h c
  |ext=>exact abv b d h c
  |nck=>exact abw b d h c
  |mx=>exact ad1 b d h c
  |mkf=>exact abE b d h c
  |eq=>exact ajE b d h c
  |b2s=>exact aig b d h c
  |_=>simp[bT] at b
 ·cases o with
  |new=>exact aih b d h (e rfl).1 (e rfl).2 c
  |box=>exact abB b d h (e rfl).1 (e rfl).2 c
  |bsl=>exact abz b d h (e rfl).1 (e rfl).2 c
  |bld=>exact abC b d h c
  |mks=>exact aii b d h (e rfl).1 (e rfl).2 c
  |st=>exact ad2 b d h c
  |app=>exact abA b d h (e rfl).1 (e rfl).2 c
  |apt=>exact aij b d h (e rfl).1 (e rfl).2 c
  |mkm=>exact abS b d h (e rfl).1 (e rfl).2 c
  |_=>simp[gI] at b
 ·cases o with
  |lkp=>exact aik b d h c
  |mup=>exact ail b d h c
  |ment=>exact ze b d h c
  |mest=>exact zf b d h c
  |_=>simp[mO] at b
theorem ss{o:Op}{f:FuncId}{aa:List Operand}(h:qL o=some (f,aa)):∃ts,o=.call ⟨.value (.func f),⟨aa⟩,ts⟩:=by
 unfold qL at h;split at h
 ·rename_i c;obtain⟨b,⟨d⟩,e⟩:=c;simp only at h;split at h;·simp only[Ab,Ae] at h;obtain⟨rfl,rfl⟩:=h;exact⟨_,rfl⟩
  ·simp at h
 ·simp at h
theorem su{o:Op}{x:Operand}{aa:List Operand}(h:qM o=some (x,aa)):∃ts,o=.call ⟨.value x,⟨aa⟩,ts⟩:=by
 unfold qM at h;split at h
 ·rename_i c;obtain⟨b,⟨d⟩,e⟩:=c;simp only at h;split at h;·simp only[Ab,Ae] at h;obtain⟨rfl,rfl⟩:=h;exact⟨_,rfl⟩
  ·simp at h
 ·simp at h
theorem rO{x:Nat->Option Obj}{G:Nat}{cv:Value}{dst:Option Nat}(h:SG g cx s w a)(F:HR g' x G w')(r:FR (λid=>s.n<=id) g (g9 M s.H) w g' x w')(W:VRel g' v cv)(Y:s.n<=G):
  SG g' cx ⟨dH s.E dst v,ey M s.H x,G⟩ w' (a.put dst cv)∧FR (λid=>s.n<=id) g s.H w g' (ey M s.H x) w':=by
 have k:∀id o,g9 M s.H id=some o->id ∉ M∧s.H id=some o:=by
  intro id o c;simp only[g9] at c;split at c;·simp at c
  ·exact⟨by assumption,c⟩
 have d:∀id o,id∈M->s.H id=some o->g.A id∧g'.ρ id=g.ρ id∧g.ρ id<w.heap.size∧w'.heap[g.ρ id]? =w.heap[g.ρ id]?:=by intro id o q f;have L:=h.hr.made id o f;have B:=h.hr.block f;refine⟨L,r.up.ρ id L,B,r.block _ B ?_⟩;intro p o' u e;obtain⟨z,J⟩:=k p o' u;exact h.hr.apart p id o' o J f (by rintro rfl;exact z q) e
 have look:∀id o,ey M s.H x id=some o->(id∈M∧s.H id=some o)∨(id ∉ M∧x id=some o):=by
  intro id o c;simp only[ey] at c;split at c;·exact .inl ⟨by assumption,c⟩
  ·exact .inr ⟨by assumption,c⟩
 have t:∀i j o o',i∈M->s.H i=some o->x j=some o'->g'.ρ i≠g'.ρ j:=by
  intro i j o o' q f m e;obtain⟨R,m2,S,O⟩:=d i o q f;rcases r.live j o' m with u|⟨p,N,u,z⟩
  ·rw[m2] at e;omega
  ·obtain⟨J,X⟩:=k p N u;refine h.hr.apart i p o N f X (by rintro rfl;exact J q) ?_;rw[z,<-e,m2]
 refine⟨⟨HR.of ?_ ?_ ?_ F.lt,(h.er.up r.up).put dst W,?_⟩,⟨r.os,r.tape,r.output,r.size,?_,r.up,r.fresh,?_⟩⟩
 ·intro id o c;rcases look id o c with⟨q,f⟩|⟨q,f⟩
  ·obtain⟨R,m2,S,O⟩:=d id o q f;obtain⟨b,k1,k2⟩:=h.hr.holds f;exact⟨b,by rw[m2,O];exact k1,k2.up r.up R⟩
  ·exact F.holds f
 ·intro i j o o' u z C;rcases look i o u with⟨q,f⟩|⟨q,f⟩<;>rcases look j o' z with⟨y,m⟩|⟨y,m⟩
  ·rw[(d i o q f).2.1,(d j o' y m).2.1];exact h.hr.apart i j o o' f m C
  ·exact t i j o o' q f m
  ·exact(t j i o' o y m f).symm
  ·exact F.apart i j o o' f m C
 ·intro id o c;rcases look id o c with⟨q,f⟩|⟨q,f⟩
  ·exact r.up.A id (h.hr.made id o f)
  ·exact F.made id o f
 ·intro i b B;obtain⟨k1,k2⟩:=h.gl i b B;exact⟨r.up.A i k1,(r.up.ρ i k1).trans k2⟩
 ·intro b B I;refine r.block b B ?_;intro id o c;exact I id o (k id o c).2
 ·intro id o c;rcases look id o c with⟨q,f⟩|⟨q,f⟩
  ·exact .inr ⟨id,o,f,(d id o q f).2.1.symm⟩
  ·rcases r.live id o f with u|⟨p,o',u,z⟩
   ·exact .inl u
   ·exact .inr ⟨p,o',(k p o' u).2,z⟩
theorem HR.hide(h:HR g s.H s.n w):HR g (g9 M s.H) s.n w:=by
 have b:∀id o,g9 M s.H id=some o->s.H id=some o:=by
  intro id o c;simp only[g9] at c;split at c;·simp at c
  ·exact c
 exact HR.of (λid o c=>h.holds (b id o c)) (λi j o o' d e=>h.apart i j o o' (b _ _ d) (b _ _ e)) (λid o c=>h.made id o (b id o c)) h.lt
def aeF(cx:Cx)(g:Gh)(s:FS)(w:World)(a:Act)(at_:Nat)(s':FS)(next:Act->World->Prop):Prop:=
 ∀b w' g',SG g' cx s' w' b->FR (λid=>id=at_∨s.n<=id) g s.H w g' s'.H w'->s.n<=s'.n->b.defers=a.defers->next b w'
theorem enter{f:Nat}{cargs:Array Value}{vs:List D}{hp hp':Hp}{m:Oper}(p:bt P cx.G Γ)(A:Γ f vs hp=some (v,hp'))(r:hp.t.get=g9 M s.H)(j:hp.n=s.n)(h:SG g cx s w a)
  (b:kJ P f=true->(execOp a.eval m).run P w=.ok (.enter f cargs) w) (F:vs.length=cargs.size) (c:∀(i:Nat) x cv,vs[i]? =some x->cargs[i]? =some cv->VRel g x cv)
  (o:aeF cx g s w a at_ ⟨dH s.E m.dst v,ey M s.H hp'.t.get,hp'.n⟩ next):m.wp P a w next Q:=by
 obtain⟨B,d⟩:=p _ _ _ _ _ A;unfold Ch;rw[b B,Oper.upon_enter];refine(d w g cargs (by rw[r,j];exact h.hr.hide) h.gl F c).mono ?_;rintro e w' ⟨cv,g',rfl,y,u,z,k⟩;simp only;rw[r,j] at u;rw[j] at k;obtain⟨C,I⟩:=rO (dst:=m.dst) h y u z k;exact o _ _ _ C (I.weaken (λid q=>.inr q)) k (e8 _ _ _)
theorem adJ{f:Nat}(b:kJ P f=true):∃fn,P.funcs[f]? =some fn∧fn.body.isNone=false∧fn.name≠"runtime.NumGoroutine":=by
 unfold kJ at b;split at b;·rename_i fn c;simp only[Aa,bne_iff_ne,ne_eq] at b;refine⟨fn,c,?_,b.2⟩;cases d:fn.body<;>simp_all
 ·simp at b
theorem yJ{m:Oper}{x:GOp}(J:bt P cx.G Γ)(b:bT P cx x.o m.op=true∨gI P cx x.o m.op=true∨mO P cx x.o m.op=true∨iS P cx T x.o m.op=true)(hd:x.d=m.dst)(z:pw Γ at_ M x s s')(h:SG g cx s w a)
  (hf:x.o.makes=true->¬g.A at_∧at_<s.n) (k:aeF cx g s w a at_ s' next):m.wp P a w next Q:=by
 have j:(bT P cx x.o m.op=true∨gI P cx x.o m.op=true∨mO P cx x.o m.op=true)->(∃v ws,eff at_ s.E s.H x.o=some (v,ws)∧s'=⟨dH s.E x.d v,bE s.H ws,s.n⟩)->m.wp P a w next Q:=by rintro b ⟨v,ws,he,rfl⟩;refine tE b he h hf ?_;intro a' w' g' k1 k2 k3;rw[hd] at k;exact k a' w' g' k1 (k2.weaken (λid Y=>.inl Y)) (Ao _) k3
 obtain⟨d,gd,o⟩:=x;obtain⟨dst,op,ty,C,I,B⟩:=m;simp only at hd b j k hf;subst hd;unfold pw at z;simp only at z;split at z
 ·rename_i f aa;obtain⟨hp,v,hp',L,Z,N,rfl⟩:=z;rcases b with b|b|b|b;·simp[bT] at b
  ·simp[gI] at b
  ·simp[mO] at b
  ·simp only[iS] at b;split at b;·rename_i f' c r;obtain⟨ts,rfl⟩:=ss r;simp only[Aa,beq_iff_eq] at b;obtain⟨rfl,W, -⟩:=b;obtain⟨k1,k2⟩:=lN h aa c W;refine enter (m:=⟨d,.call ⟨.value (.func f),⟨c⟩,ts⟩,ty,C,I,B⟩) (cargs:=(c.map a.eval).toArray) J N L Z h ?_ (by simp[k1]) (λi x cv u e=>k2 i x cv u (by simpa using e)) k;intro X;obtain⟨fn,O,t,R⟩:=adJ X;simp[execOp,resolve,Act.eval,Dt,invoke,callFunc,O,R,t];intro q;rw[q] at t;simp at t
   ·simp at b
 ·rename_i y aa;obtain⟨f,cs,hy,hp,v,hp',L,Z,N,rfl⟩:=z;rcases b with b|b|b|b;·simp[bT] at b
  ·simp[gI] at b
  ·simp[mO] at b
  ·simp only[iS] at b;split at b
   ·rename_i x' c r;obtain⟨ts,rfl⟩:=su r;simp only[Aa] at b;obtain⟨h0,W⟩:=b;have S:=af h0 h;rw[hy] at S;obtain⟨k1,k2⟩:=lN h aa c W;generalize e:a.eval x'=a2 at S;cases S with
    |fn _ _ vs hl hv=>
    refine enter (m:=⟨d,.call ⟨.value x',⟨c⟩,ts⟩,ty,C,I,B⟩) (cargs:=(c.map a.eval).toArray++vs) J N L Z h ?_ (by simp[k1,hl]) ?_ k;·intro X;obtain⟨fn,O,t,R⟩:=adJ X;simp[execOp,resolve,e,Dt,invoke,callFunc,O,R,t];intro q;rw[q] at t;simp at t
    ·intro i x cv u e;have p:(aa.map (·.ev s.E)).length=(c.map a.eval).length:=by simp[k1]
     rcases AG i (c.map a.eval).length with F|F;·rw[Am (by rw[p];exact F)] at u;rw[BD (by simpa using F)] at e;exact k2 i x cv u (by simpa using e)
     ·rw[Aj (by rw[p];exact F)] at u;rw[D3 (by simpa using F)] at e;refine hv _ x cv u ?_;rw[p];simpa using e
   ·simp at b
 ·rename_i n1 n2;refine j ?_ z;rcases b with b|b|b|b;·exact .inl b
  ·exact .inr (.inl b)
  ·exact .inr (.inr b)
  ·exfalso;cases o<;>first|exact absurd rfl (n1 _ _)|exact absurd rfl (n2 _ _)|simp[iS] at b
theorem rP(C:bt P cx.G Γ){i:Array Oper}{j:Nat}{m:Oper}(B:i[j]? =some m){x:GOp}(F:oX P cx T i x m=true)(f:mI Γ at_ M x s s')(h:SG g cx s w a)
  (R:x.o.makes=true->jk s.E x.g=some true->¬g.A at_∧at_<s.n) (q:aeF cx g s w a at_ s' next):wpOp P i Q j next a w:=by
 simp only[oX,Aa,AQ,beq_iff_eq] at F;obtain⟨F,O,k⟩:=F;have skip:s'=⟨dH s.E x.d (.tup []),s.H,s.n⟩->next (a.put m.dst undef) w:=by rintro rfl;rw[O] at q;exact q _ _ g (h.put m.dst (.tup [] #[] rfl (by simp))) (FR.refl _ _ _ _) (Ao _) (e8 _ _ _)
 unfold wpOp;rw[B];simp only;unfold mI at f;cases u:x.g with
 |none=>
  rw[u] at k f;cases e:m.guard with
  |some p=>rw[e] at k;simp at k
  |none=>
  rw[if_pos (by simp[BW,e])];exact .inl (yJ (T:=T) C F O f h (λB=>R B (by rw[u];rfl)) q)
 |some p=>
  obtain⟨n,b⟩:=p;rw[u] at k f;cases e:m.guard with
  |none=>rw[e] at k;simp at k
  |some p=>
  obtain⟨W,X⟩:=p;rw[e] at k;simp only[Aa,beq_iff_eq,Bb] at k;obtain⟨rfl,S,I⟩:=k;have y:n<a.tmps.size:=by rw[h.er.size];exact I
  have r:=h.er.rel n I;have N:a.tmps[n]? =some (a.tmps.getD n undef):=by simp[BA,y,Ag y]
  generalize a.tmps.getD n undef=cv at r N;simp only[jk] at f;cases J:s.E n with
  |bool t=>
   rw[J] at r f;cases r;have L:BW m (yielded i a.tmps)=(t==b):=by simp[BW,e,yielded,S,N]
   rw[L];cases z:(t==b) with
   |true=>simp only[z] at f;rw[if_pos rfl];exact .inl (yJ (T:=T) C F O f h (λB=>R B (by rw[u];simp only[jk,J,z])) q)
   |false=>simp only[z] at f;rw[if_neg (by simp)];exact skip f
  |tup cs=>
   rw[J] at r f;cases cs with
   |cons c cs=>exact f.elim
   |nil=>
   cases r;have L:BW m (yielded i a.tmps)=false:=by simp[BW,e,yielded,S,N]
   rw[L,if_neg (by simp)];exact skip f
  |_=>rw[J] at f;exact f.elim
end
structure AOp where
 x:GOp
 at_:Nat
 M:List Nat
 cl:Bool
 R:List Nat
 W:List Nat
 U:Nat->Prop
def ez(Γ:Sp)(a:AOp)(s s':FS):Prop:=match a.cl with
 |false=>∃u ws,s'=⟨dH s.E a.x.d u,bE s.H ws,s.n⟩∧(∀p∈ws,p.1∈a.W)∧∀t:FS,(∀n∈a.x.rd,t.E n=s.E n)->(∀id∈a.R,t.H id=s.H id)->mI Γ a.at_ a.M a.x t ⟨dH t.E a.x.d u,bE t.H ws,t.n⟩
 |true=>∃u b c,s'=⟨dH s.E a.x.d u,ey a.M s.H b,c⟩∧(∀id,a.U id->id ∉ a.M->b id=s.H id)∧∀t:FS,(∀n∈a.x.rd,t.E n=s.E n)->t.n=s.n->g9 a.M t.H=g9 a.M s.H->mI Γ a.at_ a.M a.x t ⟨dH t.E a.x.d u,ey a.M t.H b,c⟩
theorem ez.step{Γ:Sp}{a:AOp}{s s':FS}(h:ez Γ a s s'):mI Γ a.at_ a.M a.x s s':=by
 unfold ez at h;split at h;·obtain⟨u,ws,rfl,_,h⟩:=h;exact h s (λ_ _=>rfl) (λ_ _=>rfl)
 ·obtain⟨u,b,c,rfl,_,h⟩:=h;exact h s (λ_ _=>rfl) rfl rfl
def qz(x y:GOp):Prop:=(∀d,x.d=some d->d ∉ y.rd)∧(∀d,y.d=some d->d ∉ x.rd)∧(∀d,x.d=some d->y.d≠some d)
def nS(a b:AOp):Prop:=match a.cl,b.cl with
 |false,false=>(∀i∈a.W,i ∉ b.R∧i ∉ b.W)∧∀i∈a.R,i ∉ b.W
 |false,true=>(∀i∈a.W,i∈b.M)∧∀i∈a.R,i∈b.M∨b.U i
 |true,false=>(∀i∈b.W,i∈a.M)∧∀i∈b.R,i∈a.M∨a.U i
 |true,true=>False
theorem adK{E:Nat->D}{d:Option Nat}{v:D}{n:Nat}(h:d≠some n):dH E d v n=E n:=by
 cases d with
 |none=>rfl
 |some d=>simp only[dH,upd];rw[if_neg (by rintro rfl;exact h rfl)]
theorem vK{E:Nat->D}{d e:Option Nat}{u v:D}(h:∀n,d=some n->e≠some n):dH (dH E d u) e v=dH (dH E e v) d u:=by
 cases d with
 |none=>rfl
 |some d=>
 cases e with
 |none=>rfl
 |some e=>
  have b:d≠e:=by rintro rfl;exact h d rfl rfl
  funext n;simp only[dH,upd];by_cases c:n=e;·subst c;simp[Cr b]
  ·by_cases f:n=d;·subst f;simp[b]
   ·simp[c,f]
theorem pS{ws:List (Nat×Option Obj)}:∀{H:Nat->Option Obj}{i:Nat},(∀p∈ws,p.1≠i)->bE H ws i=H i:=by
 induction ws with
 |nil=>intro H i _;rfl
 |cons p ws c=>intro H i h;show bE (upd H p.1 p.2) ws i=_;rw[c (λq b=>h q (AH _ b))];simp only[upd];rw[if_neg (λe=>h p (AD ..) e.symm)]
theorem afD{ws:List (Nat×Option Obj)}:∀{H:Nat->Option Obj}{i:Nat}{o:Option Obj},(∀p∈ws,p.1≠i)->bE (upd H i o) ws=upd (bE H ws) i o:=by
 induction ws with
 |nil=>intro H i o _;rfl
 |cons p ws d=>
  intro H i o h;show bE (upd (upd H i o) p.1 p.2) ws=upd (bE (upd H p.1 p.2) ws) i o;rw[<-d (λq e=>h q (AH _ e))]
  congr 1
  funext j;simp only[upd];have:=h p (AD ..);by_cases b:j=p.1;·subst b;simp[this]
  ·by_cases c:j=i;·subst c;simp[Cr this]
   ·simp[b,c]
theorem aeG{vs:List (Nat×Option Obj)}:∀{ws:List (Nat×Option Obj)}{H:Nat->Option Obj},(∀p∈vs,∀q∈ws,p.1≠q.1)->bE (bE H vs) ws=bE (bE H ws) vs:=by
 intro ws;induction ws with
 |nil=>intro H _;rfl
 |cons q ws c=>intro H h;show bE (upd (bE H vs) q.1 q.2) ws=bE (bE (upd H q.1 q.2) ws) vs;rw[<-afD (λp hp=>h p hp q (AD ..)),c (λp hp r b=>h p hp r (AH _ b))]
theorem yK{M:List Nat}{ws:List (Nat×Option Obj)}{H:Nat->Option Obj}(h:∀p∈ws,p.1∈M):g9 M (bE H ws)=g9 M H:=by
 funext i;simp only[g9];split;·rfl
 ·rename_i b;exact pS (λp hp e=>b (e▸h p hp))
theorem yL{M:List Nat}{b:Nat->Option Obj}{ws:List (Nat×Option Obj)}:∀{H:Nat->Option Obj},(∀p∈ws,p.1∈M)->ey M (bE H ws) b=bE (ey M H b) ws:=by
 induction ws with
 |nil=>intro H _;rfl
 |cons p ws e=>
  intro H h;show ey M (bE (upd H p.1 p.2) ws) b=bE (upd (ey M H b) p.1 p.2) ws;rw[e (λq d=>h q (AH _ d))]
  congr 1
  funext i;simp only[ey,upd];have:=h p (AD ..);by_cases c:i=p.1;·subst c;simp[this]
  ·simp[c]
theorem af0{Γ:Sp}{y x:AOp}(hs:qz y.x x.x)(o:nS y x){s Z s2:FS}(G:ez Γ y s Z)(I:ez Γ x Z s2):∃J,ez Γ x s J∧ez Γ y J s2:=by
 obtain⟨a1,a2,Y⟩:=hs;have A:∀(E:Nat->D)(u:D),∀n∈x.x.rd,dH E y.x.d u n=E n:=λE u n c=>adK (λe=>a1 n e c)
 have C:∀(E:Nat->D)(u:D),∀n∈y.x.rd,dH E x.x.d u n=E n:=λE u n c=>adK (λe=>a2 n e c)
 unfold nS at o;cases k:y.cl with
 |false=>
  cases j:x.cl with
  |false=>
   rw[k,j] at o;obtain⟨F,N⟩:=o;simp only[ez,k] at G;simp only[ez,j] at I;obtain⟨u,ws,rfl,r,O⟩:=G;obtain⟨v,vs,rfl,m,Q⟩:=I;have X:∀id∈x.R,bE s.H ws id=s.H id:=λid b=>pS (λp hp e=>(F _ (r p hp)).1 (e▸b))
   have gy:∀id∈y.R,bE s.H vs id=s.H id:=λid b=>pS (λp hp e=>N _ b (e▸m p hp))
   refine⟨⟨dH s.E x.x.d v,bE s.H vs,s.n⟩,?_,?_⟩;·simp only[ez,j];exact⟨v,vs,rfl,m,λt h f=>Q t (λn c=>(h n c).trans (A _ _ n c).symm) (λid b=>(f id b).trans (X id b).symm)⟩
   ·simp only[ez,k];refine⟨u,ws,?_,r,λt h f=>O t (λn c=>(h n c).trans (C _ _ n c)) (λid b=>(f id b).trans (gy id b))⟩;rw[vK Y,aeG (λp hp q hq e=>(F _ (r p hp)).2 (e▸m q hq))]
  |true=>
   rw[k,j] at o;obtain⟨F,N⟩:=o;simp only[ez,k] at G;simp only[ez,j] at I;obtain⟨u,ws,rfl,r,O⟩:=G;obtain⟨v,S,W,rfl,m,Q⟩:=I;have z:∀p∈ws,p.1∈x.M:=λp hp=>F _ (r p hp)
   have L:∀id,id ∉ x.M->bE s.H ws id=s.H id:=λid b=>pS (λp hp e=>b (e▸z p hp))
   refine⟨⟨dH s.E x.x.d v,ey x.M s.H S,W⟩,?_,?_⟩;·simp only[ez,j];exact⟨v,S,W,rfl,λid h f=>(m id h f).trans (L id f),λt h f i=>Q t (λn c=>(h n c).trans (A _ _ n c).symm) f (i.trans (yK z).symm)⟩
   ·simp only[ez,k];refine⟨u,ws,?_,r,λt h f=>O t (λn c=>(h n c).trans (C _ _ n c)) (λid b=>(f id b).trans ?_)⟩;·rw[vK Y,yL z]
    ·simp only[ey];split;·rfl
     ·rename_i c;rcases N id b with i|i;·exact absurd i c
      ·exact(m id i c).trans (L id c)
 |true=>
  cases j:x.cl with
  |true=>rw[k,j] at o;exact o.elim
  |false=>
   rw[k,j] at o;obtain⟨F,N⟩:=o;simp only[ez,k] at G;simp only[ez,j] at I;obtain⟨u,S,W,rfl,r,O⟩:=G;obtain⟨v,vs,rfl,m,Q⟩:=I;have z:∀p∈vs,p.1∈y.M:=λp hp=>F _ (m p hp)
   have X:∀id∈x.R,ey y.M s.H S id=s.H id:=by
    intro id b;simp only[ey];split;·rfl
    ·rename_i c;rcases N id b with i|i;·exact absurd i c
     ·exact r id i c
   refine⟨⟨dH s.E x.x.d v,bE s.H vs,s.n⟩,?_,?_⟩;·simp only[ez,j];exact⟨v,vs,rfl,m,λt h f=>Q t (λn c=>(h n c).trans (A _ _ n c).symm) (λid b=>(f id b).trans (X id b).symm)⟩
   ·simp only[ez,k];refine⟨u,S,W,?_,λid h f=>(r id h f).trans (pS (λp hp e=>f (by rw[<-e];exact z p hp))).symm,λt h f i=>O t (λn c=>(h n c).trans (C _ _ n c)) f (i.trans (yK z))⟩;rw[vK Y,yL z]
def wh(Γ:Sp):List AOp->FS->FS->Prop
 | [],s,s'=>s=s'
 |a::l,s,s'=>∃b,ez Γ a s b∧wh Γ l b s'
theorem xQ{Γ:Sp}{x:AOp}{B:List AOp}{e:FS}:∀(A:List AOp)(s:FS),(∀y∈A,qz y.x x.x∧nS y x)->wh Γ (A++x::B) s e->∃s',ez Γ x s s'∧wh Γ (A++B) s' e
 | [],s,_,h=>h
 |y::A,s,c,h=>by obtain⟨j,f,q⟩:=h;obtain⟨s2,k,r⟩:=xQ A j (λy p=>c y (AH _ p)) q;obtain⟨m,o⟩:=c y (AD ..);obtain⟨b,i,d⟩:=af0 m o f k;exact⟨b,i,s2,d,r⟩
structure Inv(B:Nat)(g₀:Gh)(H₀:Nat->Option Obj)(w₀:World)(df:List Deferred)(cx:Cx)(g:Gh)(s:FS)(w:World)(a:Act):Prop where
 sg:SG g cx s w a
 fr:FR (λid=>B<=id) g₀ H₀ w₀ g s.H w
 le:B<=s.n
 df:a.defers=df
section
variable{B:Nat}{g₀ g:Gh}{H₀:Nat->Option Obj}{w₀ w:World}{df:List Deferred}{cx:Cx}{s:FS}{a:Act}{P:Program}{Γ:Sp}{T:Nat->Bool}
def fU(P:Program)(cx:Cx)(T:Nat->Bool)(b:Array Oper):Nat->List GOp->Bool
 |i,[]=>i==b.size
 |i,x::l=>(match b[i]? with|some m=>oX P cx T b x m|none=>false)&&fU P cx T b (i+1) l
theorem nP{b:Array Oper}:∀(l:List GOp)(i:Nat),fU P cx T b i l=true->b.size=i+l.length∧∀(k:Nat) x,l[k]? =some x->∃m,b[i+k]? =some m∧oX P cx T b x m=true
 | [],i,h=>by simp only[fU,beq_iff_eq] at h;exact⟨by simp[h],by simp⟩
 |x::l,i,h=>by
  simp only[fU,Aa] at h;obtain⟨c,j⟩:=h;obtain⟨k1,k2⟩:=nP l (i+1) j;refine⟨by simp[k1];omega,?_⟩;intro k y d;cases k with
  |zero=>
   simp at d;subst d;split at c;·rename_i m e;exact⟨m,e,c⟩
   ·simp at c
  |succ k=>obtain⟨m,e,f⟩:=k2 k y (by simpa using d);exact⟨m,by rw[<-e];congr 1;omega,f⟩
structure ag5(ops:Array Oper)(l:List AOp)(pre:List (List Nat)):Prop where
 size:ops.size=l.length
 below:∀j m,ops[j]? =some m->∀e∈m.after,CE .any e=true->e.on<j
 from_:∀j m,ops[j]? =some m->∀i∈pre.getD j [],∃e∈m.after,CE .any e=true∧(e.on=i∨i∈pre.getD e.on [])
 apart:∀j x,l[j]? =some x->∀i y,i<j->l[i]? =some y->i∈pre.getD j []∨(qz y.x x.x∧nS y x)
theorem vd(ci:bt P cx.G Γ){p:Array Oper}{l:List AOp}{W:List (List Nat)}{n0:Nat}(hE:ag5 p l W)(bx:∀(j:Nat) x,l[j]? =some x->x.at_=n0+j∧∃m,p[j]? =some m∧oX P cx T p x.x m=true)(c5:B<=n0)
  {e:FS} {Q:Exit->Act->World->Prop} (hQ:∀g w a,Inv B g₀ H₀ w₀ df cx g e w a->Q .normal a w):∀(q:Nat)(f:List Nat)(b:Array Bool)(s:FS)(g:Gh)(w:World)(a:Act),
   f.length=q->f.Pairwise (·<·)->(∀i,i∈f↔i<l.length∧b.getD i true=false)->b.size=l.length->(∀j,j<l.length->j ∉ f->∀i∈W.getD j [],i ∉ f)->
   wh Γ (f.filterMap λi=>l[i]?) s e->(∀i∈f,∀x,l[i]? =some x->x.x.o.makes=true->¬g.A (n0+i)∧n0+i<s.n)->Inv B g₀ H₀ w₀ df cx g s w a->wpAny P .any p Q q b a w:=by
 have hj:∀j,j<l.length->∃m x,p[j]? =some m∧l[j]? =some x∧x.at_=n0+j∧oX P cx T p x.x m=true:=by intro j N;have Y:l[j]? =some l[j]:=Ac N;obtain⟨c,m,v,I⟩:=bx j _ Y;exact⟨m,l[j],v,Y,c,I⟩
 have r:∀(f:List Nat)(b:Array Bool),(∀i,i∈f↔i<l.length∧b.getD i true=false)->b.size=l.length->∀j m,p[j]? =some m->(j∈Region.ready .any p b↔j∈f∧∀e∈m.after,CE .any e=true->e.on<l.length∧e.on ∉ f):=by
  intro f b d u j m v;have N:j<l.length:=by rw[<-hE.size];exact(AN.1 v).1
  have key:∀i,b.getD i false=true↔i<l.length∧i ∉ f:=by
   intro i;rw[d i];rcases AG i b.size with c|c
   ·have F:i<l.length:=by omega
    simp[BA,c,F]
   ·have F:¬i<l.length:=by omega
    have h3:¬i<b.size:=by omega
    simp[BA,h3,F]
  rw[mem_ready,d j];constructor;·rintro⟨c,o,O,F⟩;rw[v] at O;cases O;exact⟨⟨N,c⟩,λe he hb=>(key _).1 (F e he hb)⟩
  ·rintro⟨⟨_,c⟩,F⟩;exact⟨c,m,v,λe he hb=>(key _).2 (F e he hb)⟩
 intro q;induction q with
 |zero=>intro f b s g w a t z d u E hr a1 h;have:f=[]:=A4 t;subst this;simp only[wpAny];simp only[List.filterMap_nil,wh] at hr;subst hr;refine⟨?_,hQ g w a h⟩;rw[DH];intro j C;obtain⟨hu,o,O,_⟩:=mem_ready.1 C;exact absurd ((r [] b d u j o O).1 C).1 (by simp)
 |succ q ih=>
  intro f b s g w a t z d u E hr a1 h;simp only[wpAny];refine⟨?_,?_⟩
  ·intro b1;exfalso;cases f with
   |nil=>simp at t
   |cons j f=>
    have S:=((d j).1 (AD ..)).1;obtain⟨m,x,v,Y,H,I⟩:=hj j S;have:j∈Region.ready .any p b:=by
     refine(r _ b d u j m v).2 ⟨AD ..,λe R hb=>?_⟩;have N:=hE.below j m v e R hb;refine⟨by omega,?_⟩;intro k;rcases AT.1 k with c|c;·omega
     ·have:=(Db.1 z).1 _ c;omega
    rw[b1] at this;simp at this
  ·intro j C;obtain⟨hu,o,O,_⟩:=mem_ready.1 C;obtain⟨av,ad⟩:=(r f b d u j o O).1 C;have S:=((d j).1 av).1;obtain⟨m,x,v,Y,H,I⟩:=hj j S;rw[v] at O;have cs:m=o:=Ai O;subst cs;have bn:∀i∈W.getD j [],i ∉ f:=by
    intro i J;obtain⟨e,R,hb,a0⟩:=hE.from_ j m v i J;obtain⟨d1,d2⟩:=ad e R hb;rcases a0 with rfl|a0;·exact d2
    ·exact E _ d1 d2 i a0
   obtain⟨A,Bs,rfl⟩:=List.append_of_mem av;have hA:∀i∈A,i<j:=λi M=>(CY.1 z).2.2 i M j (AD ..)
   have hB:∀i∈Bs,j<i:=λi b6=>(Db.1 (CY.1 z).2.1).1 i b6
   rw[CN,CD Y] at hr;obtain⟨s',hg,bs⟩:=xQ _ s (by
    intro y hy;obtain⟨i,M,b3⟩:=List.mem_filterMap.1 hy;rcases hE.apart j x Y i y (hA i M) b3 with c|c;·exact absurd (Bp _ M) (bn i c)
    ·exact c) hr
   rw[<-CN] at bs;refine rP ci v I hg.step h.sg (λZ _=>by rw[H];exact a1 j av x Y Z) ?_;intro a' w' g' k1 k2 k3 k4;have k:∀i,i∈A++Bs↔i∈A++j::Bs∧i≠j:=by
    intro i;simp only[AB,AT];constructor
    ·rintro(c|c);·exact⟨.inl c,by have:=hA i c;omega⟩
     ·exact⟨.inr (.inr c),by have:=hB i c;omega⟩
    ·rintro⟨c|c|c,F⟩;·exact .inl c
     ·exact absurd c F
     ·exact .inr c
   refine ih (A++Bs) (b.setIfInBounds j true) s' g' w' a' ?_ ?_ ?_ (by simp[u]) ?_ bs ?_ ⟨k1,h.fr.trans (λid L=>?_) k2,by have:=h.le;omega,k4.trans h.df⟩;·simp only[Ba,Ay] at t ⊢;omega
   ·exact z.sublist (Ej (List.sublist_cons_self ..) _)
   ·intro i;rw[k,d];by_cases X:i=j
    ·subst X;have ck:i<b.size:=by omega
     simp[BA,ck]
    ·rw[getD_set_ne true (λe=>X e.symm)];simp[X]
   ·intro j' cv a4 i J b2;obtain⟨c,F⟩:=(k i).1 b2;by_cases bY:j'=j;·subst bY;exact bn i J c
    ·exact E j' cv (λcl=>a4 ((k j').2 ⟨cl,bY⟩)) i J c
   ·intro i hi y hy Z;obtain⟨c,F⟩:=(k i).1 hi;obtain⟨h4,h5⟩:=a1 i c y hy Z;refine⟨λb4=>?_,by omega⟩;rcases k2.fresh _ b4 with h3|h3|h3;·exact h4 h3
    ·rw[H] at h3;omega
    ·omega
   ·rcases L with L|L;·rw[H] at L;omega
    ·have:=h.le;omega
end
mutual
def dI:D->D->Bool
 | .undef,.undef=>true
 | .bool a,.bool b=>a==b
 | .int k a,.int k' b=>cond (gv k k') (eqI a b) false
 | .str a,.str b=>eqL a b
 | .nilp,.nilp=>true
 | .ptr a b,.ptr c d=>cond (Af a c) (Af b d) false
 | .nils,.nils=>true
 | .emp,.emp=>true
 | .sl a b c d e,.sl a' b' c' d' e'=>cond (Af a a') (cond (Af b b') (cond (Af c c') (cond (Af d d') (match e,e' with|some e,some e'=>Af e e'|none,none=>true|_,_=>false) false) false) false) false
 | .agg x,.agg y=>oL x y
 | .tup x,.tup y=>oL x y
 | .fn f x,.fn g y=>cond (Af f g) (oL x y) false
 | .nilf,.nilf=>true
 | .nilif,.nilif=>true
 | .mp a,.mp b=>Af a b
 | .nilm,.nilm=>true
 | .sym k i,.sym k' j=>cond (gv k k') (Af i j) false
 |_,_=>false
def oL:List D->List D->Bool
 | [],[]=>true
 |a::x,b::y=>cond (dI a b) (oL x y) false
 |_,_=>false
end
mutual
theorem th:∀(a b:D),dI a b=true->a=b
 | .undef,b,h=>by cases b<;>simp[dI] at h;rfl
 | .bool a,b,h=>by cases b<;>simp[dI] at h;rw[h]
 | .int k a,b,h=>by
   cases b<;>simp[dI] at h
   rename_i k' b
   cases hk:gv k k' with
   |false=>rw[hk] at h;simp at h
   |true=>rw[hk] at h;rw[mf hk];simp[me] at h;rw[h]
 | .str a,b,h=>by cases b<;>simp[dI,yE] at h;rw[h]
 | .nilp,b,h=>by cases b<;>simp[dI] at h;rfl
 | .ptr a c,b,h=>by
   cases b<;>simp[dI] at h
   try simp only[Tr.beq_iff,Cq] at h
   try simp at h
   rw[h.1,h.2]
 | .nils,b,h=>by cases b<;>simp[dI] at h;rfl
 | .emp,b,h=>by cases b<;>simp[dI] at h;rfl
 | .sl a b c d e,y,h=>by
   cases y<;>simp[dI] at h
   rename_i a' b' c' d' e'
   try simp only[Tr.beq_iff,Cq] at h
   try simp at h
   obtain⟨rfl,rfl,rfl,rfl,h⟩:=h
   cases e<;>cases e'<;>simp at h
   ·rfl
   ·rw[h]
 | .agg x,b,h=>by cases b<;>simp[dI] at h;rw[ti _ _ h]
 | .tup x,b,h=>by cases b<;>simp[dI] at h;rw[ti _ _ h]
 | .fn f x,b,h=>by
   cases b<;>simp[dI] at h
   try simp only[Tr.beq_iff,Cq] at h
   try simp at h
   rw[h.1,ti _ _ h.2]
 | .nilf,b,h=>by cases b<;>simp[dI] at h;rfl
 | .nilif,b,h=>by cases b<;>simp[dI] at h;rfl
 | .mp a,b,h=>by cases b<;>simp[dI,Tr.beq_iff] at h;rw[h]
 | .nilm,b,h=>by cases b<;>simp[dI] at h;rfl
 | .sym k i,b,h=>by
   cases b<;>simp[dI] at h
   rename_i k' j
   cases hk:gv k k' with
   |false=>rw[hk] at h;simp at h
   |true=>rw[hk] at h;rw[mf hk];simp at h;rw[h]
theorem ti:∀(x y:List D),oL x y=true->x=y
 | [],y,h=>by cases y<;>simp[oL] at h;rfl
 |a::x,y,h=>by
  cases y with
  |nil=>simp[oL] at h
  |cons b y=>
   simp only[oL] at h
   cases hab:dI a b with
   |false=>rw[hab] at h;simp at h
   |true=>
    rw[hab] at h
    rw[th a b hab,ti x y h]
end
def ua:List (D×D)->List (D×D)->Bool
 | [],[]=>true
 |(a,b)::x,(c,d)::y=>cond (dI a c) (cond (dI b d) (ua x y) false) false
 |_,_=>false
def nJ:Option Obj->Option Obj->Bool
 |none,none=>true
 |some (.cells e f x),some (.cells b a y)=>cond (Af e b) (cond (f==a) (oL x y) false) false
 |some (.map x),some (.map y)=>ua x y
 |_,_=>false
theorem zV:∀(x y:List (D×D)),ua x y=true->x=y
 | [],y,h=>by cases y<;>simp[ua] at h;rfl
 |(a,b)::x,y,h=>by
  cases y with
  |nil=>simp[ua] at h
  |cons p y=>obtain⟨c,d⟩:=p;simp only[ua,Cq] at h;simp at h;rw[th a c h.1,th b d h.2.1,zV x y h.2.2]
theorem adL{a b:Option Obj}(h:nJ a b=true):a=b:=by
 unfold nJ at h;split at h;·rfl
 ·simp only[Tr.beq_iff,Cq] at h;simp at h;rw[h.1,h.2.1,ti _ _ h.2.2]
 ·rw[zV _ _ h]
 ·simp at h
structure Rec where
 M:List Nat
 cl:Bool
 R:List Nat
 W:List Nat
 hB:Tr Obj
 hA:Tr Obj
def oM(at_ n0:Nat)(a:List Nat)(x:GOp)(s s':St):Rec:=match jk s.fs.E x.g with
 |some true=>cond x.o.isCall ⟨a.map (n0+·),true,[],[],s.hp.t,s'.hp.t⟩ ⟨a.map (n0+·),false,jj s.fs.E x.o,kS at_ s.fs.E s.fs.H x.o,.e,.e⟩
 |_=>⟨a.map (n0+·),false,[],[],.e,.e⟩
def mh(l:List Nat)(i:Nat):Bool:=l.any (Af i)
def oN(a b:Rec):Bool:=match a.cl,b.cl with
 |false,false=>(a.W.all λi=> !mh b.R i&& !mh b.W i)&&a.R.all λi=> !mh b.W i
 |false,true=>(a.W.all λi=>mh b.M i)&&a.R.all λi=>mh b.M i||nJ (b.hB.get i) (b.hA.get i)
 |true,false=>(b.W.all λi=>mh a.M i)&&b.R.all λi=>mh a.M i||nJ (a.hB.get i) (a.hA.get i)
 |true,true=>false
def aeH(d:List (List Nat))(c:List Rec):Bool:=(AE c.length).all λj=>(AE j).all λi=>mh (d.getD j []) i||(match c[i]?,c[j]? with|some a,some b=>oN a b|_,_=>false)
section
variable{R:Type}
def oO(Γ:Sp)(n0:Nat)(mks:List (List Nat)):Nat->List GOp->List Rec->(List Rec->St->Option R)->St->Option R
 |_,[],a,K,s=>K a s
 |i,x::l,a,K,s=>aW Γ (n0+i) s.hp.n n0 (mks.getD i []) x s λs'=>oO Γ n0 mks (Bk i) l (a++[oM (n0+i) n0 (mks.getD i []) x s s']) K s'
def bC:Nat->((St->Option R)->St->Option R)->St->Option R
 |0,_,_=>none
 |n+1,F,s=>F (bC n F) s
def d4(b:(Ex->St->Option R)->St->Option R)(K:Ex->St->Option R):Ex->St->Option R
 | .normal,s=>b K s
 |e,s=>K e s
def bu(id:Nat)(K:Ex->St->Option R):Ex->St->Option R
 | .exit j,s=>cond (Af j id) (K .normal s) (K (.exit j) s)
 |e,s=>K e s
def de(a:St->Option R)(K:Ex->St->Option R):Ex->St->Option R
 | .normal,s=>a s
 |e,s=>K e s
end
def mkN(a:List GOp):Nat:=cond (a.any λx=>x.o.makes) (eZ a 0) 0
theorem aim{a:List GOp}{i:Nat}{x:GOp}(h:a[i]? =some x)(c:x.o.makes=true):i<mkN a:=by have b:(a.any λx=>x.o.makes)=true:=Co.2 ⟨x,Ap h,c⟩;rw[mkN,b,cond_true,fa,Aw];exact(Ad.1 h).1
inductive IRc where
 |skip
 |bad
 |reg (ops:List GOp)
 |drw (ops:List GOp) (pre mks:List (List Nat))
 |seq (a b:IRc)
 |cond (c:ac) (a b:IRc)
 |block (id:Nat) (a:IRc)
 |loop (a:IRc)
 |exit (id:Nat)
 |ret
def run{R:Type}(Γ:Sp)(L:Nat):IRc->(Ex->St->Option R)->St->Option R
 | .skip,K,s=>K .normal s
 | .bad,_,_=>none
 | .reg d,K,s=>bP Γ d (K .normal) s
 | .drw d f mks,K,s=>gm (CH s.hp.n (mkN d)) λn=>oO Γ s.hp.n mks 0 d [] (λg s'=>chk (aeH f g) (K .normal s')) ⟨s.env,⟨n,s.hp.t⟩⟩
 | .seq a b,K,s=>run Γ L a (d4 (run Γ L b) K) s
 | .cond c a b,K,s=>match c.ev s.fs.E with
   | .bool t=>_root_.cond t (run Γ L a K s) (run Γ L b K s)
   |_=>none
 | .block id a,K,s=>run Γ L a (bu id K) s
 | .loop a,K,s=>bC L (λe s=>run Γ L a (de e K) s) s
 | .exit id,K,s=>K (.exit id) s
 | .ret,K,s=>K .ret s
structure FnC where
 nt:Nat
 rs:List RV
 body:IRc
def fin(a:List RV):Ex->St->Option (D×Hp)
 | .normal,s| .ret,s=>match jl s.fs.E s.fs.H a with
   |some v=>vD v λv=>some (v,s.hp)
   |none=>none
 |_,_=>none
def wi{R:Type}:List D->Nat->Env->(Env->R)->R
 | [],_,t,k=>k t
 |v::l,i,t,k=>vD v λv=>wi l (Bk i) (t.set i v) k
def si:List D->Nat->Env->Env
 | [],_,t=>t
 |v::l,i,t=>si l (i+1) (t.set i v)
theorem acJ{R:Type}:∀(l:List D)(i:Nat)(t:Env)(k:Env->R),wi l i t k=k (si l i t)
 | [],_,_,_=>rfl
 |v::l,i,t,k=>by simp[wi,si,j8,acJ l]
theorem aaC:∀(l:List D)(i:Nat)(t:Env)(j:Nat),(si l i t).get j=if i<=j∧j<i+l.length then (l[j-i]?).getD .undef else t.get j
 | [],i,t,j=>by simp[si];omega
 |v::l,i,t,j=>by
  simp only[si,Ay];rw[aaC l (i+1)];by_cases a:i+1<=j∧j<i+1+l.length;·rw[if_pos a,if_pos (by omega),show j-i=(j-(i+1))+1 by omega,A5]
  ·rw[if_neg a,Env.get_set];by_cases b:j=i;·subst b;rw[if_pos rfl,if_pos (by omega)];simp
   ·rw[if_neg b,if_neg (by omega)]
def no1:E16 D:=⟨.undef,.undef,.undef,.undef,.undef,.undef,.undef,.undef,.undef,.undef,.undef,.undef,.undef,.undef,.undef,.undef⟩
def ub:Env:=⟨⟨no1,no1,no1,no1,no1,no1,no1,no1,no1,no1,no1,no1,no1,no1,no1,no1⟩,.e⟩
theorem E16.get_same{α:Type}(x:α)(i:Nat):(E16.mk x x x x x x x x x x x x x x x x).get i=x:=by unfold E16.get;split<;>rfl
theorem afE(i:Nat):ub.get i=.undef:=by unfold Env.get ub;simp only[E16.get_same,no1];cases AV i 256<;>rfl
def gr(Γ:Sp)(L:Nat)(F:FnC)(a:List D)(hp:Hp):Option (D×Hp):=
 chk (AO (eZ a 0) F.nt) (wi a 0 ub λt=>run Γ L F.body (fin F.rs) ⟨t,hp⟩)
abbrev Tab:=Nat->Option FnC
def wj(T:Tab)(L:Nat):Nat->Sp
 |0=>λ_ _ _=>none
 |d+1=>λf a hp=>match T f with
  |some F=>gr (wj T L d) L F a hp
  |none=>none
def acK(x y:GOp):Bool:=(match x.d with|some d=> !mh y.rd d&&(match y.d with|some e=> !Nat.beq d e|none=>true)|none=>true)&&(match y.d with|some e=> !mh x.rd e|none=>true)
theorem uc{l:List Nat}{i:Nat}:mh l i=true↔i∈l:=by
 simp only[mh,Co,Tr.beq_iff,decide_eq_true_eq];constructor;·rintro⟨x,a,rfl⟩;exact a
 ·intro h;exact⟨i,h,rfl⟩
theorem ud{l:List Nat}{i:Nat}:mh l i=false↔i ∉ l:=by rw[<-uc];simp
theorem afF{x y:GOp}(h:acK x y=true):qz x y:=by
 unfold acK at h;simp only[Aa] at h;obtain⟨a,c⟩:=h;refine⟨λd b=>?_,λd b=>?_,λd b=>?_⟩;·rw[b] at a;simp only[Aa,AK,ud] at a;exact a.1
 ·rw[b] at c;simp only[AK,ud] at c;exact c
 ·rw[b] at a;simp only[Aa,AK] at a;intro e;rw[e] at a;simp[Tr.beq_iff] at a
def jJ(P:Program)(c:Cx)(T:Nat->Bool)(b:Array Oper)(l:List GOp)(a:List (List Nat)):Bool:=
 (P.follows .mixedOrders&&fU P c T b 0 l)&&((AE l.length).all λj=>
  (match b[j]? with
   |some m=>m.after.toList.all (λe=> !Region.binds .any e||decide (e.on<j))&&(a.getD j []).all (λi=>m.after.toList.any λe=>CE .any e&&(e.on==i||(a.getD e.on []).contains i))
   |none=>false)&&
  (match l[j]? with
   |some x=>(AE j).all λi=>mh (a.getD j []) i||(match l[i]? with|some y=>acK y x|none=>false)
   |none=>false))
def au(P:Program)(a:Cx)(T:Nat->Bool):IRc->Code->Bool
 | .bad,_=>true
 | .skip,.skip=>true
 | .skip,.label _=>true
 | .reg l,.region _ b false=>fU P a T b 0 l
 | .drw l e _,.region _ b true=>jJ P a T b l e
 | .seq x y,.seq c d=>au P a T x c&&au P a T y d
 | .cond v x y,.cond u c d=>ag a v u&&(au P a T x c&&au P a T y d)
 | .block i x,.block j c=>i==j&&au P a T x c
 | .loop x,.loop c=>au P a T x c
 | .exit i,.exit j=>i==j
 | .ret,.ret=>true
 |_,_=>false
def ms(P:Program)(b:Cx):RV->ResultVar->Bool
 | .t n,.tmp m=>n==m&&AV n b.nt
 | .cell n a agg,.cell m t=>(n==m&&AV n b.nt)&&((be P t==some a)&&((cn P t==some agg)&&(agg||a==1)))
 |_,_=>false
def fC(P:Program)(a:Cx):List RV->List ResultVar->Bool
 | [],[]=>true
 |x::xs,y::ys=>ms P a x y&&fC P a xs ys
 |_,_=>false
def gt(P:Program)(G:List Nat)(T:Nat->Bool)(f:Nat)(F:FnC):Bool:=match P.funcs[f]? with
 |some fn=>(fn.ntmps==F.nt)&&((fn.name !="runtime.NumGoroutine")&&(fC P ⟨F.nt,G⟩ F.rs fn.results.toList&&(decide (fn.results.toList.length<=5)&&(match fn.body with|some c=>au P ⟨F.nt,G⟩ T F.body c|none=>false))))
 |none=>false
section
variable{B:Nat}{g₀ g:Gh}{H₀:Nat->Option Obj}{w₀ w:World}{df:List Deferred}{cx:Cx}{a:Act}{P:Program}{Γ:Sp}{T:Nat->Bool}
theorem qA{E b:Nat->D}{x:GOp}(h:∀n∈x.rd,b n=E n):jk b x.g=jk E x.g:=by
 unfold jk;cases c:x.g with
 |none=>rfl
 |some p=>obtain⟨g,w⟩:=p;simp only;rw[h g (by simp[GOp.rd,c])]
def AOp.of(x:GOp)(at_:Nat)(r:Rec):AOp:=⟨x,at_,r.M,r.cl,r.R,r.W,λi=>nJ (r.hB.get i) (r.hA.get i)=true⟩
theorem ahy{at_ n0:Nat}{L:List Nat}{x:GOp}{s:St}{R:Type}{k:St->Option R}{r:R}(h:aW Γ at_ s.hp.n n0 L x s k=some r):
  ∃s',k s'=some r∧ez Γ (AOp.of x at_ (oM at_ n0 L x s s')) s.fs s'.fs:=by
 obtain⟨s',n',W,h1,j⟩:=adI (λ_=>rfl) (λ_=>.inl rfl) h;obtain rfl:n'=s.hp.n:=by rcases W with h|⟨h,_⟩<;>exact h
 refine⟨s',h1,?_⟩;have j:mI Γ at_ (L.map (n0+·)) x s.fs s'.fs:=j;unfold mI at j;unfold oM;cases F:jk s.fs.E x.g with
 |none=>rw[F] at j;exact j.elim
 |some b=>
  rw[F] at j;cases b with
  |false=>simp only at j;simp only[ez,AOp.of];refine⟨.tup [],[],j,by simp,λt m G=>?_⟩;unfold mI;rw[qA m,F];rfl
  |true=>
   simp only at j;have A:∀t:FS,(∀n∈x.rd,t.E n=s.fs.E n)->∀n∈x.o.rd,t.E n=s.fs.E n:=λt m n C=>m n (by simp[GOp.rd,C])
   cases c:x.o.isCall with
   |false=>
    simp only[cond_false,ez,AOp.of];have z:∃v ws,eff at_ s.fs.E s.fs.H x.o=some (v,ws)∧s'.fs=⟨dH s.fs.E x.d v,bE s.fs.H ws,s.fs.n⟩:=by
     unfold pw at j;split at j;·rename_i i;rw[i] at c;simp[IOp.isCall] at c
     ·rename_i i;rw[i] at c;simp[IOp.isCall] at c
     ·exact j
    obtain⟨v,ws,Z,N⟩:=z;refine⟨v,ws,N,?_,λt m G=>?_⟩;·intro p hp;simp only[kS,Z];exact List.mem_map_of_mem hp
    ·unfold mI;rw[qA m,F];simp only;have M:eff at_ t.E t.H x.o=some (v,ws):=by rw[afB (A t m) G];exact Z
     unfold pw;split;·rename_i i;rw[i] at c;simp[IOp.isCall] at c
     ·rename_i i;rw[i] at c;simp[IOp.isCall] at c
     ·exact⟨v,ws,M,rfl⟩
   |true=>
    simp only[cond_true,ez,AOp.of];have q:∀(X:Nat->Option Obj),s'.fs.H=ey (L.map (n0+·)) s.fs.H X->∀id,nJ (s.hp.t.get id) (s'.hp.t.get id)=true->id ∉ L.map (n0+·)->X id=s.fs.H id:=by intro X hH id hU hM;have e1:s'.fs.H id=s'.hp.t.get id:=rfl;have M:s.fs.H id=s.hp.t.get id:=rfl;rw[M,adL hU,<-e1,hH];simp only[ey];rw[if_neg hM]
    unfold pw at j;split at j
    ·rename_i f aa i;obtain⟨hp,v,hp',Y,S,Q,I⟩:=j;refine⟨v,hp'.t.get,hp'.n,I,q _ (by rw[I]),λt m G O=>?_⟩;unfold mI;rw[qA m,F];simp only;unfold pw;rw[i];simp only;have u:∀n∈aa.flatMap ac.slots,t.E n=s.fs.E n:=by have:=A t m;rw[i] at this;exact this
     have e:aa.map (·.ev t.E)=aa.map (·.ev s.fs.E):=AP λy J=>tg λn C=>u n (AJ.2 ⟨y,J,C⟩)
     exact⟨hp,v,hp',Y.trans O.symm,S.trans G.symm,by rw[e];exact Q,rfl⟩
    ·rename_i y aa i;obtain⟨f,cs,J,hp,v,hp',Y,S,Q,I⟩:=j;refine⟨v,hp'.t.get,hp'.n,I,q _ (by rw[I]),λt m G O=>?_⟩;unfold mI;rw[qA m,F];simp only;unfold pw;rw[i];simp only;have u:∀n∈y.slots++aa.flatMap ac.slots,t.E n=s.fs.E n:=by have:=A t m;rw[i] at this;exact this
     have e:aa.map (·.ev t.E)=aa.map (·.ev s.fs.E):=AP λy J=>tg λn C=>u n (B8 _ (AJ.2 ⟨y,J,C⟩))
     have e0:y.ev t.E=y.ev s.fs.E:=tg λn C=>u n (Bp _ C)
     exact⟨f,cs,by rw[e0];exact J,hp,v,hp',Y.trans O.symm,S.trans G.symm,by rw[e];exact Q,rfl⟩
    ·rename_i n1 n2;exfalso;cases i:x.o<;>rw[i] at c<;>simp[IOp.isCall] at c;·exact n1 _ _ i
     ·exact n2 _ _ i
theorem yM{n0:Nat}{mks:List (List Nat)}{R:Type}{K:List Rec->St->Option R}{r:R}:∀(l:List GOp)(i:Nat)(b:List Rec)(s:St),oO Γ n0 mks i l b K s=some r->
  ∃(ts:List Rec)(s':St),ts.length=l.length∧K (b++ts) s'=some r∧wh Γ ((l.zip ts).zipIdx.map λp=>AOp.of p.1.1 (n0+(i+p.2)) p.1.2) s.fs s'.fs
 | [],i,b,s,h=>⟨[],s,rfl,by simpa [oO] using h,rfl⟩
 |x::l,i,b,s,h=>by
  simp only[oO] at h;obtain⟨c,f,d⟩:=ahy h;obtain⟨ts,s',k1,k2,k3⟩:=yM l (Bk i) _ c f;refine⟨_::ts,s',by simp[k1],by simpa using k2,?_⟩;rw[D0,List.zipIdx_cons,AI];refine⟨c.fs,by simpa using d,?_⟩;have e:((l.zip ts).zipIdx 1).map (λp=>AOp.of p.1.1 (n0+(i+p.2)) p.1.2)=((l.zip ts).zipIdx).map (λp=>AOp.of p.1.1 (n0+(Bk i+p.2)) p.1.2):=by
   rw[List.zipIdx_succ,Cu];refine AP λp _=>?_
   simp only[Ea]
   congr 1
   omega
  rw[Aw,e];exact k3
theorem afG{a b:Rec}{x y:GOp}{i j:Nat}(h:oN a b=true):nS (AOp.of x i a) (AOp.of y j b):=by
 unfold oN at h;unfold nS;simp only[AOp.of];cases d:a.cl<;>cases c:b.cl<;>rw[d,c] at h<;>simp only[Aa,Ak,AK,ud,uc,AQ] at h;·exact h
 ·exact h
 ·exact h
 ·simp at h
theorem iZ{α:Type}:∀(l:List α),((AE l.length).filterMap λi=>l[i]?)=l
 | []=>rfl
 |x::l=>by rw[Ay,List.range_succ_eq_map,CD (b:=x) (by simp),List.filterMap_map];have:=iZ l;simp only[CA,Nat.succ_eq_add_one,A5];rw[this]
theorem Inv.drew{s:FS}(h:Inv B g₀ H₀ w₀ df cx g s w a):Inv B g₀ H₀ w₀ df cx g s w.drew a:=by
 refine⟨⟨⟨?_,?_,h.sg.hr.apart,h.sg.hr.made,h.sg.hr.lt⟩,h.sg.er,h.sg.gl⟩,⟨h.fr.os,h.fr.tape,h.fr.output,h.fr.size,h.fr.block,h.fr.up,h.fr.fresh,h.fr.live⟩,h.le,h.df⟩;·exact h.sg.hr.obj
 ·exact h.sg.hr.map
theorem tF(a0:bt P cx.G Γ){R:Type}{K:St->Option R}{r:R}{id:Nat}{v:Array Oper}{l:List GOp}{q mks:List (List Nat)}(hc:jJ P cx T v l q=true){Q:Exit->Act->World->Prop}
  (hQ:∀s g w a,K s=some r->Inv B g₀ H₀ w₀ df cx g s.fs w a->Q .normal a w) {s:St} (hr:run Γ 0 (.drw l q mks) (λ_ s=>K s) s=some r) (h:Inv B g₀ H₀ w₀ df cx g s.fs w a):(Code.region id v true).wp P Q a w:=by
 simp only[jJ,Aa] at hc;obtain⟨⟨L,av⟩,M⟩:=hc;obtain⟨b,o⟩:=nP l 0 av;simp only[Aw] at b o;simp only[run,hD] at hr;obtain⟨ts,s',k1,k2,k3⟩:=yM l 0 [] _ hr;rw[aI] at k2;obtain⟨W,hK⟩:=k2;simp only[C3] at W;let aa:List AOp:=(l.zip ts).zipIdx.map λp=>AOp.of p.1.1 (s.hp.n+(0+p.2)) p.1.2
 have A:aa.length=l.length:=by simp[aa,k1]
 have c:∀j x,aa[j]? =some x->∃y t,l[j]? =some y∧ts[j]? =some t∧x=AOp.of y (s.hp.n+j) t:=by intro j x k;simp only[aa,Au,List.getElem?_zipIdx,CS,Ah] at k;obtain⟨⟨y,t⟩,hp,rfl⟩:=k;rw[List.getElem?_zip_eq_some] at hp;exact⟨y,t,hp.1,hp.2,by simp⟩
 have I:Inv B g₀ H₀ w₀ df cx g ⟨s.fs.E,s.fs.H,s.hp.n+mkN l⟩ w.drew a:=by have:=h.drew;exact⟨⟨⟨this.sg.hr.obj,this.sg.hr.map,this.sg.hr.apart,this.sg.hr.made,λid Z=>AF (this.sg.hr.lt id Z) (CW _ _)⟩,this.sg.er,this.sg.gl⟩,this.fr,AX this.le (CW _ _),this.df⟩
 refine wp_region_any L ?_;rw[b,<-A];have hE:ag5 v aa q:=by
  have S:∀j,j<l.length->_:=λj d=>Ak.1 M j (A6.2 d)
  refine⟨by rw[b,A],?_,?_,?_⟩
  ·intro j m z e he N;have d:j<l.length:=by rw[<-b];exact(AN.1 z).1
   have f:=S j d;rw[z] at f;simp only[Aa] at f;have:=Ak.1 f.1.1 e (by simpa using he);simpa [N] using this
  ·intro j m z i J;have d:j<l.length:=by rw[<-b];exact(AN.1 z).1
   have f:=S j d;rw[z] at f;simp only[Aa] at f;have:=Ak.1 f.1.2 i J;obtain⟨e,he,N⟩:=Co.1 this;simp only[Aa,AQ,beq_iff_eq,CR] at N;exact⟨e,by simpa using he,N.1,N.2⟩
  ·intro j x k i y F hy;obtain⟨gx,tx,e1,X,rfl⟩:=c j x k;obtain⟨gy,ty,f1,f2,rfl⟩:=c i y hy;have d:j<l.length:=(Ad.1 e1).1;have f:=S j d;simp only[Aa] at f;have f:=f.2;rw[e1] at f;have C:=Ak.1 f i (A6.2 F);have u:=Ak.1 (Ak.1 W j (A6.2 (by omega))) i (A6.2 F);rw[f1] at C;rw[f2,X] at u;simp only[AQ,uc] at C u;rcases C with C|C;·exact .inl C
   ·rcases u with u|u;·exact .inl u
    ·exact .inr ⟨afF C,afG u⟩
 refine vd (T:=T) a0 hE (n0:=s.hp.n) ?_ h.le (e:=s'.fs) (λg w a J=>hQ s' g w a hK J) aa.length (AE aa.length) _ _ g _ a (by simp) List.pairwise_lt_range ?_ (by simp[A]) ?_ (by rw[iZ];exact k3) ?_ I;·intro j x k;obtain⟨y,t,e1,X,rfl⟩:=c j x k;obtain⟨m,z,Y⟩:=o j y e1;exact⟨rfl,m,z,Y⟩
 ·intro i;by_cases J:i<aa.length<;>simp[BA,J]
 ·intro j S O;exact absurd (A6.2 S) O
 ·intro i _ x k ad;obtain⟨y,t,e1,X,rfl⟩:=c i x k;have e:s.fs.n=s.hp.n:=rfl;have:=aim e1 ad;refine⟨λhA=>?_,?_⟩;·have:=h.sg.hr.lt _ hA;omega
  ·show s.hp.n+i<s.hp.n+mkN l;omega
theorem jK(j:bt P cx.G Γ){R:Type}{K:St->Option R}{r:R}{b:Array Oper}{Q:Exit->Act->World->Prop}(z:∀s g w a,K s=some r->Inv B g₀ H₀ w₀ df cx g s.fs w a->Q .normal a w):
  ∀(l:List GOp)(i:Nat),fU P cx T b i l=true->∀(s:St)(g:Gh)(w:World)(a:Act),bP Γ l K s=some r->Inv B g₀ H₀ w₀ df cx g s.fs w a->wpOps P b Q (Bq i (b.size-i)) a w
 | [],i,c,s,g,w,a,p,h=>by simp only[fU,beq_iff_eq] at c;subst c;simp only[CP,List.range'_zero,wpOps];exact z s g w a p h
 |x::l,i,c,s,g,w,a,p,h=>by
  simp only[fU,Aa] at c;obtain⟨c,J⟩:=c;split at c
  ·rename_i m k;have O:i<b.size:=(AN.1 k).1;rw[show b.size-i=(b.size-(i+1))+1 by omega,BQ,wpOps_cons];simp only[bP] at p;obtain⟨s',t,v,I,L⟩:=adI (s:=s) (λc=>by
    have:x.o.makes=false:=by cases F:x.o<;>rw[F] at c<;>simp[IOp.isCall] at c<;>rfl
    rw[this];rfl) (λ_=>by cases k:x.o.makes<;>simp) p
   have d:s.hp.n<=t∧(x.o.makes=true->jk s.fs.E x.g=some true->s.hp.n<t):=by
    rcases v with rfl|⟨rfl,q⟩
    ·cases k:x.o.makes;·exact⟨Ao _,by simp⟩
     ·exact⟨Nat.le_succ _,λ_ _=>CC _⟩
    ·exact⟨Ao _,λ_ h=>by rw[q] at h;simp at h⟩
   refine rP (s:=⟨s.fs.E,s.fs.H,t⟩) j k c L ⟨⟨h.sg.hr.obj,h.sg.hr.map,h.sg.hr.apart,h.sg.hr.made,λid f=>AF (h.sg.hr.lt id f) d.1⟩,h.sg.er,h.sg.gl⟩ (λy u=>⟨λA=>Eb _ (h.sg.hr.lt _ A),d.2 y u⟩) ?_;intro C w' M k1 k2 k3 k4;refine jK j z l (i+1) J s' M w' C I ⟨k1,h.fr.trans (λid f=>?_) k2,AX (AX h.le d.1) k3,k4.trans h.df⟩;have N:=h.le;have e:s.fs.n=s.hp.n:=rfl;simp only at f;omega
  ·simp at c
def gz:Ex->Exit->Prop
 | .normal,.normal=>True
 | .exit i,.exit j=>i=j
 | .ret,.ret=>True
 |_,_=>False
def tG{R:Type}(B:Nat)(g₀:Gh)(H₀:Nat->Option Obj)(w₀:World)(df:List Deferred)(cx:Cx)(K:Ex->St->Option R)(r:R)(e:Exit)(a:Act)(w:World):Prop:=
 ∃x s g,gz x e∧K x s=some r∧Inv B g₀ H₀ w₀ df cx g s.fs w a
theorem co(p:bt P cx.G Γ)(L:Nat){R:Type}{r:R}:∀(S:IRc)(c:Code),au P cx T S c=true->∀(K:Ex->St->Option R)(s:St)(a:Act)(w:World)(g:Gh),
  run Γ L S K s=some r->Inv B g₀ H₀ w₀ df cx g s.fs w a->c.wp P (tG B g₀ H₀ w₀ df cx K r) a w
 | .bad,c,b,K,s,a,w,g,f,h=>by simp[run] at f
 | .skip,c,b,K,s,a,w,g,f,h=>by
   cases c<;>simp[au] at b;·exact wp_skip ⟨.normal,s,g,trivial,f,h⟩
   ·exact wp_label ⟨.normal,s,g,trivial,f,h⟩
 | .reg l,c,b,K,s,a,w,g,f,h=>by
   cases c with
   |region id F C=>
    cases C with
    |true=>simp[au] at b
    |false=>
     have b:fU P cx T F 0 l=true:=by simpa only[au] using b
     refine wp_region ?_;have:=jK (Q:=tG B g₀ H₀ w₀ df cx K r) p (K:=K .normal) (r:=r) (λs g w a o q=>⟨.normal,s,g,trivial,o,q⟩) l 0 b s g w a f h
     rwa [CG,<-DJ] at this
   |_=>simp[au] at b
 | .drw l N mks,c,b,K,s,a,w,g,f,h=>by
   cases c with
   |region id F C=>
    cases C with
    |false=>simp[au] at b
    |true=>
     have b:jJ P cx T F l N=true:=by simpa only[au] using b
     exact tF (Q:=tG B g₀ H₀ w₀ df cx K r) p b (K:=K .normal) (r:=r) (mks:=mks) (λs g w a o q=>⟨.normal,s,g,trivial,o,q⟩) f h
   |_=>simp[au] at b
 | .seq x y,c,b,K,s,a,w,g,f,h=>by
   cases c<;>simp[au] at b;rename_i c d;refine wp_seq (wp_mono (co p L x c b.1 _ s a w g f h) ?_);rintro e J w' ⟨I,s',A,z,o,q⟩;cases I with
   |normal=>cases e<;>simp only[gz] at z;exact co p L y d b.2 K s' J w' A o q
   |exit i=>cases e<;>simp only[gz] at z;exact⟨.exit i,s',A,z,o,q⟩
   |ret=>cases e<;>simp only[gz] at z;exact⟨.ret,s',A,trivial,o,q⟩
 | .cond v x y,c,b,K,s,a,w,g,f,h=>by
   cases c<;>simp[au] at b;rename_i u c d;simp only[run] at f;split at f
   ·rename_i t Y;have M:=af b.1 h.sg;rw[Y] at M;generalize O:a.eval u=cv at M;cases M;refine wp_cond O ?_;cases t with
    |true=>exact co p L x c b.2.1 K s a w g f h
    |false=>exact co p L y d b.2.2 K s a w g f h
   ·simp at f
 | .block i x,c,b,K,s,a,w,g,f,h=>by
   cases c<;>simp[au] at b;rename_i j c;obtain⟨rfl,b⟩:=b;refine wp_block (wp_mono (co p L x c b _ s a w g f h) ?_);rintro e J w' ⟨I,s',A,z,o,q⟩;cases I with
   |normal=>cases e<;>simp only[gz] at z;exact⟨.normal,s',A,trivial,o,q⟩
   |exit k=>
    cases e<;>simp only[gz] at z;subst z;simp only[Exit.inBlock];by_cases E:k=i;·subst E;simp only[if_true];simp only[bu,Nat.beq_refl,cond_true] at o;exact⟨.normal,s',A,trivial,o,q⟩
    ·simp only[E,if_false];have X:Af k i=false:=by simp[Tr.beq_iff,E]
     simp only[bu,X,cond_false] at o;exact⟨.exit k,s',A,rfl,o,q⟩
   |ret=>cases e<;>simp only[gz] at z;exact⟨.ret,s',A,trivial,o,q⟩
 | .loop x,c,b,K,s,a,w,g,f,h=>by
   cases c<;>simp[au] at b;rename_i c;simp only[run] at f
   have key:∀(m:Nat)(s:St)(a:Act)(w:World)(g:Gh),bC m (λH s=>run Γ L x (de H K) s) s=some r->Inv B g₀ H₀ w₀ df cx g s.fs w a->
     Code.rounds P c (tG B g₀ H₀ w₀ df cx K r) m a w:=by
    intro m;induction m with
    |zero=>intro s a w g f h;simp[bC] at f
    |succ m W=>
     intro s a w g f h;simp only[bC] at f;rw[rounds_succ];refine wp_mono (co p L x c b _ s a w g f h) ?_;rintro e J w' ⟨I,s',A,z,o,q⟩;cases I with
     |normal=>cases e<;>simp only[gz] at z;exact W _ J w' A o q
     |exit k=>cases e<;>simp only[gz] at z;exact⟨.exit k,s',A,z,o,q⟩
     |ret=>cases e<;>simp only[gz] at z;exact⟨.ret,s',A,trivial,o,q⟩
   exact wp_loop_rounds L (key L _ a w g f h)
 | .exit i,c,b,K,s,a,w,g,f,h=>by cases c<;>simp[au] at b;subst b;exact wp_exit ⟨.exit i,s,g,rfl,f,h⟩
 | .ret,c,b,K,s,a,w,g,f,h=>by cases c<;>simp[au] at b;exact wp_ret ⟨.ret,s,g,trivial,f,h⟩
end
section
open Go.RowKit
section
variable{g:Gh}{cx:Cx}{s:FS}{w:World}{a:Act}{P:Program}{Γ:Sp}{T:Nat->Bool}
def kZ(b:Array Value):ResultVar->Sem Value
 | .tmp t=>pure (b.getD t undef)
 | .cell a t=>do loadVar t (<-asAddr (b.getD a undef))
theorem abW(h:SG g cx s w a){x:RV}{y:ResultVar}(k:ms P cx x y=true){v:D}(c:x.ev s.E s.H=some v):∃cv,(kZ a.tmps y).run P w=.ok cv w∧VRel g v cv:=by
 cases x with
 |t n=>
  cases y with
  |tmp m=>simp only[ms,Aa,beq_iff_eq,Bb] at k;obtain⟨rfl,i⟩:=k;simp only[RV.ev,Ab] at c;subst c;exact⟨_,by simp[kZ],h.er.rel n i⟩
  |cell m t=>simp[ms] at k
 |cell n d agg=>
  cases y with
  |tmp m=>simp[ms] at k
  |cell m t=>
   simp only[ms,Aa,beq_iff_eq,AQ,Bb] at k;obtain⟨⟨rfl,i⟩,I,M,p⟩:=k;have A:=h.er.rel n i;simp only[RV.ev] at c;split at c
   ·rename_i id o G;rw[G] at A;generalize B:a.tmps.getD n undef=cv at A;cases A with
    |ptr _ _ O=>
    split at c
    ·rename_i e f cs F;simp only[aI,Ab,Bz] at c;obtain⟨z,rfl⟩:=c;obtain⟨r,N,J,q⟩:=h.hr.obj _ _ _ _ (cells?_some F);have C:=q.len;have c:=fT (agg:=agg) (rq q z) (by
      rcases p with p|p;·exact .inl p
      ·right;simp;omega)
     refine⟨_,?_,c⟩;have:=ge (P:=P) (w:=w) (b:=g.ρ id) (o:=o) (vs:=(r.toList.drop o).take d) I M p (by simp;omega) (λj u L=>oK J o d j u L);simp only[Ct,BE] at this;simp[kZ,B,asAddr];simpa using this
    ·simp at c
   ·simp at c
theorem sN(h:SG g cx s w a):∀{xs:List RV}{ys:List ResultVar}{vs:List D},fC P cx xs ys=true->rvs s.E s.H xs=some vs->
  ∃cvs:List Value,cvs.length=vs.length∧xs.length=vs.length∧ys.length=vs.length∧(∀(i:Nat) y,ys[i]? =some y->∃cv,cvs[i]? =some cv∧(kZ a.tmps y).run P w=.ok cv w)∧(∀(i:Nat) v cv,vs[i]? =some v->cvs[i]? =some cv->VRel g v cv)
 | [],[],vs,_,d=>by simp only[rvs,Ab] at d;subst d;exact⟨[],rfl,rfl,rfl,by simp,by simp⟩
 |x::xs,y::ys,vs,e,d=>by
  simp only[fC,Aa] at e;simp only[rvs] at d;split at d
  ·rename_i v r t A;obtain rfl:=Ai d;obtain⟨cv,k1,k2⟩:=abW h e.1 t;obtain⟨cvs,u,z,q,k,m⟩:=sN h e.2 A;refine⟨cv::cvs,by simp[u],by simp[z],by simp[q],?_,?_⟩
   ·intro i p j;cases i with
    |zero=>simp at j;subst j;exact⟨cv,rfl,k1⟩
    |succ i=>simpa using k i p (by simpa using j)
   ·intro i o f c b;cases i with
    |zero=>simp at c b;subst c b;exact k2
    |succ i=>exact m i o f (by simpa using c) (by simpa using b)
  ·simp at d
 | [],_::_,_,e,_=>by simp[fC] at e
 |_::_,[],_,e,_=>by simp[fC] at e
def kq:List Value->Value
 | [v]=>v
 |vs=>.tuple vs.toArray
theorem sv{fn:Func}{l:List ResultVar}{cvs:List Value}(F:fn.results.toList=l)(r:l.length=cvs.length)(B:l.length<=5)
  (h:∀(i:Nat) y,l[i]? =some y->∃cv,cvs[i]? =some cv∧(kZ a.tmps y).run P w=.ok cv w):
  (results fn a.tmps).run P w=.ok (kq cvs) w:=by
 have e:fn.results=l.toArray:=by rw[<-F]
 have C:results fn a.tmps=(do let vs <-fn.results.mapM (kZ a.tmps);pure (if h:vs.size=1 then vs[0] else .tuple vs)):=rfl;rw[C,e];match l,cvs,r,B,h with
 | [],[],_,_,_=>simp[kq]
 | [f],[c0],_,_,h=>obtain⟨_,b,d⟩:=h 0 f rfl;simp at b;subst b;simp[d,kq]
 | [f,k],[c0,v],_,_,h=>obtain⟨_,b,d⟩:=h 0 f rfl;obtain⟨_,c,m⟩:=h 1 k rfl;simp at b c;subst b c;simp[d,m,kq]
 | [f,k,o],[c0,v,c2],_,_,h=>obtain⟨_,b,d⟩:=h 0 f rfl;obtain⟨_,c,m⟩:=h 1 k rfl;obtain⟨_,j,q⟩:=h 2 o rfl;simp at b c j;subst b c j;simp[d,m,q,kq]
 | [f,k,o,t],[c0,v,c2,E],_,_,h=>obtain⟨_,b,d⟩:=h 0 f rfl;obtain⟨_,c,m⟩:=h 1 k rfl;obtain⟨_,j,q⟩:=h 2 o rfl;obtain⟨_,p,u⟩:=h 3 t rfl;simp at b c j p;subst b c j p;simp[d,m,q,u,kq]
 | [f,k,o,t,A],[c0,v,c2,E,G],_,_,h=>obtain⟨_,b,d⟩:=h 0 f rfl;obtain⟨_,c,m⟩:=h 1 k rfl;obtain⟨_,j,q⟩:=h 2 o rfl;obtain⟨_,p,u⟩:=h 3 t rfl;obtain⟨_,x,z⟩:=h 4 A rfl;simp at b c j p x;subst b c j p x;simp[d,m,q,u,z,kq]
theorem adl{G:List Nat}{f:Nat}{F:FnC}(h:gt P G T f F=true):∃fn c,P.funcs[f]? =some fn∧fn.ntmps=F.nt∧fn.name≠"runtime.NumGoroutine"∧fC P ⟨F.nt,G⟩ F.rs fn.results.toList=true∧fn.results.toList.length<=5∧fn.body=some c∧au P ⟨F.nt,G⟩ T F.body c=true:=by
 unfold gt at h;split at h
 ·rename_i fn b;simp only[Aa,beq_iff_eq,bne_iff_ne,ne_eq,decide_eq_true_eq] at h;obtain⟨i,k,j,m,d⟩:=h;split at d;·rename_i c e;exact⟨fn,c,b,i,k,j,m,e,d⟩
  ·simp at d
 ·simp at h
theorem ain{G:List Nat}{x:Nat}{k:List RV}{fn:Func}(q:fC P ⟨x,G⟩ k fn.results.toList=true)(A:fn.results.toList.length<=5){s':St}{y:Gh}{w':World}{p:Act}(B:SG y ⟨x,G⟩ s'.fs w' p){v:D}{hp':Hp}
  (d:fin k .ret s'=some (v,hp')):s'.hp=hp'∧∃cv,(results fn p.tmps).run P w'=.ok cv w'∧VRel y v cv:=by
 simp only[fin] at d;split at d
 ·rename_i F b;rw[j8] at d;simp only[Ab,Ae] at d;obtain⟨rfl,rfl⟩:=d;refine⟨rfl,?_⟩;have o:∃e,rvs s'.fs.E s'.fs.H k=some e:=by
   unfold jl at b;cases z:rvs s'.fs.E s'.fs.H k with
   |none=>rw[z] at b;simp at b
   |some e=>exact⟨e,rfl⟩
  obtain⟨e,f⟩:=o;obtain⟨cvs,m,J,u,t,j⟩:=sN B q f;have h:=sv (fn:=fn) (a:=p) (P:=P) (w:=w') rfl (by rw[u,m]) A t;unfold jl at b;rw[f] at b;clear f u t;match e,cvs,m,j,h,b with
  | [v0],[c0],_,j,h,b=>simp only[Ab] at b;subst b;exact⟨c0,h,j 0 v0 c0 rfl rfl⟩
  | [],[],_,j,h,b=>simp only[Ab] at b;subst b;exact⟨_,h,.tup [] #[] rfl (by simp)⟩
  |v0::I::e,c0::L::cvs,m,j,h,b=>simp only[Ab] at b;subst b;exact⟨_,h,.tup _ _ (by simpa using m.symm) (λi c cv C r=>j i c cv C (by simpa using r))⟩
 ·simp at d
theorem ahz{g:Gh}{f:Nat}{G:List Nat}{vs:List D}{hp:Hp}{cargs:Array Value}(p:vs.length<=f)(k:HR g hp.t.get hp.n w)(j:∀(i b:Nat),G[i]? =some b->g.A i∧g.ρ i=b)(m:vs.length=cargs.size)
  (d:∀(i:Nat) x cv,vs[i]? =some x->cargs[i]? =some cv->VRel g x cv):SG g ⟨f,G⟩ (St.fs ⟨si vs 0 ub,hp⟩) w {tmps:=cargs++DL (f-cargs.size) undef,defers:=[]}:=by
 refine⟨k,⟨by simp;omega,?_⟩,j⟩;intro n q;simp only[St.fs,aaC,Nat.zero_le,true_and,Aw,CG];by_cases h:n<vs.length
 ·rw[if_pos h];have o:vs[n]? =some vs[n]:=Ac h;have c:cargs[n]? =some (cargs[n]'(by omega)):=Ag _;have e:(cargs++DL (f-cargs.size) undef).getD n undef=cargs[n]'(by omega):=by
   simp only[CU];rw[BD (by omega),c];rfl
  rw[e,o];exact d n _ _ o c
 ·rw[if_neg h,afE];exact .undef _
theorem agm{G:List Nat}(M:bt P G Γ){f:Nat}{F:FnC}(W:gt P G T f F=true){L:Nat}{vs:List D}{hp hp':Hp}{v:D}(d:gr Γ L F vs hp=some (v,hp')):∃fn c,P.funcs[f]? =some fn∧fn.body=some c∧kJ P f=true∧
  ∀(w:World)(g:Gh)(cargs:Array Value),HR g hp.t.get hp.n w->(∀(i b:Nat),G[i]? =some b->g.A i∧g.ρ i=b)->vs.length=cargs.size->(∀(i:Nat) x cv,vs[i]? =some x->cargs[i]? =some cv->VRel g x cv)->
   c.wp P (bodyPost P fn λe w'=>∃cv z,e=.returned cv∧HR z hp'.t.get hp'.n w'∧FR (λid=>hp.n<=id) g hp.t.get w z hp'.t.get w'∧VRel z v cv∧hp.n<=hp'.n) {tmps:=cargs++DL (fn.ntmps-cargs.size) undef,defers:=[]} w:=by
 obtain⟨fn,c,Q,H,m,J,X,R,Z⟩:=adl W;refine⟨fn,c,Q,R,by simp[kJ,Q,R,m],?_⟩;intro w g cargs E N u o;unfold gr at d;rw[aI,acJ] at d;obtain⟨h,d⟩:=d;simp only[fa,Aw,Bz] at h;have I:=ahz (w:=w) h E N u o;rw[H];have y:=co (T:=T) (B:=hp.n) (df:=[]) M L F.body c Z (fin F.rs) ⟨si vs 0 ub,hp⟩ _ w g d ⟨I,FR.refl _ _ _ _,Ao _,rfl⟩;refine wp_mono y ?_;rintro e O w' ⟨ex,s',z,S,C,q⟩
 have j:∀v hp',fin F.rs .ret s'=some (v,hp')->O.defers=[]∧∃cv,(results fn O.tmps).run P w'=.ok cv w'∧
   (∃r k,Ending.returned cv=.returned r∧HR k hp'.t.get hp'.n w'∧FR (λid=>hp.n<=id) g hp.t.get w k hp'.t.get w'∧VRel k v r∧hp.n<=hp'.n):=by
  intro v hp' p;obtain⟨rfl,cv,Y,h2⟩:=ain J X q.sg p;exact⟨q.df,cv,Y,cv,z,rfl,q.sg.hr,q.fr,h2,q.le⟩
 cases ex with
 |normal=>cases e<;>simp only[gz] at S;exact j _ _ C
 |exit i=>simp[fin] at C
 |ret=>cases e<;>simp only[gz] at S;exact j _ _ C
theorem agn{G:List Nat}(c:bt P G Γ){f:Nat}{F:FnC}(p:gt P G T f F=true){L:Nat}{vs:List D}{hp hp':Hp}{v:D}(b:gr Γ L F vs hp=some (v,hp')):kJ P f=true∧FnOK P G f vs hp v hp':=by obtain⟨fn,e,k,o,d,h⟩:=agm c p b;exact⟨d,λw g cargs j i m q=>calls_of_wp k o (h w g cargs j i m q)⟩
theorem acL{G:List Nat}{Tb:Tab}(b:∀f F,Tb f=some F->gt P G T f F=true)(L:Nat):∀d,bt P G (wj Tb L d)
 |0=>λf vs hp v hp' h=>by simp[wj] at h
 |d+1=>λf vs hp v hp' h=>by
  simp only[wj] at h;split at h;·rename_i F c;exact agn (acL b L d) (b f F c) h
  ·simp at h
def tab:List (Nat×FnC)->Tab
 | [],_=>none
 |(i,F)::l,f=>cond (Af i f) (some F) (tab l f)
end
end
abbrev Res:=Option (D×Hp)
abbrev KK:=Env->Nat->Tr Obj->Res
abbrev up(K:KK):St->Res:=λs=>K s.env s.hp.n s.hp.t
abbrev Gt:=Env->(D->Res)->Res
abbrev Pt:=D->Env->(Env->Res)->Res
structure aF where
 n:Nat
 set:Pt
 ok:∀v e k,set v e k=k (e.set n v)
structure aw where
 s:ac
 ev:Gt
 ok:∀e k,ev e k=k (s.ev e.get)
def cst(v:D):Gt:=λ_ k=>k v
def cp:Env->(E16 (E16 D)->(E16 D->D->(E16 D->Res)->Res)->D->(E16 (E16 D)->Res)->Res)->(E16 D->D->(E16 D->Res)->Res)->D->(Env->Res)->Res:= @Env.rec (λ_=>(E16 (E16 D)->(E16 D->D->(E16 D->Res)->Res)->D->(E16 (E16 D)->Res)->Res)->(E16 D->D->(E16 D->Res)->Res)->D->(Env->Res)->Res) (λa b W w v K=>W a w v λa=>K ⟨a,b⟩)
def kc(v:D):aw:=⟨.c v,cst v,λ_ _=>rfl⟩
def ago:E16 D->D->(E16 D->Res)->Res:= @E16.rec D (λ_=>D->(E16 D->Res)->Res) (λa b c d e f g h i j k l m n o p v K=>K ⟨v,b,c,d,e,f,g,h,i,j,k,l,m,n,o,p⟩)
def oP:E16 (E16 D)->(E16 D->D->(E16 D->Res)->Res)->D->(E16 (E16 D)->Res)->Res:= @E16.rec (E16 D) (λ_=>(E16 D->D->(E16 D->Res)->Res)->D->(E16 (E16 D)->Res)->Res) (λa b c d e f g h i j k l m n o p w v K=>w a v λx=>K ⟨x,b,c,d,e,f,g,h,i,j,k,l,m,n,o,p⟩)
def aio:E16 D->D->(E16 D->Res)->Res:= @E16.rec D (λ_=>D->(E16 D->Res)->Res) (λa b c d e f g h i j k l m n o p v K=>K ⟨a,v,c,d,e,f,g,h,i,j,k,l,m,n,o,p⟩)
def nK:E16 (E16 D)->(E16 D->D->(E16 D->Res)->Res)->D->(E16 (E16 D)->Res)->Res:= @E16.rec (E16 D) (λ_=>(E16 D->D->(E16 D->Res)->Res)->D->(E16 (E16 D)->Res)->Res) (λa b c d e f g h i j k l m n o p w v K=>w b v λx=>K ⟨a,x,c,d,e,f,g,h,i,j,k,l,m,n,o,p⟩)
def agp:E16 D->D->(E16 D->Res)->Res:= @E16.rec D (λ_=>D->(E16 D->Res)->Res) (λa b c d e f g h i j k l m n o p v K=>K ⟨a,b,v,d,e,f,g,h,i,j,k,l,m,n,o,p⟩)
def nL:E16 (E16 D)->(E16 D->D->(E16 D->Res)->Res)->D->(E16 (E16 D)->Res)->Res:= @E16.rec (E16 D) (λ_=>(E16 D->D->(E16 D->Res)->Res)->D->(E16 (E16 D)->Res)->Res) (λa b c d e f g h i j k l m n o p w v K=>w c v λx=>K ⟨a,b,x,d,e,f,g,h,i,j,k,l,m,n,o,p⟩)
def agq:E16 D->D->(E16 D->Res)->Res:= @E16.rec D (λ_=>D->(E16 D->Res)->Res) (λa b c d e f g h i j k l m n o p v K=>K ⟨a,b,c,v,e,f,g,h,i,j,k,l,m,n,o,p⟩)
def aip:E16 D->D->(E16 D->Res)->Res:= @E16.rec D (λ_=>D->(E16 D->Res)->Res) (λa b c d e f g h i j k l m n o p v K=>K ⟨a,b,c,d,v,f,g,h,i,j,k,l,m,n,o,p⟩)
def agr:E16 D->D->(E16 D->Res)->Res:= @E16.rec D (λ_=>D->(E16 D->Res)->Res) (λa b c d e f g h i j k l m n o p v K=>K ⟨a,b,c,d,e,v,g,h,i,j,k,l,m,n,o,p⟩)
def ags:E16 D->D->(E16 D->Res)->Res:= @E16.rec D (λ_=>D->(E16 D->Res)->Res) (λa b c d e f g h i j k l m n o p v K=>K ⟨a,b,c,d,e,f,v,h,i,j,k,l,m,n,o,p⟩)
def aiq:E16 D->D->(E16 D->Res)->Res:= @E16.rec D (λ_=>D->(E16 D->Res)->Res) (λa b c d e f g h i j k l m n o p v K=>K ⟨a,b,c,d,e,f,g,v,i,j,k,l,m,n,o,p⟩)
def agt:E16 D->D->(E16 D->Res)->Res:= @E16.rec D (λ_=>D->(E16 D->Res)->Res) (λa b c d e f g h i j k l m n o p v K=>K ⟨a,b,c,d,e,f,g,h,v,j,k,l,m,n,o,p⟩)
def agu:E16 D->D->(E16 D->Res)->Res:= @E16.rec D (λ_=>D->(E16 D->Res)->Res) (λa b c d e f g h i j k l m n o p v K=>K ⟨a,b,c,d,e,f,g,h,i,v,k,l,m,n,o,p⟩)
def agv:E16 D->D->(E16 D->Res)->Res:= @E16.rec D (λ_=>D->(E16 D->Res)->Res) (λa b c d e f g h i j k l m n o p v K=>K ⟨a,b,c,d,e,f,g,h,i,j,v,l,m,n,o,p⟩)
def agw:E16 D->D->(E16 D->Res)->Res:= @E16.rec D (λ_=>D->(E16 D->Res)->Res) (λa b c d e f g h i j k l m n o p v K=>K ⟨a,b,c,d,e,f,g,h,i,j,k,v,m,n,o,p⟩)
def agx:E16 D->D->(E16 D->Res)->Res:= @E16.rec D (λ_=>D->(E16 D->Res)->Res) (λa b c d e f g h i j k l m n o p v K=>K ⟨a,b,c,d,e,f,g,h,i,j,k,l,v,n,o,p⟩)
def agy:E16 D->D->(E16 D->Res)->Res:= @E16.rec D (λ_=>D->(E16 D->Res)->Res) (λa b c d e f g h i j k l m n o p v K=>K ⟨a,b,c,d,e,f,g,h,i,j,k,l,m,v,o,p⟩)
def agz:E16 D->D->(E16 D->Res)->Res:= @E16.rec D (λ_=>D->(E16 D->Res)->Res) (λa b c d e f g h i j k l m n o p v K=>K ⟨a,b,c,d,e,f,g,h,i,j,k,l,m,n,v,p⟩)
def air:E16 D->D->(E16 D->Res)->Res:= @E16.rec D (λ_=>D->(E16 D->Res)->Res) (λa b c d e f g h i j k l m n o p v K=>K ⟨a,b,c,d,e,f,g,h,i,j,k,l,m,n,o,v⟩)
def vL:D->Res->(IntKind->Int->Res)->Res:= @D.rec (λ_=>Res->(IntKind->Int->Res)->Res) (λ_=>Unit) (λo _=>o) (λ_ o _=>o) (λt n _ k=>k t n) (λ_ o _=>o) (λo _=>o) (λ_ _ o _=>o) (λo _=>o) (λo _=>o) (λ_ _ _ _ _ o _=>o) (λ_ _ o _=>o) (λ_ _ o _=>o) (λ_ _ _ o _=>o) (λo _=>o) (λo _=>o) (λ_ o _=>o) (λo _=>o) (λ_ _=>(λo _=>o)) () (λ_ _ _ _=>())
def agA:D->Res->(List Nat->Res)->Res:= @D.rec (λ_=>Res->(List Nat->Res)->Res) (λ_=>Unit) (λo _=>o) (λ_ o _=>o) (λ_ _ o _=>o) (λb _ k=>k b) (λo _=>o) (λ_ _ o _=>o) (λo _=>o) (λo _=>o) (λ_ _ _ _ _ o _=>o) (λ_ _ o _=>o) (λ_ _ o _=>o) (λ_ _ _ o _=>o) (λo _=>o) (λo _=>o) (λ_ o _=>o) (λo _=>o) (λ_ _=>(λo _=>o)) () (λ_ _ _ _=>())
def zW:D->Res->(Nat->Nat->Res)->Res:= @D.rec (λ_=>Res->(Nat->Nat->Res)->Res) (λ_=>Unit) (λo _=>o) (λ_ o _=>o) (λ_ _ o _=>o) (λ_ o _=>o) (λo _=>o) (λa b _ k=>k a b) (λo _=>o) (λo _=>o) (λ_ _ _ _ _ o _=>o) (λ_ _ o _=>o) (λ_ _ o _=>o) (λ_ _ _ o _=>o) (λo _=>o) (λo _=>o) (λ_ o _=>o) (λo _=>o) (λ_ _=>(λo _=>o)) () (λ_ _ _ _=>())
def dSl:D->Res->(Nat->Nat->Nat->Nat->Option Nat->Res)->Res:= @D.rec (λ_=>Res->(Nat->Nat->Nat->Nat->Option Nat->Res)->Res) (λ_=>Unit) (λo _=>o) (λ_ o _=>o) (λ_ _ o _=>o) (λ_ o _=>o) (λo _=>o) (λ_ _ o _=>o) (λo _=>o) (λo _=>o) (λa b c d e _ k=>k a b c d e) (λ_ _ o _=>o) (λ_ _ o _=>o) (λ_ _ _ o _=>o) (λo _=>o) (λo _=>o) (λ_ o _=>o) (λo _=>o) (λ_ _=>(λo _=>o)) () (λ_ _ _ _=>())
def ais:D->Res->Res->Res:= @D.rec (λ_=>Res->Res->Res) (λ_=>Unit) (λo _=>o) (λ_ o _=>o) (λ_ _ o _=>o) (λ_ o _=>o) (λo _=>o) (λ_ _ o _=>o) (λ_ k=>k) (λo _=>o) (λ_ _ _ _ _ o _=>o) (λ_ _ o _=>o) (λ_ _ o _=>o) (λ_ _ _ o _=>o) (λo _=>o) (λo _=>o) (λ_ o _=>o) (λo _=>o) (λ_ _=>(λo _=>o)) () (λ_ _ _ _=>())
def ait:D->Res->Res->Res:= @D.rec (λ_=>Res->Res->Res) (λ_=>Unit) (λ_ _=>none) (λb x y=>Ar (motive:=λ_=>Res) y x b) (λ_ _ _ _=>none) (λ_ _ _=>none) (λ_ _=>none) (λ_ _ _ _=>none) (λ_ _=>none) (λ_ _=>none) (λ_ _ _ _ _ _ _=>none) (λ_ _ _ _=>none) (λ_ _ _ _=>none) (λ_ _ _ _ _=>none) (λ_ _=>none) (λ_ _=>none) (λ_ _ _=>none) (λ_ _=>none) (λ_ _=>(λ_ _=>none)) () (λ_ _ _ _=>())
def aeI:D->Bool:= @D.rec (λ_=>Bool) (λ_=>Unit) false (λ_=>true) (λ_ _=>true) (λ_=>true) true (λ_ _=>true) true true (λ_ _ _ _ _=>true) (λ_ _=>false) (λ_ _=>false) (λ_ _ _=>true) true true (λ_=>true) true (λ_ _=>true) () (λ_ _ _ _=>())
def acM:Int->Res->(Nat->Res)->Res:= @Int.rec (λ_=>Res->(Nat->Res)->Res) (λm _ k=>k m) (λ_ o _=>o)
def agB{α:Type}:List α->Nat->Res->(α->Res)->Res:= @List.rec α (λ_=>Nat->Res->(α->Res)->Res) (λ_ o _=>o) (λa _ b i o k=>Ar (motive:=λ_=>Res) (b (BV i 1) o k) (k a) (Af i 0))
def sH{α:Type}:List α->Nat->(Nat->Res)->Res:= @List.rec α (λ_=>Nat->(Nat->Res)->Res) (λn k=>k n) (λ_ _ a n k=>a (Bk n) k)
def im:Nat->(Nat->Res)->Res:= @Nat.rec (λ_=>(Nat->Res)->Res) (λk=>k 0) (λn _ k=>k (Bk n))
def adM:Int->(Int->Res)->Res:= @Int.rec (λ_=>(Int->Res)->Res) (λm k=>im m λm=>k (.ofNat m)) (λm k=>im m λm=>k (.negSucc m))
def adN:Bool->(Bool->Res)->Res:= @Bool.rec (λ_=>(Bool->Res)->Res) (λk=>k false) (λk=>k true)
def abc{α:Type}:Nat->List α->(List α->Res)->Res:= @Nat.rec (λ_=>List α->(List α->Res)->Res) (λ_ k=>k []) (λ_ b l k=>BC (motive:=λ_=>Res) (k []) (λa r _=>b r λt=>k (a::t)) l)
def abd{α:Type}:Nat->List α->(List α->Res)->Res:= @Nat.rec (λ_=>List α->(List α->Res)->Res) (λl k=>k l) (λ_ a l k=>BC (motive:=λ_=>Res) (k []) (λ_ r _=>a r k) l)
def zX{α:Type}:List α->List α->(List α->Res)->Res:= @List.rec α (λ_=>List α->(List α->Res)->Res) (λm k=>k m) (λa _ b m k=>b m λt=>k (a::t))
def adO{α:Type}(v:α):List α->Nat->Res->(List α->Res)->Res:= @List.rec α (λ_=>Nat->Res->(List α->Res)->Res) (λ_ o _=>o) (λa r b i o k=>Ar (motive:=λ_=>Res) (b (BV i 1) o λt=>k (a::t)) (k (v::r)) (Af i 0))
def pf{α:Type}:Tr α->Nat->Option α:= @Tr.rec α (λ_=>Nat->Option α) (λ_=>none) (λ_ v _ a b i=>Ar (motive:=λ_=>Option α) (Ar (motive:=λ_=>Option α) (b (BV (A1 i 2) 1)) (a (A1 i 2)) (Af (Bo i 2) 1)) v (Af i 0))
def yN{α:Type}:Nat->Nat->Option α->(Tr α->Res)->Res:= @Nat.rec (λ_=>Nat->Option α->(Tr α->Res)->Res) (λ_ _ k=>k .e) (λ_ a i v k=>Ar (motive:=λ_=>Res) (Ar (motive:=λ_=>Res) (a (BV (A1 i 2) 1) v λt=>k (.n .e none t)) (a (A1 i 2) v λt=>k (.n t none .e)) (Af (Bo i 2) 1)) (k (.n .e v .e)) (Af i 0))
def rv{α:Type}:Tr α->Nat->Option α->(Tr α->Res)->Res:= @Tr.rec α (λ_=>Nat->Option α->(Tr α->Res)->Res) (λi v k=>yN (Bk i) i v k)
 (λl x r a b i v k=>Ar (motive:=λ_=>Res) (Ar (motive:=λ_=>Res) (b (BV (A1 i 2) 1) v λt=>k (.n l x t)) (a (A1 i 2) v λt=>k (.n t x r)) (Af (Bo i 2) 1)) (k (.n l v r)) (Af i 0))
def obR:Option Obj->Res->(Nat->Bool->List D->Res)->Res:= @Option.rec Obj (λ_=>Res->(Nat->Bool->List D->Res)->Res) (λg _=>g) (@Obj.rec (λ_=>Res->(Nat->Bool->List D->Res)->Res) (λe f cs _ k=>k e f cs) (λ_ g _=>g))
def lim:IntKind->Nat:= @IntKind.rec (λ_=>Nat) 128 32768 2147483648 9223372036854775808 256 65536 4294967296 18446744073709551616
def mv(k:IntKind):Int->Int:= @Int.rec (λ_=>Int) (λm=>Ar (motive:=λ_=>Int) (k.wrap (.ofNat m)) (.ofNat m) (AV m (lim k))) (λm=>k.wrap (.negSucc m))
def ltR:Int->Int->Bool:= @Int.rec (λ_=>Int->Bool) (λm=> @Int.rec (λ_=>Bool) (λn=>AV m n) (λ_=>false)) (λm=> @Int.rec (λ_=>Bool) (λ_=>true) (λn=>AV n m))
def eqR:Int->Int->Bool:= @Int.rec (λ_=>Int->Bool) (λm=> @Int.rec (λ_=>Bool) (λn=>Af m n) (λ_=>false)) (λm=> @Int.rec (λ_=>Bool) (λ_=>false) (λn=>Af m n))
def zY:Bool->Bool:= @Bool.rec (λ_=>Bool) true false
def kn:IntKind->Nat:= @IntKind.rec (λ_=>Nat) 0 1 2 3 4 5 6 7
def agC:List Nat->List Nat->Bool:= @List.rec Nat (λ_=>List Nat->Bool) (@List.rec Nat (λ_=>Bool) true (λ_ _ _=>false)) (λa _ c m=>BC (motive:=λ_=>Bool) false (λb r _=>Ar (motive:=λ_=>Bool) false (c r) (Af a b)) m)
def wk:IntKind->Bool:= @IntKind.rec (λ_=>Bool) false false false true false false false false
theorem agD(t:IntKind):wk t=true->t=.i64:=by cases t<;>first|(intro;rfl)|(intro h;cases h)
structure QK where
 q:IntKind->Bool
 k0:IntKind
 hq:∀k,q k=true->k=k0
 l:Nat
 hl:l=lim k0
def abe:QK:=⟨wk,.i64,agD,9223372036854775808,rfl⟩
theorem tj(d:D)(o:Res)(k:IntKind->Int->Res):vL d o k=match d with| .int t n=>k t n|_=>o:=by cases d<;>rfl
theorem adP(d:D)(o:Res)(k:List Nat->Res):agA d o k=match d with| .str t=>k t|_=>o:=by cases d<;>rfl
theorem tl(d:D)(o:Res)(k:Nat->Nat->Res):zW d o k=match d with| .ptr i j=>k i j|_=>o:=by cases d<;>rfl
theorem afH(d:D)(o:Res)(k:Nat->Nat->Nat->Nat->Option Nat->Res):dSl d o k=match d with| .sl a b c e f=>k a b c e f|_=>o:=by cases d<;>rfl
theorem ahA(d:D)(o k:Res):ais d o k=match d with| .nils=>k|_=>o:=by cases d<;>rfl
theorem zZ(n:Int)(o:Res)(k:Nat->Res):acM n o k=match n with| .ofNat n=>k n|_=>o:=by cases n<;>rfl
theorem bk{R:Type}(a b:R)(c:Bool):Ar (motive:=λ_=>R) a b c=cond c b a:=by cases c<;>rfl
theorem z6{α:Type}:∀(l:List α)(i:Nat)(o:Res)(k:α->Res),agB l i o k=match l[i]? with|some a=>k a|none=>o
 | [],i,o,k=>by cases i<;>rfl
 |a::l,0,o,k=>rfl
 |a::l,i+1,o,k=>(z6 l i o k).trans (by simp)
theorem pg{α:Type}:∀(l:List α)(n:Nat)(k:Nat->Res),sH l n k=k (n+l.length)
 | [],n,k=>rfl
 |a::l,n,k=>(pg l (Bk n) k).trans (by congr 1;simp;omega)
theorem e9(m:Nat)(k:Nat->Res):im m k=k m:=by cases m<;>rfl
theorem aeJ(n:Int)(k:Int->Res):adM n k=k n:=by cases n<;>exact e9 _ _
theorem aeK(b:Bool)(k:Bool->Res):adN b k=k b:=by cases b<;>rfl
theorem uf{α:Type}:∀(n:Nat)(l:List α)(k:List α->Res),abc n l k=k (l.take n)
 |0,l,k=>rfl
 |n+1,[],k=>rfl
 |n+1,a::l,k=>(uf n l λt=>k (a::t)).trans (by simp)
theorem ug{α:Type}:∀(n:Nat)(l:List α)(k:List α->Res),abd n l k=k (l.drop n)
 |0,l,k=>rfl
 |n+1,[],k=>rfl
 |n+1,a::l,k=>(ug n l k).trans (by simp)
theorem wl{α:Type}:∀(l m:List α)(k:List α->Res),zX l m k=k (l++m)
 | [],m,k=>rfl
 |a::l,m,k=>(wl l m λt=>k (a::t)).trans (by simp)
theorem yO{α:Type}(v:α):∀(l:List α)(i:Nat)(o:Res)(k:List α->Res),adO v l i o k=cond (AO (i+1) l.length) (k (l.take i++[v]++l.drop (i+1))) o
 | [],i,o,k=>rfl
 |a::l,0,o,k=>rfl
 |a::l,i+1,o,k=>(yO v l i o λt=>k (a::t)).trans (by simp[AO])
theorem kV{α:Type}:∀(t:Tr α)(i:Nat),pf t i=t.get i
 | .e,i=>rfl
 | .n l v r,i=>by show Ar (motive:=λ_=>Option α) (Ar (motive:=λ_=>Option α) (pf r (BV (A1 i 2) 1)) (pf l (A1 i 2)) (Af (Bo i 2) 1)) v (Af i 0)=_;rw[kV l,kV r,bk,bk];rfl
theorem xC{α:Type}:∀(f i:Nat)(v:Option α)(k:Tr α->Res),yN f i v k=k (Tr.set f .e i v)
 |0,i,v,k=>rfl
 |f+1,i,v,k=>by show Ar (motive:=λ_=>Res) (Ar (motive:=λ_=>Res) (yN f (BV (A1 i 2) 1) v λt=>k (.n .e none t)) (yN f (A1 i 2) v λt=>k (.n t none .e)) (Af (Bo i 2) 1)) (k (.n .e v .e)) (Af i 0)=_;rw[xC f,xC f,bk,bk];simp only[Tr.set];cases Af i 0<;>cases Af (Bo i 2) 1<;>rfl
theorem uh{α:Type}:∀(f a:Nat)(t:Tr α)(i:Nat)(v:Option α),i<f->i<a->Tr.set f t i v=Tr.set a t i v
 |0,a,t,i,v,h,b=>by omega
 |f+1,0,t,i,v,h,b=>by omega
 |f+1,a+1,t,i,v,h,b=>by
  by_cases d:i=0;·subst d;cases t<;>rfl
  ·have e1:∀t:Tr α,Tr.set f t (A1 i 2) v=Tr.set a t (A1 i 2) v:=λt=>uh f a t _ v (by show i / 2<f;omega) (by show i / 2<a;omega)
   have c:∀t:Tr α,Tr.set f t (BV (A1 i 2) 1) v=Tr.set a t (BV (A1 i 2) 1) v:=λt=>uh f a t _ v (by show i / 2-1<f;omega) (by show i / 2-1<a;omega)
   cases t<;>simp only[Tr.set,e1,c]
theorem nT{α:Type}:∀(t:Tr α)(i:Nat)(v:Option α)(k:Tr α->Res),rv t i v k=k (t.set (Bk i) i v)
 | .e,i,v,k=>(show yN (Bk i) i v k=k (Tr.set (Bk i) .e i v) from xC _ _ _ _)
 | .n l x r,i,v,k=>by
   show Ar (motive:=λ_=>Res) (Ar (motive:=λ_=>Res) (rv r (BV (A1 i 2) 1) v λt=>k (.n l x t)) (rv l (A1 i 2) v λt=>k (.n t x r)) (Af (Bo i 2) 1)) (k (.n l v r)) (Af i 0)=_;rw[nT l,nT r,bk,bk];by_cases a:i=0;·subst a;rfl
   ·rw[uh (Bk (A1 i 2)) i l (A1 i 2) v (CC _) (by show i / 2<i;omega),uh (Bk (BV (A1 i 2) 1)) i r (BV (A1 i 2) 1) v (CC _) (by show i / 2-1<i;omega)];simp only[Tr.set];cases Af i 0<;>cases Af (Bo i 2) 1<;>rfl
theorem vM(o:Option Obj)(g:Res)(k:Nat->Bool->List D->Res):obR o g k=match o with|some (.cells e f cs)=>k e f cs|_=>g:=by
 cases o with
 |none=>rfl
 |some o=>cases o<;>rfl
theorem acN{k:IntKind}{m:Nat}(h:m<lim k):k.wrap (Int.ofNat m)=Int.ofNat m:=by cases k<;>simp[lim] at h<;>simp[Az,Bu,Bh]<;>omega
theorem agE(k:IntKind)(n:Int):mv k n=k.wrap n:=by
 cases n with
 |negSucc m=>rfl
 |ofNat m=>
  show Ar (motive:=λ_=>Int) (k.wrap (.ofNat m)) (.ofNat m) (AV m (lim k))=_;rw[bk];cases h:AV m (lim k) with
  |false=>rfl
  |true=>exact(acN (by simpa [Bb] using h)).symm
theorem aiu(a b:Int):ltR a b=ltI a b:=by cases a<;>cases b<;>rfl
theorem afI(a b:Int):eqR a b=eqI a b:=by cases a<;>cases b<;>rfl
theorem wm(b:Bool):zY b= !b:=by cases b<;>rfl
theorem ajF(a b:IntKind):Af (kn a) (kn b)=gv a b:=by cases a<;>cases b<;>rfl
theorem adQ:∀(l m:List Nat),agC l m=eqL l m
 | [],m=>by cases m<;>rfl
 |a::l,[]=>rfl
 |a::l,b::m=>by show Ar (motive:=λ_=>Bool) false (agC l m) (Af a b)=_;rw[bk,adQ l m];rfl
theorem adR(d:D):aeI d=d.one:=by cases d<;>rfl
theorem ahB(d:D)(x y:Res):ait d x y=match d with| .bool b=>cond b x y|_=>none:=by
 cases d<;>first|rfl|skip
 rename_i b;cases b<;>rfl
theorem agF{α:Type}{cs:List α}{o:Nat}{c:α}(h:cs[o]? =some c):o+1<=cs.length∧(cs.drop o).take 1=[c]:=by obtain⟨a,b⟩:=Ad.1 h;refine⟨a,?_⟩;rw[BU a,b];simp
theorem agG{α:Type}{cs:List α}{o m:Nat}(h:((cs.drop o).take (m+1)).length=m+1):o+(m+1)<=cs.length:=by rw[B5,Cp] at h;omega
theorem vN{v:D}(h:v.one=true):v.cells=[v]:=by cases v<;>first|rfl|simp[D.one] at h
def fb(g:GOp)(Γ:Sp)(K:KK)(e:Env)(n:Nat)(t:Tr Obj):Res:=aW Γ n n 0 [] g ⟨e,⟨n,t⟩⟩ (up K)
def agH(e:Env)(d:Option Nat)(v:D):Env:=match d with
 |some d=>e.set d v
 |none=>e
theorem hJ{d:Option Nat}{o:IOp}{at_ n n0 m:Nat}{a:List Nat}{Γ:Sp}{K:KK}{e:Env}{t:Tr Obj}(b:o.isCall=false):aW Γ at_ n n0 a ⟨d,none,o⟩ ⟨e,⟨m,t⟩⟩ (up K)=match eff at_ e.get t.get o with
  |some (v,ws)=>K (agH e d v) n ((⟨n,t⟩:Hp).puts ws).t
  |none=>none:=by
 unfold aW step;simp only[b,cond_false,zO];show yC n _ _ _ (eff at_ e.get t.get o)=_;cases eff at_ e.get t.get o with
 |none=>rfl
 |some p=>obtain⟨v,ws⟩:=p;simp only[yC,j8,vE,tY,hD,kU,Bool.cond_self];cases d<;>rfl
theorem dt{d:Option Nat}{o:IOp}{Γ:Sp}{K:KK}{e:Env}{n:Nat}{t:Tr Obj}(a:o.isCall=false):fb ⟨d,none,o⟩ Γ K e n t=match eff n e.get t.get o with
  |some (v,ws)=>K (agH e d v) n ((⟨n,t⟩:Hp).puts ws).t
  |none=>none:=hJ a
abbrev Rn:=Sp->KK->Env->Nat->Tr Obj->Res
structure KOp where
 g:GOp
 run:Rn
 nm:g.o.makes=false
 ok:∀Γ K e n t,run Γ K e n t=fb g Γ K e n t
structure KMk where
 g:GOp
 run:Nat->Nat->KK->Env->Tr Obj->Res
 nm:g.o.makes=true
 ok:∀Γ at_ n n0 m K e t,run at_ n K e t=aW Γ at_ n n0 [] g ⟨e,⟨m,t⟩⟩ (up K)
theorem ahC{g:GOp}(a:g.o.makes=false)(Γ:Sp)(at_ n n0:Nat)(s:St)(k:St->Res):step Γ at_ n n0 [] g s k=step Γ n n 0 [] g s k:=by
 unfold step;cases b:g.o.isCall with
 |true=>simp only[cond_true,aba,hide,back,List.map_nil]
 |false=>
  simp only[cond_false,zO]
  congr 1
  cases g with
  |mk d c o=>cases o<;>first|rfl|simp[IOp.makes] at a
theorem ag6{g:GOp}(a:g.o.makes=false)(Γ:Sp)(at_ n n0:Nat)(K:KK)(e:Env)(t:Tr Obj):aW Γ at_ n n0 [] g ⟨e,⟨n,t⟩⟩ (up K)=fb g Γ K e n t:=by unfold fb aW;simp only[ahC a Γ at_ n n0]
def kfb(g:GOp)(h:g.o.makes=false):KOp:=⟨g,fb g,h,λ_ _ _ _ _=>rfl⟩
def mJ(o:IOp)(d:Option Nat)(at_ n:Nat)(K:KK)(e:Env)(t:Tr Obj):Res:=aW (λ_ _ _=>none) at_ n 0 [] ⟨d,none,o⟩ ⟨e,⟨n,t⟩⟩ (up K)
theorem wn{o:IOp}(h:o.makes=true):o.isCall=false:=by cases o<;>simp[IOp.makes] at h<;>rfl
def kmb(d:Option Nat)(o:IOp)(h:o.makes=true):KMk:=⟨⟨d,none,o⟩,mJ o d,h,λΓ at_ n n0 m K e t=>by rw[hJ (wn h)];exact hJ (wn h)⟩
def kF(S:Pt)(X:Gt):Rn:=λΓ K e n t=>X e λv=>S v e λe=>K e n t
theorem aiv(d:aF)(x:aw)(Γ:Sp)(K:KK)(e:Env)(n:Nat)(t:Tr Obj):kF d.set x.ev Γ K e n t=fb ⟨some d.n,none,.mov x.s⟩ Γ K e n t:=by rw[dt rfl];simp only[kF,d.ok,x.ok,eff];rfl
def qa(d:aF)(x:aw):KOp:=⟨⟨some d.n,none,.mov x.s⟩,kF d.set x.ev,rfl,aiv d x⟩
def abf(g:GOp)(S:Pt)(k:IntKind)(X:Gt):Rn:=λΓ K e n t=>X e λv=>vL v (fb g Γ K e n t) λ_ m=>adM (mv k m) λm=>S (.int k m) e λe=>K e n t
theorem aiw(d:aF)(k:IntKind)(x:aw)(Γ:Sp)(K:KK)(e:Env)(n:Nat)(t:Tr Obj):abf ⟨some d.n,none,.cvi k x.s⟩ d.set k x.ev Γ K e n t=fb ⟨some d.n,none,.cvi k x.s⟩ Γ K e n t:=by rw[dt rfl];simp only[abf,aeJ,tj,agE,d.ok,x.ok,eff];rw[dt rfl];simp only[eff];cases x.s.ev e.get<;>rfl
def ajV(d:aF)(k:IntKind)(x:aw):KOp:=⟨⟨some d.n,none,.cvi k x.s⟩,abf ⟨some d.n,none,.cvi k x.s⟩ d.set k x.ev,rfl,aiw d k x⟩
def aix(S:Pt)(q:IntKind->Bool)(l:Nat)(K:KK)(e:Env)(n:Nat)(t:Tr Obj)(o:Res)(x y:D):Res:=vL x o λk a=>acM a o λa=>vL y o λk1 b=>acM b o λb=>Ar (motive:=λ_=>Res) o (Ar (motive:=λ_=>Res) o (im (CH a b) λs=>Ar (motive:=λ_=>Res) o (S (.int k (.ofNat s)) e λe=>K e n t) (AV s l)) (q k1)) (q k)
def wo(g:GOp)(S:Pt)(X Y:Gt)(q:IntKind->Bool)(l:Nat):Rn:=λΓ K e n t=>X e λx=>Y e λy=>aix S q l K e n t (fb g Γ K e n t) x y
theorem aiy(d:aF)(x y:aw)(q:IntKind->Bool)(k0:IntKind)(f:∀k,q k=true->k=k0)(l:Nat)(i:l=lim k0)(Γ:Sp)(K:KK)(e:Env)(n:Nat)(t:Tr Obj):wo ⟨some d.n,none,.bin .add x.s y.s⟩ d.set x.ev y.ev q l Γ K e n t=fb ⟨some d.n,none,.bin .add x.s y.s⟩ Γ K e n t:=by
 subst i;rw[dt rfl];simp only[wo,aix,e9,tj,zZ,bk,d.ok,x.ok,y.ok,eff];rw[dt rfl];simp only[eff];cases x.s.ev e.get<;>try rfl
 rename_i k a;cases a<;>try rfl
 rename_i a;cases y.s.ev e.get<;>try rfl
 rename_i k1 b;cases b<;>try rfl
 rename_i b;simp only;cases h:q k<;>try rfl
 cases g:q k1<;>try rfl
 obtain rfl:=f _ h;obtain rfl:=f _ g;cases c:AV (CH a b) (lim k1)<;>try rfl
 have c:a+b<lim k1:=by simpa [Bb] using c
 have e1:pV .add (.int k1 (.ofNat a)) (.int k1 (.ofNat b))=some (.int k1 (.ofNat (a+b))):=by
  have:gv k1 k1=true:=by cases k1<;>rfl
  simp only[pV,this,chk,cond_true,nZ];rw[<-acN c];rfl
 rw[e1];rfl
def agI(d:aF)(x y:aw)(Q:QK):KOp:=⟨⟨some d.n,none,.bin .add x.s y.s⟩,wo ⟨some d.n,none,.bin .add x.s y.s⟩ d.set x.ev y.ev Q.q Q.l,rfl,aiy d x y Q.q Q.k0 Q.hq Q.l Q.hl⟩
def aiz(S:Pt)(q:IntKind->Bool)(K:KK)(e:Env)(n:Nat)(t:Tr Obj)(o:Res)(x y:D):Res:=vL x o λk a=>vL y o λk1 b=>Ar (motive:=λ_=>Res) o (Ar (motive:=λ_=>Res) o (adN (ltR a b) λb=>S (.bool b) e λe=>K e n t) (q k1)) (q k)
def abg(g:GOp)(S:Pt)(X Y:Gt)(q:IntKind->Bool):Rn:=λΓ K e n t=>X e λx=>Y e λy=>aiz S q K e n t (fb g Γ K e n t) x y
theorem aiA(d:aF)(x y:aw)(q:IntKind->Bool)(k0:IntKind)(c:∀k,q k=true->k=k0)(Γ:Sp)(K:KK)(e:Env)(n:Nat)(t:Tr Obj):abg ⟨some d.n,none,.bin .lss x.s y.s⟩ d.set x.ev y.ev q Γ K e n t=fb ⟨some d.n,none,.bin .lss x.s y.s⟩ Γ K e n t:=by
 rw[dt rfl];simp only[abg,aiz,aeK,d.ok,x.ok,y.ok,tj,afI,aiu,wm,bk,eff];rw[dt rfl];simp only[eff];cases x.s.ev e.get<;>try rfl
 cases y.s.ev e.get<;>try rfl
 rename_i k a k1 b;simp only;cases f:q k<;>try rfl
 cases g:q k1<;>try rfl
 obtain rfl:=c _ f;obtain rfl:=c _ g;cases k1<;>rfl
def ajW(d:aF)(x y:aw)(Q:QK):KOp:=⟨⟨some d.n,none,.bin .lss x.s y.s⟩,abg ⟨some d.n,none,.bin .lss x.s y.s⟩ d.set x.ev y.ev Q.q,rfl,aiA d x y Q.q Q.k0 Q.hq⟩
def yP(g:GOp)(S:Pt)(X:Gt):Rn:=λΓ K e n t=>X e λx=>agA x (fb g Γ K e n t) λl=>sH l 0 λm=>im m λm=>S (.int .i64 (.ofNat m)) e λe=>K e n t
theorem ahD(d:aF)(x:aw)(Γ:Sp)(K:KK)(e:Env)(n:Nat)(t:Tr Obj):yP ⟨some d.n,none,.len true x.s⟩ d.set x.ev Γ K e n t=fb ⟨some d.n,none,.len true x.s⟩ Γ K e n t:=by rw[dt rfl];simp only[yP,d.ok,x.ok,adP,pg,e9,eff];rw[dt rfl];simp only[eff,fa];cases x.s.ev e.get<;>rfl
def ajG(d:aF)(x:aw):KOp:=⟨⟨some d.n,none,.len true x.s⟩,yP ⟨some d.n,none,.len true x.s⟩ d.set x.ev,rfl,ahD d x⟩
def abh(g:GOp)(S:Pt)(X Y:Gt):Rn:=λΓ K e n t=>X e λx=>agA x (fb g Γ K e n t) λl=>Y e λy=>vL y (fb g Γ K e n t) λ_ m=>acM m (fb g Γ K e n t) λm=>agB l m (fb g Γ K e n t) λc=>S (.int .u8 (.ofNat c)) e λe=>K e n t
theorem aiB(d:aF)(x y:aw)(Γ:Sp)(K:KK)(e:Env)(n:Nat)(t:Tr Obj):abh ⟨some d.n,none,.idx x.s y.s⟩ d.set x.ev y.ev Γ K e n t=fb ⟨some d.n,none,.idx x.s y.s⟩ Γ K e n t:=by
 rw[dt rfl];simp only[abh,adP,tj,zZ,z6,d.ok,x.ok,y.ok,eff];rw[dt rfl];simp only[eff];cases x.s.ev e.get<;>try rfl
 cases y.s.ev e.get<;>try rfl
 rename_i l k m;cases m<;>try rfl
 rename_i m;simp only;cases l[m]?<;>rfl
def ajX(d:aF)(x y:aw):KOp:=⟨⟨some d.n,none,.idx x.s y.s⟩,abh ⟨some d.n,none,.idx x.s y.s⟩ d.set x.ev y.ev,rfl,aiB d x y⟩
def yQ(g:GOp)(S:Pt)(sz:Nat)(X Y:Gt):Rn:=λΓ K e n t=>X e λx=>dSl x (fb g Γ K e n t) λid a m b _=>Y e λy=>vL y (fb g Γ K e n t) λ_ q=>acM q (fb g Γ K e n t) λq=>Ar (motive:=λ_=>Res) (fb g Γ K e n t) (Ar (motive:=λ_=>Res) (fb g Γ K e n t) (im (CH a (CT q sz)) λo=>S (.ptr id o) e λe=>K e n t) (Af sz b)) (AV q m)
theorem aiC(d:aF)(sz:Nat)(x y:aw)(Γ:Sp)(K:KK)(e:Env)(n:Nat)(t:Tr Obj):yQ ⟨some d.n,none,.ixa sz x.s y.s⟩ d.set sz x.ev y.ev Γ K e n t=fb ⟨some d.n,none,.ixa sz x.s y.s⟩ Γ K e n t:=by
 rw[dt rfl];simp only[yQ,afH,tj,zZ,bk,e9,d.ok,x.ok,y.ok,eff];rw[dt rfl];simp only[eff];cases x.s.ev e.get<;>try rfl
 cases y.s.ev e.get<;>try rfl
 rename_i id b m a c k q;cases q<;>try rfl
 rename_i q;simp only;cases AV q m<;>cases Af sz a<;>rfl
def aiD(d:aF)(sz:Nat)(x y:aw):KOp:=⟨⟨some d.n,none,.ixa sz x.s y.s⟩,yQ ⟨some d.n,none,.ixa sz x.s y.s⟩ d.set sz x.ev y.ev,rfl,aiC d sz x y⟩
def qB(g:GOp)(S:Pt)(a:Nat)(X:Gt):Rn:=λΓ K e n t=>X e λx=>zW x (fb g Γ K e n t) λid o=>im (CH o a) λo=>S (.ptr id o) e λe=>K e n t
theorem aiE(d:aF)(a:Nat)(x:aw)(Γ:Sp)(K:KK)(e:Env)(n:Nat)(t:Tr Obj):qB ⟨some d.n,none,.fad a x.s⟩ d.set a x.ev Γ K e n t=fb ⟨some d.n,none,.fad a x.s⟩ Γ K e n t:=by rw[dt rfl];simp only[qB,tl,e9,d.ok,x.ok,eff];rw[dt rfl];simp only[eff];cases x.s.ev e.get<;>rfl
def z7(d:aF)(a:Nat)(x:aw):KOp:=⟨⟨some d.n,none,.fad a x.s⟩,qB ⟨some d.n,none,.fad a x.s⟩ d.set a x.ev,rfl,aiE d a x⟩
def xD(g:GOp)(S:Pt)(X:Gt):Rn:=λΓ K e n t=>X e λx=>zW x (fb g Γ K e n t) λid o=>obR (pf t id) (fb g Γ K e n t) λ_ _ cs=>agB cs o (fb g Γ K e n t) λc=>S c e λe=>K e n t
theorem ajH(d:aF)(x:aw)(Γ:Sp)(K:KK)(e:Env)(n:Nat)(t:Tr Obj):xD ⟨some d.n,none,.ld 1 false x.s⟩ d.set x.ev Γ K e n t=fb ⟨some d.n,none,.ld 1 false x.s⟩ Γ K e n t:=by
 rw[dt rfl];simp only[xD,tl,vM,kV,z6,d.ok,x.ok,eff];rw[dt rfl];simp only[eff];cases x.s.ev e.get<;>try rfl
 rename_i id o;simp only[cells?];cases t.get id<;>try rfl
 rename_i a;cases a<;>try rfl
 rename_i e1 f cs;simp only;cases g:cs[o]? with
 |none=>rfl
 |some c=>obtain⟨b,h⟩:=agF g;rw[chk,DB b,h];rfl
def kld(d:aF)(x:aw):KOp:=⟨⟨some d.n,none,.ld 1 false x.s⟩,xD ⟨some d.n,none,.ld 1 false x.s⟩ d.set x.ev,rfl,ajH d x⟩
def abi(g:GOp)(S:Pt)(m:Nat)(X:Gt):Rn:=λΓ K e n t=>X e λx=>zW x (fb g Γ K e n t) λid o=>obR (pf t id) (fb g Γ K e n t) λ_ _ cs=>abd o cs λr=>abc (Bk m) r λq=>sH q 0 λl=>Ar (motive:=λ_=>Res) (fb g Γ K e n t) (S (.agg q) e λe=>K e n t) (Af l (Bk m))
theorem aiF(d:aF)(m:Nat)(x:aw)(Γ:Sp)(K:KK)(e:Env)(n:Nat)(t:Tr Obj):abi ⟨some d.n,none,.ld (m+1) true x.s⟩ d.set m x.ev Γ K e n t=fb ⟨some d.n,none,.ld (m+1) true x.s⟩ Γ K e n t:=by
 rw[dt rfl];simp only[abi,tl,vM,kV,ug,uf,pg,bk,d.ok,x.ok,eff];rw[dt rfl];simp only[eff];cases x.s.ev e.get<;>try rfl
 rename_i id o;simp only[cells?];cases t.get id<;>try rfl
 rename_i b;cases b<;>try rfl
 rename_i e1 f cs;simp only[Aw];cases a:Af ((cs.drop o).take (Bk m)).length (Bk m) with
 |false=>rfl
 |true=>have:=agG (AA a);rw[chk,DB this];rfl
def ajY(d:aF)(m:Nat)(x:aw):KOp:=⟨⟨some d.n,none,.ld (m+1) true x.s⟩,abi ⟨some d.n,none,.ld (m+1) true x.s⟩ d.set m x.ev,rfl,aiF d m x⟩
def acO(g:GOp)(X Y:Gt):Rn:=λΓ K e n t=>X e λx=>zW x (fb g Γ K e n t) λid o=>Y e λv=>obR (pf t id) (fb g Γ K e n t) λe1 f cs=>Ar (motive:=λ_=>Res) (fb g Γ K e n t) (adO v cs o (fb g Γ K e n t) λcs=>rv t id (some (.cells e1 f cs)) λt=>K e n t) (aeI v)
theorem ajI(x y:aw)(Γ:Sp)(K:KK)(e:Env)(n:Nat)(t:Tr Obj):acO ⟨none,none,.st 1 x.s y.s⟩ x.ev y.ev Γ K e n t=fb ⟨none,none,.st 1 x.s y.s⟩ Γ K e n t:=by
 rw[dt rfl];simp only[acO,x.ok,y.ok,tl,vM,kV,yO,nT,bk,adR,eff];rw[dt rfl];simp only[eff];cases x.s.ev e.get<;>try rfl
 rename_i id o;simp only[cells?];cases t.get id<;>try rfl
 rename_i b;cases b<;>try rfl
 rename_i e1 f cs;simp only;cases a:(y.s.ev e.get).one with
 |false=>rfl
 |true=>simp only[cond_true,vN a,B3,List.all_nil,a,Bool.and_true,BB];cases AO (o+1) cs.length<;>rfl
def kst(x y:aw):KOp:=⟨⟨none,none,.st 1 x.s y.s⟩,acO ⟨none,none,.st 1 x.s y.s⟩ x.ev y.ev,rfl,ajI x y⟩
def z8:List D->Bool:= @List.rec D (λ_=>Bool) true (λc _ a=>Ar (motive:=λ_=>Bool) false a (aeI c))
theorem wq:∀cs:List D,z8 cs=cs.all D.one
 | []=>rfl
 |c::cs=>by show Ar (motive:=λ_=>Bool) false (z8 cs) (aeI c)=_;rw[bk,wq cs,adR];cases h:c.one<;>simp[h]
def abj:List Gt->Env->(List D->Res)->Res:= @List.rec Gt (λ_=>Env->(List D->Res)->Res) (λ_ k=>k []) (λX _ a e k=>X e λv=>a e λl=>k (v::l))
theorem xE:∀(l:List aw)(e:Env)(k:List D->Res),abj (l.map (·.ev)) e k=k ((l.map (·.s)).map (·.ev e.get))
 | [],_,_=>rfl
 |x::l,e,k=>by show (x.ev e λv=>abj (l.map (·.ev)) e λl=>k (v::l))=_;rw[x.ok,xE l];rfl
theorem agJ{a:List ac}{E:Nat->D}{at_ q:Nat}(h:(a.map (·.ev E)).all D.one=true):(chk (a.all λx=>(x.ev E).cells.all D.one&&Af (x.ev E).cells.length 1) (some (D.sl at_ 0 a.length 1 (some a.length),[(at_,some (Obj.cells q true (a.flatMap λx=>(x.ev E).cells)))])))=
  some (D.sl at_ 0 a.length 1 (some a.length),[(at_,some (Obj.cells q true (a.map (·.ev E))))]):=by
 have c:∀x∈a,(x.ev E).one=true:=λx b=>Ak.1 h _ (Av.2 ⟨x,b,rfl⟩)
 have d:(a.all λx=>(x.ev E).cells.all D.one&&Af (x.ev E).cells.length 1)=true:=by rw[Ak];intro x b;rw[vN (c x b)];simp[c x b]
 have g:(a.flatMap λx=>(x.ev E).cells)=a.map (·.ev E):=by
  clear h d;induction a with
  |nil=>rfl
  |cons x a e=>rw[BJ,e (λy f=>c y (by simp[f])),vN (c x (by simp)),AI];rfl
 rw[d,g];simp[chk]
def yR(S:Pt)(q:Nat)(zero:List D)(at_ n:Nat)(K:KK)(e:Env)(t:Tr Obj):Res:=rv t at_ (some (.cells q true zero)) λt=>S (.ptr at_ 0) e λe=>K e n t
theorem aiG(d:aF)(q:Nat)(zero:List D)(Γ:Sp)(at_ n n0 m:Nat)(K:KK)(e:Env)(t:Tr Obj):yR d.set q zero at_ n K e t=aW Γ at_ n n0 [] ⟨some d.n,none,.new q zero⟩ ⟨e,⟨m,t⟩⟩ (up K):=by rw[hJ rfl];simp only[yR,d.ok,nT,eff];rfl
def aiH(d:aF)(q:Nat)(zero:List D):KMk:=⟨⟨some d.n,none,.new q zero⟩,yR d.set q zero,rfl,aiG d q zero⟩
def abk(g:IOp)(b:Option Nat)(S:Pt)(q:Nat)(a:List Gt)(at_ n:Nat)(K:KK)(e:Env)(t:Tr Obj):Res:=abj a e λcs=>Ar (motive:=λ_=>Res) (mJ g b at_ n K e t) (sH cs 0 λm=>im m λm=>rv t at_ (some (.cells q true cs)) λt=>S (.sl at_ 0 m 1 (some m)) e λe=>K e n t) (z8 cs)
theorem aiI(d:aF)(q:Nat)(a:List aw)(Γ:Sp)(at_ n n0 m:Nat)(K:KK)(e:Env)(t:Tr Obj):abk (.bsl q 1 (a.map (·.s))) (some d.n) d.set q (a.map (·.ev)) at_ n K e t=aW Γ at_ n n0 [] ⟨some d.n,none,.bsl q 1 (a.map (·.s))⟩ ⟨e,⟨m,t⟩⟩ (up K):=by
 rw[hJ rfl];simp only[abk,mJ,d.ok,nT,xE,pg,e9,wq,bk];rw[hJ rfl];cases b:((a.map (·.s)).map (·.ev e.get)).all D.one with
 |false=>rfl
 |true=>simp only[eff,agJ b];simp[agH,Hp.puts,Hp.put]
def ajZ(d:aF)(q:Nat)(a:List aw):KMk:=⟨⟨some d.n,none,.bsl q 1 (a.map (·.s))⟩,abk (.bsl q 1 (a.map (·.s))) (some d.n) d.set q (a.map (·.ev)),rfl,aiI d q a⟩
def aiJ(S:Pt)(q sz a:Nat)(x:D)(b:Nat)(news:List D)(at_ n:Nat)(K:KK)(e:Env)(t:Tr Obj)(o:Res):Res:=
 dSl x (ais x o (Ar (motive:=λ_=>Res) o (rv t at_ (some (.cells q false news)) λr=>S (.sl at_ 0 b sz none) e λe=>K e n r) (AO (CT b a) cd))) λid c len d cap=>
  Cg (motive:=λ_=>Res) (obR (pf t id) o λe1 f cs=>sH cs 0 λm=>Ar (motive:=λ_=>Res) o (Ar (motive:=λ_=>Res) o (Ar (motive:=λ_=>Res) o (Ar (motive:=λ_=>Res) o (Ar (motive:=λ_=>Res) o (Ar (motive:=λ_=>Res)
   (zX cs news λl=>rv t id none λr=>rv r at_ (some (.cells q false l)) λr=>im (CH len b) λq=>S (.sl at_ 0 q sz none) e λe=>K e n r) o f)
   (Af q e1)) (Af (CT len sz) m)) (Af c 0)) (AO (CT (CH len b) a) cd)) (Af sz d)) (λ_=>o) cap
def yS(g:IOp)(a:Option Nat)(S:Pt)(q sz h:Nat)(X Y:Gt)(at_ n:Nat)(K:KK)(e:Env)(t:Tr Obj):Res:=Y e λy=>dSl y (mJ g a at_ n K e t) λf c i b _=>obR (pf t f) (mJ g a at_ n K e t) λ_ _ d=>abd c d λr=>abc (CT i b) r λnews=>sH news 0 λm=>Ar (motive:=λ_=>Res) (mJ g a at_ n K e t) (Ar (motive:=λ_=>Res) (mJ g a at_ n K e t) (Ar (motive:=λ_=>Res) (mJ g a at_ n K e t) (X e λx=>aiJ S q sz h x i news at_ n K e t (mJ g a at_ n K e t)) (AV 0 m)) (Af m (CT i sz))) (Af b sz)
theorem aiK(d:aF)(q sz h:Nat)(x y:aw)(Γ:Sp)(at_ n n0 m:Nat)(K:KK)(e:Env)(t:Tr Obj):yS (.app q sz h x.s y.s) (some d.n) d.set q sz h x.ev y.ev at_ n K e t=aW Γ at_ n n0 [] ⟨some d.n,none,.app q sz h x.s y.s⟩ ⟨e,⟨m,t⟩⟩ (up K):=by
 rw[hJ rfl];simp only[yS,aiJ,mJ,e9,d.ok,x.ok,y.ok,nT,afH,ahA,vM,kV,ug,uf,pg,wl,bk,eff];rw[hJ rfl];simp only[eff];cases N:y.s.ev e.get<;>try rfl
 rename_i p b f a z;simp only[ik,cells?];cases J:t.get p<;>try rfl
 rename_i k;cases k<;>try rfl
 rename_i e1 M g;simp only[Aw];cases H:Af a sz with
 |false=>rfl
 |true=>
  have e1:=AA H;subst e1;cases u:Af ((g.drop b).take (CT f a)).length (CT f a) with
  |false=>rfl
  |true=>
   cases I:AV 0 ((g.drop b).take (CT f a)).length with
   |false=>rfl
   |true=>
    have A:=AA u;have w:0<((g.drop b).take (CT f a)).length:=by simpa [Bb] using I
    have F:b+f*a<=g.length:=by rw[B5,Cp] at A w;have:CT f a=f*a:=rfl;omega
    have v:Af f 0=false:=by
     cases f with
     |zero=>simp at w
     |succ f=>rfl
    have E:Af (eZ ((g.drop b).take (f*a)) 0) (f*a)=true:=by rw[fa,Aw];exact u
    simp only[cond_true,chk,DB F,E];generalize j:(g.drop b).take (f*a)=news;have i:(g.drop b).take (CT f a)=news:=j;try simp only[i]
    cases L:x.s.ev e.get<;>try rfl
    ·simp only[v,cond_false];cases AO (f*h) cd<;>rfl
    ·rename_i id r len o cap;try simp only
     cases B:t.get id with
     |none=>cases cap<;>rfl
     |some k=>
      cases k
      ·rename_i C G cs;try simp only[v,cond_false]
       cases cap with
       |some c=>rfl
       |none=>simp only;cases Af a o<;>cases AO ((len+f)*h) cd<;>cases Af r 0<;>cases Af (len*a) cs.length<;>cases Af q C<;>cases G<;>rfl
      ·cases cap<;>rfl
def aiL(d:aF)(q sz a:Nat)(x y:aw):KMk:=⟨⟨some d.n,none,.app q sz a x.s y.s⟩,yS (.app q sz a x.s y.s) (some d.n) d.set q sz a x.ev y.ev,rfl,aiK d q sz a x y⟩
def tm:D->(List D->Res)->Res:= @D.rec (λ_=>(List D->Res)->Res) (λ_=>Unit) (λk=>k [.undef]) (λb k=>k [.bool b]) (λt n k=>k [.int t n]) (λl k=>k [.str l]) (λk=>k [.nilp]) (λi j k=>k [.ptr i j]) (λk=>k [.nils]) (λk=>k [.emp]) (λa b c d e k=>k [.sl a b c d e]) (λl _ k=>k l) (λl _ k=>k [.tup l]) (λf l _ k=>k [.fn f l]) (λk=>k [.nilf]) (λk=>k [.nilif]) (λi k=>k [.mp i]) (λk=>k [.nilm]) (λt i k=>k [.sym t i]) () (λ_ _ _ _=>())
theorem vP(d:D)(k:List D->Res):tm d k=k d.cells:=by cases d<;>rfl
def yT(b n:Nat)(vs cells:List D)(o:Res)(k:List D->Res):Res:=sH vs 0 λm=>sH cells 0 λL=>Ar (motive:=λ_=>Res) o (Ar (motive:=λ_=>Res) o (Ar (motive:=λ_=>Res) o (abd (CH b n) cells λc=>zX vs c λd=>abc b cells λa=>zX a d k) (AO (CH b n) L)) (z8 vs)) (Af m n)
theorem acP(a n:Nat)(vs cells:List D)(o:Res)(k:List D->Res):yT a n vs cells o k=cond (Af vs.length n&&vs.all D.one&&AO (a+n) cells.length) (k (cells.take a++vs++cells.drop (a+n))) o:=by simp only[yT,pg,uf,ug,wl,bk,wq,Aw];show cond (Af vs.length n) (cond (vs.all D.one) (cond (AO (a+n) cells.length) (k (cells.take a++(vs++cells.drop (a+n)))) o) o) o=_;rw[Be];cases Af vs.length n<;>cases vs.all D.one<;>cases AO (a+n) cells.length<;>rfl
def agK:List (Nat×Nat×Gt)->Env->List D->Res->(List D->Res)->Res:= @List.rec (Nat×Nat×Gt) (λ_=>Env->List D->Res->(List D->Res)->Res) (λ_ cells _ k=>k cells) (λp _ a e cells o k=>p.2.2 e λv=>tm v λvs=>yT p.1 p.2.1 vs cells o λcells=>a e cells o k)
def ui(p:Nat×Nat×aw):Nat×Nat×ac:=(p.1,p.2.1,p.2.2.s)
def abl(p:Nat×Nat×aw):Nat×Nat×Gt:=(p.1,p.2.1,p.2.2.ev)
theorem adS(e:Env)(o:Res)(k:List D->Res):∀(a:List (Nat×Nat×aw))(cells:List D),agK (a.map abl) e cells o k=match lay cells ((a.map ui).map λp=>(p.1,p.2.1,p.2.2.ev e.get)) with|some cs=>k cs|none=>o
 | [],cells=>rfl
 |p::a,cells=>by
  show (p.2.2.ev e λv=>tm v λvs=>yT p.1 p.2.1 vs cells o λcells=>agK (a.map abl) e cells o k)=match lay cells ((p.1,p.2.1,p.2.2.s.ev e.get)::(a.map ui).map λp=>(p.1,p.2.1,p.2.2.ev e.get)) with|some cs=>k cs|none=>o
  rw[p.2.2.ok,vP,acP];simp only[lay,adS e o k a];cases (Af (p.2.2.s.ev e.get).cells.length p.2.1&&(p.2.2.s.ev e.get).cells.all D.one&&AO (p.1+p.2.1) cells.length)<;>rfl
def uj(g:GOp)(S:Pt)(zero:List D)(a:List (Nat×Nat×Gt)):Rn:=λΓ K e n t=>agK a e zero (fb g Γ K e n t) λcs=>S (.agg cs) e λe=>K e n t
theorem aiM(d:aF)(zero:List D)(a:List (Nat×Nat×aw))(Γ:Sp)(K:KK)(e:Env)(n:Nat)(t:Tr Obj):uj ⟨some d.n,none,.bld zero (a.map ui)⟩ d.set zero (a.map abl) Γ K e n t=fb ⟨some d.n,none,.bld zero (a.map ui)⟩ Γ K e n t:=by rw[dt rfl];simp only[uj,d.ok,adS,eff];rw[dt rfl];simp only[eff];cases lay zero ((a.map ui).map λp=>(p.1,p.2.1,p.2.2.ev e.get))<;>rfl
def aeL(d:aF)(zero:List D)(a:List (Nat×Nat×aw)):KOp:=⟨⟨some d.n,none,.bld zero (a.map ui)⟩,uj ⟨some d.n,none,.bld zero (a.map ui)⟩ d.set zero (a.map abl),rfl,aiM d zero a⟩
def yU(g:GOp)(m:Nat)(X Y:Gt):Rn:=λΓ K e n t=>X e λx=>zW x (fb g Γ K e n t) λid o=>Y e λv=>obR (pf t id) (fb g Γ K e n t) λe1 f cs=>tm v λvs=>yT o m vs cs (fb g Γ K e n t) λcs=>rv t id (some (.cells e1 f cs)) λt=>K e n t
theorem aiN(m:Nat)(x y:aw)(Γ:Sp)(K:KK)(e:Env)(n:Nat)(t:Tr Obj):yU ⟨none,none,.st m x.s y.s⟩ m x.ev y.ev Γ K e n t=fb ⟨none,none,.st m x.s y.s⟩ Γ K e n t:=by
 rw[dt rfl];simp only[yU,x.ok,y.ok,tl,vM,kV,acP,vP,nT,eff];rw[dt rfl];simp only[eff];cases x.s.ev e.get<;>try rfl
 rename_i id o;simp only[cells?];cases t.get id<;>try rfl
 rename_i a;cases a<;>try rfl
 rename_i e1 f cs;simp only;cases (Af (y.s.ev e.get).cells.length m&&(y.s.ev e.get).cells.all D.one&&AO (o+m) cs.length)<;>rfl
def aiO(m:Nat)(x y:aw):KOp:=⟨⟨none,none,.st m x.s y.s⟩,yU ⟨none,none,.st m x.s y.s⟩ m x.ev y.ev,rfl,aiN m x y⟩
def aeM(sz:Nat):List Gt->Env->Res->(List D->Res)->Res:= @List.rec Gt (λ_=>Env->Res->(List D->Res)->Res) (λ_ _ k=>k []) (λG _ a e o k=>G e λv=>tm v λvs=>sH vs 0 λm=>Ar (motive:=λ_=>Res) o (Ar (motive:=λ_=>Res) o (a e o λr=>zX vs r k) (Af m sz)) (z8 vs))
theorem acQ(sz:Nat)(e:Env)(o:Res):∀(a:List aw)(k:List D->Res),aeM sz (a.map (·.ev)) e o k=cond ((a.map (·.s)).all λx=>(x.ev e.get).cells.all D.one&&Af (x.ev e.get).cells.length sz) (k ((a.map (·.s)).flatMap λx=>(x.ev e.get).cells)) o
 | [],k=>rfl
 |p::a,k=>by show (p.ev e λv=>tm v λvs=>sH vs 0 λm=>Ar (motive:=λ_=>Res) o (Ar (motive:=λ_=>Res) o (aeM sz (a.map (·.ev)) e o λr=>zX vs r k) (Af m sz)) (z8 vs))=_;rw[p.ok,vP,pg,bk,bk,wq,acQ sz e o a,Aw];simp only[AI,B3,BJ,wl];cases (p.s.ev e.get).cells.all D.one<;>cases Af (p.s.ev e.get).cells.length sz<;>simp
def wt(g:IOp)(b:Option Nat)(S:Pt)(q sz:Nat)(a:List Gt)(m at_ n:Nat)(K:KK)(e:Env)(t:Tr Obj):Res:=aeM sz a e (mJ g b at_ n K e t) λcs=>rv t at_ (some (.cells q true cs)) λt=>S (.sl at_ 0 m sz (some m)) e λe=>K e n t
theorem aiP(d:aF)(q sz:Nat)(a:List aw)(b:Nat)(c:(a.map (·.s)).length=b)(Γ:Sp)(at_ n n0 m:Nat)(K:KK)(e:Env)(t:Tr Obj):wt (.bsl q sz (a.map (·.s))) (some d.n) d.set q sz (a.map (·.ev)) b at_ n K e t=aW Γ at_ n n0 [] ⟨some d.n,none,.bsl q sz (a.map (·.s))⟩ ⟨e,⟨m,t⟩⟩ (up K):=by subst c;rw[hJ rfl];simp only[wt,mJ,d.ok,nT,acQ,eff];rw[hJ rfl];simp only[eff];cases ((a.map (·.s)).all λx=>(x.ev e.get).cells.all D.one&&Af (x.ev e.get).cells.length sz)<;>rfl
def agL(d:aF)(q sz:Nat)(a:List aw)(m:Nat)(b:(a.map (·.s)).length=m):KMk:=⟨⟨some d.n,none,.bsl q sz (a.map (·.s))⟩,wt (.bsl q sz (a.map (·.s))) (some d.n) d.set q sz (a.map (·.ev)) m,rfl,aiP d q sz a m b⟩
end Go.DM
end
