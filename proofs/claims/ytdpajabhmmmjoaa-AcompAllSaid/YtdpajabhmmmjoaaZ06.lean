import Derived.KernelRfl
import Derived.Test.YtdpajabhmmmjoaaChecked
import Derived.ChangeArms
import Derived.ChangeSlices
import Derived.WideShapes
import Derived.WideKeyArgs
import Derived.Test.YtdpajabhmmmjoaaZ02
import Derived.Test.YtdpajabhmmmjoaaZ03
import Derived.Test.YtdpajabhmmmjoaaZ04
import Derived.Test.YtdpajabhmmmjoaaZ05
noncomputable section
namespace Go.Proofs.Ytdpajabhmmmjoaa
open Go.AM
set_option autoImplicit false
set_option linter.unusedVariables false
set_option linter.unusedSimpArgs false
set_option maxRecDepth 100000
theorem avM(deep:Int)(hd:1≤deep∧deep≤20)(hT:acf (deep+1))(ts:List aA)(e c0 c1:Int)(c2:List UInt8)(c3:List aB)(c4:List (List UInt8))(k:Int)(space:List UInt8)
  (h:ts.length≤60) (hn:bl (.mk c0 c1 c2 c3 c4)) (hs:(space.length:Int)≤202*deep) (hk:k≠14) (hk2:1≤k∧k≤14):∃r,jV ts e c0 c1 c2 c3 c4 k space deep r:=by
 obtain⟨k1,k2,k3,k4,k5,k6⟩:=hn.kids
 apply afX 2000
 unfold zo jd
 have last:∀(sp:List UInt8)(e2 o0:Int)(o1:List UInt8)(o2:List (List UInt8)),(sp.length:Int)≤202*deep+201→(e2=0→e=0)→o0=k→o2.length≤100→Tot (fF 2000 (k,sp,deep,c0,c1,c2,c3,c4,ts,e2,o0,o1,o2,0,[],false,[],0,[],[])) (fun z=>∃(y0:Int)(y1:List aA)(y2:Int)(rest:List aJ),z.1.dimR=.int .i64 y0∧z.2=some [.ul .atype y1,.int .i64 y2]::rest∧gv ts e c0 c1 c2 c3 c4 k space deep (y0,y1,y2)):=by
  intro sp e2 o0 o1 o2 hsp he ho hna
  unfold fF
  dsimp only
  subst ho
  have tk:o0≠10→oJ (ts.length+1) ⟨o0,o1,o2,0,[],false,[],0,[],[]⟩:=fun h10=>⟨by simp only;omega,by simp,by simp,by simp,by simp,by simp,by simp,fun h=>absurd h hk,hk2,fun h=>absurd h h10,fun _=>rfl,hna,by simp⟩
  repeat' (first|(with_reducible refine aC ?_ ?_<;>(intro hb;(try simp only[bnl] at hb);(try revert hb;intro _)))|with_reducible refine aH ?_ ?_|with_reducible refine aE ?_|fail)
  ·rename_i h2
   exact⟨_,_,_,_,rfl,rfl,bB.stuck (Nat.le_refl _) h h2,fun h=>absurd h h2⟩
  rename_i h2
  refine aD (akf _ _ _ _ _ _ _ _ _ _ _ _ h) ?_
  rintro r ⟨-,hr⟩
  have ho:=n8.add h hr
  clear hr
  obtain⟨a,ts1,e1⟩:=r
  dsimp only at ho ⊢
  have hr1:e1=0→0≤a∧a<ts1.length:=fun h0=>ho.range h0
  have wk:∀{ts':List aA}{e':Int},bB ts e2 ts' e'→bB ts e ts' e':=fun g=>g.weak he
  have wstuck:∀{c:Int},c≠0→bB ts e ts1 (if e1=0 then c else e1):=fun hc=>bB.stuck ho.len ho.cap (nz hc)
  repeat' (first|(with_reducible refine aC ?_ ?_<;>(intro hb;(try simp only[bnl] at hb);(try revert hb;intro _)))|with_reducible refine aH ?_ ?_|with_reducible refine aE ?_|(refine aD (auV deep hd hT _ _ _ _ _ _ _ _ _ ho.cap hn hsp hr1) ?_;rintro⟨ts3,e3⟩ ⟨-,ts2,g1,g2⟩;dsimp only at g1 g2 ⊢)|(refine aD (atJ _ _ _ _ _ _ _ _ hn hr1) ?_;rintro⟨ts3,e3⟩ ⟨-,g1,g2⟩;dsimp only at g1 g2 ⊢)|fail)
  ·rename_i h9
   have h10:o0≠10:=by omega
   have tk:=tk h10
   have ho2:=ho.more g1
   have gk:=ho2.kept tk
   refine⟨_,_,_,_,rfl,rfl,?_⟩
   rcases g2 with rfl|⟨l,l1,l2,l3,t,t1,rfl⟩
   ·exact⟨wk gk,fun h0=>ho2.range h0⟩
   ·by_cases h0:e3=0
    ·rw[ho2.get h0] at t1
     obtain rfl:=Option.some.inj t1
     have hr:=ho2.range h0
     refine⟨wk (ho2.done h0 ⟨by simp only;omega,l2,l1,by simp,by simp,by simp,by simp,tk.done,tk.kind,tk.enum,fun h=>absurd h9 h,hna,l3⟩),fun _=>?_⟩
     simpa using hr
    ·exact⟨bB.stuck (by simpa using gk.len) (by simpa using gk.cap) h0,fun h=>absurd h h0⟩
  ·refine⟨_,_,_,_,rfl,rfl,?_⟩
   by_cases h0:e3=0
   ·obtain⟨l,h',d,l0,l1,t,t1,rfl⟩:=g2.2 h0
    have h1:=g1 h0
    rw[ho.get h1] at t1
    obtain rfl:=Option.some.inj t1
    have hr:=ho.range h1
    have:=ho.done h1 (t:=⟨o0,o1,o2,0,l,h',d,0,[],[]⟩) ⟨by simp only;omega,by simp,by simp,by simp,by simp,l1,by simp,fun h=>absurd h hk,hk2,fun _=>l0,fun _=>rfl,hna,by simp⟩
    refine⟨wk (by rw[h0];rw[h1] at this;exact this),fun _=>?_⟩
    simpa using hr
   ·have:=g2.1 h0
    subst this
    exact⟨bB.stuck ho.len ho.cap h0,fun h=>absurd h h0⟩
  ·refine aD (qv _ _ _ _ _ _ (by omega)) ?_
   rintro r ⟨-,hr⟩
   clear hr
   repeat' (first|(with_reducible refine aC ?_ ?_<;>(intro hb;(try simp only[bnl] at hb);(try revert hb;intro _)))|with_reducible refine aH ?_ ?_|with_reducible refine aE ?_|(refine aD (cR _ _ _) ?_;rintro _ ⟨-,rfl⟩;try dsimp only)|fail)
   all_goals first|exact⟨_,_,_,_,rfl,rfl,wstuck (by decide),fun h=>absurd h (nz (by decide))⟩|(have:=hr1 (by assumption);first|(simp only[bnl,lnl];done)|(simp only[bnl,lnl];omega))|(first|(simp only[bnl,lnl];done)|(simp only[bnl,lnl];omega))|skip
   ·rename_i hz0 hz1 h0
    have hr:=ho.range h0
    have tk:=tk (by assumption)
    rw[qU (ho.get h0)]
    refine⟨_,_,_,_,rfl,rfl,wk (ho.done h0 ⟨by simp only;omega,by simp,by simp,by simp,by simp,by simp,by simp only;omega,tk.done,tk.kind,tk.enum,fun _=>rfl,hna,by simp⟩),fun _=>?_⟩
    simpa using hr
   ·rename_i h0
    exact⟨_,_,_,_,rfl,rfl,wk (ho.kept (tk (by assumption))),fun h=>absurd h h0⟩
 have mid:∀(sp:List UInt8)(e2:Int)(nm:List UInt8)(al:List (List UInt8)),(sp.length:Int)≤202*deep+201→(e2=0→e=0)→ct al→al.length≤100→Tot (aS 2000 (fG 2000) (k,sp,deep,c0,c1,c2,c3,c4,al,0,ts,e2,k,nm,[],0,[],false,[],0,[],[])) (fun z=>∃(y0:Int)(y1:List aA)(y2:Int)(rest:List aJ),z.1.dimR=.int .i64 y0∧z.2=some [.ul .atype y1,.int .i64 y2]::rest∧gv ts e c0 c1 c2 c3 c4 k space deep (y0,y1,y2)):=by
  intro sp e2 nm al hsp he hal hal2
  refine aT (fun x=>match x with|(k',sp',dp,d0,d1,d2,d3,d4,al',i,ts',e3,o0,o1,o2,o3,o4,o5,o6,o7,o8,o9)=>k'=k∧sp'=sp∧dp=deep∧d0=c0∧d1=c1∧d2=c2∧d3=c3∧d4=c4∧al'=al∧0≤i∧i≤(al.length:Int)∧ts'=ts∧(e3=0→e=0)∧o0=k∧(o2.length:Int)=i∧o3=0∧o4=[]∧o5=false∧o6=[]∧o7=0∧o8=[]∧o9=[]) (fun x=>((al.length:Int)-x.2.2.2.2.2.2.2.2.2.1).toNat) ?_ _ _
   ⟨rfl,rfl,rfl,rfl,rfl,rfl,rfl,rfl,rfl,by simp,by simp,rfl,he,rfl,rfl,rfl,rfl,rfl,rfl,rfl,rfl,rfl⟩ (by simp;omega)
  rintro again ⟨k',sp',dp,d0,d1,d2,d3,d4,al',i,ts',e3,o0,o1,o2,o3,o4,o5,o6,o7,o8,o9⟩ ⟨rfl,rfl,rfl,rfl,rfl,rfl,rfl,rfl,rfl,i1,i2,rfl,i3,rfl,i4,rfl,rfl,rfl,rfl,rfl,rfl,rfl⟩ ih
  dsimp only at ih
  have ew:i<al'.length→IntKind.i64.wrap (i+1)=i+1:=fun h=>aI (i+1) (by omega)
  have next:∀(e5:Int)(w:List UInt8),i<al'.length→(e5=0→e=0)→Tot (again (o0,sp',dp,d0,d1,d2,d3,d4,al',IntKind.i64.wrap (i+1),ts',e5,o0,o1,o2++[w],0,[],false,[],0,[],[])) _:=fun e5 w hi he5=>ih (o0,sp',dp,d0,d1,d2,d3,d4,al',IntKind.i64.wrap (i+1),ts',e5,o0,o1,o2++[w],0,[],false,[],0,[],[])
   (by
    simp only[ew hi,List.length_append,List.length_cons,List.length_nil]
    exact⟨trivial,trivial,trivial,trivial,trivial,trivial,trivial,trivial,trivial,by omega,by omega,trivial,he5,trivial,by omega,trivial,trivial,trivial,trivial,trivial,trivial,trivial⟩) (by simp only[ew hi];omega)
  have lst:∀e4:Int,(e4=0→e=0)→Tot (fF 2000 (o0,sp',dp,d0,d1,d2,d3,d4,ts',e4,o0,o1,o2,0,[],false,[],0,[],[])) _:=fun e4 h4=>last sp' e4 o0 o1 o2 hsp h4 rfl (by omega)
  unfold fG ln
  dsimp only
  have wn:=ag7 hal i.toNat
  repeat' (first|(with_reducible refine aC ?_ ?_<;>(intro hb;(try simp only[bnl] at hb);(try revert hb;intro _)))|with_reducible refine aH ?_ ?_|with_reducible refine aE ?_|(refine aD (cR _ _ _) ?_;rintro _ ⟨-,rfl⟩;try dsimp only)|(refine aD (apB _ _ _ _ wn (by omega)) ?_;rintro⟨w,ts4,e4⟩ ⟨-,w1,rfl,w2⟩;dsimp only at w1 w2 ⊢)|(refine aD (asj _ _ _ h) ?_;rintro⟨b,c,ts4,e4⟩ ⟨-,hq,hf⟩;simp only[Prod.mk.injEq] at hq;obtain⟨rfl,rfl⟩:=hq;dsimp only at hf ⊢)|fail)
  all_goals first|(first|(simp only[bnl,lnl];done)|(simp only[bnl,lnl];omega))|exact next _ _ (by omega) (fun h=>i3 (w2 h))|exact lst _ i3|exact lst _ (fun h=>absurd h (nz (by decide)))|skip
 refine aD (ami _ _ _ _ _ _ _ _ _ hn) ?_
 rintro⟨nm,ts',e1⟩ ⟨-,w1,rfl,w2⟩
 dsimp only at w1 w2 ⊢
 refine aD (qv _ _ _ _ _ _ (by omega)) ?_
 rintro r ⟨-,hr⟩
 have hg:=vm (k:=c0) (names:=c4) (name:=[110,97,109,101,115,112,97,99,101]) k6
 simp only[cX] at hr
 rw[←hr] at hg
 have g1:=hg.kids.1
 have first:∀(sp:List UInt8)(e2:Int),(sp.length:Int)≤202*deep→(e2=0→e=0)→Tot (mc 2000 (k,sp,deep,c0,c1,c2,c3,c4,nm,ts',e2)) (fun z=>∃(y0:Int)(y1:List aA)(y2:Int)(rest:List aJ),z.1.dimR=.int .i64 y0∧z.2=some [.ul .atype y1,.int .i64 y2]::rest∧gv ts' e c0 c1 c2 c3 c4 k space deep (y0,y1,y2)):=by
  intro sp e2 hsp he
  unfold mc lp
  dsimp only
  repeat' (first|(with_reducible refine aC ?_ ?_<;>(intro hb;(try simp only[bnl] at hb);(try revert hb;intro _)))|with_reducible refine aH ?_ ?_|with_reducible refine aE ?_|fail)
  ·rename_i h2
   exact⟨_,_,_,_,rfl,rfl,bB.stuck (Nat.le_refl _) h h2,fun h=>absurd h h2⟩
  refine aD (apB _ _ _ _ w1 (by omega)) ?_
  rintro⟨w,ts4,e4⟩ ⟨-,x1,rfl,x2⟩
  dsimp only at x1 x2 ⊢
  refine aD (auU _ (by omega)) ?_
  rintro b ⟨-,hb⟩
  dsimp only[my] at hb ⊢
  refine aD (aj6 _ _ _ _ _ _ _ _ hn) ?_
  rintro⟨al,is,ts6,e7⟩ ⟨-,t1,t2,rfl,t3⟩
  dsimp only at t1 t2 t3 ⊢
  exact mid _ _ _ _ (by omega) (fun h=>he (x2 (t3 h))) t2 t1
 repeat' (first|(with_reducible refine aC ?_ ?_<;>(intro hb;(try simp only[bnl] at hb);(try revert hb;intro _)))|with_reducible refine aH ?_ ?_|with_reducible refine aE ?_|(refine aD (cR _ _ _) ?_;rintro _ ⟨-,rfl⟩;try dsimp only)|fail)
 ·exact first _ _ (by omega) (fun h=>absurd h (nz (by decide)))
 ·exact first _ _ (by omega) w2
 ·exact first _ _ hs w2
theorem apD(deep:Int)(hd:1≤deep∧deep≤21)(hT:deep≤20→acf (deep+1)):acf deep:=by
 intro ts e c0 c1 c2 c3 c4 space h hn hs
 obtain⟨k1,k2,k3,k4,k5,k6⟩:=hn.kids
 apply ag6 2000
 unfold zN kh
 dsimp only
 have stuck:∀{c:Int},c≠0→bB ts e ts (if e=0 then c else e):=fun hc=>bB.stuck (Nat.le_refl _) h (nz hc)
 repeat' (first|(with_reducible refine aC ?_ ?_<;>(intro hb;(try simp only[bnl] at hb);(try revert hb;intro _)))|with_reducible refine aH ?_ ?_|with_reducible refine aE ?_|(refine aD (cR _ _ _) ?_;rintro _ ⟨-,rfl⟩;try dsimp only)|(refine aD (apC _ _ _ _ h k1 (by omega)) ?_;rintro⟨a,ts',e'⟩ ⟨-,g1,g2⟩;dsimp only at g1 g2 ⊢)|(refine aD (avL deep (by omega) (hT (by omega)) _ _ _ _ _ _ _ _ h hn hs) ?_;rintro⟨a,ts',e'⟩ ⟨-,g1,g2⟩;dsimp only at g1 g2 ⊢)|fail)
 all_goals first|exact⟨_,_,_,_,rfl,rfl,stuck (by decide),fun h=>absurd h (nz (by decide))⟩|exact⟨_,_,_,_,rfl,rfl,g1,g2⟩|skip
 ·rename_i he
  exact⟨_,_,_,_,rfl,rfl,bB.refl h,fun h=>absurd h he⟩
 rename_i he hdd _ _ _
 have hT:=hT (by omega)
 have ed:IntKind.i64.wrap (deep+1)=deep+1:=aI (deep+1) (by omega)
 refine aD (qv _ _ _ _ _ _ (by omega)) ?_
 rintro r ⟨-,hr⟩
 have hg:=vm (k:=c0) (names:=c4) (name:=[116,121,112,101]) k6
 simp only[cX] at hr
 rw[←hr] at hg
 have hgk:=hg.kids
 clear hr
 obtain⟨d0,d1,d2,d3,d4,d5⟩:=r
 dsimp only at hg hgk ⊢
 have part:∀(word:List UInt8)(k a:Int)(ts1:List aA)(e1:Int),k≠14→(1≤k∧k≤14)→k≠10→n8 ts e ⟨k,[],[],0,[],false,[],0,[],[]⟩ a ts1 e1→Tot (jg 2000 (space,deep,c0,c1,c2,c3,c4,a,word,ts1,e1)) (fun z=>∃(y0:Int)(y1:List aA)(y2:Int)(rest:List aJ),z.1.dimR=.int .i64 y0∧z.2=some [.ul .atype y1,.int .i64 y2]::rest∧fy ts e c0 c1 c2 c3 c4 space deep (y0,y1,y2)):=by
  intro word k a ts1 e1 hk hk2 hk10 ho
  unfold jg
  dsimp only
  refine aD (qv _ _ _ _ _ _ (by omega)) ?_
  rintro r ⟨-,hr⟩
  have hg:=vm (k:=c0) (names:=c4) (name:=word) k6
  simp only[cX] at hr
  rw[←hr] at hg
  clear hr
  repeat' (first|(with_reducible refine aC ?_ ?_<;>(intro hb;(try simp only[bnl] at hb);(try revert hb;intro _)))|with_reducible refine aH ?_ ?_|with_reducible refine aE ?_|(refine aD (cR _ _ _) ?_;rintro _ ⟨-,rfl⟩;try dsimp only)|fail)
  ·exact⟨_,_,_,_,rfl,rfl,bB.stuck ho.len ho.cap (nz (by decide)),fun h=>absurd h (nz (by decide))⟩
  simp only[ed]
  refine aD (hT _ _ _ _ _ _ _ _ ho.cap hg (by omega)) ?_
  rintro⟨i,ts2,e2⟩ ⟨-,x1,x2⟩
  dsimp only at x1 x2 ⊢
  have ho2:=ho.more x1
  have hr2:e2=0→0≤a∧a<ts2.length:=fun h0=>ho2.range h0
  repeat' (first|(with_reducible refine aC ?_ ?_<;>(intro hb;(try simp only[bnl] at hb);(try revert hb;intro _)))|with_reducible refine aH ?_ ?_|with_reducible refine aE ?_|fail)
  all_goals first|(have:=hr2 (by assumption);first|(simp only[bnl,lnl];done)|(simp only[bnl,lnl];omega))|(first|(simp only[bnl,lnl];done)|(simp only[bnl,lnl];omega))|skip
  ·rename_i h0
   have hr:=ho2.range h0
   rw[qU (ho2.get h0)]
   refine⟨_,_,_,_,rfl,rfl,ho2.done h0 ⟨x2 h0,by simp,by simp,by simp,by simp,by simp,by simp,fun h=>absurd h hk,hk2,fun h=>absurd h hk10,fun _=>rfl,by simp,by simp⟩,fun _=>?_⟩
   simpa using hr
  ·rename_i h0
   exact⟨_,_,_,_,rfl,rfl,ho2.stuck h0,fun h=>absurd h h0⟩
 have txt:Tot (jh 2000 (space,d0,d1,d2,d3,d4,ts,e)) (fun z=>∃(y0:Int)(y1:List aA)(y2:Int)(rest:List aJ),z.1.dimR=.int .i64 y0∧z.2=some [.ul .atype y1,.int .i64 y2]::rest∧fy ts e c0 c1 c2 c3 c4 space deep (y0,y1,y2)):=by
  unfold jh
  dsimp only
  refine aD (apC _ _ _ _ h hgk.1 (by omega)) ?_
  rintro⟨a,ts',e'⟩ ⟨-,g1,g2⟩
  exact aE ⟨_,_,_,_,rfl,rfl,g1,g2⟩
 have one:∀b:Bool,(b=true→d2=[97,114,114,97,121]∨d2=[109,97,112])→Tot (ji 2000 (space,deep,c0,c1,c2,c3,c4,d0,d1,d2,d3,d4,b,ts,e)) (fun z=>∃(y0:Int)(y1:List aA)(y2:Int)(rest:List aJ),z.1.dimR=.int .i64 y0∧z.2=some [.ul .atype y1,.int .i64 y2]::rest∧fy ts e c0 c1 c2 c3 c4 space deep (y0,y1,y2)):=by
  intro b hb
  unfold ji mf
  dsimp only
  refine aC (fun h1=>?_) (fun h1=>txt)
  refine aD (alN _) ?_
  rintro(k:Int) ⟨-,hk1,hk2,hk3,hk4,hk5⟩
  have hb:=hb h1
  have hk:k≠14:=fun h=>by have:=hk3 h;subst this;revert hb;decide
  have hk10:k≠10:=fun h=>by have:=hk5 h;subst this;revert hb;decide
  have hk0:k≠0:=fun h=>by
   rcases hb with hb|hb
   ·exact hk4 h 11 (by decide) hb.symm
   ·exact hk4 h 12 (by decide) hb.symm
  refine aD (akf _ _ _ _ _ _ _ _ _ _ _ _ h) ?_
  rintro r ⟨-,hr⟩
  have ho:=n8.add h hr
  clear hr
  obtain⟨a,ts1,e1⟩:=r
  dsimp only at ho ⊢
  repeat' (first|(with_reducible refine aC ?_ ?_<;>(intro hb;(try simp only[bnl] at hb);(try revert hb;intro _)))|with_reducible refine aH ?_ ?_|with_reducible refine aE ?_|fail)
  all_goals exact part _ k _ _ _ hk (by omega) hk10 ho
 have zero:∀b:Bool,(b=true→d2=[114,101,99,111,114,100]∨d2=[101,110,117,109]∨d2=[102,105,120,101,100])→Tot (nq 2000 (space,deep,c0,c1,c2,c3,c4,d0,d1,d2,d3,d4,d2,b,ts,e)) (fun z=>∃(y0:Int)(y1:List aA)(y2:Int)(rest:List aJ),z.1.dimR=.int .i64 y0∧z.2=some [.ul .atype y1,.int .i64 y2]::rest∧fy ts e c0 c1 c2 c3 c4 space deep (y0,y1,y2)):=by
  intro b hb
  unfold nq mg
  dsimp only
  refine aC (fun h1=>?_) (fun h1=>aC (fun h2=>one _ fun _=>?_) (fun h2=>one _ fun h3=>?_))
  ·refine aD (alN _) ?_
   rintro(k:Int) ⟨-,hk1,hk2,hk3,hk4,hk5⟩
   have hb:=hb h1
   have hk:k≠14:=fun h=>by have:=hk3 h;subst this;revert hb;decide
   have hk0:k≠0:=fun h=>by
    rcases hb with hb|hb|hb
    ·exact hk4 h 8 (by decide) hb.symm
    ·exact hk4 h 9 (by decide) hb.symm
    ·exact hk4 h 10 (by decide) hb.symm
   refine aD (avM deep (by omega) hT _ _ _ _ _ _ _ _ _ h hn hs hk (by omega)) ?_
   rintro⟨a,ts',e'⟩ ⟨-,g1,g2⟩
   exact aE ⟨_,_,_,_,rfl,rfl,g1,g2⟩
  ·exact .inl (of_decide_eq_true h2)
  ·exact .inr (of_decide_eq_true h3)
 repeat' (first|(with_reducible refine aC ?_ ?_<;>(intro hb;(try simp only[bnl] at hb);(try revert hb;intro _)))|with_reducible refine aH ?_ ?_|with_reducible refine aE ?_|(refine aD (cR _ _ _) ?_;rintro _ ⟨-,rfl⟩;try dsimp only)|fail)
 ·exact⟨_,_,_,_,rfl,rfl,stuck (by decide),fun h=>absurd h (nz (by decide))⟩
 ·simp only[ed]
  refine aD (hT _ _ _ _ _ _ _ _ h hg (by omega)) ?_
  rintro⟨a,ts',e'⟩ ⟨-,g1,g2⟩
  exact aE ⟨_,_,_,_,rfl,rfl,g1,g2⟩
 all_goals refine zero _ fun hb=>?_
 ·exact .inl (by first|assumption|exact of_decide_eq_true hb)
 ·exact .inr (.inl (by first|assumption|exact of_decide_eq_true hb))
 ·exact .inr (.inr (by first|assumption|exact of_decide_eq_true hb))
theorem asR:∀(n:Nat)(deep:Int),deep+n=21→1≤deep→acf deep
 |0,deep,h,h1=>apD deep (by omega) (fun h'=>by omega)
 |n+1,deep,h,h1=>apD deep (by omega) (fun _=>asR n (deep+1) (by omega) (by omega))
theorem asS(c0 c1:Int)(c2:List UInt8)(c3:List aB)(c4:List (List UInt8))(hn:bl (.mk c0 c1 c2 c3 c4)):∃r,qd c0 c1 c2 c3 c4 r:=by
 apply apc 1
 unfold ah0 ahZ
 dsimp only
 refine aD (asR 20 1 (by omega) (by omega) _ _ _ _ _ _ _ _ (by simp) hn (by simp)) ?_
 rintro⟨a,ts',e'⟩ ⟨-,g1,g2⟩
 dsimp only at g1 g2 ⊢
 repeat' (first|(with_reducible refine aC ?_ ?_<;>(intro hb;(try simp only[bnl] at hb);(try revert hb;intro _)))|with_reducible refine aH ?_ ?_|with_reducible refine aE ?_|fail)
 ·rename_i h0
  exact⟨_,_,_,rfl,rfl,fun h=>absurd h h0⟩
 ·rename_i h0
  exact⟨_,_,_,rfl,rfl,fun _=>by have g2:=g2 h0;rw[h0] at g1;exact g1.sch (by omega)⟩
end Go.Proofs.Ytdpajabhmmmjoaa
end
noncomputable section
namespace Go.Proofs.Ytdpajabhmmmjoaa
open Go.AM
set_option autoImplicit false
set_option linter.unusedVariables false
set_option linter.unusedSimpArgs false
set_option maxRecDepth 100000
theorem dn(k n:Int)(s:List UInt8)(h:s.length≤100):re (.mk k n s [] []):=.mk _ _ _ _ _ h (by simp) (by simp) (by simp) (by simp) (by simp)
theorem af2(k n:Int)(l:List aB)(h:l.length≤7)(hl:∀c∈l,re c)(hk:k≠6):re (.mk k n [] l []):=.mk _ _ _ _ _ (by simp) h (by simp) (by simp) (fun h=>absurd h hk) hl
theorem ab9(k n:Int)(l:List aB)(names:List (List UInt8))(hn:names.length=l.length)(h:l.length≤7)(hs:ct names)(hl:∀c∈l,re c):re (.mk k n [] l names):=.mk _ _ _ _ _ (by simp) h (by omega) hs (fun _=>hn) hl
theorem af3{l:List (List UInt8)}(h:ct l)(i:Nat):(l.getD i (aG .str)).length≤100:=ag7 h i
theorem atK(a:List UInt8)(n c0 c1:Int)(c2:List UInt8)(c3:List aB)(c4:List (List UInt8))(hp:kp a n)(hn:re (.mk c0 c1 c2 c3 c4)):∃r,iE a n c0 c1 c2 c3 c4 r:=by
 obtain⟨k1,k2,k3,k4,k5,k6⟩:=hn.kids
 apply aeE 1
 unfold xX im
 dsimp only
 have one:∀(n' x0 x1:Int)(x2:List UInt8)(x3:List aB)(x4:List (List UInt8)),kp a n'→Tot (gP 1 (c0,c1,c2,c3,c4,a,n',x0,x1,x2,x3,x4)) (fun z=>∃(y0 y1:Int)(y2:List UInt8)(y3:List aB)(y4:List (List UInt8))(y5:List UInt8)(y6:Int)(rest:List aJ),z.1.dimR=.agg [.int .i64 y0,.int .i64 y1,.str y2,.sl .jnode (.may false) y3,.sl .str (.may false) y4]∧z.2=some [.sl .u8 (.may false) y5,.int .i64 y6]::rest∧fY a n c0 c1 c2 c3 c4 (y0,y1,y2,y3,y4,y5,y6)):=by
  intro n' x0 x1 x2 x3 x4 hp'
  unfold gP
  dsimp only
  repeat' (first|(with_reducible refine aC ?_ ?_<;>(intro hb;(try simp only[bnl] at hb);(try revert hb;intro _)))|with_reducible refine aH ?_ ?_|with_reducible refine aE ?_|(refine aD (aoC _ _ _ _ _ _ k3 (by omega)) ?_;rintro r ⟨-,hr⟩;clear hr)|(refine aD (cr _) ?_;rintro _ ⟨-,rfl⟩;dsimp only)|fail)
  all_goals exact⟨_,_,_,_,_,_,_,_,rfl,rfl,dn _ _ _ (by simp),rfl,hp'⟩
 have two:∀(n' x0 x1:Int)(x2:List UInt8)(x3:List aB)(x4:List (List UInt8)),kp a n'→Tot (kZ 1 (c0,c1,c2,c3,c4,a,n',x0,x1,x2,x3,x4)) (fun z=>∃(y0 y1:Int)(y2:List UInt8)(y3:List aB)(y4:List (List UInt8))(y5:List UInt8)(y6:Int)(rest:List aJ),z.1.dimR=.agg [.int .i64 y0,.int .i64 y1,.str y2,.sl .jnode (.may false) y3,.sl .str (.may false) y4]∧z.2=some [.sl .u8 (.may false) y5,.int .i64 y6]::rest∧fY a n c0 c1 c2 c3 c4 (y0,y1,y2,y3,y4,y5,y6)):=by
  intro n' x0 x1 x2 x3 x4 hp'
  unfold kZ
  dsimp only
  repeat' (first|(with_reducible refine aC ?_ ?_<;>(intro hb;(try simp only[bnl] at hb);(try revert hb;intro _)))|with_reducible refine aH ?_ ?_|with_reducible refine aE ?_|(refine aD (aoC _ _ _ _ _ _ k3 (by omega)) ?_;rintro r ⟨-,hr⟩;clear hr)|(refine aD (cr _) ?_;rintro _ ⟨-,rfl⟩;dsimp only)|fail)
  all_goals exact⟨_,_,_,_,_,_,_,_,rfl,rfl,dn _ _ _ (by simp),rfl,hp'⟩
 have zero:∀(b:Bool),Tot (kY 1 (c0,c1,c2,c3,c4,c2,b,a,n,0,0,[],[],[])) (fun z=>∃(y0 y1:Int)(y2:List UInt8)(y3:List aB)(y4:List (List UInt8))(y5:List UInt8)(y6:Int)(rest:List aJ),z.1.dimR=.agg [.int .i64 y0,.int .i64 y1,.str y2,.sl .jnode (.may false) y3,.sl .str (.may false) y4]∧z.2=some [.sl .u8 (.may false) y5,.int .i64 y6]::rest∧fY a n c0 c1 c2 c3 c4 (y0,y1,y2,y3,y4,y5,y6)):=by
  intro b
  unfold kY jI
  dsimp only
  have w3:ct ([([]:List UInt8),([100]:List UInt8),([195,164]:List UInt8)]:List (List UInt8)):=by simp[ct]
  repeat' (first|(with_reducible refine aC ?_ ?_<;>(intro hb;(try simp only[bnl] at hb);(try revert hb;intro _)))|with_reducible refine aH ?_ ?_|with_reducible refine aE ?_|(refine aD (jj _ _ _ hp (by omega) (by omega)) ?_;rintro⟨m,a',n'⟩ ⟨-,m1,m2,rfl,m3⟩;dsimp only at m1 m2 m3 ⊢)|(refine aD (cr _) ?_;rintro _ ⟨-,rfl⟩;dsimp only)|fail)
  all_goals first|exact⟨_,_,_,_,_,_,_,_,rfl,rfl,dn _ _ _ (Nat.zero_le _),rfl,hp⟩|exact⟨_,_,_,_,_,_,_,_,rfl,rfl,dn _ _ _ (Nat.zero_le _),rfl,m3⟩|exact⟨_,_,_,_,_,_,_,_,rfl,rfl,dn _ _ _ (af3 w3 _),rfl,m3⟩|exact one _ _ _ _ _ _ hp|exact two _ _ _ _ _ _ hp|(first|(simp only[bnl,lnl];done)|(simp only[bnl,lnl];omega))|skip
 repeat' (first|(with_reducible refine aC ?_ ?_<;>(intro hb;(try simp only[bnl] at hb);(try revert hb;intro _)))|with_reducible refine aH ?_ ?_|with_reducible refine aE ?_|fail)
 all_goals first|exact zero _|exact two _ _ _ _ _ _ hp
def anJ(deep:Int):Prop:=∀(a:List UInt8)(n:Int)(ns:List (List UInt8)),kp a n→ct ns→ns.length+uj (5-deep.toNat)≤100000→∃r,dA a n ns deep r
theorem aeQ{deep:Int}(h:0≤deep∧deep≤4):uj (5-deep.toNat)=1+4*uj (5-(deep+1).toNat):=by
 have:5-deep.toNat=(5-(deep+1).toNat)+1:=by omega
 rw[this];rfl
theorem auW(deep:Int)(hd:0≤deep∧deep≤3)(hT:anJ (deep+1))(a:List UInt8)(n:Int)(ns:List (List UInt8))(hp:kp a n)(hns:ct ns)(hl:ns.length+uj (5-deep.toNat)≤100000):∃r,lw a n ns deep r:=by
 have hN:=aeQ (deep:=deep) (by omega)
 have ed:IntKind.i64.wrap (deep+1)=deep+1:=aI (deep+1) (by omega)
 apply agR 1
 unfold zI zH
 dsimp only
 have w2:ct ([([105,110,116]:List UInt8),([115,116,114,105,110,103]:List UInt8)]:List (List UInt8)):=by simp[ct]
 refine aD (cr _) ?_
 rintro _ ⟨-,rfl⟩
 refine aD (jj _ _ _ hp (by omega) (by omega)) ?_
 rintro⟨m,a',n'⟩ ⟨-,m1,m2,rfl,m3⟩
 dsimp only at m1 m2 m3 ⊢
 refine aC (fun _=>?_) (fun _=>?_)
 ·refine aD (jj _ _ _ m3 (by omega) (by omega)) ?_
  rintro⟨m',a',n''⟩ ⟨-,m1',m2',rfl,m3'⟩
  dsimp only at m1' m2' m3' ⊢
  refine vck ?_
  refine aD (cr _) ?_
  rintro _ ⟨-,rfl⟩
  dsimp only
  refine vck ?_
  rw[ed]
  refine aD (hT _ _ _ m3' hns (by omega)) ?_
  rintro⟨t0,t1,t2,t3,t4,a'',n3,ns'⟩ ⟨-,h1,rfl,h3,h4,h5⟩
  dsimp only at h1 h3 h4 h5 ⊢
  have kids2:∀c∈([aB.mk 4 0 [110,117,108,108] [] []]++[aB.mk 4 0 (List.getD ([([105,110,116]:List UInt8),([115,116,114,105,110,103]:List UInt8)]:List (List UInt8)) (Int.toNat m') (aG .str)) [] []]),re c:=by
   intro c hc
   simp only[List.cons_append,List.nil_append,List.mem_cons,List.not_mem_nil,or_false] at hc
   rcases hc with rfl|rfl
   ·exact dn _ _ _ (by simp)
   ·exact dn _ _ _ (af3 w2 _)
  repeat' (first|(with_reducible refine aC ?_ ?_<;>(intro hb;(try simp only[bnl] at hb);(try revert hb;intro _)))|with_reducible refine aH ?_ ?_|with_reducible refine aE ?_|fail)
  ·first|(simp only[bnl,lnl];done)|(simp only[bnl,lnl];omega)
  ·refine⟨_,_,_,_,_,_,_,_,_,rfl,rfl,af2 _ _ _ (by simp) ?_ (by simp),rfl,h3,h4,by simp only;omega⟩
   intro c hc
   rcases List.mem_append.1 hc with hc|hc
   ·exact kids2 c hc
   ·simp only[List.mem_singleton] at hc
    subst hc;exact h1
  ·exact⟨_,_,_,_,_,_,_,_,_,rfl,rfl,af2 _ _ _ (by simp) kids2 (by simp),rfl,h3,h4,by simp only;omega⟩
 ·rw[ed]
  refine aD (hT _ _ _ m3 hns (by omega)) ?_
  rintro⟨t0,t1,t2,t3,t4,a'',n3,ns'⟩ ⟨-,h1,rfl,h3,h4,h5⟩
  dsimp only at h1 h3 h4 h5 ⊢
  repeat' (first|(with_reducible refine aC ?_ ?_<;>(intro hb;(try simp only[bnl] at hb);(try revert hb;intro _)))|with_reducible refine aH ?_ ?_|with_reducible refine aE ?_|fail)
  ·first|(simp only[bnl,lnl];done)|(simp only[bnl,lnl];omega)
  ·refine⟨_,_,_,_,_,_,_,_,_,rfl,rfl,af2 _ _ _ (by simp) ?_ (by simp),rfl,h3,h4,by simp only;omega⟩
   intro c hc
   simp only[List.cons_append,List.nil_append,List.mem_cons,List.not_mem_nil,or_false] at hc
   rcases hc with rfl|rfl
   ·exact dn _ _ _ (by simp)
   ·exact h1
  ·refine⟨_,_,_,_,_,_,_,_,_,rfl,rfl,af2 _ _ _ (by simp) ?_ (by simp),rfl,h3,h4,by simp only;omega⟩
   intro c hc
   simp only[List.mem_singleton] at hc
   subst hc;exact dn _ _ _ (by simp)
theorem ale(deep:Int)(hd:0≤deep∧deep≤3)(hT:anJ (deep+1))(a:List UInt8)(n:Int)(ns:List (List UInt8))(name:List UInt8)(hp:kp a n)(hns:ct ns)(hnm:name.length≤100)(hl:ns.length+uj (5-deep.toNat)≤100001):∃r,gp a n ns name deep r:=by
 have hN:=aeQ (deep:=deep) (by omega)
 have ed:IntKind.i64.wrap (deep+1)=deep+1:=aI (deep+1) (by omega)
 apply afL 100
 unfold zi iU
 refine aD (jj _ _ _ hp (by omega) (by omega)) ?_
 rintro⟨m,a',n'⟩ ⟨-,m1,m2,rfl,m3⟩
 dsimp only at m1 m2 m3 ⊢
 refine aT (fun x=>match x with|(nm,dp,i,m',a2,n2,ns2,x0,x1,x2,x3,x4,k0,k1,k2,l,k4)=>nm=name∧dp=deep∧0≤i∧i≤m∧m'=m∧a2=a'∧kp a' n2∧ct ns2∧(ns2.length:Int)≤ns.length+i*uj (5-(deep+1).toNat)∧k0=5∧k1=0∧k2=[]∧k4=[]∧(l.length:Int)=i∧∀c∈l,re c) (fun x=>(m-x.2.2.1).toNat) ?_ _ _
  ⟨rfl,rfl,by simp,m1,rfl,rfl,m3,hns,by simp,rfl,rfl,rfl,rfl,rfl,by simp⟩ (by simp only;omega)
 rintro again ⟨nm,dp,i,m',a2,n2,ns2,x0,x1,x2,x3,x4,k0,k1,k2,l,k4⟩ ⟨rfl,rfl,i1,i2,rfl,rfl,i3,i4,i5,rfl,rfl,rfl,rfl,i6,i7⟩ ih
 dsimp only at ih
 have ei:i<m'→IntKind.i64.wrap (i+1)=i+1:=fun h=>aI (i+1) (by omega)
 generalize hq:uj (5-(dp+1).toNat)=q at*
 have hi5:i*(q:Int)≤4*q:=Int.mul_le_mul_of_nonneg_right (by omega) (by omega)
 have nnil:ct ([]:List (List UInt8)):=by simp[ct]
 unfold lU
 dsimp only
 refine aC (fun h=>?_) (fun h=>?_)
 ·have h:=of_decide_eq_true h
  rw[ed]
  have hi4:(i+1)*(q:Int)≤4*q:=Int.mul_le_mul_of_nonneg_right (by omega) (by omega)
  have hi6:(i+1)*(q:Int)=i*q+q:=by rw[Int.add_mul,Int.one_mul]
  refine aD (hT _ _ _ i3 i4 (by rw[hq];omega)) ?_
  rintro⟨t0,t1,t2,t3,t4,a'',n3,ns'⟩ ⟨-,h1,rfl,h3,h4,h5⟩
  dsimp only at h1 h3 h4 h5 ⊢
  rw[hq] at h5
  refine vck ?_
  refine aD (cr _) ?_
  rintro _ ⟨-,rfl⟩
  refine aD (uK _ _ _ _) ?_
  rintro _ ⟨-,rfl⟩
  dsimp only
  refine aD (jj _ _ _ h3 (by omega) (by omega)) ?_
  rintro⟨mm,a3,n4⟩ ⟨-,mm1,mm2,rfl,mm3⟩
  dsimp only at mm1 mm2 mm3 ⊢
  have next:∀(n5:Int)(c:aB),kp a3 n5→re c→Tot (again (nm,dp,IntKind.i64.wrap (i+1),m',a3,n5,ns',x0,x1,x2,x3,x4,5,0,[],l++[c],[])) _:=fun n5 c hp5 hc=>ih (nm,dp,IntKind.i64.wrap (i+1),m',a3,n5,ns',x0,x1,x2,x3,x4,5,0,[],l++[c],[])
   (by
    simp only[ei h,List.length_append,List.length_cons,List.length_nil]
    refine⟨trivial,trivial,by omega,by omega,trivial,trivial,hp5,h4,by omega,trivial,trivial,trivial,trivial,by omega,?_⟩
    intro d hd
    rcases List.mem_append.1 hd with hd|hd
    ·exact i7 d hd
    ·simp only[List.mem_singleton] at hd
     subst hd;exact hc) (by simp only[ei h];omega)
  have f1:re (.mk 4 0 ([102]++[UInt8.ofNat (Int.toNat (IntKind.wrap .u8 (IntKind.wrap .i64 (97+i))))]) [] []):=dn _ _ _ (by simp)
  refine aC (fun _=>?_) (fun _=>?_)
  ·refine vck ?_
   refine aD (atK _ _ _ _ _ _ _ mm3 h1) ?_
   rintro⟨d0,d1,d2,d3,d4,a4,n5⟩ ⟨-,q1,rfl,q3⟩
   dsimp only at q1 q3 ⊢
   refine vck ?_
   refine vck ?_
   refine next _ _ q3 (ab9 _ _ _ _ (by simp) (by simp) (by simp[ct]) ?_)
   intro c hc
   simp only[List.cons_append,List.nil_append,List.mem_cons,List.not_mem_nil,or_false] at hc
   rcases hc with rfl|rfl|rfl
   ·exact f1
   ·exact h1
   ·exact q1
  ·refine vck ?_
   refine next _ _ mm3 (ab9 _ _ _ _ (by simp) (by simp) (by simp[ct]) ?_)
   intro c hc
   simp only[List.mem_cons,List.not_mem_nil,or_false] at hc
   rcases hc with rfl|rfl
   ·exact f1
   ·exact h1
 ·refine aD (cr _) ?_
  rintro _ ⟨-,rfl⟩
  refine aD (cr _) ?_
  rintro _ ⟨-,rfl⟩
  refine aD (cr _) ?_
  rintro _ ⟨-,rfl⟩
  refine aD (uK _ _ _ _) ?_
  rintro _ ⟨-,rfl⟩
  dsimp only
  refine aE ⟨_,_,_,_,_,_,_,_,_,rfl,rfl,⟨ab9 _ _ _ _ (by simp) (by simp) (by simp[ct]) ?_,rfl,i3,i4,by simp only;omega⟩,by simp only;omega⟩
  intro c hc
  simp only[List.mem_cons,List.not_mem_nil,or_false] at hc
  rcases hc with rfl|rfl|rfl|rfl
  ·exact dn _ _ _ (by simp)
  ·exact dn _ _ _ hnm
  ·exact dn _ _ _ (by simp)
  ·exact af2 _ _ _ (by omega) i7 (by decide)
theorem anK(deep:Int)(hd:0≤deep∧deep≤4)(hT:deep≤3→anJ (deep+1)):anJ deep:=by
 intro a n ns hp hns hl
 have hN:=aeQ (deep:=deep) (by omega)
 have ed:IntKind.i64.wrap (deep+1)=deep+1:=aI (deep+1) (by omega)
 apply ain 1
 unfold aaY lG
 dsimp only
 have w8:ct ([([105,110,116]:List UInt8),([108,111,110,103]:List UInt8),([115,116,114,105,110,103]:List UInt8),([98,121,116,101,115]:List UInt8),([98,111,111,108,101,97,110]:List UInt8),([110,117,108,108]:List UInt8),([102,108,111,97,116]:List UInt8),([100,111,117,98,108,101]:List UInt8)]:List (List UInt8)):=by simp[ct]
 have two:∀(k n':Int),deep≤3→kp a n'→Tot (ke 1 (deep,k,a,n',ns,0,0,[],[],[])) (fun z=>∃(y0 y1:Int)(y2:List UInt8)(y3:List aB)(y4:List (List UInt8))(y5:List UInt8)(y6:Int)(y7:List (List UInt8))(rest:List aJ),z.1.dimR=.agg [.int .i64 y0,.int .i64 y1,.str y2,.sl .jnode (.may false) y3,.sl .str (.may false) y4]∧z.2=some [.sl .u8 (.may false) y5,.int .i64 y6]::some [.sl .str .own y7]::rest∧fW a n ns deep (y0,y1,y2,y3,y4,y5,y6,y7)):=by
  intro k n' hd3 hp'
  have hT:=hT hd3
  unfold ke
  dsimp only
  refine vck ?_
  refine vck ?_
  generalize hnm:([78]:List UInt8)++[(UInt8.ofNat (Int.toNat (IntKind.wrap .u8 (IntKind.wrap .i64 (97+(Int.tmod (↑(List.length ns):Int) 26))))))]=nm
  have hnl:nm.length≤100:=by subst hnm;simp
  have hns2:ct (ns++[nm]):=by
   intro x hx
   rcases List.mem_append.1 hx with hx|hx
   ·exact hns x hx
   ·simp only[List.mem_singleton] at hx
    subst hx;exact hnl
  have hlen:(ns++[nm]).length=ns.length+1:=by simp
  refine aC (fun _=>?_) (fun _=>aC (fun _=>?_) (fun _=>?_))
  ·refine aD (cr _) ?_
   rintro _ ⟨-,rfl⟩
   refine aD (cr _) ?_
   rintro _ ⟨-,rfl⟩
   refine aD (jj _ _ _ hp' (by omega) (by omega)) ?_
   rintro⟨mm,a3,n4⟩ ⟨-,mm1,mm2,rfl,mm3⟩
   dsimp only at mm1 mm2 mm3 ⊢
   refine aD (uK _ _ _ _) ?_
   rintro _ ⟨-,rfl⟩
   dsimp only
   refine aE ⟨_,_,_,_,_,_,_,_,_,rfl,rfl,ab9 _ _ _ _ (by simp) (by simp) (by simp[ct]) ?_,rfl,mm3,hns2,by simp only[hlen];omega⟩
   intro c hc
   simp only[List.mem_cons,List.not_mem_nil,or_false] at hc
   rcases hc with rfl|rfl|rfl
   ·exact dn _ _ _ (by simp)
   ·exact dn _ _ _ hnl
   ·exact dn _ _ _ (by simp)
  ·refine aD (cr _) ?_
   rintro _ ⟨-,rfl⟩
   refine aD (cr _) ?_
   rintro _ ⟨-,rfl⟩
   refine aD (cr _) ?_
   rintro _ ⟨-,rfl⟩
   refine aD (jj _ _ _ hp' (by omega) (by omega)) ?_
   rintro⟨mm,a3,n4⟩ ⟨-,mm1,mm2,rfl,mm3⟩
   dsimp only at mm1 mm2 mm3 ⊢
   have em:IntKind.i64.wrap (1+mm)=1+mm:=aI (1+mm) (by omega)
   rw[em]
   refine vck ?_
   refine aD (cr _) ?_
   rintro _ ⟨-,rfl⟩
   refine aD (cr _) ?_
   rintro _ ⟨-,rfl⟩
   refine aD (uK _ _ _ _) ?_
   rintro _ ⟨-,rfl⟩
   dsimp only
   refine aD (jj _ _ _ mm3 (by omega) (by omega)) ?_
   rintro⟨m5,a5,n5⟩ ⟨-,m51,m52,rfl,m53⟩
   dsimp only at m51 m52 m53 ⊢
   have hsub:∀c∈(List.drop 0 (List.take (Int.toNat (1+mm)) ([aB.mk 4 0 [88] [] [],aB.mk 4 0 [89] [] [],aB.mk 4 0 [90] [] []]:List aB))),re c:=by
    intro c hc
    rw[List.drop_zero] at hc
    have hc:=List.mem_of_mem_take hc
    simp only[List.mem_cons,List.not_mem_nil,or_false] at hc
    rcases hc with rfl|rfl|rfl<;>exact dn _ _ _ (by simp)
   have hsl:(List.drop 0 (List.take (Int.toNat (1+mm)) ([aB.mk 4 0 [88] [] [],aB.mk 4 0 [89] [] [],aB.mk 4 0 [90] [] []]:List aB))).length≤7:=by
    simp only[List.length_drop,List.length_take,List.length_cons,List.length_nil];omega
   have hsy:=af2 5 0 _ hsl hsub (by decide)
   refine aC (fun _=>?_) (fun _=>?_)
   ·refine vck ?_
    refine aD (cr _) ?_
    rintro _ ⟨-,rfl⟩
    dsimp only
    refine vck ?_
    refine aE ⟨_,_,_,_,_,_,_,_,_,rfl,rfl,ab9 _ _ _ _ (by simp) (by simp) (by simp[ct]) ?_,rfl,m53,hns2,by simp only[hlen];omega⟩
    intro c hc
    simp only[List.cons_append,List.nil_append,List.mem_cons,List.not_mem_nil,or_false] at hc
    rcases hc with rfl|rfl|rfl|rfl
    ·exact dn _ _ _ (by simp)
    ·exact dn _ _ _ hnl
    ·exact hsy
    ·exact dn _ _ _ (by simp)
   ·refine aE ⟨_,_,_,_,_,_,_,_,_,rfl,rfl,ab9 _ _ _ _ (by simp) (by simp) (by simp[ct]) ?_,rfl,m53,hns2,by simp only[hlen];omega⟩
    intro c hc
    simp only[List.mem_cons,List.not_mem_nil,or_false] at hc
    rcases hc with rfl|rfl|rfl
    ·exact dn _ _ _ (by simp)
    ·exact dn _ _ _ hnl
    ·exact hsy
  ·refine aD (ale deep (by omega) hT _ _ _ _ hp' hns2 hnl ?_) ?_
   ·rw[hlen];omega
   rintro⟨t0,t1,t2,t3,t4,a'',n3,ns'⟩ ⟨-,⟨h1,rfl,h3,h4,h5⟩,h6⟩
   dsimp only at h1 h3 h4 h5 h6 ⊢
   rw[hlen] at h6
   exact aE ⟨_,_,_,_,_,_,_,_,_,rfl,rfl,h1,rfl,h3,h4,by simp only;omega⟩
 have one:∀(k n':Int)(b:Bool),deep≤3→kp a n'→(b=true→0<ns.length)→Tot (kf 1 (deep,k,b,a,n',ns,0,0,[],[],[])) (fun z=>∃(y0 y1:Int)(y2:List UInt8)(y3:List aB)(y4:List (List UInt8))(y5:List UInt8)(y6:Int)(y7:List (List UInt8))(rest:List aJ),z.1.dimR=.agg [.int .i64 y0,.int .i64 y1,.str y2,.sl .jnode (.may false) y3,.sl .str (.may false) y4]∧z.2=some [.sl .u8 (.may false) y5,.int .i64 y6]::some [.sl .str .own y7]::rest∧fW a n ns deep (y0,y1,y2,y3,y4,y5,y6,y7)):=by
  intro k n' b hd3 hp' hb
  unfold kf nh
  dsimp only
  refine aC (fun h1=>?_) (fun h1=>two _ _ hd3 hp')
  have hb:=hb h1
  have numTot:∃r,bc a n' (ns.length:Int) r:=asg _ _ _ hp' (by omega)
  refine aD numTot ?_
  rintro⟨mm,a3,n4⟩ ⟨-,mm1,mm2,rfl,mm3⟩
  dsimp only at mm1 mm2 mm3 ⊢
  refine vck ?_
  refine aD (cr _) ?_
  rintro _ ⟨-,rfl⟩
  exact aE ⟨_,_,_,_,_,_,_,_,_,rfl,rfl,dn _ _ _ (af3 hns _),rfl,mm3,hns,by simp only;omega⟩
 have zero:∀(k n':Int),0≤k→(8≤k→deep≤3)→kp a n'→Tot (oh 1 (deep,k,a,n',ns,0,0,[],[],[])) (fun z=>∃(y0 y1:Int)(y2:List UInt8)(y3:List aB)(y4:List (List UInt8))(y5:List UInt8)(y6:Int)(y7:List (List UInt8))(rest:List aJ),z.1.dimR=.agg [.int .i64 y0,.int .i64 y1,.str y2,.sl .jnode (.may false) y3,.sl .str (.may false) y4]∧z.2=some [.sl .u8 (.may false) y5,.int .i64 y6]::some [.sl .str .own y7]::rest∧fW a n ns deep (y0,y1,y2,y3,y4,y5,y6,y7)):=by
  intro k n' hk hk2 hp'
  unfold oh ni
  dsimp only
  refine aC (fun h1=>?_) (fun h1=>?_)
  ·have h1:=of_decide_eq_true h1
   refine vck ?_
   refine aD (cr _) ?_
   rintro _ ⟨-,rfl⟩
   exact aE ⟨_,_,_,_,_,_,_,_,_,rfl,rfl,dn _ _ _ (af3 w8 _),rfl,hp',hns,by simp only;omega⟩
  have hd3:=hk2 (by have:=of_decide_eq_false h1;omega)
  have hT:=hT hd3
  rw[ed]
  have tab:∀(word w2:List UInt8),word.length≤100→w2.length≤100→∀(nm:List UInt8),nm.length≤100→Tot (aF (bh word) (fun r3=>aF (dA a n' ns (deep+1)) (fun r4=>
     aF (d8 true ([nm,w2]:List (List UInt8)) true ([⟨r3.1,r3.2.1,r3.2.2.1,r3.2.2.2.1,r3.2.2.2.2⟩,⟨r4.1,r4.2.1,r4.2.2.1,r4.2.2.2.1,r4.2.2.2.2.1⟩]:List aB)) (fun r5=>
      some (V.agg [.int .i64 r5.1,.int .i64 r5.2.1,.str r5.2.2.1,.sl .jnode (.may r5.2.2.2.1) r5.2.2.2.2.1,.sl .str (.may r5.2.2.2.2.2.1) r5.2.2.2.2.2.2],([some [.sl .u8 (.may false) r4.2.2.2.2.2.1,.int .i64 r4.2.2.2.2.2.2.1],some [.sl .str .own r4.2.2.2.2.2.2.2],some [.int .i64 r5.1,.int .i64 r5.2.1,.str r5.2.2.1,.sl .jnode (.may r5.2.2.2.1) r5.2.2.2.2.1,.sl .str (.may r5.2.2.2.2.2.1) r5.2.2.2.2.2.2]]:List aJ)))))) (fun z=>∃(y0 y1:Int)(y2:List UInt8)(y3:List aB)(y4:List (List UInt8))(y5:List UInt8)(y6:Int)(y7:List (List UInt8))(rest:List aJ),z.1.dimR=.agg [.int .i64 y0,.int .i64 y1,.str y2,.sl .jnode (.may false) y3,.sl .str (.may false) y4]∧z.2=some [.sl .u8 (.may false) y5,.int .i64 y6]::some [.sl .str .own y7]::rest∧fW a n ns deep (y0,y1,y2,y3,y4,y5,y6,y7)):=by
   intro word w2 hw hw2 nm hnm
   refine aD (cr _) ?_
   rintro _ ⟨-,rfl⟩
   refine aD (hT _ _ _ hp' hns (by omega)) ?_
   rintro⟨t0,t1,t2,t3,t4,a'',n3,ns'⟩ ⟨-,h1,rfl,h3,h4,h5⟩
   dsimp only at h1 h3 h4 h5 ⊢
   refine aD (uK _ _ _ _) ?_
   rintro _ ⟨-,rfl⟩
   dsimp only
   refine aE ⟨_,_,_,_,_,_,_,_,_,rfl,rfl,ab9 _ _ _ _ (by simp) (by simp) ?_ ?_,rfl,h3,h4,by simp only;omega⟩
   ·intro x hx
    simp only[List.mem_cons,List.not_mem_nil,or_false] at hx
    rcases hx with rfl|rfl<;>assumption
   ·intro c hc
    simp only[List.mem_cons,List.not_mem_nil,or_false] at hc
    rcases hc with rfl|rfl
    ·exact dn _ _ _ hw
    ·exact h1
  refine aC (fun _=>?_) (fun _=>aC (fun _=>?_) (fun _=>aC (fun _=>?_) (fun _=>aC (fun _=>one _ _ _ hd3 hp' fun hb=>?_) (fun _=>one _ _ _ hd3 hp' fun hb=>by cases hb))))
  ·exact tab _ _ (by simp) (by simp) _ (by simp)
  ·exact tab _ _ (by simp) (by simp) _ (by simp)
  ·refine aD (auW deep (by omega) hT _ _ _ hp' hns hl) ?_
   rintro⟨t0,t1,t2,t3,t4,a'',n3,ns'⟩ ⟨-,h1,rfl,h3,h4,h5⟩
   exact aE ⟨_,_,_,_,_,_,_,_,_,rfl,rfl,h1,rfl,h3,h4,h5⟩
  ·have:=of_decide_eq_true hb
   omega
 refine aD (jj _ _ _ hp (by omega) (by omega)) ?_
 rintro⟨m,a',n'⟩ ⟨-,m1,m2,rfl,m3⟩
 dsimp only at m1 m2 m3 ⊢
 have t8:0≤Int.tmod m 8∧Int.tmod m 8<8:=⟨Int.tmod_nonneg _ m1,Int.tmod_lt_of_pos _ (by omega)⟩
 refine aC (fun h1=>zero _ _ t8.1 (fun h=>by omega) m3) (fun h1=>?_)
 have h1:=of_decide_eq_false h1
 refine aD (awk _ _) ?_
 rintro⟨b,a2,n2⟩ ⟨-,rfl,rfl⟩
 dsimp only
 exact aC (fun _=>zero _ _ t8.1 (fun h=>by omega) m3) (fun _=>zero _ _ m1 (fun _=>by omega) m3)
theorem apE:∀(k:Nat)(deep:Int),deep+k=4→0≤deep→anJ deep
 |0,deep,h,h1=>anK deep (by omega) (fun h'=>by omega)
 |k+1,deep,h,h1=>anK deep (by omega) (fun _=>apE k (deep+1) (by omega) (by omega))
theorem auX(a:List UInt8)(n:Int)(hp:kp a n):∃r,jT a n r:=by
 apply afm 1
 unfold yP yO
 refine aD (ale 0 (by omega) (apE 3 1 (by omega) (by omega)) _ _ _ _ hp (by simp[ct]) (by simp) (by simp[uj])) ?_
 rintro⟨t0,t1,t2,t3,t4,a'',n3,ns'⟩ ⟨-,⟨h1,rfl,h3,h4,h5⟩,h6⟩
 exact aE ⟨_,_,_,_,_,_,_,_,rfl,rfl,h1,rfl,h3⟩
end Go.Proofs.Ytdpajabhmmmjoaa
end
noncomputable section
namespace Go.Proofs.Ytdpajabhmmmjoaa
open Go.AM
set_option autoImplicit false
set_option linter.unusedVariables false
set_option linter.unusedSimpArgs false
set_option maxRecDepth 100000
theorem awY(s:List UInt8)(hs:s.length≤1000):∃r,wi s r:=by
 apply aqY 2000
 unfold ajZ uV
 refine aT (fun x=>x.1.length+x.2.length≤s.length) (fun x=>x.1.length) ?_ _ _ (by simp) (by simp;omega)
 rintro again ⟨a,out⟩ h ih
 dsimp only at h ih
 unfold xh
 dsimp only
 refine aC (fun h1=>?_) (fun _=>aE ⟨_,_,_,rfl,rfl⟩)
 have h1:=of_decide_eq_true h1
 refine aD (avz _ (by omega)) ?_
 rintro⟨c,n⟩ ⟨-,hp⟩
 obtain⟨p1,p2⟩:=avy a
 rw[←(show (c,n)=yq a from hp)] at p1 p2
 dsimp only at p1 p2 ⊢
 repeat' (first|(with_reducible refine aC ?_ ?_<;>(intro hb;(try simp only[bnl] at hb);(try revert hb;intro _)))|with_reducible refine aH ?_ ?_|with_reducible refine aE ?_|fail)
 all_goals first|exact⟨_,_,_,rfl,rfl⟩|(first|(simp only[bnl,lnl];done)|(simp only[bnl,lnl];omega))|skip
 rename_i h2 h3
 have hn:0<n:=by omega
 refine ih _ ?_ ?_
 ·simp only[List.length_append,List.length_cons,List.length_nil,List.length_drop,List.length_take];omega
 ·simp only[List.length_append,List.length_cons,List.length_nil,List.length_drop,List.length_take];omega
def aj7(ts:List aA)(deep:Int):Prop:=∀(all t c0 c1:Int)(c2:List UInt8)(c3:List aB)(c4:List (List UInt8)),0≤t→t<ts.length→bl (.mk c0 c1 c2 c3 c4)→∃r,cn ts all t c0 c1 c2 c3 c4 deep r
theorem avN(ts:List aA)(deep:Int)(hd:1≤deep∧deep≤20)(hV:aj7 ts (deep+1))(all k0:Int)(k1:List UInt8)(k2:List (List UInt8))(k3:Int)(k4:List (List UInt8))(k5:Bool)(k6:List UInt8)(k7:Int)(k8:List aM)(k9:List Int)
  (c0 c1:Int) (c2:List UInt8) (c3:List aB) (c4:List (List UInt8)) (hk:0≤k3∧k3<ts.length) (hn:bl (.mk c0 c1 c2 c3 c4)) (hm:k0≠12→c4.length=c3.length):∃r,iH ts all k0 k1 k2 k3 k4 k5 k6 k7 k8 k9 c0 c1 c2 c3 c4 deep r:=by
 obtain⟨n1,n2,n3,n4,n5,n6⟩:=hn.kids
 have ed:IntKind.i64.wrap (deep+1)=deep+1:=aI (deep+1) (by omega)
 apply aex 1000
 unfold xU ij
 refine aT (fun x=>match x with
  | .inl (dp,v0,v1,v2,v3,v4,v5,v6,v7,v8,v9,d0,d1,d2,l,ks,i,ts',al,p0,p1,p2,p3,p4,q0,q1,q2,q3,q4)=>dp=deep∧v0=k0∧v3=k3∧l=c3∧ks=c4∧0≤i∧i≤(c3.length:Int)∧ts'=ts∧q3=[]∧(q2.length:Int)=i∧(k0≠12→q2=[])
  | .inr (dp,v0,v1,v2,v3,v4,v5,v6,v7,v8,v9,d0,d1,d2,l,ks,i,ts',al,p0,p1,p2,p3,p4,q0,q1,q2,q3,q4)=>dp=deep∧v0=k0∧v3=k3∧l=c3∧ks=c4∧0≤i∧i≤(c3.length:Int)∧ts'=ts∧k0≠12∧q3.length=q2.length∧(q2.length:Int)≤i)
  (fun x=>match x with
  | .inl x=>((c3.length:Int)-x.2.2.2.2.2.2.2.2.2.2.2.2.2.2.2.2.1).toNat
  | .inr x=>((c3.length:Int)-x.2.2.2.2.2.2.2.2.2.2.2.2.2.2.2.2.1).toNat) ?_ _ _
  ⟨rfl,rfl,rfl,rfl,rfl,by simp,by simp,rfl,rfl,rfl,fun _=>rfl⟩ (by simp;omega)
 rintro again (⟨dp,v0,v1,v2,v3,v4,v5,v6,v7,v8,v9,d0,d1,d2,l,ks,i,ts',al,p0,p1,p2,p3,p4,q0,q1,q2,q3,q4⟩|⟨dp,v0,v1,v2,v3,v4,v5,v6,v7,v8,v9,d0,d1,d2,l,ks,i,ts',al,p0,p1,p2,p3,p4,q0,q1,q2,q3,q4⟩)
 ·rintro⟨rfl,rfl,rfl,rfl,rfl,i1,i2,rfl,rfl,i3,i4⟩ ih
  dsimp only at ih
  have ei:i<l.length→IntKind.i64.wrap (i+1)=i+1:=fun h=>aI (i+1) (by omega)
  unfold gD
  dsimp only
  rw[ed]
  refine aC (fun h0=>?_) (fun _=>aE ⟨_,_,_,_,_,_,_,_,_,rfl,rfl,rfl⟩)
  have h:=of_decide_eq_true h0
  clear h0
  refine vck ?_
  refine aD (hV _ _ _ _ _ _ _ hk.1 hk.2 (bl.eta.2 (bl.getD n6 i.toNat))) ?_
  rintro⟨w0,w1,w2,w3,w4,e,ts2,al2⟩ ⟨-,rfl⟩
  dsimp only
  refine aC (fun _=>aE ⟨_,_,_,_,_,_,_,_,_,rfl,rfl,rfl⟩) (fun _=>aC (fun h12=>?_) (fun h12=>?_))
  ·simp only[bnl] at h12
   refine vck ?_
   refine ih (.inl (dp,v0,v1,v2,v3,v4,v5,v6,v7,v8,v9,d0,d1,d2,l,ks,_,ts2,al2,p0,p1,p2,p3,p4,q0,q1,_,[],q4)) ?_ ?_
   ·simp only[ei h,List.length_append,List.length_cons,List.length_nil]
    exact⟨trivial,trivial,trivial,trivial,trivial,by omega,by omega,trivial,trivial,by omega,fun hh=>absurd h12 hh⟩
   ·simp only[ei h];omega
  ·simp only[bnl] at h12
   have hks:=hm h12
   have hq:=i4 h12
   subst hq
   refine vck ?_
   refine aD (at0 _ _ _ _ _ _ _ _ _ _ _ rfl (by simp)) ?_
   rintro⟨x0,x1,x2,x3,x4⟩ ⟨-,y1,y2⟩
   dsimp only at y1 y2 ⊢
   refine ih (.inr (dp,v0,v1,v2,v3,v4,v5,v6,v7,v8,v9,d0,d1,d2,l,ks,_,ts2,al2,p0,p1,p2,p3,p4,x0,x1,x2,x3,x4)) ?_ ?_
   ·simp only[ei h]
    simp only[List.length_nil] at y2
    exact⟨trivial,trivial,trivial,trivial,trivial,by omega,by omega,trivial,h12,y1,by omega⟩
   ·simp only[ei h];omega
 ·rintro⟨rfl,rfl,rfl,rfl,rfl,i1,i2,rfl,i3,i4,i5⟩ ih
  dsimp only at ih
  have ei:i<l.length→IntKind.i64.wrap (i+1)=i+1:=fun h=>aI (i+1) (by omega)
  have hks:=hm i3
  unfold gD
  dsimp only
  rw[ed]
  refine aC (fun h0=>?_) (fun _=>aE ⟨_,_,_,_,_,_,_,_,_,rfl,rfl,rfl⟩)
  have h:=of_decide_eq_true h0
  clear h0
  refine vck ?_
  refine aD (hV _ _ _ _ _ _ _ hk.1 hk.2 (bl.eta.2 (bl.getD n6 i.toNat))) ?_
  rintro⟨w0,w1,w2,w3,w4,e,ts2,al2⟩ ⟨-,rfl⟩
  dsimp only
  refine aC (fun _=>aE ⟨_,_,_,_,_,_,_,_,_,rfl,rfl,rfl⟩) (fun _=>aC (fun h12=>?_) (fun h12=>?_))
  ·simp only[bnl] at h12
   exact absurd h12 i3
  ·refine vck ?_
   refine aD (at0 _ _ _ _ _ _ _ _ _ _ _ i4 (by omega)) ?_
   rintro⟨x0,x1,x2,x3,x4⟩ ⟨-,y1,y2⟩
   dsimp only at y1 y2 ⊢
   refine ih (.inr (dp,v0,v1,v2,v3,v4,v5,v6,v7,v8,v9,d0,d1,d2,l,ks,_,ts2,al2,p0,p1,p2,p3,p4,x0,x1,x2,x3,x4)) ?_ ?_
   ·simp only[ei h]
    exact⟨trivial,trivial,trivial,trivial,trivial,by omega,by omega,trivial,i3,y1,by omega⟩
   ·simp only[ei h];omega
theorem atL(ts:List aA)(deep:Int)(hd:1≤deep∧deep≤20)(hV:aj7 ts (deep+1))(all k0:Int)(k1:List UInt8)(k2:List (List UInt8))(k3:Int)(k4:List (List UInt8))(k5:Bool)(k6:List UInt8)(k7:Int)(k8:List aM)(k9:List Int)
  (c0 c1:Int) (c2:List UInt8) (c3:List aB) (c4:List (List UInt8)) (hk:xE ts.length k8) (hn:bl (.mk c0 c1 c2 c3 c4)):∃r,hZ ts all k0 k1 k2 k3 k4 k5 k6 k7 k8 k9 c0 c1 c2 c3 c4 deep r:=by
 obtain⟨n1,n2,n3,n4,n5,n6⟩:=hn.kids
 obtain⟨hk1,hk2⟩:=hk
 have ed:IntKind.i64.wrap (deep+1)=deep+1:=aI (deep+1) (by omega)
 apply adq 1000
 unfold wB gE
 refine aT (fun x=>match x with
  |(dp,v0,v1,v2,v3,v4,v5,v6,v7,v8,v9,d0,d1,d2,l,ks,i,ts',al,p0,p1,p2,p3,p4,q0,q1,q2,q3,q4)=>dp=deep∧v8=k8∧bl (.mk d0 d1 d2 l ks)∧0≤i∧i≤(k8.length:Int)∧ts'=ts∧(q2.length:Int)=i)
  (fun x=>((k8.length:Int)-x.2.2.2.2.2.2.2.2.2.2.2.2.2.2.2.2.1).toNat) ?_ _ _
  ⟨rfl,rfl,hn,by simp,by simp,rfl,rfl⟩ (by simp;omega)
 rintro again ⟨dp,v0,v1,v2,v3,v4,v5,v6,v7,v8,v9,d0,d1,d2,l,ks,i,ts',al,p0,p1,p2,p3,p4,q0,q1,q2,q3,q4⟩ ⟨rfl,rfl,hn',i1,i2,rfl,i3⟩ ih
 dsimp only at ih
 have ei:i<v8.length→IntKind.i64.wrap (i+1)=i+1:=fun h=>aI (i+1) (by omega)
 obtain⟨m1,m2,m3,m4,m5,m6⟩:=hn'.kids
 unfold jA
 dsimp only
 rw[ed]
 refine aC (fun h=>?_) (fun _=>aE ⟨_,_,_,_,_,_,_,_,_,rfl,rfl,rfl⟩)
 have h:=of_decide_eq_true h
 have hl:i.toNat<v8.length:=by omega
 have hf:=hk2.1 v8[i.toNat] (List.getElem_mem hl)
 have hg:v8.getD i.toNat (aG .afield)=v8[i.toNat]:=qU (List.getElem?_eq_getElem hl)
 refine vck ?_
 refine aD (qv _ _ _ _ _ _ (by omega)) ?_
 rintro r ⟨-,hr⟩
 have hgo:=vm (k:=d0) (names:=ks) (name:=(v8.getD i.toNat (aG .afield)).name) m6
 simp only[cX] at hr
 rw[←hr] at hgo
 clear hr
 have next:∀(al2:Int)(w:aO),Tot (again (dp,v0,v1,v2,v3,v4,v5,v6,v7,v8,v9,d0,d1,d2,l,ks,IntKind.i64.wrap (i+1),ts',al2,p0,p1,p2,p3,p4,q0,q1,q2++[w],q3,q4)) _:=fun al2 w=>ih (dp,v0,v1,v2,v3,v4,v5,v6,v7,v8,v9,d0,d1,d2,l,ks,IntKind.i64.wrap (i+1),ts',al2,p0,p1,p2,p3,p4,q0,q1,q2++[w],q3,q4)
  (by
   simp only[ei h,List.length_append,List.length_cons,List.length_nil]
   exact⟨trivial,trivial,hn',by omega,by omega,trivial,by omega⟩) (by simp only[ei h];omega)
 refine aC (fun _=>aC (fun _=>aE ⟨_,_,_,_,_,_,_,_,_,rfl,rfl,rfl⟩) (fun _=>?_)) (fun _=>?_)
 ·refine aD (hV _ _ _ _ _ _ _ (by rw[hg];exact hf.1) (by rw[hg];exact hf.2.1) (by rw[hg];exact bl.eta.2 hf.2.2)) ?_
  rintro⟨w0,w1,w2,w3,w4,e,ts2,al2⟩ ⟨-,rfl⟩
  dsimp only
  refine aC (fun _=>aE ⟨_,_,_,_,_,_,_,_,_,rfl,rfl,rfl⟩) (fun _=>?_)
  refine vck ?_
  exact next _ _
 ·refine aD (hV _ _ _ _ _ _ _ (by rw[hg];exact hf.1) (by rw[hg];exact hf.2.1) hgo) ?_
  rintro⟨w0,w1,w2,w3,w4,e,ts2,al2⟩ ⟨-,rfl⟩
  dsimp only
  refine aC (fun _=>aE ⟨_,_,_,_,_,_,_,_,_,rfl,rfl,rfl⟩) (fun _=>?_)
  refine vck ?_
  exact next _ _
theorem anL(ts:List aA)(hs:dS ts)(deep:Int)(hd:1≤deep∧deep≤21)(hV:deep≤20→aj7 ts (deep+1)):aj7 ts deep:=by
 intro all t c0 c1 c2 c3 c4 ht ht2 hn
 obtain⟨n1,n2,n3,n4,n5,n6⟩:=hn.kids
 have ed:IntKind.i64.wrap (deep+1)=deep+1:=aI (deep+1) (by omega)
 apply aeB 1000
 unfold xV ik
 dsimp only
 refine aC (fun _=>aE ⟨_,_,_,_,_,_,_,_,_,rfl,rfl,rfl⟩) (fun h20=>aC (fun _=>aE ⟨_,_,_,_,_,_,_,_,_,rfl,rfl,rfl⟩) (fun _=>vck ?_))
 have h20:=of_decide_eq_false h20
 have hV:=hV (by omega)
 have hl:t.toNat<ts.length:=by omega
 have hT:=hs.2 ts[t.toNat] (List.getElem_mem hl)
 rw[qU (List.getElem?_eq_getElem hl)]
 generalize ts[t.toNat]=k at hT
 obtain⟨k0,k1,k2,k3,k4,k5,k6,k7,k8,k9⟩:=k
 dsimp only
 have three:∀(b:List UInt8)(f:Bool)(al x0:Int)(x1:List UInt8)(x2:List aO)(x3:List (List UInt8))(x4:Int),Tot (gI 1000 (b,f,ts,al,x0,x1,x2,x3,x4)) (fun z=>∃(y0:Int)(y1:List UInt8)(y2:List aO)(y3:List (List UInt8))(y4 y5:Int)(y6:List aA)(y7:Int)(rest:List aJ),z.1.dimR=.tup [.agg [.int .u64 y0,.str y1,.sl .aval (.may false) y2,.sl .str (.may false) y3,.int .i64 y4],.int .i64 y5]∧z.2=some [.sl .atype (.may false) y6,.int .i64 y7]::rest∧cZ ts all t c0 c1 c2 c3 c4 deep (y0,y1,y2,y3,y4,y5,y6,y7)):=by
  intro b f al x0 x1 x2 x3 x4
  unfold gI
  dsimp only
  repeat' (first|(with_reducible refine aC ?_ ?_<;>(intro hb;(try simp only[bnl] at hb);(try revert hb;intro _)))|with_reducible refine aH ?_ ?_|with_reducible refine aE ?_|fail)
  all_goals exact⟨_,_,_,_,_,_,_,_,_,rfl,rfl,rfl⟩
 have four:∀(al x0:Int)(x1:List UInt8)(x2:List aO)(x3:List (List UInt8))(x4:Int),Tot (aS 1000 (fg 1000) (c0,c1,c2,c3,c4,k0,k1,k2,k3,k4,k5,k6,k7,k8,k9,0,ts,al,x0,x1,x2,x3,x4)) (fun z=>∃(y0:Int)(y1:List UInt8)(y2:List aO)(y3:List (List UInt8))(y4 y5:Int)(y6:List aA)(y7:Int)(rest:List aJ),z.1.dimR=.tup [.agg [.int .u64 y0,.str y1,.sl .aval (.may false) y2,.sl .str (.may false) y3,.int .i64 y4],.int .i64 y5]∧z.2=some [.sl .atype (.may false) y6,.int .i64 y7]::rest∧cZ ts all t c0 c1 c2 c3 c4 deep (y0,y1,y2,y3,y4,y5,y6,y7)):=by
  intro al x0 x1 x2 x3 x4
  have hns:k4.length≤100:=hT.ns
  refine aT (fun x=>match x with
   |(d0,d1,d2,d3,d4,v0,v1,v2,v3,v4,v5,v6,v7,v8,v9,i,ts',al,p0,p1,p2,p3,p4)=>v4=k4∧0≤i∧i≤(k4.length:Int)∧ts'=ts)
   (fun x=>((k4.length:Int)-x.2.2.2.2.2.2.2.2.2.2.2.2.2.2.2.1).toNat) ?_ _ _ ⟨rfl,by simp,by simp,rfl⟩ (by simp;omega)
  rintro again ⟨d0,d1,d2,d3,d4,v0,v1,v2,v3,v4,v5,v6,v7,v8,v9,i,ts',al,p0,p1,p2,p3,p4⟩ ⟨rfl,i1,i2,rfl⟩ ih
  dsimp only at ih
  unfold fg
  dsimp only
  repeat' (first|(with_reducible refine aC ?_ ?_<;>(intro hb;(try simp only[bnl] at hb);(try revert hb;intro _)))|with_reducible refine aH ?_ ?_|with_reducible refine aE ?_|fail)
  all_goals first|(first|(simp only[bnl,lnl];done)|(simp only[bnl,lnl];omega))|exact⟨_,_,_,_,_,_,_,_,_,rfl,rfl,rfl⟩|skip
  have ei:IntKind.i64.wrap (i+1)=i+1:=aI (i+1) (by omega)
  refine ih (d0,d1,d2,d3,d4,v0,v1,v2,v3,v4,v5,v6,v7,v8,v9,_,ts',al,p0,p1,p2,p3,p4) ?_ ?_
  ·simp only[ei];exact⟨trivial,by omega,by omega,trivial⟩
  ·simp only[ei];omega
 have five:∀(f:Bool)(al x0:Int)(x1:List UInt8)(x2:List aO)(x3:List (List UInt8))(x4:Int),(f=true→k0=12∨c0=6)→Tot (gJ 1000 (deep,c0,c1,c2,c3,c4,k0,k1,k2,k3,k4,k5,k6,k7,k8,k9,f,ts,al,x0,x1,x2,x3,x4)) (fun z=>∃(y0:Int)(y1:List UInt8)(y2:List aO)(y3:List (List UInt8))(y4 y5:Int)(y6:List aA)(y7:Int)(rest:List aJ),z.1.dimR=.tup [.agg [.int .u64 y0,.str y1,.sl .aval (.may false) y2,.sl .str (.may false) y3,.int .i64 y4],.int .i64 y5]∧z.2=some [.sl .atype (.may false) y6,.int .i64 y7]::rest∧cZ ts all t c0 c1 c2 c3 c4 deep (y0,y1,y2,y3,y4,y5,y6,y7)):=by
  intro f al x0 x1 x2 x3 x4 hf
  unfold gJ
  dsimp only
  rw[ed]
  have un:k0=14→0<k9.length∧0≤k9.getD 0 (aG (.num .i64))∧k9.getD 0 (aG (.num .i64))<ts.length:=by
   intro h
   have hne:k9≠[]:=hT.done h
   have hpos:0<k9.length:=List.length_pos_iff.2 hne
   have:=hT.branches k9[0] (List.getElem_mem hpos)
   rw[qU (List.getElem?_eq_getElem hpos)]
   exact⟨hpos,this⟩
  repeat' (first|(with_reducible refine aC ?_ ?_<;>(intro hb;(try simp only[bnl] at hb);(try revert hb;intro _)))|with_reducible refine aH ?_ ?_|with_reducible refine aE ?_|(refine aD (avN ts deep (by omega) hV _ _ _ _ _ _ _ _ _ _ _ _ _ _ _ _ hT.items hn ?_) ?_;rotate_left;rintro⟨w0,w1,w2,w3,w4,e,ts2,al2⟩ ⟨-,rfl⟩;dsimp only)|(refine aD (atL ts deep (by omega) hV _ _ _ _ _ _ _ _ _ _ _ _ _ _ _ _ ⟨hT.nf,hT.fields,hT.fal⟩ hn) ?_;rintro⟨w0,w1,w2,w3,w4,e,ts2,al2⟩ ⟨-,rfl⟩;dsimp only)|(refine aD (hV _ _ _ _ _ _ _ (un (by assumption)).2.1 (un (by assumption)).2.2 hn) ?_;rintro⟨w0,w1,w2,w3,w4,e,ts2,al2⟩ ⟨-,rfl⟩;dsimp only)|fail)
  all_goals first|exact⟨_,_,_,_,_,_,_,_,_,rfl,rfl,rfl⟩|(have:=(un (by assumption)).1;first|(simp only[bnl,lnl];done)|(simp only[bnl,lnl];omega))|skip
  ·rename_i h
   intro h12
   rcases hf h with h'|h'
   ·exact absurd h' h12
   ·exact n5 h'
 have two:∀(f:Bool)(al x0:Int)(x1:List UInt8)(x2:List aO)(x3:List (List UInt8))(x4:Int),Tot (gK 1000 (deep,c0,c1,c2,c3,c4,k0,k1,k2,k3,k4,k5,k6,k7,k8,k9,f,ts,al,x0,x1,x2,x3,x4)) (fun z=>∃(y0:Int)(y1:List UInt8)(y2:List aO)(y3:List (List UInt8))(y4 y5:Int)(y6:List aA)(y7:Int)(rest:List aJ),z.1.dimR=.tup [.agg [.int .u64 y0,.str y1,.sl .aval (.may false) y2,.sl .str (.may false) y3,.int .i64 y4],.int .i64 y5]∧z.2=some [.sl .atype (.may false) y6,.int .i64 y7]::rest∧cZ ts all t c0 c1 c2 c3 c4 deep (y0,y1,y2,y3,y4,y5,y6,y7)):=by
  intro f al x0 x1 x2 x3 x4
  unfold gK jE
  dsimp only
  repeat' (first|(with_reducible refine aC ?_ ?_<;>(intro hb;(try simp only[bnl] at hb);(try revert hb;intro _)))|with_reducible refine aH ?_ ?_|with_reducible refine aE ?_|(refine aD (awY _ (by omega)) ?_;intro _ _)|fail)
  all_goals first|exact three _ _ _ _ _ _ _ _|exact four _ _ _ _ _ _|(refine five _ _ _ _ _ _ _ ?_)|skip
  all_goals (intro hh;first|exact .inl (by assumption)|(simp at hh;done)|(right;simp at hh;exact hh))
 have one:∀(f g:Bool)(al x0:Int)(x1:List UInt8)(x2:List aO)(x3:List (List UInt8))(x4:Int),Tot (gL 1000 (deep,c0,c1,c2,c3,c4,k0,k1,k2,k3,k4,k5,k6,k7,k8,k9,f,g,ts,al,x0,x1,x2,x3,x4)) (fun z=>∃(y0:Int)(y1:List UInt8)(y2:List aO)(y3:List (List UInt8))(y4 y5:Int)(y6:List aA)(y7:Int)(rest:List aJ),z.1.dimR=.tup [.agg [.int .u64 y0,.str y1,.sl .aval (.may false) y2,.sl .str (.may false) y3,.int .i64 y4],.int .i64 y5]∧z.2=some [.sl .atype (.may false) y6,.int .i64 y7]::rest∧cZ ts all t c0 c1 c2 c3 c4 deep (y0,y1,y2,y3,y4,y5,y6,y7)):=by
  intro f g al x0 x1 x2 x3 x4
  unfold gL jF
  dsimp only
  repeat' (first|(with_reducible refine aC ?_ ?_<;>(intro hb;(try simp only[bnl] at hb);(try revert hb;intro _)))|with_reducible refine aH ?_ ?_|with_reducible refine aE ?_|(refine aD (avw _) ?_;intro _ _)|(refine aD (auG _) ?_;intro _ _)|fail)
  all_goals first|exact two _ _ _ _ _ _ _|exact⟨_,_,_,_,_,_,_,_,_,rfl,rfl,rfl⟩
 have zero:∀(f g:Bool)(al x0:Int)(x1:List UInt8)(x2:List aO)(x3:List (List UInt8))(x4:Int),Tot (kV 1000 (deep,c0,c1,c2,c3,c4,k0,k1,k2,k3,k4,k5,k6,k7,k8,k9,f,g,ts,al,x0,x1,x2,x3,x4)) (fun z=>∃(y0:Int)(y1:List UInt8)(y2:List aO)(y3:List (List UInt8))(y4 y5:Int)(y6:List aA)(y7:Int)(rest:List aJ),z.1.dimR=.tup [.agg [.int .u64 y0,.str y1,.sl .aval (.may false) y2,.sl .str (.may false) y3,.int .i64 y4],.int .i64 y5]∧z.2=some [.sl .atype (.may false) y6,.int .i64 y7]::rest∧cZ ts all t c0 c1 c2 c3 c4 deep (y0,y1,y2,y3,y4,y5,y6,y7)):=by
  intro f g al x0 x1 x2 x3 x4
  unfold kV jG
  dsimp only
  repeat' (first|(with_reducible refine aC ?_ ?_<;>(intro hb;(try simp only[bnl] at hb);(try revert hb;intro _)))|with_reducible refine aH ?_ ?_|with_reducible refine aE ?_|fail)
  all_goals exact one _ _ _ _ _ _ _ _
 repeat' (first|(with_reducible refine aC ?_ ?_<;>(intro hb;(try simp only[bnl] at hb);(try revert hb;intro _)))|with_reducible refine aH ?_ ?_|with_reducible refine aE ?_|fail)
 all_goals first|exact zero _ _ _ _ _ _ _ _|exact⟨_,_,_,_,_,_,_,_,_,rfl,rfl,rfl⟩
theorem apF(ts:List aA)(hs:dS ts):∀(n:Nat)(deep:Int),deep+n=21→1≤deep→aj7 ts deep
 |0,deep,h,h1=>anL ts hs deep (by omega) (fun h'=>by omega)
 |n+1,deep,h,h1=>anL ts hs deep (by omega) (fun _=>apF ts hs n (deep+1) (by omega) (by omega))
theorem avO(ts:List aA)(hs:dS ts)(t c0 c1:Int)(c2:List UInt8)(c3:List aB)(c4:List (List UInt8))(ht:0≤t∧t<ts.length)(hn:bl (.mk c0 c1 c2 c3 c4)):∃r,sg ts t c0 c1 c2 c3 c4 r:=by
 apply anE 1
 unfold afG afF
 dsimp only
 refine aD (ajL _ _) ?_
 intro b _
 refine aC (fun _=>aE ⟨_,_,_,_,_,_,_,rfl,rfl⟩) (fun _=>?_)
 refine aD (apF ts hs 20 1 (by omega) (by omega) _ _ _ _ _ _ _ ht.1 ht.2 hn) ?_
 rintro r _
 repeat' (first|(with_reducible refine aC ?_ ?_<;>(intro hb;(try simp only[bnl] at hb);(try revert hb;intro _)))|with_reducible refine aH ?_ ?_|with_reducible refine aE ?_|fail)
 all_goals exact⟨_,_,_,_,_,_,_,rfl,rfl⟩
theorem avP(ts:List aA)(hs:dS ts):∃r,sf ts r:=by
 have h60:=hs.1
 apply anG 1000
 unfold afH qJ
 refine aT (fun x=>match x with|(ts',i)=>ts'=ts∧0≤i∧i≤(ts.length:Int)) (fun x=>((ts.length:Int)-x.2).toNat) ?_ _ _ ⟨rfl,by simp,by simp⟩ (by simp;omega)
 rintro again ⟨ts',i⟩ ⟨rfl,i1,i2⟩ ih
 dsimp only at i1 i2 ih
 have ei:i<ts'.length→IntKind.i64.wrap (i+1)=i+1:=fun h=>aI (i+1) (by omega)
 unfold t6 rQ
 dsimp only
 refine aC (fun h=>?_) (fun _=>aE ⟨_,_,_,_,rfl,rfl⟩)
 have h:=of_decide_eq_true h
 have hl:i.toNat<ts'.length:=by omega
 have hT:=hs.2 ts'[i.toNat] (List.getElem_mem hl)
 have hg:ts'.getD i.toNat (aG .atype)=ts'[i.toNat]:=qU (List.getElem?_eq_getElem hl)
 generalize hk:ts'[i.toNat]=k at hT hg
 have hnf:=hT.nf
 refine aT (fun x=>match x with|(ts2,i',j)=>ts2=ts'∧i'=i∧0≤j∧j≤(k.fields.length:Int)) (fun x=>((k.fields.length:Int)-x.2.2).toNat) ?_ _ _ ⟨rfl,rfl,by simp,by simp⟩ (by simp;omega)
 rintro again1 ⟨ts2,i',j⟩ ⟨rfl,rfl,j1,j2⟩ ih1
 dsimp only at j1 j2 ih1
 have ej:j<k.fields.length→IntKind.i64.wrap (j+1)=j+1:=fun h=>aI (j+1) (by omega)
 have next:j<k.fields.length→Tot (again1 (ts2,i',IntKind.i64.wrap (j+1))) _:=fun hj=>ih1 (ts2,i',IntKind.i64.wrap (j+1)) (by simp only[ej hj];exact⟨trivial,trivial,by omega,by omega⟩) (by simp only[ej hj];omega)
 unfold pi
 dsimp only
 rw[hg]
 refine vck (aC (fun hj=>?_) (fun hj=>?_))
 ·have hj:=of_decide_eq_true hj
  have hjl:j.toNat<k.fields.length:=by omega
  have hf:=hT.fields k.fields[j.toNat] (List.getElem_mem hjl)
  refine vck (vck ?_)
  rw[qU (List.getElem?_eq_getElem hjl)]
  refine aC (fun _=>next hj) (fun _=>?_)
  refine aD (avO ts2 hs _ _ _ _ _ _ ⟨hf.1,hf.2.1⟩ (bl.eta.2 hf.2.2)) ?_
  intro r _
  exact aC (fun _=>aE ⟨_,_,_,_,rfl,rfl⟩) (fun _=>next hj)
 ·exact ih (ts2,_) (by simp only[ei h];exact⟨trivial,by omega,by omega⟩) (by simp only[ei h];omega)
end Go.Proofs.Ytdpajabhmmmjoaa
end
noncomputable section
namespace Go.Proofs.Ytdpajabhmmmjoaa
open Go.AM
set_option autoImplicit false
set_option linter.unusedVariables false
set_option linter.unusedSimpArgs false
set_option maxRecDepth 100000
theorem af4{ts:List aA}(hs:dS ts):s4 ts (rkB ts):=(ace (anC ts hs)).2
theorem awv(ts:List aA)(hs:dS ts):∃l,vw ts l:=by
 apply asK 1000
 unfold ald wz
 dsimp only
 have hR:=(af4 hs).1
 have hn:=hs.1
 refine at7 (anC ts hs) (fun _=>?_)
 change Tot (aS 1000 (uQ 1000) (([]:List Bool),rkB ts,((rkB ts).length:Int),0)) _
 have hl:=hR.len
 refine aT (fun x=>match x with|(l,r,n,i)=>r=rkB ts∧n=((rkB ts).length:Int)∧0≤i∧i≤((rkB ts).length:Int)∧l=((rkB ts).take i.toNat).map fun q=>decide (0≤q))
  (fun x=>(((rkB ts).length:Int)-x.2.2.2).toNat) ?_ _ _ ⟨rfl,rfl,by simp,by simp,by simp⟩ (by simp;omega)
 rintro again ⟨l,r,n,i⟩ ⟨rfl,rfl,i1,i2,rfl⟩ ih
 dsimp only at ih
 unfold uQ
 dsimp only
 refine aC (fun h=>?_) (fun h=>?_)
 ·have h:=of_decide_eq_true h
  have ei:IntKind.i64.wrap (i+1)=i+1:=aI (i+1) (by omega)
  have eit:(i+1).toNat=i.toNat+1:=by omega
  have ht:=aaT (rkB ts) i.toNat 0 (by omega)
  refine vck (aH (decide_eq_true (by simp only[List.length_map,List.length_take,List.length_singleton];omega)) ?_)
  refine ih (_,rkB ts,_,_) ?_ (by simp only[ei];omega)
  simp only[ei]
  rw[eit,ht,List.map_append]
  exact⟨trivial,trivial,by omega,by omega,rfl⟩
 ·have h:=of_decide_eq_false h
  refine aE ⟨_,_,rfl,rfl,?_⟩
  rw[List.take_of_length_le (by omega)]
  rfl
end Go.Proofs.Ytdpajabhmmmjoaa
end
noncomputable section
namespace Go.Proofs.Ytdpajabhmmmjoaa
open Go.AM
set_option autoImplicit false
set_option linter.unusedSimpArgs false
set_option linter.unusedVariables false
set_option maxRecDepth 100000
section
variable{ts:List aA}(hs:dS ts)
include hs
theorem apd:∀(n i:Nat),i<ts.length→0≤(rkB ts).getD i 0→(rkB ts).getD i 0<n→0≤(rkS ts).getD i 0
 |0,_,_,h0,h=>by omega
 |n+1,i,hi,h0,h=>by
  have hB:=(af4 hs).1
  have hS:=awu ts hs
  have ht:=hs.at hi
  have hk:=hB.ok i (by have:=hB.len;omega) h0
  rcases Int.lt_or_le ((rkS ts).getD i 0) 0 with e|e
  ·exfalso
   have hst:=hS i hi e
   by_cases h14:(ts.getD i (aG .atype)).kind=14
   ·obtain⟨b,hb,h1,h2⟩:=hk.uni h14
    have:=ht.branches b hb
    have h3:=apd n b.toNat (by omega) h1 (by have h2:(rkB ts).getD b.toNat 0<_:=h2;omega)
    have h4:(rkS ts).getD b.toNat 0<0:=hst.1 h14 b hb
    omega
   ·obtain⟨f,hf,h4⟩:=hst.2 h14
    by_cases h9:(ts.getD i (aG .atype)).kind=9
    ·obtain⟨h1,h2⟩:=hk.rcd h9 f hf
     have:=ht.fields f hf
     have h3:=apd n f.typ.toNat (by omega) h1 (by have h2:(rkB ts).getD f.typ.toNat 0<_:=h2;omega)
     have h4:(rkS ts).getD f.typ.toNat 0<0:=h4
     omega
    ·rw[ht.only h9] at hf;cases hf
  ·exact e
theorem aj8:∀(n i:Nat),i<ts.length→0≤(rkS ts).getD i 0→(rkS ts).getD i 0<n→0≤(rkB ts).getD i 0
 |0,_,_,h0,h=>by omega
 |n+1,i,hi,h0,h=>by
  obtain⟨hB,hF⟩:=af4 hs
  have hS:=anD ts hs
  have ht:=hs.at hi
  have hl:=hS.len
  rcases Int.lt_or_le ((rkB ts).getD i 0) 0 with e|e
  ·exfalso
   have hst:=hF i hi e
   have hp:1≤(rkS ts).getD i 0:=by
    rcases Int.lt_or_le 0 ((rkS ts).getD i 0) with h1|h1
    ·omega
    ·have h2:=hS.nul i (by omega) (by omega)
     rcases hst.kind with h3|h3
     ·exact absurd h3 h2.1
     ·exact absurd h3 h2.2
   have hk:=hS.ok i (by omega) hp
   rcases hst with⟨h9,f,hf,h4⟩|⟨h14,h4⟩
   ·obtain⟨h1,h2⟩:=hk.rcd (by omega) f hf
    have:=ht.fields f hf
    have h3:=aj8 n f.typ.toNat (by omega) h1 (by have h2:(rkS ts).getD f.typ.toNat 0<_:=h2;omega)
    have h4:(rkB ts).getD f.typ.toNat 0<0:=h4
    omega
   ·obtain⟨b,hb,h1,h2⟩:=hk.uni h14
    have:=ht.branches b hb
    have h3:=aj8 n b.toNat (by omega) h1 (by have h2:(rkS ts).getD b.toNat 0<_:=h2;omega)
    have h4:(rkB ts).getD b.toNat 0<0:=h4 b hb
    omega
  ·exact e
theorem amj:(zX ts).length=ts.length:=by rw[zX,List.length_map];exact(af4 hs).1.len
theorem asT:(aeo ts).length=ts.length:=by rw[aeo,List.length_map];exact(anD ts hs).len
theorem aww:zX ts=aeo ts:=by
 have l1:=amj hs
 have l2:=asT hs
 have l3:=(af4 hs).1.len
 have l4:=(anD ts hs).len
 apply List.ext_getElem (by omega)
 intro i h1 h2
 have hi:i<ts.length:=by omega
 simp only[zX,aeo,List.getElem_map]
 have e1:(rkB ts).getD i 0=(rkB ts)[i]:=by simp[List.getD,l3,hi]
 have e2:(rkS ts).getD i 0=(rkS ts)[i]:=by simp[List.getD,l4,hi]
 have up:=apd hs ((rkB ts).getD i 0+1).toNat i hi
 have down:=aj8 hs ((rkS ts).getD i 0+1).toNat i hi
 rw[e1,e2] at up down
 rw[Bool.eq_iff_iff,decide_eq_true_iff,decide_eq_true_iff]
 exact⟨fun h=>up h (by omega),fun h=>down h (by omega)⟩
theorem avQ:∃l,qj ts l:=by
 have hl:=(anD ts hs).len
 have hn:=hs.1
 apply aou (ts.length+1)
 unfold ahB sB
 refine at7 (ajU ts hs) (fun _=>?_)
 change Tot (aS (ts.length+1) (qt (ts.length+1)) (rkS ts,[],0)) _
 have hpost:∀l:List Bool,l=(rkS ts).map (fun q=>decide (0≤q))→yF ts l:=fun _ h=>h
 generalize rkS ts=r at hl hpost ⊢
 refine aT (fun x=>x.1=r∧0≤x.2.2∧x.2.2≤(r.length:Int)∧x.2.1=(r.take x.2.2.toNat).map (fun q=>decide (0≤q))) (fun x=>(r.length-x.2.2:Int).toNat) ?_ _ _ ⟨rfl,by simp,by simp,rfl⟩ (by simp only;omega)
 rintro again ⟨r',l,i⟩ ⟨rfl,i1,i2,i3⟩ ih
 dsimp only at i1 i2 i3 ih hl
 subst i3
 unfold qt
 dsimp only
 refine aC (fun h=>?_) (fun h=>aE ⟨_,_,rfl,rfl,hpost _ ?_⟩)
 ·have h:=of_decide_eq_true h
  rw[aI (i+1) (by omega)]
  refine aH (ixt (by omega)) (aH (by simp;omega) (ih _ ⟨rfl,by simp only;omega,by simp only;omega,?_⟩ (by simp only;omega)))
  simp only
  rw[show (i+1).toNat=i.toNat+1 by omega,aaT r' i.toNat 0 (by omega),List.map_append]
  rfl
 ·have h:=of_decide_eq_false h
  rw[List.take_of_length_le (by omega)]
theorem asU(r:List aA)(hr:dS r)(t q:Int):∃x,eX ts r t q x:=auT hs hr t q (awv ts hs) (amj hs)
theorem axF(r:List aA)(hr:dS r)(t q:Int):∃x,gY ts r t q x:=auS hs hr t q (avQ hs) (asT hs)
end
end Go.Proofs.Ytdpajabhmmmjoaa
end
noncomputable section
namespace Go.Proofs.Ytdpajabhmmmjoaa
open Go.AM
set_option autoImplicit false
set_option linter.unusedVariables false
set_option maxRecDepth 100000
noncomputable def u0:aL:=tab (P:=Try.prog) [] [kq] [] [sM,acs]
def yb:IR:=Sq (Rs [Mv 10 6,Fa 11 4 3,Lo 12 11,Ll 13 12,Bi 14 .lss 10 13] (Cn 14 .skip (.exit 0))) (Sq (.block 1 (Rs [Fa 17 4 3,Lo 18 17,Mv 19 6,Ix 20 .str 18 19,Lq 21 20,Pp (.bin 22 .eql 21 (kS [102,105,101,108,100,115]))] (Cn 22 (Rg [Mv 23 6,Mv 5 23]) .skip))) (Rg [Mv 15 6,Bc 16 .add 15 1,Mv 6 16]))
def wM:IR:=Rs [Pp (.blu 24 .jnode),Fa 25 3 3,Lo 26 25,Mv 27 5,Ix 28 .jnode 26 27,Fa 29 3 28,Lo 30 29,Pp (.apu 31 .jnode (.tk 24) 30),Pp (.mov 7 (.tk 31))] (Sq (Rs [Mv 32 0,Ca 33 60 [32,kI 5]] (.block 2 (Rs [Bc 35 .eql 33 0,Mv 34 35] (Cn 34 (Rs [Pp (.bsl 36 .str [kS [110,97,109,101],kS [116,121,112,101],kS [100,101,102,97,117,108,116]] true),Ca 37 86 [kS [102,114,101,115,104]],Ca 38 86 [kS [108,111,110,103]],Pp (.bld 39 [vI 0,vI 0,vS,fu .jnode true,fu .str true] [(0,1,kI 3),(1,1,kI 5)]),Pp (.bsl 40 .jnode [37,38,39] true),Ca 41 118 [36,40],Pp (.new 8 [vI 0,vI 0,vS,nl .jnode,nl .str]),Sv 5 8 41] (Sq (Rs [Mv 42 0,Ca 43 60 [42,kI 4],Bc 44 .eql 43 0] (Cn 44 (Rg [Pp (.bsl 45 .str [kS [110,97,109,101],kS [116,121,112,101]] true),Ca 46 86 [kS [102,114,101,115,104]],Ca 47 86 [kS [108,111,110,103]],Pp (.bsl 48 .jnode [46,47] true),Ca 49 118 [45,48],Sv 5 8 49]) .skip)) (Rg [Pp (.mov 50 (.tk 7)),Pp (.ld 51 5 true false 8),Pp (.bsl 52 .jnode [51] true),Pp (.apu 53 .jnode (.tk 50) 52),Pp (.mov 7 (.tk 53))]))) (Rs [Bc 55 .eql 33 1,Mv 54 55] (Cn 54 (Rs [Mv 56 7,Pp (.lnw 57 56),Bc 58 .gtr 57 0] (Cn 58 (Rs [Mv 59 0,Mv 60 7,Pp (.lnw 61 60),Ca 62 60 [59,61],Mv 9 62] (.gh (.opn (.slot 7)) (.ghp (.cls (.slot 7)) (.reg [Mv 63 7,Mv 64 9,Pp (.slw 65 .jnode (.t 63) none (some (.t 64))),Mv 66 7,Mv 67 9,Bc 68 .add 67 1,Pp (.slw 69 .jnode (.t 66) (some (.t 68)) none),Pp (.apx 70 .jnode (.t 65) (.t 69)),Pp (.mov 7 (.tk 70))] [[],[],[0,1],[],[],[4],[3,4,5],rg 0 6,rg 0 7])))) .skip)) (Rs [Bc 72 .eql 33 2,Mv 71 72] (Cn 71 (Rs [Mv 73 7,Pp (.lnw 74 73),Bc 75 .gtr 74 1] (Cn 75 (.gh (.opn (.slot 7)) (.ghp (.cls (.slot 7)) (.reg [Mv 76 7,Mv 77 7,Mv 78 7,Pp (.ixw 79 .jnode 78 (kI 1)),Fo [3] [] (.ldw 80 5 true 79),Mv 81 7,Pp (.ixw 82 .jnode 81 (kI 0)),Fo [3] [] (.ldw 83 5 true 82),Pp (.ixw 84 .jnode 76 (kI 0)),Fo [] [3] (.stw none 5 84 80),Pp (.ixw 85 .jnode 77 (kI 1)),Fo [] [3] (.stw none 5 85 83)] [[],[],[],[2],[2,3],[],[5],[5,6],[0]++rg 2 7,[0]++rg 2 8,rg 0 9,rg 0 10]))) .skip)) .skip)))))))) (Rs [Pp (.blu 86 .jnode),Fa 87 3 3,Lo 88 87,Pp (.apu 89 .jnode (.tk 86) 88),Fa 90 3 3,Sk 1 90 89] (Sq (.gh (.fz (.slot 7)) (.gh (.opn (.cell 1 3)) (.ghp (.cls (.cell 1 3)) (Rg [Fa 91 3 3,Lo 92 91,Mv 93 5,Mv 94 7,Pp (.bld 95 [vI 0,vI 0,vS,nl .jnode,nl .str] [(0,1,kI 5),(3,1,94)]),Pp (.ixw 96 .jnode 92 93),Pp (.stw none 5 96 95)])))) (Sq (.gh (.fz (.cell 1 3)) (Rg [Pp (.ld 97 5 true false 3),Sv 5 4 97])) .ret))))
def aiy:IR:=Rs [Pp (.box 3 1),Pp (.new 4 [vI 0,vI 0,vS,nl .jnode,nl .str])] (Rs [Mi 5 0] (Sq (Rs [Mi 6 0] (.block 0 (.loop [0,3,4,5,6,1000000] 3 yb))) wM))
def zO:List RV:=[.cell 4 5 true]
theorem aiz:FnC Try.prog u0 [60,2000060] 1 aaJ Try.f88 aiy zO:=fnC Try.func88
def ag8(R:IR→(Ex→St→Ro)→St→Ro)(again0:St→Ro):Ex→St→Ro:=(bk again0 [0,3,4,5,6,1000000] 3 (aP 0 (bj (R wM) (fin zO))))
abbrev nt:Type:=(Int×Int×Bs×Int×Int×Int×Bs×List aB×Bss×Int×Int×Bs×List aB×Bss)
def mh(x:nt):St:={env:=(.ptr 0 0::.undef::.undef::.ptr 1 0::.ptr 2 0::.int .i64 x.1::.int .i64 x.2.1::(U 91 [])),hp:=[some [.sl .u8 (.may false) x.2.2.1,.int .i64 x.2.2.2.1],some [.int .i64 x.2.2.2.2.1,.int .i64 x.2.2.2.2.2.1,.str x.2.2.2.2.2.2.1,.sl .jnode (.may false) x.2.2.2.2.2.2.2.1,.sl .str (.may false) x.2.2.2.2.2.2.2.2.1],some [.int .i64 x.2.2.2.2.2.2.2.2.2.1,.int .i64 x.2.2.2.2.2.2.2.2.2.2.1,.str x.2.2.2.2.2.2.2.2.2.2.2.1,.sl .jnode .own x.2.2.2.2.2.2.2.2.2.2.2.2.1,.sl .str .own x.2.2.2.2.2.2.2.2.2.2.2.2.2]]}
def sa(N:Nat):(St→Ro)→St→Ro:=fun again0 s=>run u0 N yb (ag8 (run u0 N) again0) s
def nu(N:Nat)(again0:nt→Ro)(x:nt):Ro:=
 let v5:Int:=x.1
 let v6:Int:=x.2.1
 let o0_0:Bs:=x.2.2.1
 let o0_1:Int:=x.2.2.2.1
 let o1_0:Int:=x.2.2.2.2.1
 let o1_1:Int:=x.2.2.2.2.2.1
 let o1_2:Bs:=x.2.2.2.2.2.2.1
 let o1_3:List aB:=x.2.2.2.2.2.2.2.1
 let o1_4:Bss:=x.2.2.2.2.2.2.2.2.1
 let o2_0:Int:=x.2.2.2.2.2.2.2.2.2.1
 let o2_1:Int:=x.2.2.2.2.2.2.2.2.2.2.1
 let o2_2:Bs:=x.2.2.2.2.2.2.2.2.2.2.2.1
 let o2_3:List aB:=x.2.2.2.2.2.2.2.2.2.2.2.2.1
 let o2_4:Bss:=x.2.2.2.2.2.2.2.2.2.2.2.2.2
 let x1:=(↑(List.length o1_4):Int)
 let z0:=fun g0 g1=>again0 (g0,g1,o0_0,o0_1,o1_0,o1_1,o1_2,o1_3,o1_4,o2_0,o2_1,o2_2,o2_3,o2_4)
 let z1:=fun g0 g1 g2 g3 g4 g5 g6 g7 g8 g9=>(some (.agg [.int .i64 o1_0,.int .i64 o1_1,.str o1_2,.sl .jnode (.may false) g0,.sl .str (.may false) o1_4],[some [.sl .u8 (.may false) g1,.int .i64 g2],some [.int .i64 o1_0,.int .i64 o1_1,.str o1_2,.sl .jnode .own g0,.sl .str (.may false) o1_4],some [.int .i64 o1_0,.int .i64 o1_1,.str o1_2,.sl .jnode (.may false) g0,.sl .str (.may false) o1_4],some [.int .i64 g3,.int .i64 g4,.str g5,.sl .jnode (.may g6) g7,.sl .str (.may g8) g9],none,none]):Ro)
 let z2:=fun g0 g1=>(some (.agg [.int .i64 o1_0,.int .i64 o1_1,.str o1_2,.sl .jnode (.may false) g0,.sl .str (.may false) o1_4],g1):Ro)
 cond (decide (v6<x1)) (
  chk (ixl v6 o1_4) (
   let x2:=List.getD o1_4 (Int.toNat v6) (aG .str)
   let x3:=decide (x2=([102,105,101,108,100,115]:Bs))
   cond x3 (
    let x4:=(IntKind.wrap .i64 (v6+1))
    z0 v6 x4) (
    let x5:=(IntKind.wrap .i64 (v6+1))
    z0 v5 x5))) (
  chk (ixl v5 o1_3) (
   let x6:=(List.getD o1_3 (Int.toNat v5) (aG .jnode))
   chk (decide ((List.length ([]:List aB)+List.length x6.l)*80≤140737488355328)) (
    let x7:=(([]:List aB)++x6.l)
    aF (bc o0_0 o0_1 5) (fun r1=>
     cond (r1.1==0) (
      aF (bh ([102,114,101,115,104]:Bs)) (fun r2=>
       aF (bh ([108,111,110,103]:Bs)) (fun r3=>
        aF (d8 true ([([110,97,109,101]:Bs),([116,121,112,101]:Bs),([100,101,102,97,117,108,116]:Bs)]:Bss) true ([⟨r2.1,r2.2.1,r2.2.2.1,r2.2.2.2.1,r2.2.2.2.2⟩,⟨r3.1,r3.2.1,r3.2.2.1,r3.2.2.2.1,r3.2.2.2.2⟩,⟨3,5,([]:Bs),([]:List aB),([]:Bss)⟩]:List aB)) (fun r4=>
         aF (bc r1.2.1 r1.2.2 4) (fun r5=>
          cond (r5.1==0) (
           aF (bh ([102,114,101,115,104]:Bs)) (fun r6=>
            aF (bh ([108,111,110,103]:Bs)) (fun r7=>
             aF (d8 true ([([110,97,109,101]:Bs),([116,121,112,101]:Bs)]:Bss) true ([⟨r6.1,r6.2.1,r6.2.2.1,r6.2.2.2.1,r6.2.2.2.2⟩,⟨r7.1,r7.2.1,r7.2.2.1,r7.2.2.2.1,r7.2.2.2.2⟩]:List aB)) (fun r8=>
              chk (decide ((List.length x7+List.length ([⟨r8.1,r8.2.1,r8.2.2.1,r8.2.2.2.2.1,r8.2.2.2.2.2.2⟩]:List aB))*80≤140737488355328)) (
               let x8:=(x7++([⟨r8.1,r8.2.1,r8.2.2.1,r8.2.2.2.2.1,r8.2.2.2.2.2.2⟩]:List aB))
               chk (decide ((List.length ([]:List aB)+List.length o1_3)*80≤140737488355328)) (
                let x9:=(([]:List aB)++o1_3)
                chk (decide (0<List.length x9)) (
                 chk ((decide (0≤v5)&&decide (v5<↑(List.length x9)))) (
                  chk (decide ((Int.toNat v5)<List.length x9)) (
                   let x10:=(List.set x9 (Int.toNat v5) ⟨5,0,([]:Bs),x8,([]:Bss)⟩)
                   chk (Nat.beq (List.length x9) (List.length x10)) (
                    z1 x10 r5.2.1 r5.2.2 r8.1 r8.2.1 r8.2.2.1 r8.2.2.2.1 r8.2.2.2.2.1 r8.2.2.2.2.2.1 r8.2.2.2.2.2.2)))))))))) (
           chk (decide ((List.length x7+List.length ([⟨r4.1,r4.2.1,r4.2.2.1,r4.2.2.2.2.1,r4.2.2.2.2.2.2⟩]:List aB))*80≤140737488355328)) (
            let x11:=(x7++([⟨r4.1,r4.2.1,r4.2.2.1,r4.2.2.2.2.1,r4.2.2.2.2.2.2⟩]:List aB))
            chk (decide ((List.length ([]:List aB)+List.length o1_3)*80≤140737488355328)) (
             let x12:=(([]:List aB)++o1_3)
             chk (decide (0<List.length x12)) (
              chk ((decide (0≤v5)&&decide (v5<↑(List.length x12)))) (
               chk (decide ((Int.toNat v5)<List.length x12)) (
                let x13:=(List.set x12 (Int.toNat v5) ⟨5,0,([]:Bs),x11,([]:Bss)⟩)
                chk (Nat.beq (List.length x12) (List.length x13)) (
                 z1 x13 r5.2.1 r5.2.2 r4.1 r4.2.1 r4.2.2.1 r4.2.2.2.1 r4.2.2.2.2.1 r4.2.2.2.2.2.1 r4.2.2.2.2.2.2)))))))))))) (
      cond (r1.1==1) (
       let x14:=(↑(List.length x7):Int)
       cond (decide (0<x14)) (
        let x15:=(↑(List.length x7):Int)
        aF (bc r1.2.1 r1.2.2 x15) (fun r9=>
         chk (decide (0<List.length x7)) (
          chk ((decide (0≤r9.1)&&decide (r9.1≤(↑(List.length x7):Int)))) (
           let x16:=(IntKind.wrap .i64 (r9.1+1))
           chk ((decide (0≤x16)&&decide (x16≤(↑(List.length x7):Int)))) (
            chk ((decide ((Int.toNat r9.1)≤(Int.toNat x16))&&decide ((Int.toNat x16)+((List.length x7)-(Int.toNat x16))≤List.length x7))) (
             let x17:=((Int.toNat r9.1)+((List.length x7)-(Int.toNat x16)))
             let x18:=((List.take (Int.toNat r9.1) x7)++(List.take ((List.length x7)-(Int.toNat x16)) (List.drop (Int.toNat x16) x7)))
             chk (Nat.beq x17 (List.length x18)) (
              chk (decide ((List.length ([]:List aB)+List.length o1_3)*80≤140737488355328)) (
               let x19:=(([]:List aB)++o1_3)
               chk (decide (0<List.length x19)) (
                chk ((decide (0≤v5)&&decide (v5<↑(List.length x19)))) (
                 chk (decide ((Int.toNat v5)<List.length x19)) (
                  let x20:=(List.set x19 (Int.toNat v5) ⟨5,0,([]:Bs),x18,([]:Bss)⟩)
                  chk (Nat.beq (List.length x19) (List.length x20)) (
                   z2 x20 [some [.sl .u8 (.may false) r9.2.1,.int .i64 r9.2.2],some [.int .i64 o1_0,.int .i64 o1_1,.str o1_2,.sl .jnode .own x20,.sl .str (.may false) o1_4],some [.int .i64 o1_0,.int .i64 o1_1,.str o1_2,.sl .jnode (.may false) x20,.sl .str (.may false) o1_4],none,none,none,none])))))))))))) (
        chk (decide ((List.length ([]:List aB)+List.length o1_3)*80≤140737488355328)) (
         let x21:=(([]:List aB)++o1_3)
         chk (decide (0<List.length x21)) (
          chk ((decide (0≤v5)&&decide (v5<↑(List.length x21)))) (
           chk (decide ((Int.toNat v5)<List.length x21)) (
            let x22:=(List.set x21 (Int.toNat v5) ⟨5,0,([]:Bs),x7,([]:Bss)⟩)
            chk (Nat.beq (List.length x21) (List.length x22)) (
             z2 x22 [some [.sl .u8 (.may false) r1.2.1,.int .i64 r1.2.2],some [.int .i64 o1_0,.int .i64 o1_1,.str o1_2,.sl .jnode .own x22,.sl .str (.may false) o1_4],some [.int .i64 o1_0,.int .i64 o1_1,.str o1_2,.sl .jnode (.may false) x22,.sl .str (.may false) o1_4],none,none]))))))) (
       cond (r1.1==2) (
        let x23:=(↑(List.length x7):Int)
        cond (decide (1<x23)) (
         chk (decide (0<List.length x7)) (
          chk (decide ((1:Int)<↑(List.length x7))) (
           chk (decide ((Int.toNat 1)<List.length x7)) (
            let x24:=(List.getD x7 (Int.toNat 1) (aG .jnode))
            chk (decide ((0:Int)<↑(List.length x7))) (
             chk (decide ((Int.toNat 0)<List.length x7)) (
              let x25:=(List.getD x7 (Int.toNat 0) (aG .jnode))
              chk (decide ((0:Int)<↑(List.length x7))) (
               chk (decide ((Int.toNat 0)<List.length x7)) (
                let x26:=(List.set x7 (Int.toNat 0) (reJ x24))
                chk (decide ((1:Int)<↑(List.length x7))) (
                 chk (decide ((Int.toNat 1)<List.length x26)) (
                  let x27:=(List.set x26 (Int.toNat 1) (reJ x25))
                  chk (Nat.beq (List.length x7) (List.length x27)) (
                   chk (decide ((List.length ([]:List aB)+List.length o1_3)*80≤140737488355328)) (
                    let x28:=(([]:List aB)++o1_3)
                    chk (decide (0<List.length x28)) (
                     chk ((decide (0≤v5)&&decide (v5<↑(List.length x28)))) (
                      chk (decide ((Int.toNat v5)<List.length x28)) (
                       let x29:=(List.set x28 (Int.toNat v5) ⟨5,0,([]:Bs),x27,([]:Bss)⟩)
                       chk (Nat.beq (List.length x28) (List.length x29)) (
                        z2 x29 [some [.sl .u8 (.may false) r1.2.1,.int .i64 r1.2.2],some [.int .i64 o1_0,.int .i64 o1_1,.str o1_2,.sl .jnode .own x29,.sl .str (.may false) o1_4],some [.int .i64 o1_0,.int .i64 o1_1,.str o1_2,.sl .jnode (.may false) x29,.sl .str (.may false) o1_4],none,none,none,none])))))))))))))))) (
         chk (decide ((List.length ([]:List aB)+List.length o1_3)*80≤140737488355328)) (
          let x30:=(([]:List aB)++o1_3)
          chk (decide (0<List.length x30)) (
           chk ((decide (0≤v5)&&decide (v5<↑(List.length x30)))) (
            chk (decide ((Int.toNat v5)<List.length x30)) (
             let x31:=(List.set x30 (Int.toNat v5) ⟨5,0,([]:Bs),x7,([]:Bss)⟩)
             chk (Nat.beq (List.length x30) (List.length x31)) (
              z2 x31 [some [.sl .u8 (.may false) r1.2.1,.int .i64 r1.2.2],some [.int .i64 o1_0,.int .i64 o1_1,.str o1_2,.sl .jnode .own x31,.sl .str (.may false) o1_4],some [.int .i64 o1_0,.int .i64 o1_1,.str o1_2,.sl .jnode (.may false) x31,.sl .str (.may false) o1_4],none,none]))))))) (
        chk (decide ((List.length ([]:List aB)+List.length o1_3)*80≤140737488355328)) (
         let x32:=(([]:List aB)++o1_3)
         chk (decide (0<List.length x32)) (
          chk ((decide (0≤v5)&&decide (v5<↑(List.length x32)))) (
           chk (decide ((Int.toNat v5)<List.length x32)) (
            let x33:=(List.set x32 (Int.toNat v5) ⟨5,0,([]:Bs),x7,([]:Bss)⟩)
            chk (Nat.beq (List.length x32) (List.length x33)) (
             z2 x33 [some [.sl .u8 (.may false) r1.2.1,.int .i64 r1.2.2],some [.int .i64 o1_0,.int .i64 o1_1,.str o1_2,.sl .jnode .own x33,.sl .str (.may false) o1_4],some [.int .i64 o1_0,.int .i64 o1_1,.str o1_2,.sl .jnode (.may false) x33,.sl .str (.may false) o1_4],none,none]))))))))))))
theorem af5(N:Nat):LB (sa N) mh (nu N):=fun _ _=>by kernel_rfl
def kj(N:Nat)(o0_0:Bs)(o0_1:Int)(p1:aB)(q0:nt→Ro):Ro:=
 q0 (0,0,o0_0,o0_1,p1.kind,p1.n,p1.s,p1.l,p1.names,0,0,([]:Bs),([]:List aB),([]:Bss))
def zP(N:Nat)(o0_0:Bs)(o0_1:Int)(p1:aB):Ro:=kj N o0_0 o0_1 p1 (fun z=>aS N (nu N) z)
theorem ag9(N:Nat)(o0_0:Bs)(o0_1:Int)(p1:aB)(h:Tot (zP N o0_0 o0_1 p1) (fun z=>∃(y0:aB)(y1:Bs)(y2:Int)(rest:List aJ),z.1.dimR=.agg (enc .jnode y0)∧z.2=some [.sl .u8 (.may false) y1,.int .i64 y2]::rest∧qh o0_0 o0_1 p1 (y0,y1,y2))):∃r,lA o0_0 o0_1 p1 r:=FnC.finO (css:=[[.sl .u8 (.may false) o0_0,.int .i64 o0_1]]) aiz (N:=N) ((bu _ (by kernel_rfl) rfl (fun C=>kj N o0_0 o0_1 p1 (fun z=>C 1000000 (mh z))) (fun C=>by kernel_rfl)).trans (Eq.trans (b:=kj N o0_0 o0_1 p1 (fun z=>aW N (sa N) (mh z))) (by kernel_rfl) (congrArg (kj N o0_0 o0_1 p1) (funext fun z=>aV (mh) (sa N) (nu N) (af5 N) N z)))) h fun _ ⟨y0,y1,y2,_,e,f,q⟩=>⟨(y0,y1,y2),e,⟨_,f⟩,q⟩
noncomputable def u4:aL:=tab (P:=Try.prog) [] [kq,aaK,ajk] [] [sM,amG]
def wN:IR:=Sq (Rs [Mv 54 6,Fa 55 3 3,Lq 56 55,Ll 57 56,Bi 58 .lss 54 57] (Cn 58 .skip (.exit 1))) (Sq (.block 2 (Rs [Fa 61 0 3,Lq 62 61,Bc 63 .eql 62 6,Mv 64 63,Gt 64 (.fad 65 4 3),Gt 64 (.lde 66 1 false 65),Gt 64 (.mov 67 6),Gt 64 (.ixa 68 .str 66 67),Gt 64 (.lde 69 1 false 68),Gt 64 (.bin 70 .eql 69 (kS [110,97,109,101])),Gt 64 (.mov 71 70),Gf 71 (.fad 72 4 3),Gf 71 (.lde 73 1 false 72),Gf 71 (.mov 74 6),Gf 71 (.ixa 75 .str 73 74),Gf 71 (.lde 76 1 false 75),Gf 71 (.bin 77 .eql 76 (kS [110,97,109,101,115,112,97,99,101])),Gt 64 (.pick 78 71 (kB true) 77),Gt 64 (.mov 79 78),Gf 79 (.fad 80 4 3),Gf 79 (.lde 81 1 false 80),Gf 79 (.mov 82 6),Gf 79 (.ixa 83 .str 81 82),Gf 79 (.lde 84 1 false 83),Gf 79 (.bin 85 .eql 84 (kS [116,121,112,101])),Gf 79 (.mov 86 85),Gt 86 (.fad 87 3 3),Gt 86 (.lde 88 1 false 87),Gt 86 (.mov 89 6),Gt 86 (.ixa 90 .jnode 88 89),Gt 86 (.fad 91 0 90),Gt 86 (.ld 92 1 false false 91),Gt 86 (.bin 93 .eql 92 (kI 4)),Gf 79 (.pick 94 86 93 (kB false)),Gf 79 (.mov 95 94),Gt 95 (.fad 96 3 3),Gt 95 (.lde 97 1 false 96),Gt 95 (.lenl 98 97),Gt 95 (.bin 99 .gtr 98 (kI 2)),Gf 79 (.pick 100 95 99 (kB false)),Gt 64 (.pick 101 79 (kB true) 100),Gt 64 (.mov 102 101),Gf 102 (.fad 103 4 3),Gf 102 (.lde 104 1 false 103),Gf 102 (.mov 105 6),Gf 102 (.ixa 106 .str 104 105),Gf 102 (.lde 107 1 false 106),Gf 102 (.bin 108 .eql 107 (kS [115,121,109,98,111,108,115])),Gt 64 (.pick 109 102 (kB true) 108),Gt 64 (.mov 110 109),Gf 110 (.fad 111 4 3),Gf 110 (.lde 112 1 false 111),Gf 110 (.mov 113 6),Gf 110 (.ixa 114 .str 112 113),Gf 110 (.lde 115 1 false 114),Gf 110 (.bin 116 .eql 115 (kS [100,101,102,97,117,108,116])),Gt 64 (.pick 117 110 (kB true) 116),Gt 64 (.mov 118 117),Gf 118 (.fad 119 4 3),Gf 118 (.lde 120 1 false 119),Gf 118 (.mov 121 6),Gf 118 (.ixa 122 .str 120 121),Gf 118 (.lde 123 1 false 122),Gf 118 (.bin 124 .eql 123 (kS [115,105,122,101])),Gt 64 (.pick 125 118 (kB true) 124),Pa 126 64 125,Mv 7 126] (Rs [Mv 127 7] (Cn 127 (.reg [Fa 128 3 5,Fo [] [2] (.ld 129 1 false true 128),Fa 130 3 3,Lq 131 130,Mv 132 6,Ix 133 .jnode 131 132,Ld 134 5 true 133,Pp (.bsl 135 .jnode [134] true),Pp (.app 136 .jnode (.tk 129) 135),Fa 137 3 5,Fo [] [2] (.st none 1 137 (.tk 136))] [[],[0],[],[2],[],[2,3,4],rg 2 5,rg 2 6,rg 0 7,rg 0 8,rg 0 9]) (.reg [Fa 138 3 5,Fo [] [2] (.ld 139 1 false true 138),Mv 140 0,Fa 141 3 3,Lq 142 141,Mv 143 6,Ix 144 .jnode 142 143,Ld 145 5 true 144,Fo [] [0] (.call 146 62 [140,145]),Pp (.bsl 147 .jnode [146] true),Pp (.app 148 .jnode (.tk 139) 147),Fa 149 3 5,Fo [] [2] (.st none 1 149 (.tk 148))] [[],[0],[],[],[3],[],[3,4,5],rg 3 6,rg 2 7,rg 2 8,rg 0 9,rg 0 10,rg 0 11]))))) (Rg [Mv 59 6,Bc 60 .add 59 1,Mv 6 60]))
def wO:IR:=Rs [Ld 151 5 true 3,Ca 152 87 [151,kS [102,105,101,108,100,115]],Mv 150 152,Ex_ 153 0 150,Ex_ 154 1 150,Pp (.alr 8 5),Fz 8 5 153,Mv 9 154] (Sq (Rs [Mv 155 9] (Cn 155 (Rg [Mv 156 0,Pp (.ld 157 5 true false 5),Ca 158 88 [156,157],Sv 5 5 158]) .skip)) (Rs [Pp (.ld 159 5 true false 5),Sv 5 4 159] .ret))
def aiA:IR:=Rs [Bx 3 1,Pp (.new 4 [vI 0,vI 0,vS,nl .jnode,nl .str])] (Sq (Rs [Fa 10 0 3,Lq 11 10,Bc 12 .eql 11 4] (Cn 12 (Sq (Rs [Mv 13 0,Ca 14 60 [13,kI 6],Bc 15 .gtr 14 0] (Cn 15 (Rs [Ld 16 5 true 3,Sv 5 4 16] .ret) .skip)) (Sq (Rs [Fa 17 2 3,Lq 18 17] (.block 0 (Rs [Pp (.bin 20 .eql 18 (kS [105,110,116])),Mv 19 20] (Cn 19 (Rs [Pp (.bsl 21 .str [kS [108,111,110,103],kS [102,108,111,97,116],kS [100,111,117,98,108,101],kS [105,110,116],kS [115,116,114,105,110,103]] true),Mv 22 0,Ca 23 60 [22,kI 5],Ix 24 .str 21 23,Lq 25 24,Ca 26 86 [25],Sv 5 4 26] .ret) (Rs [Pp (.bin 28 .eql 18 (kS [108,111,110,103])),Mv 27 28] (Cn 27 (Rs [Pp (.bsl 29 .str [kS [102,108,111,97,116],kS [100,111,117,98,108,101],kS [105,110,116]] true),Mv 30 0,Ca 31 60 [30,kI 3],Ix 32 .str 29 31,Lq 33 32,Ca 34 86 [33],Sv 5 4 34] .ret) (Rs [Pp (.bin 36 .eql 18 (kS [102,108,111,97,116])),Mv 35 36] (Cn 35 (Rs [Ca 37 86 [kS [100,111,117,98,108,101]],Sv 5 4 37] .ret) (Rs [Pp (.bin 39 .eql 18 (kS [115,116,114,105,110,103])),Mv 38 39] (Cn 38 (Rs [Pp (.bsl 40 .str [kS [98,121,116,101,115],kS [115,116,114,105,110,103],kS [105,110,116]] true),Mv 41 0,Ca 42 60 [41,kI 3],Ix 43 .str 40 42,Lq 44 43,Ca 45 86 [44],Sv 5 4 45] .ret) .skip)))))))))) (Rs [Ld 46 5 true 3,Sv 5 4 46] .ret))) .skip)) (Rs [Ld 47 5 true 3,Pp (.new 5 [vI 0,vI 0,vS,nl .jnode,nl .str]),Sv 5 5 47] (Rs [Pp (.bsl 48 .str [] false),Fa 49 4 3,Lq 50 49,Pp (.app 51 .str (.tk 48) 50),Fa 52 3 5,Pp (.st none 1 52 (.c (nl .jnode))),Fa 53 4 5,Sk 1 53 51] (Sq (Rs [Mi 6 0] (.block 1 (.loop [0,3,4,5,6,1000000] 3 wN))) wO))))
def zQ:List RV:=[.cell 4 5 true]
theorem aiB:FnC Try.prog u4 [60,62,88,2000060,2000062,2000088] 1 aaI Try.f62 aiA zQ:=fnC Try.func62
def aha(R:IR→(Ex→St→Ro)→St→Ro)(again0:St→Ro):Ex→St→Ro:=(bk again0 [0,3,4,5,6,1000000] 3 (aP 1 (bj (R wO) (fin zQ))))
abbrev nv:Type:=(aB×Int×Bs×Int×Int×Int×Bs×List aB×Bss×Int×Int×Bs×List aB×Bss)
def mi(x:nv):St:={env:=(.ptr 0 0::.undef::.undef::.ea (enc .jnode x.1)::.ptr 1 0::.ptr 2 0::.int .i64 x.2.1::(U 153 [])),hp:=[some [.sl .u8 (.may false) x.2.2.1,.int .i64 x.2.2.2.1],some [.int .i64 x.2.2.2.2.1,.int .i64 x.2.2.2.2.2.1,.str x.2.2.2.2.2.2.1,.sl .jnode .own x.2.2.2.2.2.2.2.1,.sl .str .own x.2.2.2.2.2.2.2.2.1],some [.int .i64 x.2.2.2.2.2.2.2.2.2.1,.int .i64 x.2.2.2.2.2.2.2.2.2.2.1,.str x.2.2.2.2.2.2.2.2.2.2.2.1,.sl .jnode .own x.2.2.2.2.2.2.2.2.2.2.2.2.1,.sl .str .own x.2.2.2.2.2.2.2.2.2.2.2.2.2]]}
def sb(N:Nat):(St→Ro)→St→Ro:=fun again0 s=>run u4 N wN (aha (run u4 N) again0) s
def nw(N:Nat)(again0:nv→Ro)(x:nv):Ro:=
 let v3:aB:=x.1
 let v6:Int:=x.2.1
 let o0_0:Bs:=x.2.2.1
 let o0_1:Int:=x.2.2.2.1
 let o1_0:Int:=x.2.2.2.2.1
 let o1_1:Int:=x.2.2.2.2.2.1
 let o1_2:Bs:=x.2.2.2.2.2.2.1
 let o1_3:List aB:=x.2.2.2.2.2.2.2.1
 let o1_4:Bss:=x.2.2.2.2.2.2.2.2.1
 let o2_0:Int:=x.2.2.2.2.2.2.2.2.2.1
 let o2_1:Int:=x.2.2.2.2.2.2.2.2.2.2.1
 let o2_2:Bs:=x.2.2.2.2.2.2.2.2.2.2.2.1
 let o2_3:List aB:=x.2.2.2.2.2.2.2.2.2.2.2.2.1
 let o2_4:Bss:=x.2.2.2.2.2.2.2.2.2.2.2.2.2
 let x9:=(↑(List.length v3.l):Int)
 let z0:=fun g0 g1 g2 g3=>again0 (v3,g0,g1,g2,o1_0,o1_1,o1_2,o1_3,o1_4,o2_0,o2_1,o2_2,g3,o2_4)
 let z1:=fun g0 g1 g2 g3 g4 g5 g6 g7 g8=>(some (.agg [.int .i64 g0,.int .i64 g1,.str g2,.sl .jnode (.may false) g3,.sl .str (.may false) g4],[some [.sl .u8 (.may false) g5,.int .i64 g6],some [.int .i64 g0,.int .i64 g1,.str g2,.sl .jnode (.may false) g3,.sl .str (.may false) g4],some [.int .i64 g0,.int .i64 g1,.str g2,g7,g8]]):Ro)
 cond (decide (v6<x9)) (
  cond (v3.kind==6) (
   chk (ixl v6 v3.names) (
    let x10:=List.getD v3.names (Int.toNat v6) (aG .str)
    let x11:=decide (x10=([110,97,109,101]:Bs))
    cond x11 (
     chk (ixl v6 v3.l) (
      let x12:=(List.getD v3.l (Int.toNat v6) (aG .jnode))
      chk (decide ((List.length o2_3+List.length ([(reJ x12)]:List aB))*80≤140737488355328)) (
       let x13:=(o2_3++([(reJ x12)]:List aB))
       let x14:=(IntKind.wrap .i64 (v6+1))
       z0 x14 o0_0 o0_1 x13))) (
     chk (ixl v6 v3.names) (
      let x15:=List.getD v3.names (Int.toNat v6) (aG .str)
      let x16:=decide (x15=([110,97,109,101,115,112,97,99,101]:Bs))
      cond x16 (
       chk (ixl v6 v3.l) (
        let x17:=(List.getD v3.l (Int.toNat v6) (aG .jnode))
        chk (decide ((List.length o2_3+List.length ([(reJ x17)]:List aB))*80≤140737488355328)) (
         let x18:=(o2_3++([(reJ x17)]:List aB))
         let x19:=(IntKind.wrap .i64 (v6+1))
         z0 x19 o0_0 o0_1 x18))) (
       chk (ixl v6 v3.names) (
        let x20:=List.getD v3.names (Int.toNat v6) (aG .str)
        let x21:=decide (x20=([116,121,112,101]:Bs))
        cond x21 (
         chk (ixl v6 v3.l) (
          let x22:=(List.getD v3.l (Int.toNat v6) (aG .jnode))
          cond (x22.kind==4) (
           let x23:=(↑(List.length v3.l):Int)
           cond (decide (2<x23)) (
            chk (ixl v6 v3.l) (
             let x24:=(List.getD v3.l (Int.toNat v6) (aG .jnode))
             chk (decide ((List.length o2_3+List.length ([(reJ x24)]:List aB))*80≤140737488355328)) (
              let x25:=(o2_3++([(reJ x24)]:List aB))
              let x26:=(IntKind.wrap .i64 (v6+1))
              z0 x26 o0_0 o0_1 x25))) (
            chk (ixl v6 v3.names) (
             let x27:=List.getD v3.names (Int.toNat v6) (aG .str)
             let x28:=decide (x27=([115,121,109,98,111,108,115]:Bs))
             cond x28 (
              chk (ixl v6 v3.l) (
               let x29:=(List.getD v3.l (Int.toNat v6) (aG .jnode))
               chk (decide ((List.length o2_3+List.length ([(reJ x29)]:List aB))*80≤140737488355328)) (
                let x30:=(o2_3++([(reJ x29)]:List aB))
                let x31:=(IntKind.wrap .i64 (v6+1))
                z0 x31 o0_0 o0_1 x30))) (
              chk (ixl v6 v3.names) (
               let x32:=List.getD v3.names (Int.toNat v6) (aG .str)
               let x33:=decide (x32=([100,101,102,97,117,108,116]:Bs))
               cond x33 (
                chk (ixl v6 v3.l) (
                 let x34:=(List.getD v3.l (Int.toNat v6) (aG .jnode))
                 chk (decide ((List.length o2_3+List.length ([(reJ x34)]:List aB))*80≤140737488355328)) (
                  let x35:=(o2_3++([(reJ x34)]:List aB))
                  let x36:=(IntKind.wrap .i64 (v6+1))
                  z0 x36 o0_0 o0_1 x35))) (
                chk (ixl v6 v3.names) (
                 let x37:=List.getD v3.names (Int.toNat v6) (aG .str)
                 let x38:=decide (x37=([115,105,122,101]:Bs))
                 cond x38 (
                  chk (ixl v6 v3.l) (
                   let x39:=(List.getD v3.l (Int.toNat v6) (aG .jnode))
                   chk (decide ((List.length o2_3+List.length ([(reJ x39)]:List aB))*80≤140737488355328)) (
                    let x40:=(o2_3++([(reJ x39)]:List aB))
                    let x41:=(IntKind.wrap .i64 (v6+1))
                    z0 x41 o0_0 o0_1 x40))) (
                  chk (ixl v6 v3.l) (
                   let x42:=(List.getD v3.l (Int.toNat v6) (aG .jnode))
                   aF (dm o0_0 o0_1 (reJ x42)) (fun r9=>
                    chk (decide ((List.length o2_3+List.length ([(reJ r9.1)]:List aB))*80≤140737488355328)) (
                     let x43:=(o2_3++([(reJ r9.1)]:List aB))
                     let x44:=(IntKind.wrap .i64 (v6+1))
                     z0 x44 r9.2.1 r9.2.2 x43))))))))))) (
           chk (ixl v6 v3.names) (
            let x45:=List.getD v3.names (Int.toNat v6) (aG .str)
            let x46:=decide (x45=([115,121,109,98,111,108,115]:Bs))
            cond x46 (
             chk (ixl v6 v3.l) (
              let x47:=(List.getD v3.l (Int.toNat v6) (aG .jnode))
              chk (decide ((List.length o2_3+List.length ([(reJ x47)]:List aB))*80≤140737488355328)) (
               let x48:=(o2_3++([(reJ x47)]:List aB))
               let x49:=(IntKind.wrap .i64 (v6+1))
               z0 x49 o0_0 o0_1 x48))) (
             chk (ixl v6 v3.names) (
              let x50:=List.getD v3.names (Int.toNat v6) (aG .str)
              let x51:=decide (x50=([100,101,102,97,117,108,116]:Bs))
              cond x51 (
               chk (ixl v6 v3.l) (
                let x52:=(List.getD v3.l (Int.toNat v6) (aG .jnode))
                chk (decide ((List.length o2_3+List.length ([(reJ x52)]:List aB))*80≤140737488355328)) (
                 let x53:=(o2_3++([(reJ x52)]:List aB))
                 let x54:=(IntKind.wrap .i64 (v6+1))
                 z0 x54 o0_0 o0_1 x53))) (
               chk (ixl v6 v3.names) (
                let x55:=List.getD v3.names (Int.toNat v6) (aG .str)
                let x56:=decide (x55=([115,105,122,101]:Bs))
                cond x56 (
                 chk (ixl v6 v3.l) (
                  let x57:=(List.getD v3.l (Int.toNat v6) (aG .jnode))
                  chk (decide ((List.length o2_3+List.length ([(reJ x57)]:List aB))*80≤140737488355328)) (
                   let x58:=(o2_3++([(reJ x57)]:List aB))
                   let x59:=(IntKind.wrap .i64 (v6+1))
                   z0 x59 o0_0 o0_1 x58))) (
                 chk (ixl v6 v3.l) (
                  let x60:=(List.getD v3.l (Int.toNat v6) (aG .jnode))
                  aF (dm o0_0 o0_1 (reJ x60)) (fun r10=>
                   chk (decide ((List.length o2_3+List.length ([(reJ r10.1)]:List aB))*80≤140737488355328)) (
                    let x61:=(o2_3++([(reJ r10.1)]:List aB))
                    let x62:=(IntKind.wrap .i64 (v6+1))
                    z0 x62 r10.2.1 r10.2.2 x61)))))))))))) (
         chk (ixl v6 v3.names) (
          let x63:=List.getD v3.names (Int.toNat v6) (aG .str)
          let x64:=decide (x63=([115,121,109,98,111,108,115]:Bs))
          cond x64 (
           chk (ixl v6 v3.l) (
            let x65:=(List.getD v3.l (Int.toNat v6) (aG .jnode))
            chk (decide ((List.length o2_3+List.length ([(reJ x65)]:List aB))*80≤140737488355328)) (
             let x66:=(o2_3++([(reJ x65)]:List aB))
             let x67:=(IntKind.wrap .i64 (v6+1))
             z0 x67 o0_0 o0_1 x66))) (
           chk (ixl v6 v3.names) (
            let x68:=List.getD v3.names (Int.toNat v6) (aG .str)
            let x69:=decide (x68=([100,101,102,97,117,108,116]:Bs))
            cond x69 (
             chk (ixl v6 v3.l) (
              let x70:=(List.getD v3.l (Int.toNat v6) (aG .jnode))
              chk (decide ((List.length o2_3+List.length ([(reJ x70)]:List aB))*80≤140737488355328)) (
               let x71:=(o2_3++([(reJ x70)]:List aB))
               let x72:=(IntKind.wrap .i64 (v6+1))
               z0 x72 o0_0 o0_1 x71))) (
             chk (ixl v6 v3.names) (
              let x73:=List.getD v3.names (Int.toNat v6) (aG .str)
              let x74:=decide (x73=([115,105,122,101]:Bs))
              cond x74 (
               chk (ixl v6 v3.l) (
                let x75:=(List.getD v3.l (Int.toNat v6) (aG .jnode))
                chk (decide ((List.length o2_3+List.length ([(reJ x75)]:List aB))*80≤140737488355328)) (
                 let x76:=(o2_3++([(reJ x75)]:List aB))
                 let x77:=(IntKind.wrap .i64 (v6+1))
                 z0 x77 o0_0 o0_1 x76))) (
               chk (ixl v6 v3.l) (
                let x78:=(List.getD v3.l (Int.toNat v6) (aG .jnode))
                aF (dm o0_0 o0_1 (reJ x78)) (fun r11=>
                 chk (decide ((List.length o2_3+List.length ([(reJ r11.1)]:List aB))*80≤140737488355328)) (
                  let x79:=(o2_3++([(reJ r11.1)]:List aB))
                  let x80:=(IntKind.wrap .i64 (v6+1))
                  z0 x80 r11.2.1 r11.2.2 x79)))))))))))))))) (
   chk (ixl v6 v3.l) (
    let x81:=(List.getD v3.l (Int.toNat v6) (aG .jnode))
    aF (dm o0_0 o0_1 (reJ x81)) (fun r12=>
     chk (decide ((List.length o2_3+List.length ([(reJ r12.1)]:List aB))*80≤140737488355328)) (
      let x82:=(o2_3++([(reJ r12.1)]:List aB))
      let x83:=(IntKind.wrap .i64 (v6+1))
      z0 x83 r12.2.1 r12.2.2 x82))))) (
  aF (rf v3.kind v3.n v3.s v3.l v3.names ([102,105,101,108,100,115]:Bs)) (fun r13=>
   cond r13.2.2.2.2.2 (
    aF (lA o0_0 o0_1 ⟨o2_0,o2_1,o2_2,o2_3,o2_4⟩) (fun r14=>
     z1 r14.1.kind r14.1.n r14.1.s r14.1.l r14.1.names r14.2.1 r14.2.2 (.sl .jnode (.may false) r14.1.l) (.sl .str (.may false) r14.1.names))) (
    z1 o2_0 o2_1 o2_2 o2_3 o2_4 o0_0 o0_1 (.sl .jnode .own o2_3) (.sl .str .own o2_4))))
theorem af6(N:Nat):LB (sb N) mi (nw N):=fun _ _=>by kernel_rfl
def km(N:Nat)(o0_0:Bs)(o0_1:Int)(p1:aB)(q0:nv→Ro):Ro:=
 let z0:=fun g0 g1 g2 g3 g4 g5 g6=>(some (.agg [.int .i64 g0,.int .i64 g1,.str g2,.sl .jnode (.may false) g3,.sl .str (.may false) g4],[some [.sl .u8 (.may false) g5,.int .i64 g6],some [.int .i64 g0,.int .i64 g1,.str g2,.sl .jnode (.may false) g3,.sl .str (.may false) g4]]):Ro)
 cond (p1.kind==4) (
  aF (bc o0_0 o0_1 6) (fun r1=>
   cond (decide (0<r1.1)) (
    z0 p1.kind p1.n p1.s p1.l p1.names r1.2.1 r1.2.2) (
    let x1:=decide (p1.s=([105,110,116]:Bs))
    cond x1 (
     aF (bc r1.2.1 r1.2.2 5) (fun r2=>
      chk (ixl r2.1 ([([108,111,110,103]:Bs),([102,108,111,97,116]:Bs),([100,111,117,98,108,101]:Bs),([105,110,116]:Bs),([115,116,114,105,110,103]:Bs)]:Bss)) (
       let x2:=List.getD ([([108,111,110,103]:Bs),([102,108,111,97,116]:Bs),([100,111,117,98,108,101]:Bs),([105,110,116]:Bs),([115,116,114,105,110,103]:Bs)]:Bss) (Int.toNat r2.1) (aG .str)
       aF (bh x2) (fun r3=>
        z0 r3.1 r3.2.1 r3.2.2.1 r3.2.2.2.1 r3.2.2.2.2 r2.2.1 r2.2.2)))) (
     let x3:=decide (p1.s=([108,111,110,103]:Bs))
     cond x3 (
      aF (bc r1.2.1 r1.2.2 3) (fun r4=>
       chk (ixl r4.1 ([([102,108,111,97,116]:Bs),([100,111,117,98,108,101]:Bs),([105,110,116]:Bs)]:Bss)) (
        let x4:=List.getD ([([102,108,111,97,116]:Bs),([100,111,117,98,108,101]:Bs),([105,110,116]:Bs)]:Bss) (Int.toNat r4.1) (aG .str)
        aF (bh x4) (fun r5=>
         z0 r5.1 r5.2.1 r5.2.2.1 r5.2.2.2.1 r5.2.2.2.2 r4.2.1 r4.2.2)))) (
      let x5:=decide (p1.s=([102,108,111,97,116]:Bs))
      cond x5 (
       aF (bh ([100,111,117,98,108,101]:Bs)) (fun r6=>
        z0 r6.1 r6.2.1 r6.2.2.1 r6.2.2.2.1 r6.2.2.2.2 r1.2.1 r1.2.2)) (
       let x6:=decide (p1.s=([115,116,114,105,110,103]:Bs))
       cond x6 (
        aF (bc r1.2.1 r1.2.2 3) (fun r7=>
         chk (ixl r7.1 ([([98,121,116,101,115]:Bs),([115,116,114,105,110,103]:Bs),([105,110,116]:Bs)]:Bss)) (
          let x7:=List.getD ([([98,121,116,101,115]:Bs),([115,116,114,105,110,103]:Bs),([105,110,116]:Bs)]:Bss) (Int.toNat r7.1) (aG .str)
          aF (bh x7) (fun r8=>
           z0 r8.1 r8.2.1 r8.2.2.1 r8.2.2.2.1 r8.2.2.2.2 r7.2.1 r7.2.2)))) (
        z0 p1.kind p1.n p1.s p1.l p1.names r1.2.1 r1.2.2))))))) (
  chk (decide ((List.length ([]:Bss)+List.length p1.names)*16≤140737488355328)) (
   let x8:=(([]:Bss)++p1.names)
   q0 (p1,0,o0_0,o0_1,0,0,([]:Bs),([]:List aB),([]:Bss),p1.kind,p1.n,p1.s,([]:List aB),x8)))
def zR(N:Nat)(o0_0:Bs)(o0_1:Int)(p1:aB):Ro:=km N o0_0 o0_1 p1 (fun z=>aS N (nw N) z)
theorem ahb(N:Nat)(o0_0:Bs)(o0_1:Int)(p1:aB)(h:Tot (zR N o0_0 o0_1 p1) (fun z=>∃(y0:aB)(y1:Bs)(y2:Int)(rest:List aJ),z.1.dimR=.agg (enc .jnode y0)∧z.2=some [.sl .u8 (.may false) y1,.int .i64 y2]::rest∧fA o0_0 o0_1 p1 (y0,y1,y2))):∃r,dm o0_0 o0_1 p1 r:=FnC.finO (css:=[[.sl .u8 (.may false) o0_0,.int .i64 o0_1]]) aiB (N:=N) ((bu _ (by kernel_rfl) rfl (fun C=>km N o0_0 o0_1 p1 (fun z=>C 1000000 (mi z))) (fun C=>by kernel_rfl)).trans (Eq.trans (b:=km N o0_0 o0_1 p1 (fun z=>aW N (sb N) (mi z))) (by kernel_rfl) (congrArg (km N o0_0 o0_1 p1) (funext fun z=>aV (mi) (sb N) (nw N) (af6 N) N z)))) h fun _ ⟨y0,y1,y2,_,e,f,q⟩=>⟨(y0,y1,y2),e,⟨_,f⟩,q⟩
noncomputable def amk:aL:=tab (P:=Try.prog) [] [ah2,aaK] [] [arC,apH]
def akG:IR:=Rs [Pp (.new 2 [nl .atype]),Pp (.new 3 [nl .atype]),Mb 4 false] (Rs [Mv 14 0,Ca 15 40 [14],Pp (.alr 5 5),Fz 5 5 15] (Rs [Mv 16 0,Ld 17 5 true 5,Ca 18 62 [16,17],Pp (.alr 6 5),Fz 6 5 18] (Rs [Ld 20 5 true 5,Ca 21 39 [20],Mv 19 21,Ex_ 22 0 19,Ex_ 23 1 19,Pp (.alr 7 1),Fz 7 1 22,Mv 8 23] (Rs [Ld 25 5 true 6,Ca 26 39 [25],Mv 24 26,Ex_ 27 0 24,Ex_ 28 1 24,Pp (.alr 9 1),Fz 9 1 27,Mv 10 28] (Sq (Rs [Mv 29 8,Bc 30 .neq 29 0,Mv 31 30,Gf 31 (.mov 32 10),Gf 31 (.bin 33 .neq 32 (kI 0)),Po 34 31 33] (Cn 34 (Sq (.reg [Ld 35 1 true 7,Ld 36 1 true 9,Fo [] [1] (.st none 1 2 35),Fo [] [2] (.st none 1 3 36),Mb 4 false] [[],[],[0],[0,1,2],rg 0 3]) .ret) .skip)) (Rs [Ld 38 1 true 9,Ca 39 41 [38],Mv 37 39,Ex_ 40 0 37,Ex_ 41 1 37,Ex_ 42 2 37,Mv 11 40,Mv 12 41,Mv 13 42] (Sq (.reg [Ld 43 1 true 7,Ld 44 1 true 9,Mv 45 11,Bc 46 .eql 45 0,Fo [] [1] (.st none 1 2 43),Fo [] [2] (.st none 1 3 44),Mv 4 46] [[],[],[],[2],[0],[0,1,4],rg 0 5]) .ret)))))))
def akH:List RV:=[.cell 2 1 true,.cell 3 1 true,.t 4]
theorem akI:FnC Try.prog amk [40,62,2000040,2000062] 1 acB Try.f29 akG akH:=fnC Try.func29
def abR(N:Nat)(o0_0:Bs)(o0_1:Int):Ro:=
 let z0:=fun g0 g1 g2 g3 g4=>(some (.tup [.agg [.sl .atype (.may false) g0],.agg [.sl .atype (.may false) g1],.bool g2],[some [.sl .u8 (.may false) g3,.int .i64 g4],some [.sl .atype (.may false) g0],some [.sl .atype (.may false) g1]]):Ro)
 aF (jT o0_0 o0_1) (fun r1=>
  aF (dm r1.2.2.2.2.2.1 r1.2.2.2.2.2.2 ⟨r1.1,r1.2.1,r1.2.2.1,r1.2.2.2.1,r1.2.2.2.2.1⟩) (fun r2=>
   aF (qd r1.1 r1.2.1 r1.2.2.1 r1.2.2.2.1 r1.2.2.2.2.1) (fun r3=>
    aF (qd r2.1.kind r2.1.n r2.1.s r2.1.l r2.1.names) (fun r4=>
     cond (!(r3.2==0)) (
      z0 r3.1 r4.1 false r2.2.1 r2.2.2) (
      cond (!(r4.2==0)) (
       z0 r3.1 r4.1 false r2.2.1 r2.2.2) (
       aF (sf r4.1) (fun r5=>
        z0 r3.1 r4.1 (r5.1==0) r2.2.1 r2.2.2)))))))
def abS(N:Nat)(o0_0:Bs)(o0_1:Int):Ro:=abR N o0_0 o0_1
theorem aj9(N:Nat)(o0_0:Bs)(o0_1:Int)(h:Tot (abS N o0_0 o0_1) (fun z=>∃(y0:List aA)(y1:List aA)(y2:Bool)(y3:Bs)(y4:Int)(rest:List aJ),z.1.dimR=.tup [.agg [.sl .atype (.may false) y0],.agg [.sl .atype (.may false) y1],.bool y2]∧z.2=some [.sl .u8 (.may false) y3,.int .i64 y4]::rest∧zB o0_0 o0_1 (y0,y1,y2,y3,y4))):∃r,nM o0_0 o0_1 r:=FnC.finO (css:=[[.sl .u8 (.may false) o0_0,.int .i64 o0_1]]) akI (N:=N) (by kernel_rfl) h fun _ ⟨y0,y1,y2,y3,y4,_,e,f,q⟩=>⟨(y0,y1,y2,y3,y4),e,⟨_,f⟩,q⟩
end Go.Proofs.Ytdpajabhmmmjoaa
end
noncomputable section
namespace Go.Proofs.Ytdpajabhmmmjoaa
open Go.AM
set_option autoImplicit false
set_option linter.unusedVariables false
set_option linter.unusedSimpArgs false
set_option maxRecDepth 100000
theorem ahc{α:Type}{p:α→Prop}{l:List α}{i:Nat}{x:α}(h:∀c∈l,p c)(hx:p x):∀c∈l.set i x,p c:=by
 intro c hc
 rcases List.mem_or_eq_of_mem_set hc with h1|h1
 ·exact h c h1
 ·subst h1;exact hx
theorem zp{α:Type}{p:α→Prop}{l m:List α}(h:∀c∈l,p c)(h2:∀c∈m,p c):∀c∈l++m,p c:=by
 intro c hc
 rcases List.mem_append.1 hc with h1|h1
 ·exact h c h1
 ·exact h2 c h1
theorem aca{α:Type}{p:α→Prop}{x:α}(h:p x):∀c∈[x],p c:=by
 intro c hc
 simp only[List.mem_singleton] at hc
 subst hc;exact h
theorem awZ(k n:Int)(l:List aB)(h:l.length≤8)(hl:∀c∈l,bl c)(hk:k≠6):bl (.mk k n [] l []):=.mk _ _ _ _ _ (by simp) h (by simp) (by simp) (fun h=>absurd h hk) hl
theorem avR(c:aB)(hc:bl c)(i:Nat)(l':List aB)(hl:l'.length≤8)(hk:∀c∈l',bl c):
  bl (.mk c.kind c.n c.s (c.l.set i ⟨5,0,[],l',[]⟩) c.names):=by
 obtain⟨k1,k2,k3,k4,k5,k6⟩:=(dd.eta.2 hc).kids
 exact .mk _ _ _ _ _ k1 (by simpa using k2) (by simpa using k3) k4 (by simpa using k5) (ahc k6 (awZ 5 0 l' hl hk (by simp)))
theorem avS(a:List UInt8)(n:Int)(c:aB)(hp:kp a n)(hc:bl c)(h0:0<c.l.length)(h7:∀d∈c.l,d.l.length≤7):∃r,lA a n c r:=by
 obtain⟨k1,k2,k3,k4,k5,k6⟩:=(dd.eta.2 hc).kids
 apply ag9 (c.names.length+1)
 unfold zP kj
 dsimp only
 refine aT (fun x=>x.2.2=(a,n,c.kind,c.n,c.s,c.l,c.names,0,0,[],[],[])∧0≤x.1∧x.1<(c.l.length:Int)∧0≤x.2.1∧x.2.1≤(c.names.length:Int)) (fun x=>(c.names.length-x.2.1:Int).toNat) ?_ _ _ ⟨rfl,by simp,by simp;omega,by simp,by simp⟩ (by simp only;omega)
 rintro again ⟨at_,i,rest⟩ ⟨i0,i1,i2,i3,i4⟩ ih
 dsimp only at i0 i1 i2 i3 i4 ih
 subst i0
 unfold nu
 dsimp only
 have g7:(c.l.getD at_.toNat (aG .jnode)).l.length≤7:=by
  have:at_.toNat<c.l.length:=by omega
  rw[List.getD_eq_getElem?_getD,List.getElem?_eq_getElem this]
  exact h7 _ (List.getElem_mem this)
 have gk:∀d∈(c.l.getD at_.toNat (aG .jnode)).l,bl d:=((dd.eta.2 (dd.getD k6 at_.toNat)).kids).2.2.2.2.2
 generalize hx:(c.l.getD at_.toNat (aG .jnode)).l=x at g7 gk ⊢
 have fin:∀(n':Int)(l':List aB),kp a n'→l'.length≤8→(∀d∈l',bl d)→qh a n c (.mk c.kind c.n c.s (c.l.set at_.toNat ⟨5,0,[],l',[]⟩) c.names,a,n'):=
  fun n' l' q1 q2 q3=>⟨avR c hc at_.toNat l' q2 q3,(List.length_set:(c.l.set at_.toNat _).length=c.l.length),rfl,q1⟩
 have lf:∀s:List UInt8,s.length≤100→bl (.mk 4 0 s [] []):=fun s hs=>(dn 4 0 s hs).up (by decide)
 have t2:bl (.mk 6 0 [] [.mk 4 0 [102,114,101,115,104] [] [],.mk 4 0 [108,111,110,103] [] []] [[110,97,109,101],[116,121,112,101]]):=
  (ab9 _ _ _ _ (by simp) (by simp) (by simp[ct]) (List.forall_mem_cons.2 ⟨dn _ _ _ (by simp),(List.forall_mem_cons.2 ⟨dn _ _ _ (by simp),(by simp)⟩)⟩)).up (by decide)
 have t3:bl (.mk 6 0 [] [.mk 4 0 [102,114,101,115,104] [] [],.mk 4 0 [108,111,110,103] [] [],.mk 3 5 [] [] []] [[110,97,109,101],[116,121,112,101],[100,101,102,97,117,108,116]]):=
  (ab9 _ _ _ _ (by simp) (by simp) (by simp[ct]) (List.forall_mem_cons.2 ⟨dn _ _ _ (by simp),(List.forall_mem_cons.2 ⟨dn _ _ _ (by simp),(List.forall_mem_cons.2 ⟨dn _ _ _ (by simp),(by simp)⟩)⟩)⟩)).up (by decide)
 refine aC (fun h=>?_) (fun h=>?_)
 ·have h:=of_decide_eq_true h
  rw[aI (i+1) (by omega)]
  refine aH (ixt (by omega)) ?_
  refine aC (fun _=>ih _ ⟨rfl,by simp only;omega,by simp only;omega,by simp only;omega,by simp only;omega⟩ (by simp only;omega)) (fun _=>ih _ ⟨rfl,by simp only;omega,by simp only;omega,by simp only;omega,by simp only;omega⟩ (by simp only;omega))
 ·refine aH (ixt (by omega)) ?_
  simp only[List.nil_append]
  refine aH (by simp;omega) ?_
  refine aD (jj _ _ _ hp (by omega) (by omega)) ?_
  rintro⟨m,a',n'⟩ ⟨-,m1,m2,rfl,m3⟩
  dsimp only at m1 m2 m3 ⊢
  refine aC (fun _=>?_) (fun e0=>?_)
  ·refine aD (cr _) ?_
   rintro _ ⟨-,rfl⟩
   refine aD (cr _) ?_
   rintro _ ⟨-,rfl⟩
   refine aD (uK _ _ _ _) ?_
   rintro _ ⟨-,rfl⟩
   refine aD (jj _ _ _ m3 (by omega) (by omega)) ?_
   rintro⟨m',a',n''⟩ ⟨-,m1',m2',rfl,m3'⟩
   dsimp only at m1' m2' m3' ⊢
   refine aC (fun _=>?_) (fun _=>?_)
   ·refine aD (cr _) ?_
    rintro _ ⟨-,rfl⟩
    refine aD (cr _) ?_
    rintro _ ⟨-,rfl⟩
    refine aD (uK _ _ _ _) ?_
    rintro _ ⟨-,rfl⟩
    dsimp only
    refine aH (by simp;omega) (aH (by simp;omega) (aH (by simp;omega) (aH (by simp;omega) (aH (by simp;omega) (aH (by simp) ?_)))))
    exact aE ⟨_,_,_,_,rfl,rfl,fin _ _ m3' (by simp;omega) (zp gk (aca t2))⟩
   ·refine aH (by simp;omega) (aH (by simp;omega) (aH (by simp;omega) (aH (by simp;omega) (aH (by simp;omega) (aH (by simp) ?_)))))
    exact aE ⟨_,_,_,_,rfl,rfl,fin _ _ m3' (by simp;omega) (zp gk (aca t3))⟩
  ·refine aC (fun _=>?_) (fun e1=>?_)
   ·refine aC (fun hz=>?_) (fun _=>?_)
    ·have hz:=of_decide_eq_true hz
     refine aD (jj _ _ _ m3 (by omega) (by omega)) ?_
     rintro⟨m',a',n''⟩ ⟨-,m1',m2',rfl,m3'⟩
     dsimp only at m1' m2' m3' ⊢
     rw[aI (m'+1) (by omega)]
     refine aH (by simp;omega) (aH (by simp;omega) (aH (by simp;omega) (aH (by simp;omega) (aH ?_ (aH (by simp;omega) (aH (by simp;omega) (aH (by simp;omega) (aH (by simp;omega) (aH (by simp) ?_)))))))))
     ·rw[Nat.beq_eq];simp;omega
     ·exact aE ⟨_,_,_,_,rfl,rfl,fin _ _ m3' (by simp;omega) (zp (fun d hd=>gk d (List.mem_of_mem_take hd)) (fun d hd=>gk d (List.mem_of_mem_drop (List.mem_of_mem_take hd))))⟩
    ·refine aH (by simp;omega) (aH (by simp;omega) (aH (by simp;omega) (aH (by simp;omega) (aH (by simp) ?_))))
     exact aE ⟨_,_,_,_,rfl,rfl,fin _ _ m3 (by omega) gk⟩
   ·refine aC (fun _=>?_) (fun _=>?_)
    ·refine aC (fun hz=>?_) (fun _=>?_)
     ·have hz:=of_decide_eq_true hz
      refine aH (by simp;omega) (aH (by simp;omega) (aH (by simp;omega) (aH (by simp;omega) (aH (by simp;omega) (aH (by simp;omega) (aH (by simp;omega) (aH (by simp;omega) (aH (by simp;omega) (aH (by simp) (aH (by simp;omega) (aH (by simp;omega) (aH (by simp;omega) (aH (by simp;omega) (aH (by simp) ?_))))))))))))))
      exact aE ⟨_,_,_,_,rfl,rfl,fin _ _ m3 (by simp;omega) (ahc (ahc gk (by rw[amH];exact dd.getD gk _)) (by rw[amH];exact dd.getD gk _))⟩
     ·refine aH (by simp;omega) (aH (by simp;omega) (aH (by simp;omega) (aH (by simp;omega) (aH (by simp) ?_))))
      exact aE ⟨_,_,_,_,rfl,rfl,fin _ _ m3 (by omega) gk⟩
    ·refine aH (by simp;omega) (aH (by simp;omega) (aH (by simp;omega) (aH (by simp;omega) (aH (by simp) ?_))))
     exact aE ⟨_,_,_,_,rfl,rfl,fin _ _ m3 (by omega) gk⟩
theorem w5(l:List (List UInt8))(h:∀x∈l,x.length≤100)(i:Nat):(l.getD i (aG .str)).length≤100:=af3 (l:=l) h i
theorem awx{l:List aB}{i:Nat}(h:i<l.length):l.getD i (aG .jnode)∈l:=by
 rw[List.getD_eq_getElem?_getD,List.getElem?_eq_getElem h]
 exact List.getElem_mem h
theorem avT(c:aB)(hc:re c):∀(a:List UInt8)(n:Int),kp a n→∃r,dm a n c r:=by
 induction hc with
 |mk k m s l names h1 h2 h3 h4 h5 h6 ih=>
 intro a n hp
 have hT:re (.mk k m s l names):=.mk _ _ _ _ _ h1 h2 h3 h4 h5 h6
 have lf:∀(n':Int)(s':List UInt8),kp a n'→s'.length≤100→fA a n (.mk k m s l names) (.mk 4 0 s' [] [],a,n'):=fun n' s' q hs=>⟨(dn 4 0 s' hs).up (by decide),Nat.zero_le _,rfl,q⟩
 have self:∀(n':Int),kp a n'→fA a n (.mk k m s l names) (.mk k m s l names,a,n'):=fun n' q=>⟨hT.up (by decide),Nat.le_refl _,rfl,q⟩
 have j1:(aB.mk k m s l names).l=l:=rfl
 have j2:(aB.mk k m s l names).names=names:=rfl
 have j3:(aB.mk k m s l names).kind=k:=rfl
 have j4:(aB.mk k m s l names).n=m:=rfl
 have j5:(aB.mk k m s l names).s=s:=rfl
 apply ahb (l.length+1)
 unfold zR km
 simp only[j1,j2,j3,j4,j5]
 refine aC (fun _=>?_) (fun _=>?_)
 ·refine aD (jj _ _ _ hp (by omega) (by omega)) ?_
  rintro⟨m1,a',n1⟩ ⟨-,a1,a2,rfl,a3⟩
  dsimp only at a1 a2 a3 ⊢
  refine aC (fun _=>aE ⟨_,_,_,_,rfl,rfl,self _ a3⟩) (fun _=>?_)
  refine aC (fun _=>?_) (fun _=>?_)
  ·refine aD (jj _ _ _ a3 (by omega) (by omega)) ?_
   rintro⟨m2,a',n2⟩ ⟨-,b1,b2,rfl,b3⟩
   dsimp only at b1 b2 b3 ⊢
   refine aH (ixt (by simp;omega)) (aD (cr _) ?_)
   rintro _ ⟨-,rfl⟩
   exact aE ⟨_,_,_,_,rfl,rfl,lf _ _ b3 (w5 _ (by simp) _)⟩
  refine aC (fun _=>?_) (fun _=>?_)
  ·refine aD (jj _ _ _ a3 (by omega) (by omega)) ?_
   rintro⟨m2,a',n2⟩ ⟨-,b1,b2,rfl,b3⟩
   dsimp only at b1 b2 b3 ⊢
   refine aH (ixt (by simp;omega)) (aD (cr _) ?_)
   rintro _ ⟨-,rfl⟩
   exact aE ⟨_,_,_,_,rfl,rfl,lf _ _ b3 (w5 _ (by simp) _)⟩
  refine aC (fun _=>?_) (fun _=>?_)
  ·refine aD (cr _) ?_
   rintro _ ⟨-,rfl⟩
   exact aE ⟨_,_,_,_,rfl,rfl,lf _ _ a3 (by simp)⟩
  refine aC (fun _=>?_) (fun _=>?_)
  ·refine aD (jj _ _ _ a3 (by omega) (by omega)) ?_
   rintro⟨m2,a',n2⟩ ⟨-,b1,b2,rfl,b3⟩
   dsimp only at b1 b2 b3 ⊢
   refine aH (ixt (by simp;omega)) (aD (cr _) ?_)
   rintro _ ⟨-,rfl⟩
   exact aE ⟨_,_,_,_,rfl,rfl,lf _ _ b3 (w5 _ (by simp) _)⟩
  ·exact aE ⟨_,_,_,_,rfl,rfl,self _ a3⟩
 ·refine aH (by simp;omega) ?_
  rw[List.nil_append]
  refine aT (fun x=>x.1=.mk k m s l names∧0≤x.2.1∧x.2.1≤(l.length:Int)∧x.2.2.1=a∧kp a x.2.2.2.1∧
   (0,0,[],[],[],k,m,s,x.2.2.2.2.2.2.2.2.2.2.2.2.1,names)=x.2.2.2.2∧(x.2.2.2.2.2.2.2.2.2.2.2.2.1.length:Int)=x.2.1∧(∀d∈x.2.2.2.2.2.2.2.2.2.2.2.2.1,bl d)∧(∀d∈x.2.2.2.2.2.2.2.2.2.2.2.2.1,d.l.length≤7))
   (fun x=>(l.length-x.2.1:Int).toNat) ?_ _ _ ⟨rfl,by simp,by simp,rfl,hp,rfl,rfl,by simp,by simp⟩ (by simp only;omega)
  rintro again ⟨c',i,a',n1,q0,q1,q2,q3,q4,q5,q6,q7,acc,q8⟩ ⟨e1,i1,i2,e2,i3,e3,i4,i5,i6⟩ again_ok
  dsimp only at e1 i1 i2 e2 i3 e3 i4 i5 i6 again_ok
  simp only[Prod.mk.injEq] at e3
  obtain⟨rfl,rfl,rfl,rfl,rfl,rfl,rfl,rfl, -,rfl⟩:=e3
  subst e1;subst e2
  unfold nw
  simp only[amH,j1,j2,j3,j4,j5]
  refine aC (fun h=>?_) (fun h=>?_)
  ·have h:=of_decide_eq_true h
   have hm:l.getD i.toNat (aG .jnode)∈l:=awx (by omega)
   rw[aI (i+1) (by omega)]
   have step:∀(d:aB)(n':Int),kp a' n'→bl d→d.l.length≤7→Tot (chk (decide ((acc.length+[d].length)*80≤140737488355328)) (again (.mk k m s l names,i+1,a',n',0,0,[],[],[],k,m,s,acc++[d],names))) (fun(z:V×List aJ)=>∃(y0:aB)(y1:List UInt8)(y2:Int)(rest:List aJ),z.1.dimR=.agg (enc .jnode y0)∧z.2=some [.sl .u8 (.may false) y1,.int .i64 y2]::rest∧fA a' n (.mk k m s l names) (y0,y1,y2)):=by
    intro d n' d1 d2 d3
    refine aH (by simp;omega) (again_ok _ ⟨rfl,by simp only;omega,by simp only;omega,rfl,d1,rfl,by simp;omega,zp i5 (aca d2),zp i6 (aca d3)⟩ (by simp only;omega))
   have copy:=step (l.getD i.toNat (aG .jnode)) n1 i3 ((h6 _ hm).up (by decide)) ((dd.eta.2 (h6 _ hm)).kids).2.1
   have call:Tot (aF (dm a' n1 (l.getD i.toNat (aG .jnode))) (fun r=>chk (decide ((acc.length+[r.1].length)*80≤140737488355328)) (again (.mk k m s l names,i+1,r.2.1,r.2.2,0,0,[],[],[],k,m,s,acc++[r.1],names)))) (fun(z:V×List aJ)=>∃(y0:aB)(y1:List UInt8)(y2:Int)(rest:List aJ),z.1.dimR=.agg (enc .jnode y0)∧z.2=some [.sl .u8 (.may false) y1,.int .i64 y2]::rest∧fA a' n (.mk k m s l names) (y0,y1,y2)):=by
    refine aD (ih _ hm _ _ i3) ?_
    rintro⟨d,a2,n2⟩ ⟨-,c1,c2,rfl,c3⟩
    exact step d n2 c3 c1 (Nat.le_trans c2 ((dd.eta.2 (h6 _ hm)).kids).2.1)
   have hL:ixl i l=true:=ixt (by omega)
   refine aC (fun h=>?_) (fun _=>?_)
   ·have h5:=h5 (by simpa using h)
    have hN:ixl i names=true:=ixt (by omega)
    repeat' first
     |exact copy
     |exact call
     |refine aH hN ?_
     |refine aH hL ?_
     |refine aC (fun _=>?_) (fun _=>?_)
   ·exact aH hL call
  ·have h:=of_decide_eq_false h
   have hacc:acc.length=l.length:=by omega
   refine aD (aoC _ _ _ _ _ _ h3 (by omega)) ?_
   rintro r ⟨-,hr⟩
   have hr:r=yu (nJ names l [102,105,101,108,100,115]):=hr
   have hO:bl (.mk k m s acc names):=.mk _ _ _ _ _ h1 (by omega) (by omega) h4 (by omega) i5
   refine aC (fun hb=>?_) (fun _=>?_)
   ·have h0:0<acc.length:=by
     rw[hacc]
     cases l with
     |nil=>
      subst hr
      cases names<;>simp[nJ,yu] at hb
     |cons x l=>simp
    refine aD (avS a' n1 (.mk k m s acc names) i3 hO h0 i6) ?_
    rintro⟨d,a2,n2⟩ ⟨-,c1,c2,rfl,c3⟩
    exact aE ⟨_,_,_,_,rfl,rfl,c1,Nat.le_trans (Nat.le_of_eq c2) (Nat.le_of_eq hacc),rfl,c3⟩
   ·exact aE ⟨.mk k m s acc names,_,_,_,rfl,rfl,hO,Nat.le_of_eq hacc,rfl,i3⟩
theorem aw0(a:List UInt8)(n:Int)(hp:kp a n):∃r,nM a n r:=by
 apply aj9 1
 unfold abS abR
 dsimp only
 refine aD (auX a n hp) ?_
 rintro⟨t0,t1,t2,t3,t4,a',n1⟩ ⟨-,b1,rfl,b3⟩
 dsimp only at b1 b3 ⊢
 refine aD (avT _ b1 _ _ b3) ?_
 rintro⟨d,a2,n2⟩ ⟨-,c1,c2,rfl,c3⟩
 dsimp only at c1 c2 c3 ⊢
 refine aD (asS _ _ _ _ _ (dd.up (by decide) b1)) ?_
 rintro⟨w,e⟩ ⟨-,hw⟩
 refine aD (asS _ _ _ _ _ (dd.eta.2 c1)) ?_
 rintro⟨r,e2⟩ ⟨-,hr⟩
 have hw:e=0→dS w:=hw
 have hr:e2=0→dS r:=hr
 dsimp only
 refine aC (fun _=>aE ⟨_,_,_,_,_,_,rfl,rfl,fun h=>absurd h (by simp)⟩) (fun he=>?_)
 have he:e=0:=by simpa using he
 refine aC (fun _=>aE ⟨_,_,_,_,_,_,rfl,rfl,fun h=>absurd h (by simp)⟩) (fun he2=>?_)
 have he2:e2=0:=by simpa using he2
 refine aD (avP r (hr he2)) ?_
 rintro x -
 exact aE ⟨_,_,_,_,_,_,rfl,rfl,fun _=>⟨hw he,hr he2⟩⟩
end Go.Proofs.Ytdpajabhmmmjoaa
end
noncomputable section
namespace Go.Proofs.Ytdpajabhmmmjoaa
open Go.AM
set_option autoImplicit false
set_option linter.unusedVariables false
set_option linter.unusedSimpArgs false
set_option maxRecDepth 100000
abbrev n9(k:Int):List aA:=[⟨k,[],[],0,[],false,[],0,[],[]⟩]
theorem aan(k:Int)(h:k=3∨k=4):dS (n9 k):=by
 refine⟨by simp[n9],fun t ht=>?_⟩
 simp only[n9,List.mem_singleton] at ht
 subst ht
 exact⟨by simp[n9],by simp,by simp,by simp,by simp,by simp,by simp,by simp only;omega,by simp only;omega,by simp only;omega,by simp,by simp,by simp⟩
theorem asV(k:Int)(h:k=3∨k=4):zX (n9 k)=[true]:=by
 have hs:=aan k h
 have hl:=amj hs
 obtain⟨hB,hF⟩:=af4 hs
 have h0:0≤(rkB (n9 k)).getD 0 0:=by
  rcases Int.lt_or_le ((rkB (n9 k)).getD 0 0) 0 with e|e
  ·have hk:=(hF 0 (by simp[n9]) e).kind
   have hk:k=9∨k=14:=hk
   omega
  ·exact e
 have h1:=hB.len
 cases hr:rkB (n9 k) with
 |nil=>rw[hr] at h1;simp[n9] at h1
 |cons x l=>
  cases l with
  |cons y l=>rw[hr] at h1;simp[n9] at h1
  |nil=>
   rw[hr] at h0
   have h0:0≤x:=h0
   simp[zX,hr,h0]
theorem avU:∃r,sm r:=by
 apply amN 1
 unfold afb afa
 refine aD (yT (n9 3) (n9 4) 0 0 (yU.of (aan 4 (by simp)))) ?_
 rintro _ ⟨-,rfl⟩
 refine aC (fun _=>?_) (fun h=>absurd h (by decide))
 refine aD (yT (n9 4) (n9 3) 0 0 (yU.of (aan 3 (by simp)))) ?_
 rintro _ ⟨-,rfl⟩
 refine aC (fun _=>?_) (fun h=>absurd h (by decide))
 refine aD (asU (aan 3 (by simp)) (n9 4) (aan 4 (by simp)) 0 0) ?_
 rintro r3 ⟨-,h3⟩
 have h3:r3=jW (zX (n9 3)) (n9 3) (n9 4) 0 0:=h3
 rw[asV 3 (by simp)] at h3
 subst h3
 refine aC (fun _=>?_) (fun h=>absurd h (by decide))
 refine aD (asU (aan 4 (by simp)) (n9 3) (aan 3 (by simp)) 0 0) ?_
 rintro r4 ⟨-,h4⟩
 have h4:r4=jW (zX (n9 4)) (n9 4) (n9 3) 0 0:=h4
 rw[asV 4 (by simp)] at h4
 subst h4
 exact aE ⟨_,_,rfl,rfl,by show (!_)=true;decide⟩
theorem asW(p:List UInt8)(a b:Int):∃r,acC p a b r:=by
 apply ajn 61
 unfold abv mG
 dsimp only
 refine aD avU ?_
 rintro r ⟨-,hr⟩
 have hr:r=true:=hr
 subst hr
 refine aC (fun h=>absurd h (by simp)) (fun _=>?_)
 refine aC (fun _=>aE ⟨_,_,rfl,rfl,rfl⟩) (fun hlen=>?_)
 have hlen:=of_decide_eq_false hlen
 refine aD (awl p) ?_
 rintro _ ⟨-,rfl⟩
 refine aD (aw0 p 0 ⟨by omega,by omega,by omega⟩) ?_
 rintro⟨w,r,ok,a',n'⟩ ⟨-,hok⟩
 have hok:ok=true→dS w∧dS r:=hok
 dsimp only
 refine aC (fun _=>aE ⟨_,_,rfl,rfl,rfl⟩) (fun he=>?_)
 obtain⟨hw,hr⟩:=hok (by simpa using he)
 have hwn:=hw.1
 have hrn:=hr.1
 have same:=aww hw
 have mcall:∀(t q:Int)(K:Bool→Bool→Ro)(Q:V×List aJ→Prop),(∀x,Tot (K x x) Q)→Tot (aF (eW w r t q) (fun x=>aF (gX w r t q) (fun y=>K x y))) Q:=by
  intro t q K Q hK
  refine aD (yT w r t q (yU.of hr)) ?_
  rintro _ ⟨-,rfl⟩
  refine aD (agL w r t q (yU.of hr)) ?_
  rintro _ ⟨-,rfl⟩
  exact hK _
 have ccall:∀(t q:Int)(K:Bool→Bool→Ro)(Q:V×List aJ→Prop),(∀x,Tot (K x x) Q)→Tot (aF (eX w r t q) (fun x=>aF (gY w r t q) (fun y=>K x y))) Q:=by
  intro t q K Q hK
  refine aD (asU hw r hr t q) ?_
  rintro x ⟨-,hx⟩
  refine aD (axF hw r hr t q) ?_
  rintro y ⟨-,hy⟩
  have hx:x=jW (zX w) w r t q:=hx
  have hy:y=jW (aeo w) w r t q:=hy
  have:y=x:=by rw[hx,hy,same]
  subst this
  exact hK _
 refine aT (fun x=>x=(a,b,w,r,x.2.2.2.2.1,a',n')∧0≤x.2.2.2.2.1∧x.2.2.2.2.1≤(w.length:Int)) (fun x=>(w.length-x.2.2.2.2.1:Int).toNat) ?_ _ _ ⟨rfl,by simp,by simp⟩ (by simp only;omega)
 rintro again ⟨q1,q2,q3,q4,i,q5,q6⟩ ⟨e,i1,i2⟩ ih
 dsimp only at e i1 i2 ih
 simp only[Prod.mk.injEq] at e
 obtain⟨rfl,rfl,rfl,rfl, -,rfl,rfl⟩:=e
 unfold oS oe
 dsimp only
 refine aC (fun hi=>?_) (fun hi=>?_)
 ·have hi:=of_decide_eq_true hi
  refine aT (fun x=>x=(q1,q2,q3,q4,i,x.2.2.2.2.2.1,q5,q6)∧0≤x.2.2.2.2.2.1∧x.2.2.2.2.2.1≤(q4.length:Int)) (fun x=>(q4.length-x.2.2.2.2.2.1:Int).toNat) ?_ _ _ ⟨rfl,by simp,by simp⟩ (by simp only;omega)
  rintro again2 ⟨z1,z2,z3,z4,z7,k,z5,z6⟩ ⟨e,k1,k2⟩ ih2
  dsimp only at e k1 k2 ih2
  simp only[Prod.mk.injEq] at e
  obtain⟨rfl,rfl,rfl,rfl,rfl, -,rfl,rfl⟩:=e
  unfold lD
  dsimp only
  refine aC (fun hk=>?_) (fun hk=>?_)
  ·have hk:=of_decide_eq_true hk
   rw[aI (k+1) (by omega)]
   have next:=ih2 (z1,z2,z3,z4,z7,k+1,z5,z6) ⟨rfl,by simp only;omega,by simp only;omega⟩ (by simp only;omega)
   refine mcall _ _ _ _ (fun x=>?_)
   refine aC (fun h=>absurd h (by simp)) (fun _=>?_)
   refine aC (fun _=>?_) (fun _=>next)
   refine ccall _ _ _ _ (fun x=>?_)
   exact aC (fun h=>absurd h (by simp)) (fun _=>next)
  ·rw[aI (z7+1) (by omega)]
   exact ih _ ⟨rfl,by simp only;omega,by simp only;omega⟩ (by simp only;omega)
 ·refine ccall _ _ _ _ (fun x=>?_)
  refine aC (fun _=>?_) (fun h=>absurd h (by simp))
  refine ccall _ _ _ _ (fun x=>?_)
  refine aC (fun _=>?_) (fun h=>absurd h (by simp))
  refine mcall _ _ _ _ (fun x=>?_)
  exact aE ⟨_,_,rfl,rfl,by simp[sP]⟩
theorem aq3(p:List UInt8)(a b:Int):aU Try.prog xq [.sl .u8 (.may false) p,.int .i64 a,.int .i64 b] (.bool true):=by
 obtain⟨r,h,rfl⟩:=asW p a b
 exact h
end Go.Proofs.Ytdpajabhmmmjoaa
end
noncomputable section
namespace Go.Proofs.Ytdpajabhmmmjoaa
open Go.ChangeShapes Go.WideShapes Go.AM
set_option autoImplicit false
set_option linter.unusedVariables false
set_option maxRecDepth 100000
theorem at8{α:Type}{p:Nat→α→Prop}:∀n,(∀i,i<n→∃x,p i x)→∃l:List α,l.length=n∧∀i x,l[i]? =some x→p i x
 |0,_=>⟨[],rfl,by simp⟩
 |n+1,h=>by
  obtain⟨l,h1,h2⟩:=at8 n fun i hi=>h i (by omega)
  obtain⟨x,hx⟩:=h n (by omega)
  refine⟨l++[x],by simp[h1],fun i y hy=>?_⟩
  rcases Nat.lt_or_ge i l.length with hi|hi
  ·rw[List.getElem?_append_left hi] at hy
   exact h2 i y hy
  ·rw[List.getElem?_append_right hi] at hy
   have h3:i=n:=by
    have:=(List.getElem?_eq_some_iff.1 hy).1
    simp at this
    omega
   subst h3
   have:x=y:=by simpa [h1] using hy
   exact this▸hx
section
variable{H:Type}{enc:TypeId×Value→H}{w:World}{base:Nat}{held:Bool}
theorem aw1(k:EK){t e:TypeId}(ht:Try.prog.underlying t=some (.slice e))(hc:Try.prog.cellsOf e=k.sz){n:Nat}{cs:List Value}{x:DataW H×List MemPlace}
  (elem:∀m,m+1=n→∀es y,DataW.trod enc Try.prog w base (fun _=>true) held m e es=some y→∃x:Ty k,∀(j:Nat) v u,(AM.enc k x)[j]? =some v→es[j]? =some u→VRel (sK w).I id 0 w v u)
  (h:DataW.trod enc Try.prog w base (fun _=>true) held n t cs=some x):∃(xs:List (Ty k))(cv:Value),cs=[cv]∧VRel (sK w).I id 0 w (.sl k (.may false) xs) cv:=by
 have hk0:0<k.sz:=by cases k<;>simp[EK.sz]
 rcases DataW.trod_slice ht h with⟨rfl, -⟩|⟨a,len,cap,elems,rest,m,rfl,rfl, -,hb,hl,hm,hlen,hel,hsp, -⟩
 ·exact⟨[],_,rfl,.sln _ _⟩
 obtain⟨hrl,hr⟩:=hsp rfl
 rw[hc] at hel hr
 by_cases h0:cap=0
 ·subst h0
  obtain rfl:len=0:=by omega
  exact⟨[],_,rfl,.sle _ _ a (by simp)⟩
 have first:∃es y,w.cells? base (a.add (0*k.sz)) k.sz=some es∧DataW.trod enc Try.prog w base (fun _=>true) held m e es=some y:=by
  by_cases hl0:len=0
  ·have h1:=hr 0 (by omega)
   rw[hl0] at h1
   have h2:0<rest.length:=by omega
   rw[List.getElem?_eq_getElem h2,Option.bind_eq_some_iff] at h1
   obtain⟨es,h3,h4⟩:=h1
   exact⟨es,_,h3,h4⟩
  ·have h1:=hel 0 (by omega)
   have h2:0<elems.length:=by omega
   rw[List.getElem?_eq_getElem h2,Option.bind_eq_some_iff] at h1
   obtain⟨es,h3,h4⟩:=h1
   exact⟨es,_,h3,h4⟩
 have hspot:a.spot=none:=by
  obtain⟨es,y,h1, -⟩:=first
  obtain⟨h2,h3,h4⟩:=World.cells?_some h1
  have h5:=h4 0 hk0
  rw[List.getElem?_eq_getElem (by omega)] at h5
  simp only[Nat.zero_mul,Addr.add,if_true,World.cell?] at h5
  split at h5
  ·cases hs:a.spot with
   |none=>rfl
   |some s=>simp[hs] at h5
  ·cases h5
 obtain⟨b,off,spot⟩:=a
 simp only at hspot
 subst hspot
 obtain⟨xs,hxl,hxs⟩:=at8 (α:=Ty k) (p:=fun i x=>∀j v,(AM.enc k x)[j]? =some v→∃u,w.cell? ⟨b,off+i*k.sz+j,none⟩=some u∧VRel (sK w).I id 0 w v u) len (by
  intro i hi
  have h1:=hel i hi
  rw[List.getElem?_eq_getElem (by omega),Option.bind_eq_some_iff] at h1
  obtain⟨es,h2,h3⟩:=h1
  obtain⟨x,hx⟩:=elem m rfl es _ h3
  obtain⟨h4,h5,h6⟩:=World.cells?_some h2
  refine⟨x,fun j v hv=>?_⟩
  have hj:j<k.sz:=by
   have:=(List.getElem?_eq_some_iff.1 hv).1
   rwa [cJ] at this
  have h7:=h6 j hj
  rw[List.getElem?_eq_getElem (by omega),add_plain,add_plain] at h7
  exact⟨_,h7,hx j v _ hv (List.getElem?_eq_getElem (by omega))⟩)
 refine⟨xs,_,rfl,.sl k (.may false) xs b off len cap hxl (by omega) (by unfold maxLen at hm;unfold eB;exact hm) (by simp) (fun i j=>(w.cell? ⟨b,off+i*k.sz+j,none⟩).getD undef) ?_ ?_ ?_⟩
 ·intro i x j h1 h2
  obtain⟨u,h3, -⟩:=hxs i x h1 j _ (List.getElem?_eq_getElem h2)
  show (w.cell? _).isSome=true
  rw[h3];rfl
 ·intro i x j h1 h2
  obtain⟨u,h3, -⟩:=hxs i x h1 j _ (List.getElem?_eq_getElem h2)
  rw[h3];rfl
 ·intro i x j v h1 h2
  obtain⟨u,h3,h4⟩:=hxs i x h1 j v h2
  rw[h3];exact h4
theorem auY{n:Nat}{cs:List Value}{x:DataW H×List MemPlace}(h:DataW.trod enc Try.prog w base (fun _=>true) held n 22 cs=some x):
  ∃(xs:List UInt8)(cv:Value),cs=[cv]∧VRel (sK w).I id 0 w (.sl .u8 (.may false) xs) cv:=
 aw1 .u8 Try.underlying22 (by kernel_rfl) (fun m hm es y hy=>by
  obtain⟨c,rfl, -,hw⟩:=DataW.trod_int Try.underlying5 hy
  have hr:0≤c∧c≤255:=by simpa [Lit.wf,IntKind.min,IntKind.max,IntKind.signed,IntKind.bits] using hw
  refine⟨UInt8.ofNat c.toNat,fun j v u h1 h2=>?_⟩
  obtain rfl:j=0:=by
   have:=(List.getElem?_eq_some_iff.1 h2).1
   simpa using this
  simp only[AM.enc,List.getElem?_cons_zero,Option.some.injEq] at h1 h2
  subst h1 h2
  have:((UInt8.ofNat c.toNat).toNat:Int)=c:=by
   rw[UInt8.toNat_ofNat']
   omega
  rw[this]
  exact .int _ _ (by simpa [Lit.wf] using hw)) h
theorem auZ{r:Reach}{b0:Nat}{v:Value}{d:DataW H}{p:List MemPlace}(hv:Value.okWide Try.prog w r b0 22 v)(h:DataW.Trod enc Try.prog w base (fun _=>true) held 22 v d p):
  ∃xs:List UInt8,VRel (sK w).I id 0 w (.sl .u8 (.may false) xs) v:=by
 obtain⟨a,len,cap,rfl⟩:=okWide_slice Try.underlying22 hv
 obtain⟨fuel,hf⟩:=h
 obtain⟨xs,cv,e,hr⟩:=auY hf
 have e:[Value.slice a len cap]=[cv]:=e
 cases e
 exact⟨xs,hr⟩
end
end Go.Proofs.Ytdpajabhmmmjoaa
end
