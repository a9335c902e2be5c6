import Derived.KernelRfl
import Derived.Test.YtdpajabhmmmjoaaGreatZ02
import Derived.Test.YtdpajabhmmmjoaaGreatZ03
import Derived.Test.YtdpajabhmmmjoaaGreatZ04
import Derived.Test.YtdpajabhmmmjoaaGreatZ05
noncomputable section
namespace Go.Proofs.YtdpajabhmmmjoaaGreat
open Go.AM
set_option autoImplicit false
set_option linter.unusedVariables false
set_option linter.unusedSimpArgs false
set_option maxRecDepth 100000
theorem aBK(deep:Int)(hd:1≤deep∧deep≤20)(hT:ac8 (deep+1))(ts:List aA)(e c0 c1:Int)(c2:List UInt8)(c3:List aH)(c4:List (List UInt8))(k:Int)(space:List UInt8)
  (h:ts.length≤60) (hn:bx (.mk c0 c1 c2 c3 c4)) (hs:(space.length:Int)≤202*deep) (hk:k≠14) (hk2:1≤k∧k≤14):∃r,kn ts e c0 c1 c2 c3 c4 k space deep r:=by
 obtain⟨k1,k2,k3,k4,k5,k6⟩:=hn.kids
 apply ahy 2000
 unfold zP jt
 have last:∀(sp:List UInt8)(e2 o0:Int)(o1:List UInt8)(o2:List (List UInt8)),(sp.length:Int)≤202*deep+201→(e2=0→e=0)→o0=k→Tot (fQ 2000 (k,sp,deep,c0,c1,c2,c3,c4,ts,e2,o0,o1,o2,0,[],false,[],0,[],[])) (fun z=>∃(y0:Int)(y1:List aA)(y2:Int)(rest:List aJ),z.1.dimR=.int .i64 y0∧z.2=some [.ul .atype y1,.int .i64 y2]::rest∧gQ ts e c0 c1 c2 c3 c4 k space deep (y0,y1,y2)):=by
  intro sp e2 o0 o1 o2 hsp he ho
  unfold fQ
  dsimp only
  subst ho
  have tk:o0≠10→iR (ts.length+1) ⟨o0,o1,o2,0,[],false,[],0,[],[]⟩:=fun h10=>⟨by simp only;omega,by simp,by simp,by simp,by simp,by simp,by simp,fun h=>absurd h hk,hk2,fun h=>absurd h h10,fun _=>rfl⟩
  repeat' (first|(with_reducible refine aD ?_ ?_<;>(intro hb;(try simp only[bnl] at hb);(try revert hb;intro _)))|with_reducible refine aP ?_ ?_|with_reducible refine aG ?_|fail)
  ·rename_i h2
   exact⟨_,_,_,_,rfl,rfl,bX.stuck (Nat.le_refl _) h h2,fun h=>absurd h h2⟩
  rename_i h2
  refine aF (am6 _ _ _ _ _ _ _ _ _ _ _ _ h) ?_
  rintro r ⟨-,hr⟩
  have ho:=nX.add h hr
  clear hr
  obtain⟨a,ts1,e1⟩:=r
  dsimp only at ho ⊢
  have hr1:e1=0→0≤a∧a<ts1.length:=fun h0=>ho.range h0
  have wk:∀{ts':List aA}{e':Int},bX ts e2 ts' e'→bX ts e ts' e':=fun g=>g.weak he
  have wstuck:∀{c:Int},c≠0→bX ts e ts1 (if e1=0 then c else e1):=fun hc=>bX.stuck ho.len ho.cap (nz hc)
  repeat' (first|(with_reducible refine aD ?_ ?_<;>(intro hb;(try simp only[bnl] at hb);(try revert hb;intro _)))|with_reducible refine aP ?_ ?_|with_reducible refine aG ?_|(refine aF (aAG deep hd hT _ _ _ _ _ _ _ _ _ ho.cap hn hsp hr1) ?_;rintro⟨ts3,e3⟩ ⟨-,ts2,g1,g2⟩;dsimp only at g1 g2 ⊢)|(refine aF (azi _ _ _ _ _ _ _ _ hn hr1) ?_;rintro⟨ts3,e3⟩ ⟨-,g1,g2⟩;dsimp only at g1 g2 ⊢)|fail)
  ·rename_i h9
   have h10:o0≠10:=by omega
   have tk:=tk h10
   have ho2:=ho.more g1
   have gk:=ho2.kept tk
   refine⟨_,_,_,_,rfl,rfl,?_⟩
   rcases g2 with rfl|⟨l,l1,l2,t,t1,rfl⟩
   ·exact⟨wk gk,fun h0=>ho2.range h0⟩
   ·by_cases h0:e3=0
    ·rw[ho2.get h0] at t1
     obtain rfl:=Option.some.inj t1
     have hr:=ho2.range h0
     refine⟨wk (ho2.done h0 ⟨by simp only;omega,l2,l1,by simp,by simp,by simp,by simp,tk.done,tk.kind,tk.enum,fun h=>absurd h9 h⟩),fun _=>?_⟩
     simpa using hr
    ·exact⟨bX.stuck (by simpa using gk.len) (by simpa using gk.cap) h0,fun h=>absurd h h0⟩
  ·refine⟨_,_,_,_,rfl,rfl,?_⟩
   by_cases h0:e3=0
   ·obtain⟨l,h',d,l0,l1,t,t1,rfl⟩:=g2.2 h0
    have h1:=g1 h0
    rw[ho.get h1] at t1
    obtain rfl:=Option.some.inj t1
    have hr:=ho.range h1
    have:=ho.done h1 (t:=⟨o0,o1,o2,0,l,h',d,0,[],[]⟩) ⟨by simp only;omega,by simp,by simp,by simp,by simp,l1,by simp,fun h=>absurd h hk,hk2,fun _=>l0,fun _=>rfl⟩
    refine⟨wk (by rw[h0];rw[h1] at this;exact this),fun _=>?_⟩
    simpa using hr
   ·have:=g2.1 h0
    subst this
    exact⟨bX.stuck ho.len ho.cap h0,fun h=>absurd h h0⟩
  ·refine aF (qB _ _ _ _ _ _ (by omega)) ?_
   rintro r ⟨-,hr⟩
   clear hr
   repeat' (first|(with_reducible refine aD ?_ ?_<;>(intro hb;(try simp only[bnl] at hb);(try revert hb;intro _)))|with_reducible refine aP ?_ ?_|with_reducible refine aG ?_|(refine aF (dx _ _ _) ?_;rintro _ ⟨-,rfl⟩;try dsimp only)|fail)
   all_goals first|exact⟨_,_,_,_,rfl,rfl,wstuck (by decide),fun h=>absurd h (nz (by decide))⟩|(have:=hr1 (by assumption);first|(simp only[bnl,lnl];done)|(simp only[bnl,lnl];omega))|(first|(simp only[bnl,lnl];done)|(simp only[bnl,lnl];omega))|skip
   ·rename_i hz0 hz1 h0
    have hr:=ho.range h0
    have tk:=tk (by assumption)
    rw[qO (ho.get h0)]
    refine⟨_,_,_,_,rfl,rfl,wk (ho.done h0 ⟨by simp only;omega,by simp,by simp,by simp,by simp,by simp,by simp only;omega,tk.done,tk.kind,tk.enum,fun _=>rfl⟩),fun _=>?_⟩
    simpa using hr
   ·rename_i h0
    exact⟨_,_,_,_,rfl,rfl,wk (ho.kept (tk (by assumption))),fun h=>absurd h h0⟩
 have mid:∀(sp:List UInt8)(e2:Int)(nm:List UInt8)(al:List (List UInt8)),(sp.length:Int)≤202*deep+201→(e2=0→e=0)→du al→al.length≤100→Tot (aS 2000 (fR 2000) (k,sp,deep,c0,c1,c2,c3,c4,al,0,ts,e2,k,nm,[],0,[],false,[],0,[],[])) (fun z=>∃(y0:Int)(y1:List aA)(y2:Int)(rest:List aJ),z.1.dimR=.int .i64 y0∧z.2=some [.ul .atype y1,.int .i64 y2]::rest∧gQ ts e c0 c1 c2 c3 c4 k space deep (y0,y1,y2)):=by
  intro sp e2 nm al hsp he hal hal2
  refine bm (fun x=>match x with|(k',sp',dp,d0,d1,d2,d3,d4,al',i,ts',e3,o0,o1,o2,o3,o4,o5,o6,o7,o8,o9)=>k'=k∧sp'=sp∧dp=deep∧d0=c0∧d1=c1∧d2=c2∧d3=c3∧d4=c4∧al'=al∧0≤i∧i≤(al.length:Int)∧ts'=ts∧(e3=0→e=0)∧o0=k∧(o2.length:Int)=i∧o3=0∧o4=[]∧o5=false∧o6=[]∧o7=0∧o8=[]∧o9=[]) (fun x=>((al.length:Int)-x.2.2.2.2.2.2.2.2.2.1).toNat) ?_ _ _
   ⟨rfl,rfl,rfl,rfl,rfl,rfl,rfl,rfl,rfl,by simp,by simp,rfl,he,rfl,rfl,rfl,rfl,rfl,rfl,rfl,rfl,rfl⟩ (by simp;omega)
  rintro again ⟨k',sp',dp,d0,d1,d2,d3,d4,al',i,ts',e3,o0,o1,o2,o3,o4,o5,o6,o7,o8,o9⟩ ⟨rfl,rfl,rfl,rfl,rfl,rfl,rfl,rfl,rfl,i1,i2,rfl,i3,rfl,i4,rfl,rfl,rfl,rfl,rfl,rfl,rfl⟩ ih
  dsimp only at ih
  have ew:i<al'.length→IntKind.i64.wrap (i+1)=i+1:=fun h=>aI (i+1) (by omega)
  have next:∀(e5:Int)(w:List UInt8),i<al'.length→(e5=0→e=0)→Tot (again (o0,sp',dp,d0,d1,d2,d3,d4,al',IntKind.i64.wrap (i+1),ts',e5,o0,o1,o2++[w],0,[],false,[],0,[],[])) _:=fun e5 w hi he5=>ih (o0,sp',dp,d0,d1,d2,d3,d4,al',IntKind.i64.wrap (i+1),ts',e5,o0,o1,o2++[w],0,[],false,[],0,[],[])
   (by
    simp only[ew hi,List.length_append,List.length_cons,List.length_nil]
    exact⟨trivial,trivial,trivial,trivial,trivial,trivial,trivial,trivial,trivial,by omega,by omega,trivial,he5,trivial,by omega,trivial,trivial,trivial,trivial,trivial,trivial,trivial⟩) (by simp only[ew hi];omega)
  have lst:∀e4:Int,(e4=0→e=0)→Tot (fQ 2000 (o0,sp',dp,d0,d1,d2,d3,d4,ts',e4,o0,o1,o2,0,[],false,[],0,[],[])) _:=fun e4 h4=>last sp' e4 o0 o1 o2 hsp h4 rfl
  unfold fR lv
  dsimp only
  have wn:=aiX hal i.toNat
  repeat' (first|(with_reducible refine aD ?_ ?_<;>(intro hb;(try simp only[bnl] at hb);(try revert hb;intro _)))|with_reducible refine aP ?_ ?_|with_reducible refine aG ?_|(refine aF (dx _ _ _) ?_;rintro _ ⟨-,rfl⟩;try dsimp only)|(refine aF (auj _ _ _ _ wn (by omega)) ?_;rintro⟨w,ts4,e4⟩ ⟨-,w1,rfl,w2⟩;dsimp only at w1 w2 ⊢)|(refine aF (axH _ _ _ h) ?_;rintro⟨b,c,ts4,e4⟩ ⟨-,hq,hf⟩;simp only[Prod.mk.injEq] at hq;obtain⟨rfl,rfl⟩:=hq;dsimp only at hf ⊢)|fail)
  all_goals first|(first|(simp only[bnl,lnl];done)|(simp only[bnl,lnl];omega))|exact next _ _ (by omega) (fun h=>i3 (w2 h))|exact lst _ i3|exact lst _ (fun h=>absurd h (nz (by decide)))|skip
 refine aF (apN _ _ _ _ _ _ _ _ _ hn) ?_
 rintro⟨nm,ts',e1⟩ ⟨-,w1,rfl,w2⟩
 dsimp only at w1 w2 ⊢
 refine aF (qB _ _ _ _ _ _ (by omega)) ?_
 rintro r ⟨-,hr⟩
 have hg:=vm (k:=c0) (names:=c4) (name:=[110,97,109,101,115,112,97,99,101]) k6
 simp only[dA] at hr
 rw[←hr] at hg
 have g1:=hg.kids.1
 have first:∀(sp:List UInt8)(e2:Int),(sp.length:Int)≤202*deep→(e2=0→e=0)→Tot (mo 2000 (k,sp,deep,c0,c1,c2,c3,c4,nm,ts',e2)) (fun z=>∃(y0:Int)(y1:List aA)(y2:Int)(rest:List aJ),z.1.dimR=.int .i64 y0∧z.2=some [.ul .atype y1,.int .i64 y2]::rest∧gQ ts' e c0 c1 c2 c3 c4 k space deep (y0,y1,y2)):=by
  intro sp e2 hsp he
  unfold mo lw
  dsimp only
  repeat' (first|(with_reducible refine aD ?_ ?_<;>(intro hb;(try simp only[bnl] at hb);(try revert hb;intro _)))|with_reducible refine aP ?_ ?_|with_reducible refine aG ?_|fail)
  ·rename_i h2
   exact⟨_,_,_,_,rfl,rfl,bX.stuck (Nat.le_refl _) h h2,fun h=>absurd h h2⟩
  refine aF (auj _ _ _ _ w1 (by omega)) ?_
  rintro⟨w,ts4,e4⟩ ⟨-,x1,rfl,x2⟩
  dsimp only at x1 x2 ⊢
  refine aF (aAF _ (by omega)) ?_
  rintro b ⟨-,hb⟩
  dsimp only[mI] at hb ⊢
  refine aF (amP _ _ _ _ _ _ _ _ hn) ?_
  rintro⟨al,is,ts6,e7⟩ ⟨-,t1,t2,rfl,t3⟩
  dsimp only at t1 t2 t3 ⊢
  exact mid _ _ _ _ (by omega) (fun h=>he (x2 (t3 h))) t2 t1
 repeat' (first|(with_reducible refine aD ?_ ?_<;>(intro hb;(try simp only[bnl] at hb);(try revert hb;intro _)))|with_reducible refine aP ?_ ?_|with_reducible refine aG ?_|(refine aF (dx _ _ _) ?_;rintro _ ⟨-,rfl⟩;try dsimp only)|fail)
 ·exact first _ _ (by omega) (fun h=>absurd h (nz (by decide)))
 ·exact first _ _ (by omega) w2
 ·exact first _ _ hs w2
theorem aul(deep:Int)(hd:1≤deep∧deep≤21)(hT:deep≤20→ac8 (deep+1)):ac8 deep:=by
 intro ts e c0 c1 c2 c3 c4 space h hn hs
 obtain⟨k1,k2,k3,k4,k5,k6⟩:=hn.kids
 apply aiW 2000
 unfold aam kz
 dsimp only
 have stuck:∀{c:Int},c≠0→bX ts e ts (if e=0 then c else e):=fun hc=>bX.stuck (Nat.le_refl _) h (nz hc)
 repeat' (first|(with_reducible refine aD ?_ ?_<;>(intro hb;(try simp only[bnl] at hb);(try revert hb;intro _)))|with_reducible refine aP ?_ ?_|with_reducible refine aG ?_|(refine aF (dx _ _ _) ?_;rintro _ ⟨-,rfl⟩;try dsimp only)|(refine aF (auk _ _ _ _ h k1 (by omega)) ?_;rintro⟨a,ts',e'⟩ ⟨-,g1,g2⟩;dsimp only at g1 g2 ⊢)|(refine aF (aBJ deep (by omega) (hT (by omega)) _ _ _ _ _ _ _ _ h hn hs) ?_;rintro⟨a,ts',e'⟩ ⟨-,g1,g2⟩;dsimp only at g1 g2 ⊢)|fail)
 all_goals first|exact⟨_,_,_,_,rfl,rfl,stuck (by decide),fun h=>absurd h (nz (by decide))⟩|exact⟨_,_,_,_,rfl,rfl,g1,g2⟩|skip
 ·rename_i he
  exact⟨_,_,_,_,rfl,rfl,bX.refl h,fun h=>absurd h he⟩
 rename_i he hdd _ _ _
 have hT:=hT (by omega)
 have ed:IntKind.i64.wrap (deep+1)=deep+1:=aI (deep+1) (by omega)
 refine aF (qB _ _ _ _ _ _ (by omega)) ?_
 rintro r ⟨-,hr⟩
 have hg:=vm (k:=c0) (names:=c4) (name:=[116,121,112,101]) k6
 simp only[dA] at hr
 rw[←hr] at hg
 have hgk:=hg.kids
 clear hr
 obtain⟨d0,d1,d2,d3,d4,d5⟩:=r
 dsimp only at hg hgk ⊢
 have part:∀(word:List UInt8)(k a:Int)(ts1:List aA)(e1:Int),k≠14→(1≤k∧k≤14)→k≠10→nX ts e ⟨k,[],[],0,[],false,[],0,[],[]⟩ a ts1 e1→Tot (jw 2000 (space,deep,c0,c1,c2,c3,c4,a,word,ts1,e1)) (fun z=>∃(y0:Int)(y1:List aA)(y2:Int)(rest:List aJ),z.1.dimR=.int .i64 y0∧z.2=some [.ul .atype y1,.int .i64 y2]::rest∧fN ts e c0 c1 c2 c3 c4 space deep (y0,y1,y2)):=by
  intro word k a ts1 e1 hk hk2 hk10 ho
  unfold jw
  dsimp only
  refine aF (qB _ _ _ _ _ _ (by omega)) ?_
  rintro r ⟨-,hr⟩
  have hg:=vm (k:=c0) (names:=c4) (name:=word) k6
  simp only[dA] at hr
  rw[←hr] at hg
  clear hr
  repeat' (first|(with_reducible refine aD ?_ ?_<;>(intro hb;(try simp only[bnl] at hb);(try revert hb;intro _)))|with_reducible refine aP ?_ ?_|with_reducible refine aG ?_|(refine aF (dx _ _ _) ?_;rintro _ ⟨-,rfl⟩;try dsimp only)|fail)
  ·exact⟨_,_,_,_,rfl,rfl,bX.stuck ho.len ho.cap (nz (by decide)),fun h=>absurd h (nz (by decide))⟩
  simp only[ed]
  refine aF (hT _ _ _ _ _ _ _ _ ho.cap hg (by omega)) ?_
  rintro⟨i,ts2,e2⟩ ⟨-,x1,x2⟩
  dsimp only at x1 x2 ⊢
  have ho2:=ho.more x1
  have hr2:e2=0→0≤a∧a<ts2.length:=fun h0=>ho2.range h0
  repeat' (first|(with_reducible refine aD ?_ ?_<;>(intro hb;(try simp only[bnl] at hb);(try revert hb;intro _)))|with_reducible refine aP ?_ ?_|with_reducible refine aG ?_|fail)
  all_goals first|(have:=hr2 (by assumption);first|(simp only[bnl,lnl];done)|(simp only[bnl,lnl];omega))|(first|(simp only[bnl,lnl];done)|(simp only[bnl,lnl];omega))|skip
  ·rename_i h0
   have hr:=ho2.range h0
   rw[qO (ho2.get h0)]
   refine⟨_,_,_,_,rfl,rfl,ho2.done h0 ⟨x2 h0,by simp,by simp,by simp,by simp,by simp,by simp,fun h=>absurd h hk,hk2,fun h=>absurd h hk10,fun _=>rfl⟩,fun _=>?_⟩
   simpa using hr
  ·rename_i h0
   exact⟨_,_,_,_,rfl,rfl,ho2.stuck h0,fun h=>absurd h h0⟩
 have txt:Tot (jx 2000 (space,d0,d1,d2,d3,d4,ts,e)) (fun z=>∃(y0:Int)(y1:List aA)(y2:Int)(rest:List aJ),z.1.dimR=.int .i64 y0∧z.2=some [.ul .atype y1,.int .i64 y2]::rest∧fN ts e c0 c1 c2 c3 c4 space deep (y0,y1,y2)):=by
  unfold jx
  dsimp only
  refine aF (auk _ _ _ _ h hgk.1 (by omega)) ?_
  rintro⟨a,ts',e'⟩ ⟨-,g1,g2⟩
  exact aG ⟨_,_,_,_,rfl,rfl,g1,g2⟩
 have one:∀b:Bool,(b=true→d2=[97,114,114,97,121]∨d2=[109,97,112])→Tot (jy 2000 (space,deep,c0,c1,c2,c3,c4,d0,d1,d2,d3,d4,b,ts,e)) (fun z=>∃(y0:Int)(y1:List aA)(y2:Int)(rest:List aJ),z.1.dimR=.int .i64 y0∧z.2=some [.ul .atype y1,.int .i64 y2]::rest∧fN ts e c0 c1 c2 c3 c4 space deep (y0,y1,y2)):=by
  intro b hb
  unfold jy mt
  dsimp only
  refine aD (fun h1=>?_) (fun h1=>txt)
  refine aF (apE _) ?_
  rintro(k:Int) ⟨-,hk1,hk2,hk3,hk4,hk5⟩
  have hb:=hb h1
  have hk:k≠14:=fun h=>by have:=hk3 h;subst this;revert hb;decide
  have hk10:k≠10:=fun h=>by have:=hk5 h;subst this;revert hb;decide
  have hk0:k≠0:=fun h=>by
   rcases hb with hb|hb
   ·exact hk4 h 11 (by decide) hb.symm
   ·exact hk4 h 12 (by decide) hb.symm
  refine aF (am6 _ _ _ _ _ _ _ _ _ _ _ _ h) ?_
  rintro r ⟨-,hr⟩
  have ho:=nX.add h hr
  clear hr
  obtain⟨a,ts1,e1⟩:=r
  dsimp only at ho ⊢
  repeat' (first|(with_reducible refine aD ?_ ?_<;>(intro hb;(try simp only[bnl] at hb);(try revert hb;intro _)))|with_reducible refine aP ?_ ?_|with_reducible refine aG ?_|fail)
  all_goals exact part _ k _ _ _ hk (by omega) hk10 ho
 have zero:∀b:Bool,(b=true→d2=[114,101,99,111,114,100]∨d2=[101,110,117,109]∨d2=[102,105,120,101,100])→Tot (nq 2000 (space,deep,c0,c1,c2,c3,c4,d0,d1,d2,d3,d4,d2,b,ts,e)) (fun z=>∃(y0:Int)(y1:List aA)(y2:Int)(rest:List aJ),z.1.dimR=.int .i64 y0∧z.2=some [.ul .atype y1,.int .i64 y2]::rest∧fN ts e c0 c1 c2 c3 c4 space deep (y0,y1,y2)):=by
  intro b hb
  unfold nq mu
  dsimp only
  refine aD (fun h1=>?_) (fun h1=>aD (fun h2=>one _ fun _=>?_) (fun h2=>one _ fun h3=>?_))
  ·refine aF (apE _) ?_
   rintro(k:Int) ⟨-,hk1,hk2,hk3,hk4,hk5⟩
   have hb:=hb h1
   have hk:k≠14:=fun h=>by have:=hk3 h;subst this;revert hb;decide
   have hk0:k≠0:=fun h=>by
    rcases hb with hb|hb|hb
    ·exact hk4 h 8 (by decide) hb.symm
    ·exact hk4 h 9 (by decide) hb.symm
    ·exact hk4 h 10 (by decide) hb.symm
   refine aF (aBK deep (by omega) hT _ _ _ _ _ _ _ _ _ h hn hs hk (by omega)) ?_
   rintro⟨a,ts',e'⟩ ⟨-,g1,g2⟩
   exact aG ⟨_,_,_,_,rfl,rfl,g1,g2⟩
  ·exact .inl (of_decide_eq_true h2)
  ·exact .inr (of_decide_eq_true h3)
 repeat' (first|(with_reducible refine aD ?_ ?_<;>(intro hb;(try simp only[bnl] at hb);(try revert hb;intro _)))|with_reducible refine aP ?_ ?_|with_reducible refine aG ?_|(refine aF (dx _ _ _) ?_;rintro _ ⟨-,rfl⟩;try dsimp only)|fail)
 ·exact⟨_,_,_,_,rfl,rfl,stuck (by decide),fun h=>absurd h (nz (by decide))⟩
 ·simp only[ed]
  refine aF (hT _ _ _ _ _ _ _ _ h hg (by omega)) ?_
  rintro⟨a,ts',e'⟩ ⟨-,g1,g2⟩
  exact aG ⟨_,_,_,_,rfl,rfl,g1,g2⟩
 all_goals refine zero _ fun hb=>?_
 ·exact .inl (by first|assumption|exact of_decide_eq_true hb)
 ·exact .inr (.inl (by first|assumption|exact of_decide_eq_true hb))
 ·exact .inr (.inr (by first|assumption|exact of_decide_eq_true hb))
theorem ax9:∀(n:Nat)(deep:Int),deep+n=21→1≤deep→ac8 deep
 |0,deep,h,h1=>aul deep (by omega) (fun h'=>by omega)
 |n+1,deep,h,h1=>aul deep (by omega) (fun _=>ax9 n (deep+1) (by omega) (by omega))
theorem aCC(c0 c1:Int)(c2:List UInt8)(c3:List aH)(c4:List (List UInt8))(hn:bx (.mk c0 c1 c2 c3 c4)):∃r,tY c0 c1 c2 c3 c4 r:=by
 apply atI 1
 unfold akb aka
 dsimp only
 refine aF (ax9 20 1 (by omega) (by omega) _ _ _ _ _ _ _ _ (by simp) hn (by simp)) ?_
 rintro⟨a,ts',e'⟩ ⟨-,g1,g2⟩
 dsimp only at g1 g2 ⊢
 repeat' (first|(with_reducible refine aD ?_ ?_<;>(intro hb;(try simp only[bnl] at hb);(try revert hb;intro _)))|with_reducible refine aP ?_ ?_|with_reducible refine aG ?_|fail)
 ·rename_i h0
  exact⟨_,_,_,rfl,rfl,fun h=>absurd h h0⟩
 ·rename_i h0
  exact⟨_,_,_,rfl,rfl,fun _=>by have g2:=g2 h0;rw[h0] at g1;exact g1.sch (by omega)⟩
end Go.Proofs.YtdpajabhmmmjoaaGreat
end
noncomputable section
namespace Go.Proofs.YtdpajabhmmmjoaaGreat
open Go.AM
set_option autoImplicit false
set_option linter.unusedVariables false
set_option linter.unusedSimpArgs false
set_option maxRecDepth 100000
theorem ft(k n:Int)(s:List UInt8)(h:s.length≤100):bx (.mk k n s [] []):=.mk _ _ _ _ _ h (by simp) (by simp) (by simp) (by simp) (by simp)
theorem ahD(k n:Int)(l:List aH)(h:l.length≤8)(hl:∀c∈l,bx c)(hk:k≠6):bx (.mk k n [] l []):=.mk _ _ _ _ _ (by simp) h (by simp) (by simp) (fun h=>absurd h hk) hl
theorem aiY(k n:Int)(l:List aH)(names:List (List UInt8))(hn:names.length=l.length)(h:l.length≤8)(hs:du names)(hl:∀c∈l,bx c):bx (.mk k n [] l names):=.mk _ _ _ _ _ (by simp) h (by omega) hs (fun _=>hn) hl
theorem am7{l:List (List UInt8)}(h:du l)(i:Nat):(l.getD i (aC .str)).length≤100:=aiX h i
theorem azj(a:List UInt8)(n c0 c1:Int)(c2:List UInt8)(c3:List aH)(c4:List (List UInt8))(hp:eH a n)(hn:bx (.mk c0 c1 c2 c3 c4)):∃r,iS a n c0 c1 c2 c3 c4 r:=by
 obtain⟨k1,k2,k3,k4,k5,k6⟩:=hn.kids
 apply afQ 1
 unfold yl iC
 dsimp only
 have one:∀(n' x0 x1:Int)(x2:List UInt8)(x3:List aH)(x4:List (List UInt8)),eH a n'→Tot (ic 1 (c0,c1,c2,c3,c4,a,n',x0,x1,x2,x3,x4)) (fun z=>∃(y0 y1:Int)(y2:List UInt8)(y3:List aH)(y4:List (List UInt8))(y5:List UInt8)(y6:Int)(rest:List aJ),z.1.dimR=.agg [.int .i64 y0,.int .i64 y1,.str y2,.sl .jnode (.may false) y3,.sl .str (.may false) y4]∧z.2=some [.sl .u8 (.may false) y5,.int .i64 y6]::rest∧gq a n c0 c1 c2 c3 c4 (y0,y1,y2,y3,y4,y5,y6)):=by
  intro n' x0 x1 x2 x3 x4 hp'
  unfold ic
  dsimp only
  repeat' (first|(with_reducible refine aD ?_ ?_<;>(intro hb;(try simp only[bnl] at hb);(try revert hb;intro _)))|with_reducible refine aP ?_ ?_|with_reducible refine aG ?_|(refine aF (azK _ _ _ _ _ _ k3 (by omega)) ?_;rintro r ⟨-,hr⟩;clear hr)|(refine aF (eO _) ?_;rintro _ ⟨-,rfl⟩;dsimp only)|fail)
  all_goals exact⟨_,_,_,_,_,_,_,_,rfl,rfl,ft _ _ _ (by simp),rfl,hp'⟩
 have two:∀(n' x0 x1:Int)(x2:List UInt8)(x3:List aH)(x4:List (List UInt8)),eH a n'→Tot (lh 1 (c0,c1,c2,c3,c4,a,n',x0,x1,x2,x3,x4)) (fun z=>∃(y0 y1:Int)(y2:List UInt8)(y3:List aH)(y4:List (List UInt8))(y5:List UInt8)(y6:Int)(rest:List aJ),z.1.dimR=.agg [.int .i64 y0,.int .i64 y1,.str y2,.sl .jnode (.may false) y3,.sl .str (.may false) y4]∧z.2=some [.sl .u8 (.may false) y5,.int .i64 y6]::rest∧gq a n c0 c1 c2 c3 c4 (y0,y1,y2,y3,y4,y5,y6)):=by
  intro n' x0 x1 x2 x3 x4 hp'
  unfold lh
  dsimp only
  repeat' (first|(with_reducible refine aD ?_ ?_<;>(intro hb;(try simp only[bnl] at hb);(try revert hb;intro _)))|with_reducible refine aP ?_ ?_|with_reducible refine aG ?_|(refine aF (azK _ _ _ _ _ _ k3 (by omega)) ?_;rintro r ⟨-,hr⟩;clear hr)|(refine aF (eO _) ?_;rintro _ ⟨-,rfl⟩;dsimp only)|fail)
  all_goals exact⟨_,_,_,_,_,_,_,_,rfl,rfl,ft _ _ _ (by simp),rfl,hp'⟩
 have zero:∀(b:Bool),Tot (lg 1 (c0,c1,c2,c3,c4,c2,b,a,n,0,0,[],[],[])) (fun z=>∃(y0 y1:Int)(y2:List UInt8)(y3:List aH)(y4:List (List UInt8))(y5:List UInt8)(y6:Int)(rest:List aJ),z.1.dimR=.agg [.int .i64 y0,.int .i64 y1,.str y2,.sl .jnode (.may false) y3,.sl .str (.may false) y4]∧z.2=some [.sl .u8 (.may false) y5,.int .i64 y6]::rest∧gq a n c0 c1 c2 c3 c4 (y0,y1,y2,y3,y4,y5,y6)):=by
  intro b
  unfold lg jZ
  dsimp only
  have w3:du ([([]:List UInt8),([100]:List UInt8),([195,164]:List UInt8)]:List (List UInt8)):=by simp[du]
  repeat' (first|(with_reducible refine aD ?_ ?_<;>(intro hb;(try simp only[bnl] at hb);(try revert hb;intro _)))|with_reducible refine aP ?_ ?_|with_reducible refine aG ?_|(refine aF (eY _ _ _ hp (by omega) (by omega)) ?_;rintro⟨m,a',n'⟩ ⟨-,m1,m2,rfl,m3⟩;dsimp only at m1 m2 m3 ⊢)|(refine aF (eO _) ?_;rintro _ ⟨-,rfl⟩;dsimp only)|fail)
  all_goals first|exact⟨_,_,_,_,_,_,_,_,rfl,rfl,ft _ _ _ (Nat.zero_le _),rfl,hp⟩|exact⟨_,_,_,_,_,_,_,_,rfl,rfl,ft _ _ _ (Nat.zero_le _),rfl,m3⟩|exact⟨_,_,_,_,_,_,_,_,rfl,rfl,ft _ _ _ (am7 w3 _),rfl,m3⟩|exact one _ _ _ _ _ _ hp|exact two _ _ _ _ _ _ hp|(first|(simp only[bnl,lnl];done)|(simp only[bnl,lnl];omega))|skip
 repeat' (first|(with_reducible refine aD ?_ ?_<;>(intro hb;(try simp only[bnl] at hb);(try revert hb;intro _)))|with_reducible refine aP ?_ ?_|with_reducible refine aG ?_|fail)
 all_goals first|exact zero _|exact two _ _ _ _ _ _ hp
def arE(deep:Int):Prop:=∀(a:List UInt8)(n:Int)(ns:List (List UInt8)),eH a n→du ns→ns.length+tW (5-deep.toNat)≤100000→∃r,ep a n ns deep r
theorem af2{deep:Int}(h:0≤deep∧deep≤4):tW (5-deep.toNat)=1+4*tW (5-(deep+1).toNat):=by
 have:5-deep.toNat=(5-(deep+1).toNat)+1:=by omega
 rw[this];rfl
theorem aAH(deep:Int)(hd:0≤deep∧deep≤3)(hT:arE (deep+1))(a:List UInt8)(n:Int)(ns:List (List UInt8))(hp:eH a n)(hns:du ns)(hl:ns.length+tW (5-deep.toNat)≤100000):∃r,lD a n ns deep r:=by
 have hN:=af2 (deep:=deep) (by omega)
 have ed:IntKind.i64.wrap (deep+1)=deep+1:=aI (deep+1) (by omega)
 apply aiH 1
 unfold aah aag
 dsimp only
 have w2:du ([([105,110,116]:List UInt8),([115,116,114,105,110,103]:List UInt8)]:List (List UInt8)):=by simp[du]
 refine aF (eO _) ?_
 rintro _ ⟨-,rfl⟩
 refine aF (eY _ _ _ hp (by omega) (by omega)) ?_
 rintro⟨m,a',n'⟩ ⟨-,m1,m2,rfl,m3⟩
 dsimp only at m1 m2 m3 ⊢
 refine aD (fun _=>?_) (fun _=>?_)
 ·refine aF (eY _ _ _ m3 (by omega) (by omega)) ?_
  rintro⟨m',a',n''⟩ ⟨-,m1',m2',rfl,m3'⟩
  dsimp only at m1' m2' m3' ⊢
  refine vck ?_
  refine aF (eO _) ?_
  rintro _ ⟨-,rfl⟩
  dsimp only
  refine vck ?_
  rw[ed]
  refine aF (hT _ _ _ m3' hns (by omega)) ?_
  rintro⟨t0,t1,t2,t3,t4,a'',n3,ns'⟩ ⟨-,h1,rfl,h3,h4,h5⟩
  dsimp only at h1 h3 h4 h5 ⊢
  have kids2:∀c∈([aH.mk 4 0 [110,117,108,108] [] []]++[aH.mk 4 0 (List.getD ([([105,110,116]:List UInt8),([115,116,114,105,110,103]:List UInt8)]:List (List UInt8)) (Int.toNat m') (aC .str)) [] []]),bx c:=by
   intro c hc
   simp only[List.cons_append,List.nil_append,List.mem_cons,List.not_mem_nil,or_false] at hc
   rcases hc with rfl|rfl
   ·exact ft _ _ _ (by simp)
   ·exact ft _ _ _ (am7 w2 _)
  repeat' (first|(with_reducible refine aD ?_ ?_<;>(intro hb;(try simp only[bnl] at hb);(try revert hb;intro _)))|with_reducible refine aP ?_ ?_|with_reducible refine aG ?_|fail)
  ·first|(simp only[bnl,lnl];done)|(simp only[bnl,lnl];omega)
  ·refine⟨_,_,_,_,_,_,_,_,_,rfl,rfl,ahD _ _ _ (by simp) ?_ (by simp),rfl,h3,h4,by simp only;omega⟩
   intro c hc
   rcases List.mem_append.1 hc with hc|hc
   ·exact kids2 c hc
   ·simp only[List.mem_singleton] at hc
    subst hc;exact h1
  ·exact⟨_,_,_,_,_,_,_,_,_,rfl,rfl,ahD _ _ _ (by simp) kids2 (by simp),rfl,h3,h4,by simp only;omega⟩
 ·rw[ed]
  refine aF (hT _ _ _ m3 hns (by omega)) ?_
  rintro⟨t0,t1,t2,t3,t4,a'',n3,ns'⟩ ⟨-,h1,rfl,h3,h4,h5⟩
  dsimp only at h1 h3 h4 h5 ⊢
  repeat' (first|(with_reducible refine aD ?_ ?_<;>(intro hb;(try simp only[bnl] at hb);(try revert hb;intro _)))|with_reducible refine aP ?_ ?_|with_reducible refine aG ?_|fail)
  ·first|(simp only[bnl,lnl];done)|(simp only[bnl,lnl];omega)
  ·refine⟨_,_,_,_,_,_,_,_,_,rfl,rfl,ahD _ _ _ (by simp) ?_ (by simp),rfl,h3,h4,by simp only;omega⟩
   intro c hc
   simp only[List.cons_append,List.nil_append,List.mem_cons,List.not_mem_nil,or_false] at hc
   rcases hc with rfl|rfl
   ·exact ft _ _ _ (by simp)
   ·exact h1
  ·refine⟨_,_,_,_,_,_,_,_,_,rfl,rfl,ahD _ _ _ (by simp) ?_ (by simp),rfl,h3,h4,by simp only;omega⟩
   intro c hc
   simp only[List.mem_singleton] at hc
   subst hc;exact ft _ _ _ (by simp)
theorem aot(deep:Int)(hd:0≤deep∧deep≤3)(hT:arE (deep+1))(a:List UInt8)(n:Int)(ns:List (List UInt8))(name:List UInt8)(hp:eH a n)(hns:du ns)(hnm:name.length≤100)(hl:ns.length+tW (5-deep.toNat)≤100001):∃r,gK a n ns name deep r:=by
 have hN:=af2 (deep:=deep) (by omega)
 have ed:IntKind.i64.wrap (deep+1)=deep+1:=aI (deep+1) (by omega)
 apply ahm 100
 unfold zJ ji
 refine aF (eY _ _ _ hp (by omega) (by omega)) ?_
 rintro⟨m,a',n'⟩ ⟨-,m1,m2,rfl,m3⟩
 dsimp only at m1 m2 m3 ⊢
 refine bm (fun x=>match x with|(nm,dp,i,m',a2,n2,ns2,x0,x1,x2,x3,x4,k0,k1,k2,l,k4)=>nm=name∧dp=deep∧0≤i∧i≤m∧m'=m∧a2=a'∧eH a' n2∧du ns2∧(ns2.length:Int)≤ns.length+i*tW (5-(deep+1).toNat)∧k0=5∧k1=0∧k2=[]∧k4=[]∧(l.length:Int)=i∧∀c∈l,bx c) (fun x=>(m-x.2.2.1).toNat) ?_ _ _
  ⟨rfl,rfl,by simp,m1,rfl,rfl,m3,hns,by simp,rfl,rfl,rfl,rfl,rfl,by simp⟩ (by simp only;omega)
 rintro again ⟨nm,dp,i,m',a2,n2,ns2,x0,x1,x2,x3,x4,k0,k1,k2,l,k4⟩ ⟨rfl,rfl,i1,i2,rfl,rfl,i3,i4,i5,rfl,rfl,rfl,rfl,i6,i7⟩ ih
 dsimp only at ih
 have ei:i<m'→IntKind.i64.wrap (i+1)=i+1:=fun h=>aI (i+1) (by omega)
 generalize hq:tW (5-(dp+1).toNat)=q at*
 have hi5:i*(q:Int)≤4*q:=Int.mul_le_mul_of_nonneg_right (by omega) (by omega)
 have nnil:du ([]:List (List UInt8)):=by simp[du]
 unfold ma
 dsimp only
 refine aD (fun h=>?_) (fun h=>?_)
 ·have h:=of_decide_eq_true h
  rw[ed]
  have hi4:(i+1)*(q:Int)≤4*q:=Int.mul_le_mul_of_nonneg_right (by omega) (by omega)
  have hi6:(i+1)*(q:Int)=i*q+q:=by rw[Int.add_mul,Int.one_mul]
  refine aF (hT _ _ _ i3 i4 (by rw[hq];omega)) ?_
  rintro⟨t0,t1,t2,t3,t4,a'',n3,ns'⟩ ⟨-,h1,rfl,h3,h4,h5⟩
  dsimp only at h1 h3 h4 h5 ⊢
  rw[hq] at h5
  refine vck ?_
  refine aF (eO _) ?_
  rintro _ ⟨-,rfl⟩
  refine aF (abD _ _ _ _) ?_
  rintro _ ⟨-,rfl⟩
  dsimp only
  refine aF (eY _ _ _ h3 (by omega) (by omega)) ?_
  rintro⟨mm,a3,n4⟩ ⟨-,mm1,mm2,rfl,mm3⟩
  dsimp only at mm1 mm2 mm3 ⊢
  have next:∀(n5:Int)(c:aH),eH a3 n5→bx c→Tot (again (nm,dp,IntKind.i64.wrap (i+1),m',a3,n5,ns',x0,x1,x2,x3,x4,5,0,[],l++[c],[])) _:=fun n5 c hp5 hc=>ih (nm,dp,IntKind.i64.wrap (i+1),m',a3,n5,ns',x0,x1,x2,x3,x4,5,0,[],l++[c],[])
   (by
    simp only[ei h,List.length_append,List.length_cons,List.length_nil]
    refine⟨trivial,trivial,by omega,by omega,trivial,trivial,hp5,h4,by omega,trivial,trivial,trivial,trivial,by omega,?_⟩
    intro d hd
    rcases List.mem_append.1 hd with hd|hd
    ·exact i7 d hd
    ·simp only[List.mem_singleton] at hd
     subst hd;exact hc) (by simp only[ei h];omega)
  have f1:bx (.mk 4 0 ([102]++[UInt8.ofNat (Int.toNat (IntKind.wrap .u8 (IntKind.wrap .i64 (97+i))))]) [] []):=ft _ _ _ (by simp)
  refine aD (fun _=>?_) (fun _=>?_)
  ·refine vck ?_
   refine aF (azj _ _ _ _ _ _ _ mm3 h1) ?_
   rintro⟨d0,d1,d2,d3,d4,a4,n5⟩ ⟨-,q1,rfl,q3⟩
   dsimp only at q1 q3 ⊢
   refine vck ?_
   refine vck ?_
   refine next _ _ q3 (aiY _ _ _ _ (by simp) (by simp) (by simp[du]) ?_)
   intro c hc
   simp only[List.cons_append,List.nil_append,List.mem_cons,List.not_mem_nil,or_false] at hc
   rcases hc with rfl|rfl|rfl
   ·exact f1
   ·exact h1
   ·exact q1
  ·refine vck ?_
   refine next _ _ mm3 (aiY _ _ _ _ (by simp) (by simp) (by simp[du]) ?_)
   intro c hc
   simp only[List.mem_cons,List.not_mem_nil,or_false] at hc
   rcases hc with rfl|rfl
   ·exact f1
   ·exact h1
 ·refine aF (eO _) ?_
  rintro _ ⟨-,rfl⟩
  refine aF (eO _) ?_
  rintro _ ⟨-,rfl⟩
  refine aF (eO _) ?_
  rintro _ ⟨-,rfl⟩
  refine aF (abD _ _ _ _) ?_
  rintro _ ⟨-,rfl⟩
  dsimp only
  refine aG ⟨_,_,_,_,_,_,_,_,_,rfl,rfl,⟨aiY _ _ _ _ (by simp) (by simp) (by simp[du]) ?_,rfl,i3,i4,by simp only;omega⟩,by simp only;omega⟩
  intro c hc
  simp only[List.mem_cons,List.not_mem_nil,or_false] at hc
  rcases hc with rfl|rfl|rfl|rfl
  ·exact ft _ _ _ (by simp)
  ·exact ft _ _ _ hnm
  ·exact ft _ _ _ (by simp)
  ·exact ahD _ _ _ (by omega) i7 (by decide)
theorem arF(deep:Int)(hd:0≤deep∧deep≤4)(hT:deep≤3→arE (deep+1)):arE deep:=by
 intro a n ns hp hns hl
 have hN:=af2 (deep:=deep) (by omega)
 have ed:IntKind.i64.wrap (deep+1)=deep+1:=aI (deep+1) (by omega)
 apply akB 1
 unfold abE lI
 dsimp only
 have w8:du ([([105,110,116]:List UInt8),([108,111,110,103]:List UInt8),([115,116,114,105,110,103]:List UInt8),([98,121,116,101,115]:List UInt8),([98,111,111,108,101,97,110]:List UInt8),([110,117,108,108]:List UInt8),([102,108,111,97,116]:List UInt8),([100,111,117,98,108,101]:List UInt8)]:List (List UInt8)):=by simp[du]
 have two:∀(k n':Int),deep≤3→eH a n'→Tot (ku 1 (deep,k,a,n',ns,0,0,[],[],[])) (fun z=>∃(y0 y1:Int)(y2:List UInt8)(y3:List aH)(y4:List (List UInt8))(y5:List UInt8)(y6:Int)(y7:List (List UInt8))(rest:List aJ),z.1.dimR=.agg [.int .i64 y0,.int .i64 y1,.str y2,.sl .jnode (.may false) y3,.sl .str (.may false) y4]∧z.2=some [.sl .u8 (.may false) y5,.int .i64 y6]::some [.sl .str .own y7]::rest∧gj a n ns deep (y0,y1,y2,y3,y4,y5,y6,y7)):=by
  intro k n' hd3 hp'
  have hT:=hT hd3
  unfold ku
  dsimp only
  refine vck ?_
  refine vck ?_
  generalize hnm:([78]:List UInt8)++[(UInt8.ofNat (Int.toNat (IntKind.wrap .u8 (IntKind.wrap .i64 (97+(Int.tmod (↑(List.length ns):Int) 26))))))]=nm
  have hnl:nm.length≤100:=by subst hnm;simp
  have hns2:du (ns++[nm]):=by
   intro x hx
   rcases List.mem_append.1 hx with hx|hx
   ·exact hns x hx
   ·simp only[List.mem_singleton] at hx
    subst hx;exact hnl
  have hlen:(ns++[nm]).length=ns.length+1:=by simp
  refine aD (fun _=>?_) (fun _=>aD (fun _=>?_) (fun _=>?_))
  ·refine aF (eO _) ?_
   rintro _ ⟨-,rfl⟩
   refine aF (eO _) ?_
   rintro _ ⟨-,rfl⟩
   refine aF (eY _ _ _ hp' (by omega) (by omega)) ?_
   rintro⟨mm,a3,n4⟩ ⟨-,mm1,mm2,rfl,mm3⟩
   dsimp only at mm1 mm2 mm3 ⊢
   refine aF (abD _ _ _ _) ?_
   rintro _ ⟨-,rfl⟩
   dsimp only
   refine aG ⟨_,_,_,_,_,_,_,_,_,rfl,rfl,aiY _ _ _ _ (by simp) (by simp) (by simp[du]) ?_,rfl,mm3,hns2,by simp only[hlen];omega⟩
   intro c hc
   simp only[List.mem_cons,List.not_mem_nil,or_false] at hc
   rcases hc with rfl|rfl|rfl
   ·exact ft _ _ _ (by simp)
   ·exact ft _ _ _ hnl
   ·exact ft _ _ _ (by simp)
  ·refine aF (eO _) ?_
   rintro _ ⟨-,rfl⟩
   refine aF (eO _) ?_
   rintro _ ⟨-,rfl⟩
   refine aF (eO _) ?_
   rintro _ ⟨-,rfl⟩
   refine aF (eY _ _ _ hp' (by omega) (by omega)) ?_
   rintro⟨mm,a3,n4⟩ ⟨-,mm1,mm2,rfl,mm3⟩
   dsimp only at mm1 mm2 mm3 ⊢
   have em:IntKind.i64.wrap (1+mm)=1+mm:=aI (1+mm) (by omega)
   rw[em]
   refine vck ?_
   refine aF (eO _) ?_
   rintro _ ⟨-,rfl⟩
   refine aF (eO _) ?_
   rintro _ ⟨-,rfl⟩
   refine aF (abD _ _ _ _) ?_
   rintro _ ⟨-,rfl⟩
   dsimp only
   refine aF (eY _ _ _ mm3 (by omega) (by omega)) ?_
   rintro⟨m5,a5,n5⟩ ⟨-,m51,m52,rfl,m53⟩
   dsimp only at m51 m52 m53 ⊢
   have hsub:∀c∈(List.drop 0 (List.take (Int.toNat (1+mm)) ([aH.mk 4 0 [88] [] [],aH.mk 4 0 [89] [] [],aH.mk 4 0 [90] [] []]:List aH))),bx c:=by
    intro c hc
    rw[List.drop_zero] at hc
    have hc:=List.mem_of_mem_take hc
    simp only[List.mem_cons,List.not_mem_nil,or_false] at hc
    rcases hc with rfl|rfl|rfl<;>exact ft _ _ _ (by simp)
   have hsl:(List.drop 0 (List.take (Int.toNat (1+mm)) ([aH.mk 4 0 [88] [] [],aH.mk 4 0 [89] [] [],aH.mk 4 0 [90] [] []]:List aH))).length≤8:=by
    simp only[List.length_drop,List.length_take,List.length_cons,List.length_nil];omega
   have hsy:=ahD 5 0 _ hsl hsub (by decide)
   refine aD (fun _=>?_) (fun _=>?_)
   ·refine vck ?_
    refine aF (eO _) ?_
    rintro _ ⟨-,rfl⟩
    dsimp only
    refine vck ?_
    refine aG ⟨_,_,_,_,_,_,_,_,_,rfl,rfl,aiY _ _ _ _ (by simp) (by simp) (by simp[du]) ?_,rfl,m53,hns2,by simp only[hlen];omega⟩
    intro c hc
    simp only[List.cons_append,List.nil_append,List.mem_cons,List.not_mem_nil,or_false] at hc
    rcases hc with rfl|rfl|rfl|rfl
    ·exact ft _ _ _ (by simp)
    ·exact ft _ _ _ hnl
    ·exact hsy
    ·exact ft _ _ _ (by simp)
   ·refine aG ⟨_,_,_,_,_,_,_,_,_,rfl,rfl,aiY _ _ _ _ (by simp) (by simp) (by simp[du]) ?_,rfl,m53,hns2,by simp only[hlen];omega⟩
    intro c hc
    simp only[List.mem_cons,List.not_mem_nil,or_false] at hc
    rcases hc with rfl|rfl|rfl
    ·exact ft _ _ _ (by simp)
    ·exact ft _ _ _ hnl
    ·exact hsy
  ·refine aF (aot deep (by omega) hT _ _ _ _ hp' hns2 hnl ?_) ?_
   ·rw[hlen];omega
   rintro⟨t0,t1,t2,t3,t4,a'',n3,ns'⟩ ⟨-,⟨h1,rfl,h3,h4,h5⟩,h6⟩
   dsimp only at h1 h3 h4 h5 h6 ⊢
   rw[hlen] at h6
   exact aG ⟨_,_,_,_,_,_,_,_,_,rfl,rfl,h1,rfl,h3,h4,by simp only;omega⟩
 have one:∀(k n':Int)(b:Bool),deep≤3→eH a n'→(b=true→0<ns.length)→Tot (kv 1 (deep,k,b,a,n',ns,0,0,[],[],[])) (fun z=>∃(y0 y1:Int)(y2:List UInt8)(y3:List aH)(y4:List (List UInt8))(y5:List UInt8)(y6:Int)(y7:List (List UInt8))(rest:List aJ),z.1.dimR=.agg [.int .i64 y0,.int .i64 y1,.str y2,.sl .jnode (.may false) y3,.sl .str (.may false) y4]∧z.2=some [.sl .u8 (.may false) y5,.int .i64 y6]::some [.sl .str .own y7]::rest∧gj a n ns deep (y0,y1,y2,y3,y4,y5,y6,y7)):=by
  intro k n' b hd3 hp' hb
  unfold kv nh
  dsimp only
  refine aD (fun h1=>?_) (fun h1=>two _ _ hd3 hp')
  have hb:=hb h1
  have numTot:∃r,aU a n' (ns.length:Int) r:=aiz _ _ _ hp' (by omega)
  refine aF numTot ?_
  rintro⟨mm,a3,n4⟩ ⟨-,mm1,mm2,rfl,mm3⟩
  dsimp only at mm1 mm2 mm3 ⊢
  refine vck ?_
  refine aF (eO _) ?_
  rintro _ ⟨-,rfl⟩
  exact aG ⟨_,_,_,_,_,_,_,_,_,rfl,rfl,ft _ _ _ (am7 hns _),rfl,mm3,hns,by simp only;omega⟩
 have zero:∀(k n':Int),0≤k→(8≤k→deep≤3)→eH a n'→Tot (od 1 (deep,k,a,n',ns,0,0,[],[],[])) (fun z=>∃(y0 y1:Int)(y2:List UInt8)(y3:List aH)(y4:List (List UInt8))(y5:List UInt8)(y6:Int)(y7:List (List UInt8))(rest:List aJ),z.1.dimR=.agg [.int .i64 y0,.int .i64 y1,.str y2,.sl .jnode (.may false) y3,.sl .str (.may false) y4]∧z.2=some [.sl .u8 (.may false) y5,.int .i64 y6]::some [.sl .str .own y7]::rest∧gj a n ns deep (y0,y1,y2,y3,y4,y5,y6,y7)):=by
  intro k n' hk hk2 hp'
  unfold od ni
  dsimp only
  refine aD (fun h1=>?_) (fun h1=>?_)
  ·have h1:=of_decide_eq_true h1
   refine vck ?_
   refine aF (eO _) ?_
   rintro _ ⟨-,rfl⟩
   exact aG ⟨_,_,_,_,_,_,_,_,_,rfl,rfl,ft _ _ _ (am7 w8 _),rfl,hp',hns,by simp only;omega⟩
  have hd3:=hk2 (by have:=of_decide_eq_false h1;omega)
  have hT:=hT hd3
  rw[ed]
  have tab:∀(word w2:List UInt8),word.length≤100→w2.length≤100→∀(nm:List UInt8),nm.length≤100→Tot (aE (bR word) (fun r3=>aE (ep a n' ns (deep+1)) (fun r4=>
     aE (fY true ([nm,w2]:List (List UInt8)) true ([⟨r3.1,r3.2.1,r3.2.2.1,r3.2.2.2.1,r3.2.2.2.2⟩,⟨r4.1,r4.2.1,r4.2.2.1,r4.2.2.2.1,r4.2.2.2.2.1⟩]:List aH)) (fun r5=>
      some (V.agg [.int .i64 r5.1,.int .i64 r5.2.1,.str r5.2.2.1,.sl .jnode (.may r5.2.2.2.1) r5.2.2.2.2.1,.sl .str (.may r5.2.2.2.2.2.1) r5.2.2.2.2.2.2],([some [.sl .u8 (.may false) r4.2.2.2.2.2.1,.int .i64 r4.2.2.2.2.2.2.1],some [.sl .str .own r4.2.2.2.2.2.2.2],some [.int .i64 r5.1,.int .i64 r5.2.1,.str r5.2.2.1,.sl .jnode (.may r5.2.2.2.1) r5.2.2.2.2.1,.sl .str (.may r5.2.2.2.2.2.1) r5.2.2.2.2.2.2]]:List aJ)))))) (fun z=>∃(y0 y1:Int)(y2:List UInt8)(y3:List aH)(y4:List (List UInt8))(y5:List UInt8)(y6:Int)(y7:List (List UInt8))(rest:List aJ),z.1.dimR=.agg [.int .i64 y0,.int .i64 y1,.str y2,.sl .jnode (.may false) y3,.sl .str (.may false) y4]∧z.2=some [.sl .u8 (.may false) y5,.int .i64 y6]::some [.sl .str .own y7]::rest∧gj a n ns deep (y0,y1,y2,y3,y4,y5,y6,y7)):=by
   intro word w2 hw hw2 nm hnm
   refine aF (eO _) ?_
   rintro _ ⟨-,rfl⟩
   refine aF (hT _ _ _ hp' hns (by omega)) ?_
   rintro⟨t0,t1,t2,t3,t4,a'',n3,ns'⟩ ⟨-,h1,rfl,h3,h4,h5⟩
   dsimp only at h1 h3 h4 h5 ⊢
   refine aF (abD _ _ _ _) ?_
   rintro _ ⟨-,rfl⟩
   dsimp only
   refine aG ⟨_,_,_,_,_,_,_,_,_,rfl,rfl,aiY _ _ _ _ (by simp) (by simp) ?_ ?_,rfl,h3,h4,by simp only;omega⟩
   ·intro x hx
    simp only[List.mem_cons,List.not_mem_nil,or_false] at hx
    rcases hx with rfl|rfl<;>assumption
   ·intro c hc
    simp only[List.mem_cons,List.not_mem_nil,or_false] at hc
    rcases hc with rfl|rfl
    ·exact ft _ _ _ hw
    ·exact h1
  refine aD (fun _=>?_) (fun _=>aD (fun _=>?_) (fun _=>aD (fun _=>?_) (fun _=>aD (fun _=>one _ _ _ hd3 hp' fun hb=>?_) (fun _=>one _ _ _ hd3 hp' fun hb=>by cases hb))))
  ·exact tab _ _ (by simp) (by simp) _ (by simp)
  ·exact tab _ _ (by simp) (by simp) _ (by simp)
  ·refine aF (aAH deep (by omega) hT _ _ _ hp' hns hl) ?_
   rintro⟨t0,t1,t2,t3,t4,a'',n3,ns'⟩ ⟨-,h1,rfl,h3,h4,h5⟩
   exact aG ⟨_,_,_,_,_,_,_,_,_,rfl,rfl,h1,rfl,h3,h4,h5⟩
  ·have:=of_decide_eq_true hb
   omega
 refine aF (eY _ _ _ hp (by omega) (by omega)) ?_
 rintro⟨m,a',n'⟩ ⟨-,m1,m2,rfl,m3⟩
 dsimp only at m1 m2 m3 ⊢
 have t8:0≤Int.tmod m 8∧Int.tmod m 8<8:=⟨Int.tmod_nonneg _ m1,Int.tmod_lt_of_pos _ (by omega)⟩
 refine aD (fun h1=>zero _ _ t8.1 (fun h=>by omega) m3) (fun h1=>?_)
 have h1:=of_decide_eq_false h1
 refine aF (axE _ _) ?_
 rintro⟨b,a2,n2⟩ ⟨-,rfl,rfl⟩
 dsimp only
 exact aD (fun _=>zero _ _ t8.1 (fun h=>by omega) m3) (fun _=>zero _ _ m1 (fun _=>by omega) m3)
theorem aum:∀(k:Nat)(deep:Int),deep+k=4→0≤deep→arE deep
 |0,deep,h,h1=>arF deep (by omega) (fun h'=>by omega)
 |k+1,deep,h,h1=>arF deep (by omega) (fun _=>aum k (deep+1) (by omega) (by omega))
theorem aAI(a:List UInt8)(n:Int)(hp:eH a n):∃r,kj a n r:=by
 apply agY 1
 unfold zA zy
 refine aF (aot 0 (by omega) (aum 3 1 (by omega) (by omega)) _ _ _ _ hp (by simp[du]) (by simp) (by simp[tW])) ?_
 rintro⟨t0,t1,t2,t3,t4,a'',n3,ns'⟩ ⟨-,⟨h1,rfl,h3,h4,h5⟩,h6⟩
 exact aG ⟨_,_,_,_,_,_,_,_,rfl,rfl,h1,rfl,h3⟩
end Go.Proofs.YtdpajabhmmmjoaaGreat
end
noncomputable section
namespace Go.Proofs.YtdpajabhmmmjoaaGreat
open Go.AM
set_option autoImplicit false
set_option linter.unusedVariables false
set_option linter.unusedSimpArgs false
set_option maxRecDepth 100000
theorem aDh(s:List UInt8)(hs:s.length≤1000):∃r,ws s r:=by
 apply awb 2000
 unfold amF uA
 refine bm (fun x=>x.1.length+x.2.length≤s.length) (fun x=>x.1.length) ?_ _ _ (by simp) (by simp;omega)
 rintro again ⟨a,out⟩ h ih
 dsimp only at h ih
 unfold xz
 dsimp only
 refine aD (fun h1=>?_) (fun _=>aG ⟨_,_,_,rfl,rfl⟩)
 have h1:=of_decide_eq_true h1
 refine aF (aBB _ (by omega)) ?_
 rintro⟨c,n⟩ ⟨-,hp⟩
 obtain⟨p1,p2⟩:=aui a
 rw[←(show (c,n)=fm a from hp)] at p1 p2
 dsimp only at p1 p2 ⊢
 repeat' (first|(with_reducible refine aD ?_ ?_<;>(intro hb;(try simp only[bnl] at hb);(try revert hb;intro _)))|with_reducible refine aP ?_ ?_|with_reducible refine aG ?_|fail)
 all_goals first|exact⟨_,_,_,rfl,rfl⟩|(first|(simp only[bnl,lnl];done)|(simp only[bnl,lnl];omega))|skip
 rename_i h2 h3
 have hn:0<n:=by omega
 refine ih _ ?_ ?_
 ·simp only[List.length_append,List.length_cons,List.length_nil,List.length_drop,List.length_take];omega
 ·simp only[List.length_append,List.length_cons,List.length_nil,List.length_drop,List.length_take];omega
def amQ(ts:List aA)(deep:Int):Prop:=∀(all t c0 c1:Int)(c2:List UInt8)(c3:List aH)(c4:List (List UInt8)),0≤t→t<ts.length→bx (.mk c0 c1 c2 c3 c4)→∃r,dd ts all t c0 c1 c2 c3 c4 deep r
theorem aBL(ts:List aA)(deep:Int)(hd:1≤deep∧deep≤20)(hV:amQ ts (deep+1))(all k0:Int)(k1:List UInt8)(k2:List (List UInt8))(k3:Int)(k4:List (List UInt8))(k5:Bool)(k6:List UInt8)(k7:Int)(k8:List aO)(k9:List Int)
  (c0 c1:Int) (c2:List UInt8) (c3:List aH) (c4:List (List UInt8)) (hk:0≤k3∧k3<ts.length) (hn:bx (.mk c0 c1 c2 c3 c4)) (hm:k0≠12→c4.length=c3.length):∃r,iU ts all k0 k1 k2 k3 k4 k5 k6 k7 k8 k9 c0 c1 c2 c3 c4 deep r:=by
 obtain⟨n1,n2,n3,n4,n5,n6⟩:=hn.kids
 have ed:IntKind.i64.wrap (deep+1)=deep+1:=aI (deep+1) (by omega)
 apply afJ 1000
 unfold yi iz
 refine bm (fun x=>match x with
  | .inl (dp,v0,v1,v2,v3,v4,v5,v6,v7,v8,v9,d0,d1,d2,l,ks,i,ts',al,p0,p1,p2,p3,p4,q0,q1,q2,q3,q4)=>dp=deep∧v0=k0∧v3=k3∧l=c3∧ks=c4∧0≤i∧i≤(c3.length:Int)∧ts'=ts∧q3=[]∧(q2.length:Int)=i∧(k0≠12→q2=[])
  | .inr (dp,v0,v1,v2,v3,v4,v5,v6,v7,v8,v9,d0,d1,d2,l,ks,i,ts',al,p0,p1,p2,p3,p4,q0,q1,q2,q3,q4)=>dp=deep∧v0=k0∧v3=k3∧l=c3∧ks=c4∧0≤i∧i≤(c3.length:Int)∧ts'=ts∧k0≠12∧q3.length=q2.length∧(q2.length:Int)≤i)
  (fun x=>match x with
  | .inl x=>((c3.length:Int)-x.2.2.2.2.2.2.2.2.2.2.2.2.2.2.2.2.1).toNat
  | .inr x=>((c3.length:Int)-x.2.2.2.2.2.2.2.2.2.2.2.2.2.2.2.2.1).toNat) ?_ _ _
  ⟨rfl,rfl,rfl,rfl,rfl,by simp,by simp,rfl,rfl,rfl,fun _=>rfl⟩ (by simp;omega)
 rintro again (⟨dp,v0,v1,v2,v3,v4,v5,v6,v7,v8,v9,d0,d1,d2,l,ks,i,ts',al,p0,p1,p2,p3,p4,q0,q1,q2,q3,q4⟩|⟨dp,v0,v1,v2,v3,v4,v5,v6,v7,v8,v9,d0,d1,d2,l,ks,i,ts',al,p0,p1,p2,p3,p4,q0,q1,q2,q3,q4⟩)
 ·rintro⟨rfl,rfl,rfl,rfl,rfl,i1,i2,rfl,rfl,i3,i4⟩ ih
  dsimp only at ih
  have ei:i<l.length→IntKind.i64.wrap (i+1)=i+1:=fun h=>aI (i+1) (by omega)
  unfold gW
  dsimp only
  rw[ed]
  refine aD (fun h0=>?_) (fun _=>aG ⟨_,_,_,_,_,_,_,_,_,rfl,rfl,rfl⟩)
  have h:=of_decide_eq_true h0
  clear h0
  refine vck ?_
  refine aF (hV _ _ _ _ _ _ _ hk.1 hk.2 (bx.eta.2 (bx.getD n6 i.toNat))) ?_
  rintro⟨w0,w1,w2,w3,w4,e,ts2,al2⟩ ⟨-,rfl⟩
  dsimp only
  refine aD (fun _=>aG ⟨_,_,_,_,_,_,_,_,_,rfl,rfl,rfl⟩) (fun _=>aD (fun h12=>?_) (fun h12=>?_))
  ·simp only[bnl] at h12
   refine vck ?_
   refine ih (.inl (dp,v0,v1,v2,v3,v4,v5,v6,v7,v8,v9,d0,d1,d2,l,ks,_,ts2,al2,p0,p1,p2,p3,p4,q0,q1,_,[],q4)) ?_ ?_
   ·simp only[ei h,List.length_append,List.length_cons,List.length_nil]
    exact⟨trivial,trivial,trivial,trivial,trivial,by omega,by omega,trivial,trivial,by omega,fun hh=>absurd h12 hh⟩
   ·simp only[ei h];omega
  ·simp only[bnl] at h12
   have hks:=hm h12
   have hq:=i4 h12
   subst hq
   refine vck ?_
   refine aF (agZ _ _ _ _ _ _ _ _ _ _ _ rfl (by simp)) ?_
   rintro⟨x0,x1,x2,x3,x4⟩ ⟨-,y1,y2⟩
   dsimp only at y1 y2 ⊢
   refine ih (.inr (dp,v0,v1,v2,v3,v4,v5,v6,v7,v8,v9,d0,d1,d2,l,ks,_,ts2,al2,p0,p1,p2,p3,p4,x0,x1,x2,x3,x4)) ?_ ?_
   ·simp only[ei h]
    simp only[List.length_nil] at y2
    exact⟨trivial,trivial,trivial,trivial,trivial,by omega,by omega,trivial,h12,y1,by omega⟩
   ·simp only[ei h];omega
 ·rintro⟨rfl,rfl,rfl,rfl,rfl,i1,i2,rfl,i3,i4,i5⟩ ih
  dsimp only at ih
  have ei:i<l.length→IntKind.i64.wrap (i+1)=i+1:=fun h=>aI (i+1) (by omega)
  have hks:=hm i3
  unfold gW
  dsimp only
  rw[ed]
  refine aD (fun h0=>?_) (fun _=>aG ⟨_,_,_,_,_,_,_,_,_,rfl,rfl,rfl⟩)
  have h:=of_decide_eq_true h0
  clear h0
  refine vck ?_
  refine aF (hV _ _ _ _ _ _ _ hk.1 hk.2 (bx.eta.2 (bx.getD n6 i.toNat))) ?_
  rintro⟨w0,w1,w2,w3,w4,e,ts2,al2⟩ ⟨-,rfl⟩
  dsimp only
  refine aD (fun _=>aG ⟨_,_,_,_,_,_,_,_,_,rfl,rfl,rfl⟩) (fun _=>aD (fun h12=>?_) (fun h12=>?_))
  ·simp only[bnl] at h12
   exact absurd h12 i3
  ·refine vck ?_
   refine aF (agZ _ _ _ _ _ _ _ _ _ _ _ i4 (by omega)) ?_
   rintro⟨x0,x1,x2,x3,x4⟩ ⟨-,y1,y2⟩
   dsimp only at y1 y2 ⊢
   refine ih (.inr (dp,v0,v1,v2,v3,v4,v5,v6,v7,v8,v9,d0,d1,d2,l,ks,_,ts2,al2,p0,p1,p2,p3,p4,x0,x1,x2,x3,x4)) ?_ ?_
   ·simp only[ei h]
    exact⟨trivial,trivial,trivial,trivial,trivial,by omega,by omega,trivial,i3,y1,by omega⟩
   ·simp only[ei h];omega
theorem azk(ts:List aA)(deep:Int)(hd:1≤deep∧deep≤20)(hV:amQ ts (deep+1))(all k0:Int)(k1:List UInt8)(k2:List (List UInt8))(k3:Int)(k4:List (List UInt8))(k5:Bool)(k6:List UInt8)(k7:Int)(k8:List aO)(k9:List Int)
  (c0 c1:Int) (c2:List UInt8) (c3:List aH) (c4:List (List UInt8)) (hk:xQ ts.length k8) (hn:bx (.mk c0 c1 c2 c3 c4)):∃r,iw ts all k0 k1 k2 k3 k4 k5 k6 k7 k8 k9 c0 c1 c2 c3 c4 deep r:=by
 obtain⟨n1,n2,n3,n4,n5,n6⟩:=hn.kids
 obtain⟨hk1,hk2⟩:=hk
 have ed:IntKind.i64.wrap (deep+1)=deep+1:=aI (deep+1) (by omega)
 apply aej 1000
 unfold wH gX
 refine bm (fun x=>match x with
  |(dp,v0,v1,v2,v3,v4,v5,v6,v7,v8,v9,d0,d1,d2,l,ks,i,ts',al,p0,p1,p2,p3,p4,q0,q1,q2,q3,q4)=>dp=deep∧v8=k8∧bx (.mk d0 d1 d2 l ks)∧0≤i∧i≤(k8.length:Int)∧ts'=ts∧(q2.length:Int)=i)
  (fun x=>((k8.length:Int)-x.2.2.2.2.2.2.2.2.2.2.2.2.2.2.2.2.1).toNat) ?_ _ _
  ⟨rfl,rfl,hn,by simp,by simp,rfl,rfl⟩ (by simp;omega)
 rintro again ⟨dp,v0,v1,v2,v3,v4,v5,v6,v7,v8,v9,d0,d1,d2,l,ks,i,ts',al,p0,p1,p2,p3,p4,q0,q1,q2,q3,q4⟩ ⟨rfl,rfl,hn',i1,i2,rfl,i3⟩ ih
 dsimp only at ih
 have ei:i<v8.length→IntKind.i64.wrap (i+1)=i+1:=fun h=>aI (i+1) (by omega)
 obtain⟨m1,m2,m3,m4,m5,m6⟩:=hn'.kids
 unfold jR
 dsimp only
 rw[ed]
 refine aD (fun h=>?_) (fun _=>aG ⟨_,_,_,_,_,_,_,_,_,rfl,rfl,rfl⟩)
 have h:=of_decide_eq_true h
 have hl:i.toNat<v8.length:=by omega
 have hf:=hk2 v8[i.toNat] (List.getElem_mem hl)
 have hg:v8.getD i.toNat (aC .afield)=v8[i.toNat]:=qO (List.getElem?_eq_getElem hl)
 refine vck ?_
 refine aF (qB _ _ _ _ _ _ (by omega)) ?_
 rintro r ⟨-,hr⟩
 have hgo:=vm (k:=d0) (names:=ks) (name:=(v8.getD i.toNat (aC .afield)).name) m6
 simp only[dA] at hr
 rw[←hr] at hgo
 clear hr
 have next:∀(al2:Int)(w:aB),Tot (again (dp,v0,v1,v2,v3,v4,v5,v6,v7,v8,v9,d0,d1,d2,l,ks,IntKind.i64.wrap (i+1),ts',al2,p0,p1,p2,p3,p4,q0,q1,q2++[w],q3,q4)) _:=fun al2 w=>ih (dp,v0,v1,v2,v3,v4,v5,v6,v7,v8,v9,d0,d1,d2,l,ks,IntKind.i64.wrap (i+1),ts',al2,p0,p1,p2,p3,p4,q0,q1,q2++[w],q3,q4)
  (by
   simp only[ei h,List.length_append,List.length_cons,List.length_nil]
   exact⟨trivial,trivial,hn',by omega,by omega,trivial,by omega⟩) (by simp only[ei h];omega)
 refine aD (fun _=>aD (fun _=>aG ⟨_,_,_,_,_,_,_,_,_,rfl,rfl,rfl⟩) (fun _=>?_)) (fun _=>?_)
 ·refine aF (hV _ _ _ _ _ _ _ (by rw[hg];exact hf.1) (by rw[hg];exact hf.2.1) (by rw[hg];exact bx.eta.2 hf.2.2)) ?_
  rintro⟨w0,w1,w2,w3,w4,e,ts2,al2⟩ ⟨-,rfl⟩
  dsimp only
  refine aD (fun _=>aG ⟨_,_,_,_,_,_,_,_,_,rfl,rfl,rfl⟩) (fun _=>?_)
  refine vck ?_
  exact next _ _
 ·refine aF (hV _ _ _ _ _ _ _ (by rw[hg];exact hf.1) (by rw[hg];exact hf.2.1) hgo) ?_
  rintro⟨w0,w1,w2,w3,w4,e,ts2,al2⟩ ⟨-,rfl⟩
  dsimp only
  refine aD (fun _=>aG ⟨_,_,_,_,_,_,_,_,_,rfl,rfl,rfl⟩) (fun _=>?_)
  refine vck ?_
  exact next _ _
theorem arG(ts:List aA)(hs:dJ ts)(deep:Int)(hd:1≤deep∧deep≤21)(hV:deep≤20→amQ ts (deep+1)):amQ ts deep:=by
 intro all t c0 c1 c2 c3 c4 ht ht2 hn
 obtain⟨n1,n2,n3,n4,n5,n6⟩:=hn.kids
 have ed:IntKind.i64.wrap (deep+1)=deep+1:=aI (deep+1) (by omega)
 apply afN 1000
 unfold yj iA
 dsimp only
 refine aD (fun _=>aG ⟨_,_,_,_,_,_,_,_,_,rfl,rfl,rfl⟩) (fun h20=>aD (fun _=>aG ⟨_,_,_,_,_,_,_,_,_,rfl,rfl,rfl⟩) (fun _=>vck ?_))
 have h20:=of_decide_eq_false h20
 have hV:=hV (by omega)
 have hl:t.toNat<ts.length:=by omega
 have hT:=hs.2 ts[t.toNat] (List.getElem_mem hl)
 rw[qO (List.getElem?_eq_getElem hl)]
 generalize ts[t.toNat]=k at hT
 obtain⟨k0,k1,k2,k3,k4,k5,k6,k7,k8,k9⟩:=k
 dsimp only
 have three:∀(b:List UInt8)(f:Bool)(al x0:Int)(x1:List UInt8)(x2:List aB)(x3:List (List UInt8))(x4:Int),Tot (hJ 1000 (b,f,ts,al,x0,x1,x2,x3,x4)) (fun z=>∃(y0:Int)(y1:List UInt8)(y2:List aB)(y3:List (List UInt8))(y4 y5:Int)(y6:List aA)(y7:Int)(rest:List aJ),z.1.dimR=.tup [.agg [.int .u64 y0,.str y1,.sl .aval (.may false) y2,.sl .str (.may false) y3,.int .i64 y4],.int .i64 y5]∧z.2=some [.sl .atype (.may false) y6,.int .i64 y7]::rest∧dD ts all t c0 c1 c2 c3 c4 deep (y0,y1,y2,y3,y4,y5,y6,y7)):=by
  intro b f al x0 x1 x2 x3 x4
  unfold hJ
  dsimp only
  repeat' (first|(with_reducible refine aD ?_ ?_<;>(intro hb;(try simp only[bnl] at hb);(try revert hb;intro _)))|with_reducible refine aP ?_ ?_|with_reducible refine aG ?_|fail)
  all_goals exact⟨_,_,_,_,_,_,_,_,_,rfl,rfl,rfl⟩
 have four:∀(al x0:Int)(x1:List UInt8)(x2:List aB)(x3:List (List UInt8))(x4:Int),Tot (aS 1000 (fB 1000) (c0,c1,c2,c3,c4,k0,k1,k2,k3,k4,k5,k6,k7,k8,k9,0,ts,al,x0,x1,x2,x3,x4)) (fun z=>∃(y0:Int)(y1:List UInt8)(y2:List aB)(y3:List (List UInt8))(y4 y5:Int)(y6:List aA)(y7:Int)(rest:List aJ),z.1.dimR=.tup [.agg [.int .u64 y0,.str y1,.sl .aval (.may false) y2,.sl .str (.may false) y3,.int .i64 y4],.int .i64 y5]∧z.2=some [.sl .atype (.may false) y6,.int .i64 y7]::rest∧dD ts all t c0 c1 c2 c3 c4 deep (y0,y1,y2,y3,y4,y5,y6,y7)):=by
  intro al x0 x1 x2 x3 x4
  have hns:k4.length≤100:=hT.ns
  refine bm (fun x=>match x with
   |(d0,d1,d2,d3,d4,v0,v1,v2,v3,v4,v5,v6,v7,v8,v9,i,ts',al,p0,p1,p2,p3,p4)=>v4=k4∧0≤i∧i≤(k4.length:Int)∧ts'=ts)
   (fun x=>((k4.length:Int)-x.2.2.2.2.2.2.2.2.2.2.2.2.2.2.2.1).toNat) ?_ _ _ ⟨rfl,by simp,by simp,rfl⟩ (by simp;omega)
  rintro again ⟨d0,d1,d2,d3,d4,v0,v1,v2,v3,v4,v5,v6,v7,v8,v9,i,ts',al,p0,p1,p2,p3,p4⟩ ⟨rfl,i1,i2,rfl⟩ ih
  dsimp only at ih
  unfold fB
  dsimp only
  repeat' (first|(with_reducible refine aD ?_ ?_<;>(intro hb;(try simp only[bnl] at hb);(try revert hb;intro _)))|with_reducible refine aP ?_ ?_|with_reducible refine aG ?_|fail)
  all_goals first|(first|(simp only[bnl,lnl];done)|(simp only[bnl,lnl];omega))|exact⟨_,_,_,_,_,_,_,_,_,rfl,rfl,rfl⟩|skip
  have ei:IntKind.i64.wrap (i+1)=i+1:=aI (i+1) (by omega)
  refine ih (d0,d1,d2,d3,d4,v0,v1,v2,v3,v4,v5,v6,v7,v8,v9,_,ts',al,p0,p1,p2,p3,p4) ?_ ?_
  ·simp only[ei];exact⟨trivial,by omega,by omega,trivial⟩
  ·simp only[ei];omega
 have five:∀(f:Bool)(al x0:Int)(x1:List UInt8)(x2:List aB)(x3:List (List UInt8))(x4:Int),(f=true→k0=12∨c0=6)→Tot (hU 1000 (deep,c0,c1,c2,c3,c4,k0,k1,k2,k3,k4,k5,k6,k7,k8,k9,f,ts,al,x0,x1,x2,x3,x4)) (fun z=>∃(y0:Int)(y1:List UInt8)(y2:List aB)(y3:List (List UInt8))(y4 y5:Int)(y6:List aA)(y7:Int)(rest:List aJ),z.1.dimR=.tup [.agg [.int .u64 y0,.str y1,.sl .aval (.may false) y2,.sl .str (.may false) y3,.int .i64 y4],.int .i64 y5]∧z.2=some [.sl .atype (.may false) y6,.int .i64 y7]::rest∧dD ts all t c0 c1 c2 c3 c4 deep (y0,y1,y2,y3,y4,y5,y6,y7)):=by
  intro f al x0 x1 x2 x3 x4 hf
  unfold hU
  dsimp only
  rw[ed]
  have un:k0=14→0<k9.length∧0≤k9.getD 0 (aC (.num .i64))∧k9.getD 0 (aC (.num .i64))<ts.length:=by
   intro h
   have hne:k9≠[]:=hT.done h
   have hpos:0<k9.length:=List.length_pos_iff.2 hne
   have:=hT.branches k9[0] (List.getElem_mem hpos)
   rw[qO (List.getElem?_eq_getElem hpos)]
   exact⟨hpos,this⟩
  repeat' (first|(with_reducible refine aD ?_ ?_<;>(intro hb;(try simp only[bnl] at hb);(try revert hb;intro _)))|with_reducible refine aP ?_ ?_|with_reducible refine aG ?_|(refine aF (aBL ts deep (by omega) hV _ _ _ _ _ _ _ _ _ _ _ _ _ _ _ _ hT.items hn ?_) ?_;rotate_left;rintro⟨w0,w1,w2,w3,w4,e,ts2,al2⟩ ⟨-,rfl⟩;dsimp only)|(refine aF (azk ts deep (by omega) hV _ _ _ _ _ _ _ _ _ _ _ _ _ _ _ _ ⟨hT.nf,hT.fields⟩ hn) ?_;rintro⟨w0,w1,w2,w3,w4,e,ts2,al2⟩ ⟨-,rfl⟩;dsimp only)|(refine aF (hV _ _ _ _ _ _ _ (un (by assumption)).2.1 (un (by assumption)).2.2 hn) ?_;rintro⟨w0,w1,w2,w3,w4,e,ts2,al2⟩ ⟨-,rfl⟩;dsimp only)|fail)
  all_goals first|exact⟨_,_,_,_,_,_,_,_,_,rfl,rfl,rfl⟩|(have:=(un (by assumption)).1;first|(simp only[bnl,lnl];done)|(simp only[bnl,lnl];omega))|skip
  ·rename_i h
   intro h12
   rcases hf h with h'|h'
   ·exact absurd h' h12
   ·exact n5 h'
 have two:∀(f:Bool)(al x0:Int)(x1:List UInt8)(x2:List aB)(x3:List (List UInt8))(x4:Int),Tot (hY 1000 (deep,c0,c1,c2,c3,c4,k0,k1,k2,k3,k4,k5,k6,k7,k8,k9,f,ts,al,x0,x1,x2,x3,x4)) (fun z=>∃(y0:Int)(y1:List UInt8)(y2:List aB)(y3:List (List UInt8))(y4 y5:Int)(y6:List aA)(y7:Int)(rest:List aJ),z.1.dimR=.tup [.agg [.int .u64 y0,.str y1,.sl .aval (.may false) y2,.sl .str (.may false) y3,.int .i64 y4],.int .i64 y5]∧z.2=some [.sl .atype (.may false) y6,.int .i64 y7]::rest∧dD ts all t c0 c1 c2 c3 c4 deep (y0,y1,y2,y3,y4,y5,y6,y7)):=by
  intro f al x0 x1 x2 x3 x4
  unfold hY jV
  dsimp only
  repeat' (first|(with_reducible refine aD ?_ ?_<;>(intro hb;(try simp only[bnl] at hb);(try revert hb;intro _)))|with_reducible refine aP ?_ ?_|with_reducible refine aG ?_|(refine aF (aDh _ (by omega)) ?_;intro _ _)|fail)
  all_goals first|exact three _ _ _ _ _ _ _ _|exact four _ _ _ _ _ _|(refine five _ _ _ _ _ _ _ ?_)|skip
  all_goals (intro hh;first|exact .inl (by assumption)|(simp at hh;done)|(right;simp at hh;exact hh))
 have one:∀(f g:Bool)(al x0:Int)(x1:List UInt8)(x2:List aB)(x3:List (List UInt8))(x4:Int),Tot (hZ 1000 (deep,c0,c1,c2,c3,c4,k0,k1,k2,k3,k4,k5,k6,k7,k8,k9,f,g,ts,al,x0,x1,x2,x3,x4)) (fun z=>∃(y0:Int)(y1:List UInt8)(y2:List aB)(y3:List (List UInt8))(y4 y5:Int)(y6:List aA)(y7:Int)(rest:List aJ),z.1.dimR=.tup [.agg [.int .u64 y0,.str y1,.sl .aval (.may false) y2,.sl .str (.may false) y3,.int .i64 y4],.int .i64 y5]∧z.2=some [.sl .atype (.may false) y6,.int .i64 y7]::rest∧dD ts all t c0 c1 c2 c3 c4 deep (y0,y1,y2,y3,y4,y5,y6,y7)):=by
  intro f g al x0 x1 x2 x3 x4
  unfold hZ jW
  dsimp only
  repeat' (first|(with_reducible refine aD ?_ ?_<;>(intro hb;(try simp only[bnl] at hb);(try revert hb;intro _)))|with_reducible refine aP ?_ ?_|with_reducible refine aG ?_|(refine aF (aBz _) ?_;intro _ _)|(refine aF (aAD _) ?_;intro _ _)|fail)
  all_goals first|exact two _ _ _ _ _ _ _|exact⟨_,_,_,_,_,_,_,_,_,rfl,rfl,rfl⟩
 have zero:∀(f g:Bool)(al x0:Int)(x1:List UInt8)(x2:List aB)(x3:List (List UInt8))(x4:Int),Tot (lb 1000 (deep,c0,c1,c2,c3,c4,k0,k1,k2,k3,k4,k5,k6,k7,k8,k9,f,g,ts,al,x0,x1,x2,x3,x4)) (fun z=>∃(y0:Int)(y1:List UInt8)(y2:List aB)(y3:List (List UInt8))(y4 y5:Int)(y6:List aA)(y7:Int)(rest:List aJ),z.1.dimR=.tup [.agg [.int .u64 y0,.str y1,.sl .aval (.may false) y2,.sl .str (.may false) y3,.int .i64 y4],.int .i64 y5]∧z.2=some [.sl .atype (.may false) y6,.int .i64 y7]::rest∧dD ts all t c0 c1 c2 c3 c4 deep (y0,y1,y2,y3,y4,y5,y6,y7)):=by
  intro f g al x0 x1 x2 x3 x4
  unfold lb jX
  dsimp only
  repeat' (first|(with_reducible refine aD ?_ ?_<;>(intro hb;(try simp only[bnl] at hb);(try revert hb;intro _)))|with_reducible refine aP ?_ ?_|with_reducible refine aG ?_|fail)
  all_goals exact one _ _ _ _ _ _ _ _
 repeat' (first|(with_reducible refine aD ?_ ?_<;>(intro hb;(try simp only[bnl] at hb);(try revert hb;intro _)))|with_reducible refine aP ?_ ?_|with_reducible refine aG ?_|fail)
 all_goals first|exact zero _ _ _ _ _ _ _ _|exact⟨_,_,_,_,_,_,_,_,_,rfl,rfl,rfl⟩
theorem aun(ts:List aA)(hs:dJ ts):∀(n:Nat)(deep:Int),deep+n=21→1≤deep→amQ ts deep
 |0,deep,h,h1=>arG ts hs deep (by omega) (fun h'=>by omega)
 |n+1,deep,h,h1=>arG ts hs deep (by omega) (fun _=>aun ts hs n (deep+1) (by omega) (by omega))
theorem aBM(ts:List aA)(hs:dJ ts)(t c0 c1:Int)(c2:List UInt8)(c3:List aH)(c4:List (List UInt8))(ht:0≤t∧t<ts.length)(hn:bx (.mk c0 c1 c2 c3 c4)):∃r,rU ts t c0 c1 c2 c3 c4 r:=by
 apply arz 1
 unfold ahh ahg
 dsimp only
 refine aF (amt _ _) ?_
 intro b _
 refine aD (fun _=>aG ⟨_,_,_,_,_,_,_,rfl,rfl⟩) (fun _=>?_)
 refine aF (aun ts hs 20 1 (by omega) (by omega) _ _ _ _ _ _ _ ht.1 ht.2 hn) ?_
 rintro r _
 repeat' (first|(with_reducible refine aD ?_ ?_<;>(intro hb;(try simp only[bnl] at hb);(try revert hb;intro _)))|with_reducible refine aP ?_ ?_|with_reducible refine aG ?_|fail)
 all_goals exact⟨_,_,_,_,_,_,_,rfl,rfl⟩
theorem aBN(ts:List aA)(hs:dJ ts):∃r,rT ts r:=by
 have h60:=hs.1
 apply arB 1000
 unfold ahi qD
 refine bm (fun x=>match x with|(ts',i)=>ts'=ts∧0≤i∧i≤(ts.length:Int)) (fun x=>((ts.length:Int)-x.2).toNat) ?_ _ _ ⟨rfl,by simp,by simp⟩ (by simp;omega)
 rintro again ⟨ts',i⟩ ⟨rfl,i1,i2⟩ ih
 dsimp only at i1 i2 ih
 have ei:i<ts'.length→IntKind.i64.wrap (i+1)=i+1:=fun h=>aI (i+1) (by omega)
 unfold tI rH
 dsimp only
 refine aD (fun h=>?_) (fun _=>aG ⟨_,_,_,_,rfl,rfl⟩)
 have h:=of_decide_eq_true h
 have hl:i.toNat<ts'.length:=by omega
 have hT:=hs.2 ts'[i.toNat] (List.getElem_mem hl)
 have hg:ts'.getD i.toNat (aC .atype)=ts'[i.toNat]:=qO (List.getElem?_eq_getElem hl)
 generalize hk:ts'[i.toNat]=k at hT hg
 have hnf:=hT.nf
 refine bm (fun x=>match x with|(ts2,i',j)=>ts2=ts'∧i'=i∧0≤j∧j≤(k.fields.length:Int)) (fun x=>((k.fields.length:Int)-x.2.2).toNat) ?_ _ _ ⟨rfl,rfl,by simp,by simp⟩ (by simp;omega)
 rintro again1 ⟨ts2,i',j⟩ ⟨rfl,rfl,j1,j2⟩ ih1
 dsimp only at j1 j2 ih1
 have ej:j<k.fields.length→IntKind.i64.wrap (j+1)=j+1:=fun h=>aI (j+1) (by omega)
 have next:j<k.fields.length→Tot (again1 (ts2,i',IntKind.i64.wrap (j+1))) _:=fun hj=>ih1 (ts2,i',IntKind.i64.wrap (j+1)) (by simp only[ej hj];exact⟨trivial,trivial,by omega,by omega⟩) (by simp only[ej hj];omega)
 unfold oW
 dsimp only
 rw[hg]
 refine vck (aD (fun hj=>?_) (fun hj=>?_))
 ·have hj:=of_decide_eq_true hj
  have hjl:j.toNat<k.fields.length:=by omega
  have hf:=hT.fields k.fields[j.toNat] (List.getElem_mem hjl)
  refine vck (vck ?_)
  rw[qO (List.getElem?_eq_getElem hjl)]
  refine aD (fun _=>next hj) (fun _=>?_)
  refine aF (aBM ts2 hs _ _ _ _ _ _ ⟨hf.1,hf.2.1⟩ (bx.eta.2 hf.2.2)) ?_
  intro r _
  exact aD (fun _=>aG ⟨_,_,_,_,rfl,rfl⟩) (fun _=>next hj)
 ·exact ih (ts2,_) (by simp only[ei h];exact⟨trivial,by omega,by omega⟩) (by simp only[ei h];omega)
theorem aCD(a:List UInt8)(n:Int)(hp:eH a n):∃r,mJ a n r:=by
 apply akF 1
 unfold abG abF
 dsimp only
 refine aF (aAI a n hp) ?_
 rintro⟨t0,t1,t2,t3,t4,a',n'⟩ ⟨-,h1,rfl,h3⟩
 dsimp only at h1 h3 ⊢
 refine aF (aCC _ _ _ _ _ h1) ?_
 rintro⟨ts,e⟩ ⟨-,hs⟩
 dsimp only[yJ] at hs ⊢
 refine aD (fun _=>aG ⟨_,_,_,_,_,rfl,rfl,(fun h=>by cases h),rfl,h3⟩) (fun he=>?_)
 simp only[bnl] at he
 refine aF (aBN ts (hs he)) ?_
 intro r _
 exact aG ⟨_,_,_,_,_,rfl,rfl,fun _=>hs he,rfl,h3⟩
end Go.Proofs.YtdpajabhmmmjoaaGreat
end
noncomputable section
namespace Go.Proofs.YtdpajabhmmmjoaaGreat
open Go.AM
set_option autoImplicit false
set_option linter.unusedVariables false
set_option linter.unusedSimpArgs false
set_option maxRecDepth 100000
theorem aiZ:∀l:List (List UInt8),10*l.length≤eo l
 | []=>by simp
 |k::l=>by have:=aiZ l;simp only[eo,List.length_cons];omega
theorem amR(d:aB):∀(l:List aB)(i:Nat),i<l.length→wV (l.getD i d)≤wL l
 | [],i,h=>by simp at h
 |v::l,0,h=>by simp only[List.getD_cons_zero,wL];omega
 |v::l,i+1,h=>by have:=amR d l i (by simpa using h);simp only[List.getD_cons_succ,wL];omega
theorem auo(d w:List UInt8):∀(l:List (List UInt8))(i:Nat),i<l.length→eo (l.set i w)+(l.getD i d).length=eo l+w.length
 | [],i,h=>by simp at h
 |v::l,0,h=>by simp only[List.set_cons_zero,List.getD_cons_zero,eo];omega
 |v::l,i+1,h=>by have:=auo d w l i (by simpa using h);simp only[List.set_cons_succ,List.getD_cons_succ,eo];omega
theorem aBO(ts:List aA)(t:Int)(v:aB):∃r,aa5 ts t v r:=by
 obtain⟨n,s,l,ks,b⟩:=v
 exact⟨_,aBi ts t n s l ks b,rfl⟩
end Go.Proofs.YtdpajabhmmmjoaaGreat
end
noncomputable section
namespace Go.Proofs.YtdpajabhmmmjoaaGreat
open Go.AM
set_option autoImplicit false
set_option linter.unusedSimpArgs false
set_option linter.unusedVariables false
set_option maxRecDepth 100000
theorem azP:∀(k v:Nat),v<128^(k+1)→nL (k+1) v=nL k v
 |0,v,h=>by simp at h;simp[nL,h]
 |k+1,v,h=>by
  rw[nL]
  conv=>rhs;rw[nL]
  split
  ·rfl
  ·rw[azP k (v / 128) (by rw[Nat.pow_succ] at h;exact Nat.div_lt_of_lt_mul (by rw[Nat.mul_comm];exact h))]
theorem aup(v:Nat)(h:v<2^64)(h128:128≤v):nL 9 v=UInt8.ofNat (v%128+128)::nL 9 (v / 128):=by
 rw[nL,if_neg (by omega),azP 8 (v / 128)]
 have:(2:Nat)^64≤128*128^9:=by decide
 exact Nat.div_lt_of_lt_mul (by omega)
theorem aya(v:Nat)(h:v<128):nL 9 v=[UInt8.ofNat v]:=by rw[nL,if_pos h]
def F13(x:Int×List UInt8):V×List aJ:=(.str (x.2++nL 9 x.1.toNat),[])
structure aEm(w:Int)(b:List UInt8):Prop where
 ex:∃v:Nat,w=(v:Int)∧v<2^64∧v<128^(10-b.length)∧b.length≤9
theorem akN(N:Nat)(p:Int)(hp:0≤p∧p≤18446744073709551615)(hN:2^64<N):adH N p=some (.str (afo p),[]):=by
 obtain⟨v,rfl⟩:∃v:Nat,p=(v:Int):=⟨p.toNat,by omega⟩
 have hv:v<2^64:=by omega
 show aS N (mN N) ((v:Int),([]:List UInt8))=some (F13 ((v:Int),[]))
 refine oC (fun x=>aEm x.1 x.2) (fun x=>x.1.toNat) F13 ?_ N _ ⟨v,rfl,hv,?_,by simp⟩ (by simp;omega)
 ·rintro rec ⟨w,b⟩ ⟨v,rfl,h64,hb,hl⟩ hrec
  simp only at hb hl hrec ⊢
  simp only[mN,F13,Int.toNat_natCast]
  by_cases h128:128≤v
  ·have c1:decide ((128:Int)≤(v:Int))=true:=decide_eq_true (by omega)
   have e2:Int.tmod (v:Int) 128=((v%128:Nat):Int):=awG _ _
   have e3:IntKind.wrap .u64 (((v%128:Nat):Int)+128)=((v%128+128:Nat):Int):=by rw[dN _ (by omega)];rfl
   have e4:IntKind.wrap .u8 ((v%128+128:Nat):Int)=((v%128+128:Nat):Int):=oD _ (by omega)
   have e5:dI .u64 (v:Int) 7=((v / 128:Nat):Int):=tV .u64 v 7 (by decide)
   have e6:∀c:UInt8,decide ((b.length+[c].length)*1≤140737488355328)=true:=fun c=>decide_eq_true (by simp;omega)
   have e7:decide ((0:Int)≤7)=true:=rfl
   have e8:(!((128:Int)==0))=true:=rfl
   simp only[c1,cond_true,e2,e3,e4,e5,e7,Int.toNat_natCast,aoN e8,aoN (e6 _),aeH]
   have hb2:2≤10-b.length:=by
    rcases Nat.lt_or_ge (10-b.length) 2 with h|h
    ·have:(128:Nat)^(10-b.length)≤128^1:=Nat.pow_le_pow_right (by omega) (by omega)
     omega
    ·exact h
   rw[hrec (((v / 128:Nat):Int),b++[UInt8.ofNat (v%128+128)]) ⟨v / 128,rfl,by omega,?_,by simp;omega⟩ (by simp;omega)]
   ·simp only[F13,Int.toNat_natCast]
    rw[aup v h64 h128,List.append_assoc]
    rfl
   ·simp only[List.length_append,List.length_singleton]
    refine Nat.div_lt_of_lt_mul ?_
    rw[show 10-b.length=(10-(b.length+1))+1 by omega,Nat.pow_succ,Nat.mul_comm] at hb
    exact hb
  ·have c1:decide ((128:Int)≤(v:Int))=false:=decide_eq_false (by omega)
   have e4:IntKind.wrap .u8 (v:Int)=(v:Int):=oD _ (by omega)
   have e6:∀c:UInt8,decide ((b.length+[c].length)*1≤140737488355328)=true:=fun c=>decide_eq_true (by simp;omega)
   simp only[c1,cond_false,e4,Int.toNat_natCast,aoN (e6 _)]
   rw[aya v (by omega)]
 ·have:(2:Nat)^64≤128^10:=by decide
  simp;omega
theorem apO:∀(k v:Nat),(nL k v).length≤k+1
 |0,v=>by simp[nL]
 |k+1,v=>by
  rw[nL]
  split
  ·simp
  ·have:=apO k (v / 128)
   simp;omega
theorem auq(a:Int):(((BitVec.ofInt 64 a).toNat:Nat):Int)=a%18446744073709551616:=by
 rw[BitVec.toNat_ofInt]
 exact Int.toNat_of_nonneg (Int.emod_nonneg _ (by decide))
theorem aBP(a:Int):bJ .xor .i64 a 0=IntKind.wrap .i64 a:=by
 have e:bJ .xor .i64 a 0=IntKind.wrap .i64 ((BitVec.ofInt 64 a ^^^0#64).toNat:Nat):=rfl
 rw[e,BitVec.xor_zero,auq,iQ,iQ]
 omega
theorem aBQ(a:Int):bJ .xor .i64 a (-1)=IntKind.wrap .i64 (-1-a):=by
 have e:bJ .xor .i64 a (-1)=IntKind.wrap .i64 ((BitVec.ofInt 64 a ^^^BitVec.allOnes 64).toNat:Nat):=by
  show IntKind.wrap .i64 ((BitVec.ofInt 64 a ^^^BitVec.ofInt 64 (-1)).toNat:Nat)=_
  rw[show BitVec.ofInt 64 (-1)=BitVec.allOnes 64 from by decide]
 have hb:(BitVec.ofInt 64 a).toNat<18446744073709551616:=(BitVec.ofInt 64 a).isLt
 have ht:=auq a
 rw[e,BitVec.xor_allOnes,BitVec.toNat_not,iQ,iQ]
 have e2:((2^64-1-(BitVec.ofInt 64 a).toNat:Nat):Int)=18446744073709551616-1-a%18446744073709551616:=by
  rw[←ht]
  generalize (BitVec.ofInt 64 a).toNat=q at*
  omega
 rw[e2]
 omega
theorem aEn(n:Int)(hn:0≤n∧n≤18446744073709551615):
  IntKind.wrap .u64 (bJ .xor .i64 (eV .i64 (IntKind.wrap .i64 n) 1) (dI .i64 (IntKind.wrap .i64 n) 63))=(if n<9223372036854775808 then n*2 else (18446744073709551615-n)*2+1):=by
 have hi:IntKind.wrap .i64 n=if n<9223372036854775808 then n else n-18446744073709551616:=by
  simp only[iQ,aao]
  split<;>omega
 have e1:dI .i64 (IntKind.wrap .i64 n) 63=if n<9223372036854775808 then 0 else -1:=by
  rw[hi,aC6 _ _ (by omega)]
  show _ / (9223372036854775808:Int)=_
  split<;>omega
 have e2:eV .i64 (IntKind.wrap .i64 n) 1=IntKind.wrap .i64 ((IntKind.wrap .i64 n)*2):=rfl
 rw[e1,e2,hi]
 by_cases h:n<9223372036854775808
 ·rw[if_pos h,if_pos h,if_pos h,aBP]
  simp only[iQ,aao,qX]
  omega
 ·rw[if_neg h,if_neg h,if_neg h,aBQ]
  simp only[iQ,aao,qX]
  omega
theorem aCE(N:Nat)(n:Int)(hn:0≤n∧n≤18446744073709551615):aip N 8 n=some (.int .u64 (xE n),[]):=by
 have h:=aEn n hn
 have e:∀c:Int,c≠8→((8:Int)==c)=false:=fun c hc=>bf (fun h=>hc h.symm)
 unfold xE
 rw[←h]
 simp only[aip,aq2]
 rfl
theorem dQ(n:Int):(aZ n).length≤10:=by
 rw[ya]
 exact apO 9 _
theorem aur(s:List UInt8):(fw s).length≤s.length+10:=by
 have:=dQ (s.length:Int)
 simp only[fw,List.length_append]
 omega
theorem uF:∀(k v:Nat),(pC k v).length=k
 |0,v=>rfl
 |k+1,v=>by simp[pC,uF k]
theorem ai0:∀(k v:Nat),pC (k+1) v=pC k v++[UInt8.ofNat (v / 256^k%256)]
 |0,v=>by simp[pC]
 |k+1,v=>by
  rw[pC,ai0 k (v / 256),pC]
  simp[Nat.div_div_eq_div_mul,Nat.pow_succ,Nat.mul_comm]
theorem azl(N:Nat)(p n:Int)(hp:0≤p∧p≤18446744073709551615)(hn:0≤n∧n≤8)(hN:8<N):ajG N p n=some (.str (eS p n),[]):=by
 obtain⟨v,rfl⟩:∃v:Nat,p=(v:Int):=⟨p.toNat,by omega⟩
 obtain⟨m,rfl⟩:∃m:Nat,n=(m:Int):=⟨n.toNat,by omega⟩
 show aS N (qk N) ((v:Int),([]:List UInt8),(m:Int),0)=_
 refine oC (fun x:Int×List UInt8×Int×Int=>∃i:Nat,x=((v:Int),pC i v,(m:Int),(i:Int))∧i≤m) (fun x=>m-x.2.2.2.toNat) (fun x=>(V.str (eS (v:Int) (m:Int)),([]:List aJ))) ?_ N _ ⟨0,rfl,by omega⟩ (by simp;omega)
 rintro rec x ⟨i,rfl,hi⟩ hrec
 simp only[qk]
 rcases Nat.lt_or_ge i m with h|h
 ·have hr:=hrec ((v:Int),pC (i+1) v,(m:Int),((i+1:Nat):Int)) ⟨i+1,rfl,by omega⟩ (by simp only[Int.toNat_natCast];omega)
  have hl:=uF i v
  have e1:IntKind.wrap .i64 (8*(i:Int))=((8*i:Nat):Int):=by rw[aI _ (by omega)];omega
  have e2:dI .u64 (v:Int) ((8*i:Nat):Int)=((v / 256^i:Nat):Int):=by
   rw[aC8 v (8*i) (by omega),Nat.pow_mul]
  have e3:IntKind.wrap .u8 ((v / 256^i:Nat):Int)=((v / 256^i%256:Nat):Int):=by rw[azB];omega
  have e4:IntKind.wrap .i64 ((i:Int)+1)=((i+1:Nat):Int):=by rw[aI _ (by omega)];rfl
  have c1:decide ((i:Int)<(m:Int))=true:=decide_eq_true (by omega)
  have c2:decide ((0:Int)≤((8*i:Nat):Int))=true:=decide_eq_true (by omega)
  have c3:∀c:UInt8,decide (((pC i v).length+([c]:List UInt8).length)*1≤140737488355328)=true:=fun c=>decide_eq_true (by simp only[hl,List.length_singleton];omega)
  simp only[c1,e1,c2,e2,e3,e4,Int.toNat_natCast,c3,aeH,cond_true]
  rw[←ai0]
  exact hr
 ·have c1:decide ((i:Int)<(m:Int))=false:=decide_eq_false (by omega)
  have:i=m:=by omega
  subst this
  simp only[c1,cond_false,eS,Int.toNat_natCast]
mutual
theorem io(ts:List aA)(t:Int):∀v:aB,(aV ts t v).length+20≤wV v
 | .mk n s l ks b=>by
   have h1:=aeb ts (ts.getD t.toNat (aC .atype)).items l
   have h1':=aeb ts ((ts.getD t.toNat (aC .atype)).branches.getD b.toNat 0) l
   have h2:=ai1 ts (ts.getD t.toNat (aC .atype)).items ks l
   have h3:=ai2 ts (ts.getD t.toNat (aC .atype)).fields l
   have k1:=dQ (IntKind.wrap .i64 n)
   have k2:=dQ (l.length:Int)
   have k3:=dQ 0
   have k4:=dQ b
   have k5:=aur s
   have m1:(eS n 1).length=1:=uF _ _
   have m4:(eS n 4).length=4:=uF _ _
   have m8:(eS n 8).length=8:=uF _ _
   simp only[aV,wV]
   generalize ts.getD t.toNat (aC .atype)=k at*
   have key:∀(c:Bool)(x y:List UInt8),x.length≤20+s.length+eo ks+wL l→y.length≤20+s.length+eo ks+wL l→(cond c x y).length≤20+s.length+eo ks+wL l:=by
    intro c x y hx hy;cases c<;>assumption
   suffices H:∀z:List UInt8,z.length≤20+s.length+eo ks+wL l→z.length+20≤40+s.length+eo ks+wL l by
    apply H
    refine key _ _ _ (by omega) (key _ _ _ (by omega) (key _ _ _ (by omega) (key _ _ _ (by omega) (key _ _ _ (by omega) (key _ _ _ (by omega) (key _ _ _ ?_ (key _ _ _ (by omega) (key _ _ _ ?_ (by simp)))))))))
    ·simp only[List.length_append];omega
    ·simp only[List.length_append]
     have q1:(cond (decide (0<(l.length:Int))) (aZ (l.length:Int)) []).length≤10:=by cases decide (0<(l.length:Int))<;>simp[k2]
     have q2:(cond (k.kind==13) (mW ts k.items ks l) (gF ts k.items l)).length≤eo ks+wL l:=by cases (k.kind==13)<;>simp only[cond_true,cond_false]<;>omega
     omega
   intro z hz;omega
theorem aeb(ts:List aA)(t:Int):∀l:List aB,(gF ts t l).length≤wL l
 | []=>by simp[gF]
 |v::l=>by
  have:=io ts t v
  have:=aeb ts t l
  simp only[gF,List.length_append,wL];omega
theorem ai1(ts:List aA)(t:Int):∀(ks:List (List UInt8))(l:List aB),(mW ts t ks l).length≤eo ks+wL l
 |ks,[]=>by simp[mW]
 |ks,v::l=>by
  have h1:=io ts t v
  have h2:=ai1 ts t ks.tail l
  have h3:=aur (ks.headD [])
  have h4:(ks.headD []).length+eo ks.tail≤eo ks:=by cases ks<;>simp[eo]
  simp only[mW,List.length_append,wL]
  omega
theorem ai2(ts:List aA):∀(fs:List aO)(l:List aB),(kF ts fs l).length≤wL l
 |fs,[]=>by simp[kF]
 |fs,v::l=>by
  have:=io ts ((fs.headD (aC .afield)).typ) v
  have:=ai2 ts fs.tail l
  simp only[kF,List.length_append,wL];omega
end
theorem uG(v:aB):wV v=40+v.s.length+eo v.keys+wL v.l:=by cases v;rfl
theorem abH(ts:List aA)(t:Int):∀(l:List aB)(i:Nat),bA ts t l=true→i<l.length→aX ts t (l.getD i (aC .aval))=true
 | [],i,h,hi=>by simp at hi
 |v::l,0,h,hi=>by
  simp only[bA,Bool.and_eq_true] at h
  exact h.1
 |v::l,i+1,h,hi=>by
  simp only[bA,Bool.and_eq_true] at h
  exact abH ts t l i h.2 (by simpa using hi)
theorem ai3(ts:List aA):∀(fs:List aO)(l:List aB)(i:Nat),gP ts fs l=true→i<l.length→aX ts (fs.getD i (aC .afield)).typ (l.getD i (aC .aval))=true
 |fs,[],i,h,hi=>by simp at hi
 |fs,v::l,0,h,hi=>by
  simp only[gP,Bool.and_eq_true] at h
  cases fs<;>exact h.1
 |fs,v::l,i+1,h,hi=>by
  simp only[gP,Bool.and_eq_true] at h
  have:=ai3 ts fs.tail l i h.2 (by simpa using hi)
  cases fs<;>simpa using this
def gn(ts:List aA)(kind t:Int)(ks:List (List UInt8))(l:List aB):List UInt8:=cond (kind==13) (mW ts t ks l) (gF ts t l)
section
variable{ts:List aA}{t n:Int}{s:List UInt8}{l:List aB}{ks:List (List UInt8)}{b:Int}
theorem aEo(e:(ts.getD t.toNat (aC .atype)).kind=9)(h:aX ts t (.mk n s l ks b)=true):l.length=(ts.getD t.toNat (aC .atype)).fields.length∧gP ts (ts.getD t.toNat (aC .atype)).fields l=true:=by
 rw[aX,Bool.and_eq_true] at h
 have h:=h.2
 simp only[e] at h
 have h:((decide (l.length=(ts.getD t.toNat (aC .atype)).fields.length)&&gP ts (ts.getD t.toNat (aC .atype)).fields l)&&cA n s [] ks b)=true:=h
 simp only[Bool.and_eq_true,decide_eq_true_eq] at h
 exact h.1
theorem aEa(e:(ts.getD t.toNat (aC .atype)).kind=12)(h:aX ts t (.mk n s l ks b)=true):bA ts (ts.getD t.toNat (aC .atype)).items l=true:=by
 rw[aX,Bool.and_eq_true] at h
 have h:=h.2
 simp only[e] at h
 have h:(bA ts (ts.getD t.toNat (aC .atype)).items l&&cA n s [] ks b)=true:=h
 exact(Bool.and_eq_true_iff.1 h).1
theorem aEb(e:(ts.getD t.toNat (aC .atype)).kind=13)(h:aX ts t (.mk n s l ks b)=true):ks.length=l.length∧bA ts (ts.getD t.toNat (aC .atype)).items l=true:=by
 rw[aX,Bool.and_eq_true] at h
 have h:=h.2
 simp only[e] at h
 have h:((((ks.length:Int)==(l.length:Int))&&(dl ks&&bA ts (ts.getD t.toNat (aC .atype)).items l))&&cA n s [] [] b)=true:=h
 simp only[Bool.and_eq_true,beq_iff_eq] at h
 exact⟨by omega,h.1.2.2⟩
theorem aEc(e:(ts.getD t.toNat (aC .atype)).kind=14)(h:aX ts t (.mk n s l ks b)=true):0≤b∧b<(ts.getD t.toNat (aC .atype)).branches.length∧∃v,l=[v]∧aX ts ((ts.getD t.toNat (aC .atype)).branches.getD b.toNat 0) v=true:=by
 rw[aX,Bool.and_eq_true] at h
 have h:=h.2
 simp only[e] at h
 have h:((decide (0≤b)&&(decide (b<((ts.getD t.toNat (aC .atype)).branches.length:Int))&&(((l.length:Int)==1)&&bA ts ((ts.getD t.toNat (aC .atype)).branches.getD b.toNat 0) l)))&&cA n s [] ks 0)=true:=h
 simp only[Bool.and_eq_true,decide_eq_true_eq,beq_iff_eq] at h
 obtain⟨⟨h1,h2,h3,h4⟩, -⟩:=h
 match l,h3,h4 with
 | [v],h3,h4=>
   simp only[bA,Bool.and_true] at h4
   exact⟨h1,h2,v,rfl,h4⟩
theorem arH{v:aB}(h:aX ts t v=true)(e:(ts.getD t.toNat (aC .atype)).kind=9):v.l.length=(ts.getD t.toNat (aC .atype)).fields.length∧gP ts (ts.getD t.toNat (aC .atype)).fields v.l=true:=by
 cases v;exact aEo e h
theorem am8{v:aB}(h:aX ts t v=true)(e:(ts.getD t.toNat (aC .atype)).kind=12):bA ts (ts.getD t.toNat (aC .atype)).items v.l=true:=by
 cases v;exact aEa e h
theorem am9{v:aB}(h:aX ts t v=true)(e:(ts.getD t.toNat (aC .atype)).kind=13):v.keys.length=v.l.length∧bA ts (ts.getD t.toNat (aC .atype)).items v.l=true:=by
 cases v;exact aEb e h
theorem ana{v:aB}(h:aX ts t v=true)(e:(ts.getD t.toNat (aC .atype)).kind=14):0≤v.branch∧v.branch<(ts.getD t.toNat (aC .atype)).branches.length∧∃x,v.l=[x]∧aX ts ((ts.getD t.toNat (aC .atype)).branches.getD v.branch.toNat 0) x=true:=by
 cases v;exact aEc e h
theorem aec{v:aB}(h:aX ts t v=true):0≤t∧t<ts.length:=by
 cases v
 rw[aX,Bool.and_eq_true] at h
 simpa [isT] using h.1
end
end Go.Proofs.YtdpajabhmmmjoaaGreat
end
noncomputable section
namespace Go.Proofs.YtdpajabhmmmjoaaGreat
open Go.AM
set_option autoImplicit false
set_option linter.unusedVariables false
set_option linter.unusedSimpArgs false
set_option maxRecDepth 100000
theorem aEd{f:FuncId}{vs:List V}{R:Type}{C:R→Prop}{r:R}{v:V}(hC:∀x,C x→x=r∧aL Tryz.prog f vs v)(hR:aL Tryz.prog f vs v→C r)(h:(∀x∈vs,x.fits)→∃r,C r):∃r,C r:=
 ⟨r,hR (aL.fits fun hf=>by obtain⟨x,hx⟩:=h hf;exact(hC x hx).2)⟩
theorem aCF(v:Nat)(h:v<2^64):afo (v:Int)=if v<128 then [UInt8.ofNat v] else UInt8.ofNat (v%128+128)::afo ((v / 128:Nat):Int):=by
 unfold afo
 simp only[Int.toNat_natCast]
 split
 ·rename_i h1;exact aya v h1
 ·rename_i h1;exact aup v h (by omega)
theorem aCG(v:Int):(afo v).length≤10:=apO 9 _
theorem ayb:∀(m v:Nat),v<m→v<2^64→∃r,iq (v:Int) r
 |0=>fun v h=>by omega
 |m+1=>by
  intro v hm h64
  apply alW 1
  unfold acD acC
  dsimp only
  have hp:=aCF v h64
  refine aD (fun h=>?_) (fun h=>?_)
  ·have h:=of_decide_eq_true h
   rw[if_pos (by omega)] at hp
   refine aG ⟨_,_,rfl,rfl,?_⟩
   rw[oD _ (by omega)]
   exact hp.symm
  ·have h:=of_decide_eq_false h
   rw[if_neg (by omega)] at hp
   have e1:Int.tdiv (v:Int) 128=((v / 128:Nat):Int):=by rw[Int.tdiv_eq_ediv_of_nonneg (by omega)];omega
   have e2:IntKind.u64.wrap ((v / 128:Nat):Int)=((v / 128:Nat):Int):=dN _ (by omega)
   have e3:Int.tmod (v:Int) 128=((v%128:Nat):Int):=by rw[Int.tmod_eq_emod_of_nonneg (by omega)];omega
   have e4:IntKind.u8.wrap ((v%128:Nat):Int)=((v%128:Nat):Int):=oD _ (by omega)
   have e5:IntKind.u8.wrap (((v%128:Nat):Int)+128)=((v%128+128:Nat):Int):=by rw[oD _ (by omega)];omega
   simp only[e1,e2,e3,e4,e5]
   refine aF (ayb m (v / 128) (by omega) (by omega)) ?_
   rintro(r:List UInt8) ⟨-,hr⟩
   have hr:r=afo ((v / 128:Nat):Int):=hr
   subst hr
   have:=aCG ((v / 128:Nat):Int)
   refine vck (aG ⟨_,_,rfl,rfl,?_⟩)
   exact hp.symm
theorem aCH(v:Int)(h:0≤v∧v≤18446744073709551615):∃r,iq v r:=by
 obtain⟨n,rfl⟩:∃n:Nat,v=(n:Int):=⟨v.toNat,by omega⟩
 exact ayb (n+1) n (by omega) (by omega)
theorem aus(v:Int)(h:0≤v∧v≤18446744073709551615):bJ .xor .u64 (if IntKind.signed .u64 then -1 else IntKind.max .u64) v=18446744073709551615-v:=by
 have e:bJ .xor .u64 (if IntKind.signed .u64 then -1 else IntKind.max .u64) v=IntKind.wrap .u64 ((BitVec.ofInt 64 18446744073709551615 ^^^BitVec.ofInt 64 v).toNat:Nat):=rfl
 rw[e,show BitVec.ofInt 64 18446744073709551615=BitVec.allOnes 64 from by decide,BitVec.allOnes_xor,BitVec.toNat_not,BitVec.toNat_ofInt]
 have e2:((2^64-1-(v%(2^64:Nat)).toNat:Nat):Int)=18446744073709551615-v:=by omega
 rw[e2,dN _ (by omega)]
theorem aDi(v:Int)(h:0≤v∧v≤18446744073709551615):∃r,vb v r:=by
 apply axk 1
 unfold aoh aog
 dsimp only
 refine aD (fun h1=>?_) (fun h1=>?_)
 ·have h1:=of_decide_eq_true h1
  refine aG ⟨_,_,rfl,rfl,?_⟩
  rw[aus v h,dN ((18446744073709551615-v)*2) (by omega),dN _ (by omega)]
  simp only[w7,xE]
  rw[if_neg (by omega)]
 ·have h1:=of_decide_eq_false h1
  refine aG ⟨_,_,rfl,rfl,?_⟩
  rw[dN _ (by omega)]
  simp only[w7,xE]
  rw[if_pos (by omega)]
theorem aDj(v:Int)(h:0≤v∧v≤18446744073709551615):∃r,abj 8 v r:=by
 apply ay1 1
 unfold aqV aqU
 dsimp only
 have cF:∀(c:Int)(x y:Ro),c≠8→cond ((8:Int)==c) x y=y:=fun c x y hc=>by rw[bf (fun e=>hc e.symm)];rfl
 rw[cF 3 _ _ (by decide),cF 17 _ _ (by decide),cF 5 _ _ (by decide),cF 9 _ _ (by decide),cF 2 _ _ (by decide),cF 11 _ _ (by decide),cF 13 _ _ (by decide),cF 7 _ _ (by decide)]
 refine aD (fun _=>?_) (fun hc=>by cases hc)
 refine aF (aDi v h) ?_
 rintro(r:Int) ⟨-,hr⟩
 exact aG ⟨_,_,rfl,rfl,fun _=>hr⟩
theorem atJ(n:Int):0≤xE (IntKind.wrap .u64 n)∧xE (IntKind.wrap .u64 n)≤18446744073709551615:=by
 have h:0≤IntKind.wrap .u64 n∧IntKind.wrap .u64 n≤18446744073709551615:=by rw[qX];omega
 unfold xE
 split<;>omega
theorem af3(n:Int):0≤IntKind.wrap .u64 n∧IntKind.wrap .u64 n≤18446744073709551615:=by rw[qX];omega
theorem gH(n:Int):∃r,cV n r:=by
 apply asP 1
 unfold ajE ajD
 refine aF (aDj _ (af3 n)) ?_
 rintro(r:Int) ⟨-,hr⟩
 have hr:r=xE (IntKind.wrap .u64 n):=hr rfl
 subst hr
 refine aF (aCH _ (atJ n)) ?_
 rintro(q:List UInt8) ⟨-,hq⟩
 refine aG ⟨_,_,rfl,rfl,?_⟩
 simp only[yT,ya,aql]
 exact hq
theorem atK(p n:Int)(hp:0≤p∧p≤18446744073709551615)(hn:0≤n∧n≤8):∃r,re p n r:=by
 obtain⟨v,rfl⟩:∃v:Nat,p=(v:Int):=⟨p.toNat,by omega⟩
 obtain⟨m,rfl⟩:∃m:Nat,n=(m:Int):=⟨n.toNat,by omega⟩
 apply axm 100
 unfold aoj wC
 refine bm (fun x=>match x with|(w,m',s,i)=>m'=(m:Int)∧∃k:Nat,i=(k:Int)∧k≤m∧w=((v / 256^k:Nat):Int)∧s=pC k v) (fun x=>((m:Int)-x.2.2.2).toNat) ?_ _ _ ⟨rfl,0,rfl,by omega,by simp,rfl⟩ (by simp;omega)
 rintro again ⟨w,m',s,i⟩ ⟨rfl,k,rfl,hk,rfl,rfl⟩ ih
 dsimp only at ih
 unfold zl
 dsimp only
 have hl:=uF k v
 have hlt:v / 256^k≤v:=Nat.div_le_self _ _
 generalize hq:v / 256^k=q at*
 refine aD (fun h=>?_) (fun h=>?_)
 ·have h:=of_decide_eq_true h
  have e1:Int.tmod (q:Int) 256=((q%256:Nat):Int):=by rw[Int.tmod_eq_emod_of_nonneg (by omega)];omega
  have e2:IntKind.u8.wrap ((q%256:Nat):Int)=((q%256:Nat):Int):=oD _ (by omega)
  have e3:Int.tdiv (q:Int) 256=((q / 256:Nat):Int):=by rw[Int.tdiv_eq_ediv_of_nonneg (by omega)];omega
  have e4:IntKind.u64.wrap ((q / 256:Nat):Int)=((q / 256:Nat):Int):=dN _ (by omega)
  have e5:IntKind.i64.wrap ((k:Int)+1)=((k+1:Nat):Int):=by rw[aI _ (by omega)];rfl
  simp only[e1,e2,e3,e4,e5,Int.toNat_natCast]
  refine vck ?_
  refine ih (_,_,_,_) ⟨rfl,k+1,rfl,by omega,?_,?_⟩ (by simp only;omega)
  ·rw[←hq,Nat.div_div_eq_div_mul,Nat.pow_succ]
  ·rw[ai0,hq]
 ·have h:=of_decide_eq_false h
  have:k=m:=by omega
  subst this
  exact aG ⟨_,_,rfl,rfl,by simp only[abQ,eS,Int.toNat_natCast]⟩
section
variable(ts:List aA)(t:Int)
theorem afh{v:aB}:aV ts t v=(let k:=ts.getD t.toNat (aC .atype)
  cond (k.kind==2) (eS v.n 1) (
  cond (k.kind==3||(k.kind==4||k.kind==10)) (aZ (IntKind.wrap .i64 v.n)) (
  cond (k.kind==5) (eS v.n 4) (
  cond (k.kind==6) (eS v.n 8) (
  cond (k.kind==7||k.kind==8) (fw v.s) (
  cond (k.kind==11) v.s (
  cond (k.kind==14) (aZ v.branch++gF ts (k.branches.getD v.branch.toNat 0) v.l) (
  cond (k.kind==9) (kF ts k.fields v.l) (
  cond (k.kind==12||k.kind==13) ((cond (decide (0<(v.l.length:Int))) (aZ (v.l.length:Int)) [])++(cond (k.kind==13) (mW ts k.items v.keys v.l) (gF ts k.items v.l))++aZ 0)
  []))))))))):=by
 cases v
 rw[aV];rfl
end
theorem kN{c d:Int}{x y:Ro}{k:Int}(e:k=d)(h:d≠c):cond (k==c) x y=y:=by rw[e,bf h];rfl
theorem kY{d:Int}{x y:Ro}{k:Int}(e:k=d):cond (k==d) x y=x:=by rw[e,bt rfl];rfl
def ayc(ts:List aA)(m:Nat):Prop:=∀(t:Int)(v:aB),wV v<m→wV v≤1000000000000000→aX ts t v=true→∃r,gl ts t v r
theorem azm(ts:List aA)(hs:dJ ts)(m:Nat)(hE:ayc ts m):ayc ts (m+1):=by
 intro t v hm hw hf
 refine aEd (r:=aV ts t v) (fun x hx=>⟨hx.2,by have h:=hx.1;rw[show x=aV ts t v from hx.2] at h;exact h⟩) (fun h=>⟨h,rfl⟩) fun hfit=>?_
 have hn:=adi (hfit (.agg (enc .aval v)) (by simp)) v.n (by simp[enc])
 have hT:=aec hf
 have hk:=hs.at (i:=t.toNat) (by omega)
 have hval:=afh ts t (v:=v)
 have hlen:=io ts t v
 have hwv:=uG v
 have hbig:v.s.length+eo v.keys+wL v.l≤1000000000000000:=by omega
 have hwl:=wE v.l
 have hkl:=aiZ v.keys
 apply aph 1000000000000000
 unfold aeW oL
 dsimp only
 have hpost:∀y,vX ts t v y=(y=aV ts t v):=fun _=>rfl
 have f9:= @arH ts t v hf
 have f12:= @am8 ts t v hf
 have f13:= @am9 ts t v hf
 have f14:= @ana ts t v hf
 generalize hkk:ts.getD t.toNat (aC .atype)=k at hval hk f9 f12 f13 f14
 refine vck ?_
 have hq:=dQ
 have pA:∀(h0:List UInt8),h0.length≤10→(k.kind=12∨(k.kind=13∧v.keys.length=v.l.length))→bA ts k.items v.l=true→aV ts t v=h0++gn ts k.kind k.items v.keys v.l++aZ 0→
   Tot (aS 1000000000000000 (nO 1000000000000000) (ts,v,k,h0,0)) (fun z=>∃(y0:Bs)(rest:List aJ),z.1.dimR=.str y0∧z.2=rest∧y0=aV ts t v):=by
  intro h0 hh0 hkd hE' hv
  have htl:(gn ts k.kind k.items v.keys v.l).length≤eo v.keys+wL v.l:=by
   have a1:=ai1 ts k.items v.keys v.l
   have a2:=aeb ts k.items v.l
   unfold gn
   cases (k.kind==13)<;>simp only[cond_true,cond_false]<;>omega
  refine bm (fun x=>match x with|(ts',v',k',acc,i)=>ts'=ts∧v'=v∧k'=k∧∃j:Nat,i=(j:Int)∧j≤v.l.length∧acc++gn ts k.kind k.items (v.keys.drop j) (v.l.drop j)=h0++gn ts k.kind k.items v.keys v.l)
   (fun x=>((v.l.length:Int)-x.2.2.2.2).toNat) ?_ _ _ ⟨rfl,rfl,rfl,0,rfl,by omega,by simp⟩ (by simp;omega)
  rintro again ⟨ts',v',k',acc,i⟩ ⟨rfl,rfl,rfl,j,rfl,hj,hacc⟩ ih
  dsimp only at ih
  have hal:=congrArg List.length hacc
  simp only[List.length_append] at hal
  unfold nO
  dsimp only
  simp only[Int.toNat_natCast]
  refine aD (fun h=>?_) (fun h=>?_)
  ·have h:=of_decide_eq_true h
   have hjl:j<v'.l.length:=by omega
   have ej:IntKind.i64.wrap ((j:Int)+1)=((j+1:Nat):Int):=by rw[aI _ (by omega)];rfl
   have hfe:=abH ts' k'.items v'.l j hE' hjl
   have hd:=eg v'.l j (aC .aval) hjl
   have hwd:=amR (aC .aval) v'.l j hjl
   have hlv:=io ts' k'.items (v'.l.getD j (aC .aval))
   rw[hd] at hacc hal
   generalize v'.l.getD j (aC .aval)=x at*
   refine aD (fun h13=>?_) (fun h13=>?_)
   ·simp only[bnl] at h13
    have hkl':v'.keys.length=v'.l.length:=by rcases hkd with e|e;omega;exact e.2
    have hdk:=eg v'.keys j (aC .str) (by omega)
    rw[hdk] at hacc hal
    obtain⟨q,hq'⟩:∃q:List UInt8,v'.keys.getD j (aC .str)=q:=⟨_,rfl⟩
    simp only[hq'] at hacc hal ⊢
    simp only[gn,h13,beq_self_eq_true,cond_true,mW,List.headD_cons,List.tail_cons,fw,List.length_append] at hacc hal
    refine vck ?_
    refine aF (gH _) ?_
    rintro(y:List UInt8) ⟨-,hy⟩
    have hy:y=aZ (q.length:Int):=hy
    subst hy
    simp only[gn,h13,beq_self_eq_true,cond_true] at htl
    refine vck (vck (vck (vck ?_)))
    rw[dX]
    refine aF (hE k'.items x (by omega) (by omega) hfe) ?_
    rintro(z:List UInt8) ⟨-,hz⟩
    have hz:z=aV ts' k'.items x:=hz
    subst hz
    refine vck ?_
    refine ih (_,_,_,_,_) ⟨rfl,rfl,rfl,j+1,ej,by omega,?_⟩ (by simp only[ej];omega)
    simp only[gn,h13,beq_self_eq_true,cond_true]
    rw[←hacc]
    simp only[List.append_assoc]
   ·simp only[bnl] at h13
    have e13:(k'.kind==13)=false:=bf h13
    simp only[gn,e13,cond_false,gF,List.length_append] at hacc hal htl
    refine vck ?_
    rw[dX]
    refine aF (hE k'.items x (by omega) (by omega) hfe) ?_
    rintro(z:List UInt8) ⟨-,hz⟩
    have hz:z=aV ts' k'.items x:=hz
    subst hz
    refine vck ?_
    refine ih (_,_,_,_,_) ⟨rfl,rfl,rfl,j+1,ej,by omega,?_⟩ (by simp only[ej];omega)
    simp only[gn,e13,cond_false]
    rw[←hacc]
    simp only[List.append_assoc]
  ·have h:=of_decide_eq_false h
   have hjl:j=v'.l.length:=by omega
   subst hjl
   have ht0:gn ts' k'.kind k'.items (v'.keys.drop v'.l.length) (v'.l.drop v'.l.length)=[]:=by
    rw[List.drop_length]
    unfold gn
    cases (k'.kind==13)<;>simp[gF,mW]
   rw[ht0,List.append_nil] at hacc
   refine aF (gH _) ?_
   rintro(y:List UInt8) ⟨-,hy⟩
   have hy:y=aZ 0:=hy
   subst hy
   have h00:=hq 0
   rw[ht0,List.length_nil] at hal
   refine vck (aG ⟨_,_,rfl,rfl,?_⟩)
   rw[hv,hacc]
 rcases acZ hk with e|e|e|e|e|e|e|e|e|e|e|e|e|e
 ·rw[kN (c:=2) e (by decide),kN (c:=3) e (by decide),kN (c:=4) e (by decide),kN (c:=10) e (by decide),kN (c:=5) e (by decide),kN (c:=6) e (by decide),kN (c:=7) e (by decide),kN (c:=8) e (by decide),kN (c:=11) e (by decide),kN (c:=14) e (by decide),kN (c:=9) e (by decide),kN (c:=12) e (by decide),kN (c:=13) e (by decide)]
  simp only[e] at hval
  exact aG ⟨_,_,rfl,rfl,hval.symm⟩
 ·rw[kY (d:=2) e]
  simp only[e] at hval
  have hval:aV ts t v=eS v.n 1:=hval
  refine aF (atK v.n 1 hn (by omega)) ?_
  rintro(r:List UInt8) ⟨-,hr⟩
  exact aG ⟨_,_,rfl,rfl,Eq.trans hr hval.symm⟩
 ·rw[kN (c:=2) e (by decide),kY (d:=3) e]
  simp only[e] at hval
  have hval:aV ts t v=aZ (IntKind.wrap .i64 v.n):=hval
  refine aF (gH _) ?_
  rintro(r:List UInt8) ⟨-,hr⟩
  exact aG ⟨_,_,rfl,rfl,Eq.trans hr hval.symm⟩
 ·rw[kN (c:=2) e (by decide),kN (c:=3) e (by decide),kY (d:=4) e]
  simp only[e] at hval
  have hval:aV ts t v=aZ (IntKind.wrap .i64 v.n):=hval
  refine aF (gH _) ?_
  rintro(r:List UInt8) ⟨-,hr⟩
  exact aG ⟨_,_,rfl,rfl,Eq.trans hr hval.symm⟩
 ·rw[kN (c:=2) e (by decide),kN (c:=3) e (by decide),kN (c:=4) e (by decide),kN (c:=10) e (by decide),kY (d:=5) e]
  simp only[e] at hval
  have hval:aV ts t v=eS v.n 4:=hval
  refine aF (atK v.n 4 hn (by omega)) ?_
  rintro(r:List UInt8) ⟨-,hr⟩
  exact aG ⟨_,_,rfl,rfl,Eq.trans hr hval.symm⟩
 ·rw[kN (c:=2) e (by decide),kN (c:=3) e (by decide),kN (c:=4) e (by decide),kN (c:=10) e (by decide),kN (c:=5) e (by decide),kY (d:=6) e]
  simp only[e] at hval
  have hval:aV ts t v=eS v.n 8:=hval
  refine aF (atK v.n 8 hn (by omega)) ?_
  rintro(r:List UInt8) ⟨-,hr⟩
  exact aG ⟨_,_,rfl,rfl,Eq.trans hr hval.symm⟩
 ·rw[kN (c:=2) e (by decide),kN (c:=3) e (by decide),kN (c:=4) e (by decide),kN (c:=10) e (by decide),kN (c:=5) e (by decide),kN (c:=6) e (by decide),kY (d:=7) e]
  simp only[e] at hval
  have hval:aV ts t v=fw v.s:=hval
  refine aF (gH _) ?_
  rintro(r:List UInt8) ⟨-,hr⟩
  have hr:r=aZ (v.s.length:Int):=hr
  subst hr
  have h10:=dQ (v.s.length:Int)
  refine vck (aG ⟨_,_,rfl,rfl,hval.symm⟩)
 ·rw[kN (c:=2) e (by decide),kN (c:=3) e (by decide),kN (c:=4) e (by decide),kN (c:=10) e (by decide),kN (c:=5) e (by decide),kN (c:=6) e (by decide),kN (c:=7) e (by decide),kY (d:=8) e]
  simp only[e] at hval
  have hval:aV ts t v=fw v.s:=hval
  refine aF (gH _) ?_
  rintro(r:List UInt8) ⟨-,hr⟩
  have hr:r=aZ (v.s.length:Int):=hr
  subst hr
  have h10:=dQ (v.s.length:Int)
  refine vck (aG ⟨_,_,rfl,rfl,hval.symm⟩)
 ·rw[kN (c:=2) e (by decide),kN (c:=3) e (by decide),kN (c:=4) e (by decide),kN (c:=10) e (by decide),kN (c:=5) e (by decide),kN (c:=6) e (by decide),kN (c:=7) e (by decide),kN (c:=8) e (by decide),kN (c:=11) e (by decide),kN (c:=14) e (by decide),kY (d:=9) e]
  simp only[e] at hval
  obtain⟨r1,r2⟩:=f9 e
  have hval:aV ts t v=kF ts k.fields v.l:=hval
  have htl:=ai2 ts k.fields v.l
  have hnf:=hk.nf
  refine bm (fun x=>match x with|(ts',v',k',acc,i)=>ts'=ts∧v'=v∧k'=k∧∃j:Nat,i=(j:Int)∧j≤v.l.length∧acc++kF ts (k.fields.drop j) (v.l.drop j)=kF ts k.fields v.l)
   (fun x=>((v.l.length:Int)-x.2.2.2.2).toNat) ?_ _ _ ⟨rfl,rfl,rfl,0,rfl,by omega,by simp⟩ (by simp;omega)
  rintro again ⟨ts',v',k',acc,i⟩ ⟨rfl,rfl,rfl,j,rfl,hj,hacc⟩ ih
  dsimp only at ih
  have hal:=congrArg List.length hacc
  simp only[List.length_append] at hal
  unfold rh
  dsimp only
  simp only[Int.toNat_natCast]
  refine aD (fun h=>?_) (fun h=>?_)
  ·have h:=of_decide_eq_true h
   have hjl:j<v'.l.length:=by omega
   have ej:IntKind.i64.wrap ((j:Int)+1)=((j+1:Nat):Int):=by rw[aI _ (by omega)];rfl
   have hfe:=ai3 ts' k'.fields v'.l j r2 hjl
   have hd:=eg v'.l j (aC .aval) hjl
   have hdf:=eg k'.fields j (aC .afield) (by omega)
   have hwd:=amR (aC .aval) v'.l j hjl
   have hlv:=io ts' (k'.fields.getD j (aC .afield)).typ (v'.l.getD j (aC .aval))
   rw[hd,hdf] at hacc hal
   generalize v'.l.getD j (aC .aval)=x at*
   generalize k'.fields.getD j (aC .afield)=f at*
   simp only[kF,List.headD_cons,List.tail_cons,List.length_append] at hacc hal
   refine vck (vck ?_)
   rw[dX]
   refine aF (hE f.typ x (by omega) (by omega) hfe) ?_
   rintro(z:List UInt8) ⟨-,hz⟩
   have hz:z=aV ts' f.typ x:=hz
   subst hz
   refine vck ?_
   refine ih (_,_,_,_,_) ⟨rfl,rfl,rfl,j+1,ej,by omega,?_⟩ (by simp only[ej];omega)
   rw[←hacc]
   simp only[List.append_assoc]
  ·have h:=of_decide_eq_false h
   have hjl:j=v'.l.length:=by omega
   subst hjl
   rw[List.drop_length,kF,List.append_nil] at hacc
   exact aG ⟨_,_,rfl,rfl,hacc.trans hval.symm⟩
 ·rw[kN (c:=2) e (by decide),kN (c:=3) e (by decide),kN (c:=4) e (by decide),kY (d:=10) e]
  simp only[e] at hval
  have hval:aV ts t v=aZ (IntKind.wrap .i64 v.n):=hval
  refine aF (gH _) ?_
  rintro(r:List UInt8) ⟨-,hr⟩
  exact aG ⟨_,_,rfl,rfl,Eq.trans hr hval.symm⟩
 ·rw[kN (c:=2) e (by decide),kN (c:=3) e (by decide),kN (c:=4) e (by decide),kN (c:=10) e (by decide),kN (c:=5) e (by decide),kN (c:=6) e (by decide),kN (c:=7) e (by decide),kN (c:=8) e (by decide),kY (d:=11) e]
  simp only[e] at hval
  exact aG ⟨_,_,rfl,rfl,hval.symm⟩
 ·rw[kN (c:=2) e (by decide),kN (c:=3) e (by decide),kN (c:=4) e (by decide),kN (c:=10) e (by decide),kN (c:=5) e (by decide),kN (c:=6) e (by decide),kN (c:=7) e (by decide),kN (c:=8) e (by decide),kN (c:=11) e (by decide),kN (c:=14) e (by decide),kN (c:=9) e (by decide),kY (d:=12) e]
  simp only[e] at hval
  have hval:aV ts t v=(cond (decide (0<(v.l.length:Int))) (aZ (v.l.length:Int)) [])++gn ts 12 k.items v.keys v.l++aZ 0:=hval
  rw[←e] at hval
  refine aD (fun h=>?_) (fun h=>?_)
  ·refine aF (gH _) ?_
   rintro(r:List UInt8) ⟨-,hr⟩
   have hr:r=aZ (v.l.length:Int):=hr
   subst hr
   rw[h,cond_true] at hval
   exact pA _ (dQ _) (.inl e) (f12 e) hval
  ·rw[h,cond_false] at hval
   exact pA [] (by simp) (.inl e) (f12 e) hval
 ·rw[kN (c:=2) e (by decide),kN (c:=3) e (by decide),kN (c:=4) e (by decide),kN (c:=10) e (by decide),kN (c:=5) e (by decide),kN (c:=6) e (by decide),kN (c:=7) e (by decide),kN (c:=8) e (by decide),kN (c:=11) e (by decide),kN (c:=14) e (by decide),kN (c:=9) e (by decide),kN (c:=12) e (by decide),kY (d:=13) e]
  simp only[e] at hval
  have hval:aV ts t v=(cond (decide (0<(v.l.length:Int))) (aZ (v.l.length:Int)) [])++gn ts 13 k.items v.keys v.l++aZ 0:=hval
  rw[←e] at hval
  refine aD (fun h=>?_) (fun h=>?_)
  ·refine aF (gH _) ?_
   rintro(r:List UInt8) ⟨-,hr⟩
   have hr:r=aZ (v.l.length:Int):=hr
   subst hr
   rw[h,cond_true] at hval
   exact pA _ (dQ _) (.inr ⟨e,(f13 e).1⟩) (f13 e).2 hval
  ·rw[h,cond_false] at hval
   exact pA [] (by simp) (.inr ⟨e,(f13 e).1⟩) (f13 e).2 hval
 ·rw[kN (c:=2) e (by decide),kN (c:=3) e (by decide),kN (c:=4) e (by decide),kN (c:=10) e (by decide),kN (c:=5) e (by decide),kN (c:=6) e (by decide),kN (c:=7) e (by decide),kN (c:=8) e (by decide),kN (c:=11) e (by decide),kY (d:=14) e]
  simp only[e] at hval
  have hval:aV ts t v=aZ v.branch++gF ts (k.branches.getD v.branch.toNat 0) v.l:=hval
  obtain⟨b1,b2,x,hx,hfx⟩:=f14 e
  have h10:=dQ v.branch
  refine aF (gH _) ?_
  rintro(r:List UInt8) ⟨-,hr⟩
  have hr:r=aZ v.branch:=hr
  subst hr
  have hx0:v.l.getD (Int.toNat 0) (aC .aval)=x:=by rw[hx];rfl
  have hl1:v.l.length=1:=by rw[hx];rfl
  have hwx:wV x=wL v.l:=by rw[hx];simp[wL]
  refine vck (vck ?_)
  rw[hx0,dX]
  refine aF (hE _ x (by omega) (by omega) hfx) ?_
  rintro(z:List UInt8) ⟨-,hz⟩
  have hz:z=aV ts (k.branches.getD v.branch.toNat 0) x:=hz
  subst hz
  have hlx:=io ts (k.branches.getD v.branch.toNat 0) x
  refine vck (aG ⟨_,_,rfl,rfl,?_⟩)
  show aZ v.branch++aV ts (k.branches.getD v.branch.toNat 0) x=aV ts t v
  rw[hval,hx];simp[gF]
end Go.Proofs.YtdpajabhmmmjoaaGreat
end
noncomputable section
namespace Go.Proofs.YtdpajabhmmmjoaaGreat
open Go.AM
set_option autoImplicit false
set_option linter.unusedVariables false
set_option linter.unusedSimpArgs false
set_option maxRecDepth 100000
theorem aa6(n:Nat)(h:n<256):(UInt8.ofNat n).toNat=n:=by simp;omega
theorem aut:∀(k v:Nat)(m:List UInt8),v<128^k*2→iN (k+1) (nL k v++m)=some (v,(nL k v).length)
 |0,v,m,h=>by
  simp only[nL,List.cons_append,List.nil_append,iN,aa6 v (by omega)]
  rw[if_neg (by omega),if_pos (by omega)]
  rfl
 |k+1,v,m,h=>by
  rw[nL]
  split
  ·rename_i h1
   simp only[List.cons_append,List.nil_append,iN,aa6 v (by omega)]
   rw[if_neg (by omega),if_pos h1]
   rfl
  ·rename_i h1
   have e:v / 128<128^k*2:=Nat.div_lt_of_lt_mul (by rw[Nat.pow_succ] at h;omega)
   simp only[List.cons_append]
   rw[iN]
   rw[aa6 _ (by omega),if_neg (by omega),if_neg (by omega),aut k (v / 128) m e]
   simp only[List.length_cons,Option.some.injEq,Prod.mk.injEq,and_true]
   omega
theorem aCI:∀(k v:Nat),1≤(nL k v).length
 |0,v=>by simp[nL]
 |k+1,v=>by rw[nL];split<;>simp
theorem auu(z:Int):1≤(aZ z).length:=by rw[ya];exact aCI 9 _
theorem aDk(n:Int)(h:0≤n∧n≤18446744073709551615):afq (xE n)=n:=by
 unfold afq xE
 split<;>split<;>omega
theorem uH(z:Int)(hz:-9223372036854775808≤z∧z≤9223372036854775807)(r:List UInt8):fL (aZ z++r)=some (z,r):=by
 have hw:0≤IntKind.wrap .u64 z∧IntKind.wrap .u64 z≤18446744073709551615:=af3 z
 have hg:=atJ z
 have e:(128:Nat)^9*2=18446744073709551616:=by decide
 unfold fL
 rw[ya]
 unfold aql afo
 rw[aut 9 _ r (by omega)]
 simp only[List.drop_left,Option.some.injEq,Prod.mk.injEq,and_true]
 rw[Int.toNat_of_nonneg hg.1,aDk _ hw,qX,iQ]
 omega
theorem apP(x r:List UInt8):kO x.length (x++r)=some (x,r):=by
 unfold kO
 rw[if_pos (by simp),List.take_left,List.drop_left]
theorem arI:∀k v:Nat,afp (pC k v)=v%256^k
 |0,v=>by simp[afp,pC,Nat.mod_one]
 |k+1,v=>by
  rw[pC,afp,arI k,aa6 _ (by omega),Nat.pow_succ,Nat.mul_comm (256^k) 256,Nat.mod_mul]
theorem atL(k:Nat)(q:Int)(hq:q=k)(v:Int)(hk:k≤8)(hv:0≤v∧v<((256^k:Nat):Int))(r:List UInt8):pZ k (eS v q++r)=some (v,r):=by
 subst hq
 have hl:(eS v k).length=k:=by unfold eS;rw[uF];rfl
 have h1:=apP (eS v k) r
 rw[hl] at h1
 unfold pZ
 rw[h1]
 simp only[Option.some.injEq,Prod.mk.injEq,and_true]
 have h2:(256:Nat)^k≤2^64:=by
  have:(256:Nat)^k≤256^8:=Nat.pow_le_pow_right (by omega) hk
  exact Nat.le_trans this (by decide)
 unfold aD4 eS
 rw[Int.toNat_natCast,arI,Nat.mod_eq_of_lt (by omega),Nat.mod_eq_of_lt (by omega)]
 omega
theorem apQ(s r:List UInt8)(hs:s.length≤1000000000000000):lP (fw s++r)=some none∨lP (fw s++r)=some (some (s,r)):=by
 have h1:fw s++r=aZ (s.length:Int)++(s++r):=by unfold fw;rw[List.append_assoc]
 unfold lP
 rw[h1,uH _ (by omega)]
 simp only[]
 rw[if_neg (by omega)]
 split
 ·exact .inl rfl
 ·right
  rw[Int.toNat_natCast,apP]
  rfl
theorem atM(n:Nat)(i:Int)(h:0≤i∧i<n)(hn:n≤1000000)(r:List UInt8):sH n (aZ i++r)=some (i,r):=by
 unfold sH
 rw[uH _ (by omega)]
 simp only[]
 rw[if_pos h]
def qP{α:Type}(D:List UInt8→Got α)(l:List α)(s:List UInt8):Prop:=∀r,eT D l.length (s++r)=some none∨eT D l.length (s++r)=some (some (l,r))
theorem afi{α:Type}(D:List UInt8→Got α):qP D [] []:=fun r=>.inr rfl
theorem ai4{α:Type}{D:List UInt8→Got α}{v:α}{l:List α}{s u:List UInt8}(h:∀r,D (s++r)=some none∨D (s++r)=some (some (v,r)))(hl:qP D l u):qP D (v::l) (s++u):=by
 intro r
 rw[List.length_cons,eT,List.append_assoc]
 rcases h (u++r) with e|e<;>rw[e]
 ·exact .inl rfl
 ·rcases hl r with e2|e2
  ·left;simp only[e2]
  ·right;simp only[e2]
theorem aBR{α:Type}{D:List UInt8→Got α}{m:List α}{u:List UInt8}(hm:qP D m u):∀{l:List α}{s:List UInt8},qP D l s→qP D (l++m) (s++u):=by
 have key:∀(a:Nat)(l:List α)(s:List UInt8),l.length=a→(eT D a (s++u)=eT D a (s++u)):=fun _ _ _ _=>rfl
 have go:∀(a b:Nat)(x:List UInt8),eT D (a+b) x=match eT D a x with|some (some (l,r))=>(match eT D b r with|some (some (m,r'))=>some (some (l++m,r'))|some none=>some none|none=>none)|some none=>some none|none=>none:=by
  intro a
  induction a with
  |zero=>intro b x;rw[Nat.zero_add];simp only[eT,List.nil_append];cases eT D b x with|none=>rfl|some y=>cases y with|none=>rfl|some z=>rfl
  |succ a ih=>
   intro b x
   rw[show a+1+b=(a+b)+1 by omega,eT,eT]
   cases D x with
   |none=>rfl
   |some y=>cases y with
    |none=>rfl
    |some z=>
     obtain⟨v,r⟩:=z
     simp only[]
     rw[ih]
     cases eT D a r with
     |none=>rfl
     |some y=>cases y with
      |none=>rfl
      |some z=>
       obtain⟨l,r'⟩:=z
       simp only[]
       cases eT D b r' with
       |none=>rfl
       |some y=>cases y with|none=>rfl|some z=>rfl
 intro l s hl r
 rw[List.length_append,go,List.append_assoc]
 rcases hl (u++r) with e|e<;>rw[e]
 ·exact .inl rfl
 ·rcases hm r with e2|e2
  ·left;simp only[e2]
  ·right;simp only[e2]
def lJ{α:Type}(l:List α):Got (List α)→Got (List α)
 |some (some (m,r))=>some (some (l++m,r))
 |some none=>some none
 |none=>none
theorem aCJ{α:Type}(l m:List α)(x:Got (List α)):lJ l (lJ m x)=lJ (l++m) x:=by
 unfold lJ
 cases x with
 |none=>rfl
 |some y=>cases y with|none=>rfl|some z=>simp
def fv{α:Type}(D:List UInt8→Got α)(l:List α)(s:List UInt8):Prop:=
 ∀g X,(s++X).length<g→∃g',X.length<g'∧(bO D g (s++X)=some none∨bO D g (s++X)=lJ l (bO D g' X))
theorem atN{α:Type}(D:List UInt8→Got α):fv D [] []:=fun g X h=>⟨g,h,.inr (by
 show bO D g X=lJ [] (bO D g X)
 cases bO D g X with|none=>rfl|some y=>cases y with|none=>rfl|some z=>rfl)⟩
theorem aDl{α:Type}{D:List UInt8→Got α}{l m:List α}{s u:List UInt8}(hl:fv D l s)(hm:fv D m u):fv D (l++m) (s++u):=by
 intro g X h
 rw[List.append_assoc] at h ⊢
 obtain⟨g1,h1,e1⟩:=hl g (u++X) h
 obtain⟨g2,h2,e2⟩:=hm g1 X h1
 refine⟨g2,h2,?_⟩
 rcases e1 with e1|e1
 ·exact .inl e1
 ·rcases e2 with e2|e2
  ·left;rw[e1,e2];rfl
  ·right;rw[e1,e2,aCJ]
theorem atO{α:Type}{D:List UInt8→Got α}{m:List α}{c:List UInt8}(h0:0<m.length)(h1:m.length≤1000000000000000000)(hm:qP D m c):fv D m (aZ (m.length:Int)++c):=by
 intro g X hg
 obtain⟨g,rfl⟩:∃q,g=q+1:=⟨g-1,by omega⟩
 have hp:=auu (m.length:Int)
 simp only[List.length_append] at hg
 refine⟨g,by omega,?_⟩
 rw[bO,List.append_assoc,uH _ (by omega)]
 simp only[]
 rw[if_neg (by omega),if_pos (by omega),Int.toNat_natCast]
 rcases hm X with e|e<;>rw[e]
 ·exact .inl rfl
 ·right
  unfold lJ
  dsimp only
  cases bO D g X with|none=>rfl|some y=>cases y with|none=>rfl|some z=>rfl
theorem aDm{α:Type}{D:List UInt8→Got α}{m:List α}{c:List UInt8}(h0:0<m.length)(h1:m.length≤1000000000000000000)(hc:c.length≤1000000000000000000)(hm:qP D m c):fv D m (aZ (-(m.length:Int))++(aZ (c.length:Int)++c)):=by
 intro g X hg
 obtain⟨g,rfl⟩:∃q,g=q+1:=⟨g-1,by omega⟩
 have hp:=auu (-(m.length:Int))
 simp only[List.length_append] at hg
 refine⟨g,by omega,?_⟩
 rw[bO,List.append_assoc,uH _ (by omega)]
 simp only[]
 rw[if_neg (by omega),if_neg (by omega),List.append_assoc,uH _ (by omega)]
 simp only[]
 rw[if_neg (by omega),Int.neg_neg,Int.toNat_natCast]
 rcases hm X with e|e<;>rw[e]
 ·exact .inl rfl
 ·right
  simp only[List.length_append]
  rw[if_neg (by omega)]
  unfold lJ
  cases bO D g X with|none=>rfl|some y=>cases y with|none=>rfl|some z=>rfl
theorem atP{α:Type}{D:List UInt8→Got α}{l:List α}{s:List UInt8}(hl:fv D l s)(r:List UInt8)(g:Nat)(hg:(s++aZ 0++r).length<g):bO D g (s++aZ 0++r)=some none∨bO D g (s++aZ 0++r)=some (some (l,r)):=by
 rw[List.append_assoc] at hg ⊢
 obtain⟨g1,h1,e1⟩:=hl g (aZ 0++r) hg
 rcases e1 with e1|e1
 ·exact .inl e1
 ·right
  obtain⟨g1,rfl⟩:∃q,g1=q+1:=⟨g1-1,by omega⟩
  rw[e1,bO,uH 0 (by omega)]
  simp only[]
  rw[if_pos trivial]
  simp[lJ]
end Go.Proofs.YtdpajabhmmmjoaaGreat
end
noncomputable section
namespace Go.Proofs.YtdpajabhmmmjoaaGreat
open Go.AM
set_option autoImplicit false
set_option linter.unusedVariables false
set_option linter.unusedSimpArgs false
set_option maxRecDepth 100000
section
variable{ts:List aA}{t:Int}
theorem aaS{c:Int}{v:aB}(e:(ts.getD t.toNat (aC .atype)).kind=c)(hc:c=2∨c=3∨c=4∨c=5∨c=6∨c=10)(h:aX ts t v=true):v=.mk v.n [] [] [] 0∧mT c (ts.getD t.toNat (aC .atype)).syms v.n=true:=by
 obtain⟨n,s,l,ks,b⟩:=v
 rw[aX,Bool.and_eq_true] at h
 have h:=h.2
 simp only[e] at h
 have h:(mT c (ts.getD t.toNat (aC .atype)).syms n&&cA 0 s l ks b)=true:=by rcases hc with rfl|rfl|rfl|rfl|rfl|rfl<;>exact h
 rw[Bool.and_eq_true] at h
 obtain⟨-,rfl,rfl,rfl,rfl⟩:=aaH h.2
 exact⟨rfl,h.1⟩
theorem apR{c:Int}{v:aB}(e:(ts.getD t.toNat (aC .atype)).kind=c)(hc:c=7∨c=8∨c=11)(h:aX ts t v=true):v=.mk 0 v.s [] [] 0∧uN c (ts.getD t.toNat (aC .atype)).size v.s=true:=by
 obtain⟨n,s,l,ks,b⟩:=v
 rw[aX,Bool.and_eq_true] at h
 have h:=h.2
 simp only[e] at h
 have h:(uN c (ts.getD t.toNat (aC .atype)).size s&&cA n [] l ks b)=true:=by rcases hc with rfl|rfl|rfl<;>exact h
 rw[Bool.and_eq_true] at h
 obtain⟨rfl, -,rfl,rfl,rfl⟩:=aaH h.2
 exact⟨rfl,h.1⟩
theorem aBS{v:aB}(e:(ts.getD t.toNat (aC .atype)).kind=1)(h:aX ts t v=true):v=.mk 0 [] [] [] 0:=by
 obtain⟨n,s,l,ks,b⟩:=v
 rw[aX,Bool.and_eq_true] at h
 have h:=h.2
 simp only[e] at h
 have h:cA n s l ks b=true:=h
 obtain⟨rfl,rfl,rfl,rfl,rfl⟩:=aaH h
 rfl
theorem aBT{v:aB}(e:(ts.getD t.toNat (aC .atype)).kind=9)(h:aX ts t v=true):v=.mk 0 [] v.l [] 0:=by
 obtain⟨n,s,l,ks,b⟩:=v
 obtain⟨rfl,rfl,rfl,rfl⟩:=aBw e h
 rfl
theorem azQ{v:aB}(e:(ts.getD t.toNat (aC .atype)).kind=12)(h:aX ts t v=true):v=.mk 0 [] v.l [] 0:=by
 obtain⟨n,s,l,ks,b⟩:=v
 obtain⟨rfl,rfl,rfl,rfl⟩:=azM e h
 rfl
theorem azR{v:aB}(e:(ts.getD t.toNat (aC .atype)).kind=14)(h:aX ts t v=true):v=.mk 0 [] v.l [] v.branch:=by
 obtain⟨n,s,l,ks,b⟩:=v
 obtain⟨rfl,rfl,rfl⟩:=azO e h
 rfl
theorem aBU{v:aB}(e:(ts.getD t.toNat (aC .atype)).kind=13)(h:aX ts t v=true):v=.mk 0 [] v.l v.keys 0∧dl v.keys=true:=by
 obtain⟨n,s,l,ks,b⟩:=v
 obtain⟨rfl,rfl,rfl⟩:=azN e h
 rw[aX,Bool.and_eq_true] at h
 have h:=h.2
 simp only[e] at h
 have h:((((ks.length:Int)==(l.length:Int))&&(dl ks&&bA ts (ts.getD t.toNat (aC .atype)).items l))&&cA 0 [] [] [] 0)=true:=h
 simp only[Bool.and_eq_true] at h
 exact⟨rfl,h.1.2.1⟩
end
theorem azS{ts:List aA}{f:Nat}{t c:Int}(e:(ts.getD t.toNat (aC .atype)).kind=c)(s:List UInt8):bY ts (f+1) t s=decK (bY ts f) (ts.getD t.toNat (aC .atype)) c s:=by rw[bY,e]
def ayd(ts:List aA)(v:aB):Prop:=∀t,aX ts t v=true→aCU ts t v (aV ts t v)
theorem auv(ts:List aA)(f:Nat)(t:Int):∀l:List aB,(∀w∈l,ayd ts w)→bA ts t l=true→qP (bY ts f t) l (gF ts t l)
 | [],_,_=>afi _
 |v::l,h,he=>by
  simp only[bA,Bool.and_eq_true] at he
  rw[gF]
  exact ai4 (h v (List.mem_cons_self ..) t he.1 f) (auv ts f t l (fun w hw=>h w (List.mem_cons_of_mem _ hw)) he.2)
theorem aye{D:List UInt8→Got aB}{key s:List UInt8}{v:aB}(hk:key.length≤1000000000000000)(hv:cJ key=true)(h:∀r,D (s++r)=some none∨D (s++r)=some (some (v,r)))(r:List UInt8):
  lQ D ((fw key++s)++r)=some none∨lQ D ((fw key++s)++r)=some (some ((key,v),r)):=by
 unfold lQ
 rw[List.append_assoc]
 rcases apQ key (s++r) hk with e|e<;>rw[e]
 ·exact .inl rfl
 ·simp only[hv]
  rw[if_neg (by simp)]
  rcases h r with e2|e2<;>rw[e2]
  ·exact .inl rfl
  ·exact .inr rfl
theorem aou:∀(p:List UInt8)(ks:List (List UInt8)),lN p ks=true→∀k∈ks,cJ k=true
 |_,[],_=>by simp
 |p,k::l,h=>by
  simp only[lN,Bool.and_eq_true] at h
  intro x hx
  rcases List.mem_cons.1 hx with rfl|hx
  ·exact h.1
  ·exact aou k l h.2.2 x hx
theorem aov(ks:List (List UInt8))(h:dl ks=true):∀k∈ks,cJ k=true:=by
 cases ks with
 |nil=>simp
 |cons k l=>
  simp only[dl,Bool.and_eq_true] at h
  intro x hx
  rcases List.mem_cons.1 hx with rfl|hx
  ·exact h.1
  ·exact aou k l h.2 x hx
theorem auw(ts:List aA)(f:Nat)(t:Int):∀(l:List aB)(ks:List (List UInt8)),ks.length=l.length→(∀w∈l,ayd ts w)→(∀k∈ks,cJ k=true∧k.length≤1000000000000000)→bA ts t l=true→
  qP (lQ (bY ts f t)) (ks.zip l) (mW ts t ks l)
 | [],ks,hl,_,_,_=>by
   have:ks=[]:=List.eq_nil_of_length_eq_zero (by simpa using hl)
   subst this
   rw[mW];exact afi _
 |v::l,[],hl,_,_,_=>by simp at hl
 |v::l,k::ks,hl,h,hk,he=>by
  simp only[bA,Bool.and_eq_true] at he
  rw[mW]
  exact ai4 (aye (hk k (List.mem_cons_self ..)).2 (hk k (List.mem_cons_self ..)).1 (h v (List.mem_cons_self ..) t he.1 f)) (auw ts f t l ks (by simpa using hl) (fun w hw=>h w (List.mem_cons_of_mem _ hw)) (fun x hx=>hk x (List.mem_cons_of_mem _ hx)) he.2)
theorem arJ(ts:List aA)(f:Nat):∀(l:List aB)(fs:List aO),fs.length=l.length→(∀w∈l,ayd ts w)→gP ts fs l=true→
  ∀r,dv (bY ts f) fs (kF ts fs l++r)=some none∨dv (bY ts f) fs (kF ts fs l++r)=some (some (l,r))
 | [],fs,hl,_,_=>by
   have:fs=[]:=List.eq_nil_of_length_eq_zero (by simpa using hl)
   subst this
   intro r;exact .inr rfl
 |v::l,[],hl,_,_=>by simp at hl
 |v::l,fd::fs,hl,h,he=>by
  simp only[gP,List.headD_cons,List.tail_cons,Bool.and_eq_true] at he
  intro r
  rw[kF,dv,List.append_assoc]
  simp only[List.headD_cons,List.tail_cons]
  rcases h v (List.mem_cons_self ..) fd.typ he.1 f (kF ts fs l++r) with e|e<;>rw[e]
  ·exact .inl rfl
  ·simp only[]
   rcases arJ ts f l fs (by simpa using hl) (fun w hw=>h w (List.mem_cons_of_mem _ hw)) he.2 r with e2|e2<;>rw[e2]
   ·exact .inl rfl
   ·exact .inr rfl
theorem apS:∀(ks:List (List UInt8))(k:List UInt8),k∈ks→k.length≤eo ks
 |k::l,x,h=>by
  simp only[eo]
  rcases List.mem_cons.1 h with rfl|h
  ·omega
  ·have:=apS l x h;omega
theorem amS:∀(l:List aB)(v:aB),v∈l→wV v≤wL l
 |w::l,v,h=>by
  simp only[wL]
  rcases List.mem_cons.1 h with rfl|h
  ·omega
  ·have:=amS l v h;omega
theorem azn{n:Int}(h:(n==IntKind.wrap .u64 (IntKind.wrap .i64 (IntKind.wrap .i32 (IntKind.wrap .u32 n))))=true):0≤n∧n≤18446744073709551615∧ -2147483648≤IntKind.wrap .i64 n∧IntKind.wrap .i64 n<2147483648:=by
 have h:=beq_iff_eq.1 h
 rw[aao,aoO,iQ,qX] at h
 rw[iQ]
 omega
theorem aux{n:Int}(h:0≤n∧n≤18446744073709551615):IntKind.wrap .u64 (IntKind.wrap .i64 n)=n∧ -9223372036854775808≤IntKind.wrap .i64 n∧IntKind.wrap .i64 n≤9223372036854775807:=by
 rw[iQ,qX]
 omega
theorem atQ(ts:List aA)(hs:dJ ts):∀(m:Nat)(v:aB),wV v<m→wV v≤1000000000000000→ayd ts v
 |0,v,h,_=>by omega
 |m+1,v,hm,hw=>by
  intro t hf f r
  cases f with
  |zero=>exact .inl rfl
  |succ f=>
   have hT:=aec hf
   have hk:=hs.at (i:=t.toNat) (by omega)
   have hE:∀w∈v.l,ayd ts w:=fun w hw'=>by
    have:=amS v.l w hw'
    rw[uG] at hm hw
    exact atQ ts hs m w (by omega) (by omega)
   have hval:=afh (ts:=ts) (t:=t) (v:=v)
   rw[uG] at hw
   rcases acZ hk with e|e|e|e|e|e|e|e|e|e|e|e|e|e
   all_goals rw[azS e];simp only[e] at hval
   ·have hv:=aBS e hf
    have hval:aV ts t v=[]:=hval
    rw[hval];right
    show some (some (aB.mk 0 [] [] [] 0,r))=some (some (v,r))
    rw[hv]
   ·obtain⟨hv,hn⟩:=aaS e (by simp) hf
    have hval:aV ts t v=eS v.n 1:=hval
    have hn:(decide (0≤v.n)&&decide (v.n≤1))=true:=hn
    simp only[Bool.and_eq_true,decide_eq_true_eq] at hn
    rw[hval];right
    show (match pZ 1 (eS v.n 1++r) with|some (n,r)=>if n≤1 then some (some (aB.mk n [] [] [] 0,r)) else none|none=>none)=some (some (v,r))
    rw[atL 1 1 rfl v.n (by omega) (by omega)]
    simp only[]
    rw[if_pos hn.2,←hv]
   ·obtain⟨hv,hn⟩:=aaS e (by simp) hf
    have hval:aV ts t v=aZ (IntKind.wrap .i64 v.n):=hval
    obtain⟨h1,h2,h3,h4⟩:=azn (n:=v.n) hn
    obtain⟨b1,b2,b3⟩:=aux ⟨h1,h2⟩
    rw[hval];right
    show (match fL (aZ (IntKind.wrap .i64 v.n)++r) with|some (n,r)=>if -2147483648≤n∧n<2147483648 then some (some (aB.mk (IntKind.wrap .u64 n) [] [] [] 0,r)) else none|none=>none)=some (some (v,r))
    rw[uH _ ⟨b2,b3⟩]
    simp only[]
    rw[if_pos ⟨h3,h4⟩,b1,←hv]
   ·obtain⟨hv,hn⟩:=aaS e (by simp) hf
    have hval:aV ts t v=aZ (IntKind.wrap .i64 v.n):=hval
    have hn:(decide (0≤v.n)&&decide (v.n≤18446744073709551615))=true:=hn
    simp only[Bool.and_eq_true,decide_eq_true_eq] at hn
    obtain⟨b1,b2,b3⟩:=aux hn
    rw[hval];right
    show (match fL (aZ (IntKind.wrap .i64 v.n)++r) with|some (n,r)=>some (some (aB.mk (IntKind.wrap .u64 n) [] [] [] 0,r))|none=>none)=some (some (v,r))
    rw[uH _ ⟨b2,b3⟩]
    simp only[]
    rw[b1,←hv]
   ·obtain⟨hv,hn⟩:=aaS e (by simp) hf
    have hval:aV ts t v=eS v.n 4:=hval
    have hn:(dI .u64 v.n 32==0)=true:=hn
    have hn:=beq_iff_eq.1 hn
    have hr:0≤v.n∧v.n<4294967296:=by
     have h2:v.n.fdiv 4294967296=0:=hn
     rw[Int.fdiv_eq_ediv_of_nonneg _ (by decide)] at h2
     omega
    rw[hval];right
    show (match pZ 4 (eS v.n 4++r) with|some (n,r)=>some (some (aB.mk n [] [] [] 0,r))|none=>none)=some (some (v,r))
    rw[atL 4 4 rfl v.n (by omega) (by omega)]
    simp only[]
    rw[←hv]
   ·obtain⟨hv,hn⟩:=aaS e (by simp) hf
    have hval:aV ts t v=eS v.n 8:=hval
    have hn:(decide (0≤v.n)&&decide (v.n≤18446744073709551615))=true:=hn
    simp only[Bool.and_eq_true,decide_eq_true_eq] at hn
    rw[hval];right
    show (match pZ 8 (eS v.n 8++r) with|some (n,r)=>some (some (aB.mk n [] [] [] 0,r))|none=>none)=some (some (v,r))
    rw[atL 8 8 rfl v.n (by omega) (by omega)]
    simp only[]
    rw[←hv]
   ·obtain⟨hv,hn⟩:=apR e (by simp) hf
    have hval:aV ts t v=fw v.s:=hval
    rw[hval]
    show (match lP (fw v.s++r) with|some (some (x,r))=>some (some (aB.mk 0 x [] [] 0,r))|some none=>some none|none=>none)=some none∨(match lP (fw v.s++r) with|some (some (x,r))=>some (some (aB.mk 0 x [] [] 0,r))|some none=>some none|none=>none)=some (some (v,r))
    rcases apQ v.s r (by omega) with e2|e2<;>rw[e2]
    ·exact .inl rfl
    ·right;simp only[];rw[←hv]
   ·obtain⟨hv,hn⟩:=apR e (by simp) hf
    have hval:aV ts t v=fw v.s:=hval
    have hn:cJ v.s=true:=hn
    rw[hval]
    show (match lP (fw v.s++r) with|some (some (x,r))=>if cJ x then some (some (aB.mk 0 x [] [] 0,r)) else none|some none=>some none|none=>none)=some none∨(match lP (fw v.s++r) with|some (some (x,r))=>if cJ x then some (some (aB.mk 0 x [] [] 0,r)) else none|some none=>some none|none=>none)=some (some (v,r))
    rcases apQ v.s r (by omega) with e2|e2<;>rw[e2]
    ·exact .inl rfl
    ·right;simp only[];rw[if_pos hn,←hv]
   ·obtain⟨h1,h2⟩:=arH hf e
    have hval:aV ts t v=kF ts (ts.getD t.toNat (aC .atype)).fields v.l:=hval
    have hb:=aBT e hf
    rw[hval]
    show (match dv (bY ts f) (ts.getD t.toNat (aC .atype)).fields (kF ts (ts.getD t.toNat (aC .atype)).fields v.l++r) with|some (some (l,r))=>some (some (aB.mk 0 [] l [] 0,r))|some none=>some none|none=>none)=some none∨(match dv (bY ts f) (ts.getD t.toNat (aC .atype)).fields (kF ts (ts.getD t.toNat (aC .atype)).fields v.l++r) with|some (some (l,r))=>some (some (aB.mk 0 [] l [] 0,r))|some none=>some none|none=>none)=some (some (v,r))
    rcases arJ ts f v.l _ h1.symm hE h2 r with e2|e2<;>rw[e2]
    ·exact .inl rfl
    ·right;simp only[];rw[←hb]
   ·obtain⟨hv,hn⟩:=aaS e (by simp) hf
    have hval:aV ts t v=aZ (IntKind.wrap .i64 v.n):=hval
    have hns:=hk.ns
    have hn:(decide (0≤v.n)&&decide (v.n<IntKind.wrap .u64 ((ts.getD t.toNat (aC .atype)).syms.length:Int)))=true:=hn
    rw[dN _ (by omega)] at hn
    simp only[Bool.and_eq_true,decide_eq_true_eq] at hn
    rw[aI _ (by omega)] at hval
    rw[hval];right
    show (match sH (ts.getD t.toNat (aC .atype)).syms.length (aZ v.n++r) with|some (i,r)=>some (some (aB.mk i [] [] [] 0,r))|none=>none)=some (some (v,r))
    rw[atM _ v.n hn (by omega)]
    simp only[]
    rw[←hv]
   ·obtain⟨hv,hn⟩:=apR e (by simp) hf
    have hval:aV ts t v=v.s:=hval
    have hn:((v.s.length:Int)==(ts.getD t.toNat (aC .atype)).size)=true:=hn
    have hn:=beq_iff_eq.1 hn
    rw[hval];right
    show (match kO (ts.getD t.toNat (aC .atype)).size.toNat (v.s++r) with|some (x,r)=>some (some (aB.mk 0 x [] [] 0,r))|none=>none)=some (some (v,r))
    rw[←hn,Int.toNat_natCast,apP]
    simp only[]
    rw[←hv]
   ·have h1:=am8 hf e
    have hval:aV ts t v=(cond (decide (0<(v.l.length:Int))) (aZ (v.l.length:Int)) [])++gF ts (ts.getD t.toNat (aC .atype)).items v.l++aZ 0:=hval
    have hb:=azQ e hf
    have hwl:=wE v.l
    have hblk:fv (bY ts f (ts.getD t.toNat (aC .atype)).items) v.l ((cond (decide (0<(v.l.length:Int))) (aZ (v.l.length:Int)) [])++gF ts (ts.getD t.toNat (aC .atype)).items v.l):=by
     cases hl:v.l with
     |nil=>exact atN _
     |cons a b=>
      rw[←hl,decide_eq_true (by rw[hl];simp),cond_true]
      exact atO (by rw[hl];simp) (by omega) (auv ts f _ v.l hE h1)
    rw[hval]
    show (match bO (bY ts f (ts.getD t.toNat (aC .atype)).items) _ _ with|some (some (l,r))=>some (some (aB.mk 0 [] l [] 0,r))|some none=>some none|none=>none)=some none∨(match bO (bY ts f (ts.getD t.toNat (aC .atype)).items) _ _ with|some (some (l,r))=>some (some (aB.mk 0 [] l [] 0,r))|some none=>some none|none=>none)=some (some (v,r))
    rcases atP hblk r _ (Nat.lt_succ_self _) with e2|e2<;>rw[e2]
    ·exact .inl rfl
    ·right;simp only[];rw[←hb]
   ·obtain⟨h0,h1⟩:=am9 hf e
    have hval:aV ts t v=(cond (decide (0<(v.l.length:Int))) (aZ (v.l.length:Int)) [])++mW ts (ts.getD t.toNat (aC .atype)).items v.keys v.l++aZ 0:=hval
    obtain⟨hb,hks⟩:=aBU e hf
    have hwl:=wE v.l
    have hkv:=aov _ hks
    have hzl:(v.keys.zip v.l).length=v.l.length:=by rw[List.length_zip,h0,Nat.min_self]
    have hblk:fv (lQ (bY ts f (ts.getD t.toNat (aC .atype)).items)) (v.keys.zip v.l) ((cond (decide (0<(v.l.length:Int))) (aZ (v.l.length:Int)) [])++mW ts (ts.getD t.toNat (aC .atype)).items v.keys v.l):=by
     cases hl:v.l with
     |nil=>rw[List.zip_nil_right];exact atN _
     |cons a b=>
      rw[←hl,decide_eq_true (by rw[hl];simp),cond_true]
      have:=atO (m:=v.keys.zip v.l) (by rw[hzl,hl];simp) (by rw[hzl];omega) (auw ts f _ v.l v.keys h0 hE (fun k hk=>⟨hkv k hk,by have:=apS _ k hk;omega⟩) h1)
      rw[hzl] at this
      exact this
    rw[hval]
    show (match bO (lQ (bY ts f (ts.getD t.toNat (aC .atype)).items)) _ _ with|some (some (l,r))=>if dl (l.map (·.1)) then some (some (aB.mk 0 [] (l.map (·.2)) (l.map (·.1)) 0,r)) else none|some none=>some none|none=>none)=some none∨(match bO (lQ (bY ts f (ts.getD t.toNat (aC .atype)).items)) _ _ with|some (some (l,r))=>if dl (l.map (·.1)) then some (some (aB.mk 0 [] (l.map (·.2)) (l.map (·.1)) 0,r)) else none|some none=>some none|none=>none)=some (some (v,r))
    rcases atP hblk r _ (Nat.lt_succ_self _) with e2|e2<;>rw[e2]
    ·exact .inl rfl
    ·right
     have z1:(v.keys.zip v.l).map (·.1)=v.keys:=List.map_fst_zip (by omega)
     have z2:(v.keys.zip v.l).map (·.2)=v.l:=List.map_snd_zip (by omega)
     simp only[z1,z2]
     rw[if_pos hks,←hb]
   ·obtain⟨h1,h2,x,h3,h4⟩:=ana hf e
    have hval:aV ts t v=aZ v.branch++gF ts ((ts.getD t.toNat (aC .atype)).branches.getD v.branch.toNat 0) v.l:=hval
    have hb:=azR e hf
    have hnb:=hk.nb
    rw[h3] at hval
    simp only[gF,List.append_nil] at hval
    rw[hval]
    show (match sH (ts.getD t.toNat (aC .atype)).branches.length ((aZ v.branch++aV ts _ x)++r) with|some (b,r)=>(match bY ts f ((ts.getD t.toNat (aC .atype)).branches.getD b.toNat 0) r with|some (some (v,r'))=>some (some (aB.mk 0 [] [v] [] b,r'))|some none=>some none|none=>none)|none=>none)=some none∨(match sH (ts.getD t.toNat (aC .atype)).branches.length ((aZ v.branch++aV ts _ x)++r) with|some (b,r)=>(match bY ts f ((ts.getD t.toNat (aC .atype)).branches.getD b.toNat 0) r with|some (some (v,r'))=>some (some (aB.mk 0 [] [v] [] b,r'))|some none=>some none|none=>none)|none=>none)=some (some (v,r))
    rw[List.append_assoc,atM _ v.branch ⟨h1,h2⟩ (by omega)]
    simp only[]
    rcases hE x (by rw[h3];simp) _ h4 f r with e2|e2<;>rw[e2]
    ·exact .inl rfl
    ·right;simp only[];rw[←h3,←hb]
end Go.Proofs.YtdpajabhmmmjoaaGreat
end
noncomputable section
namespace Go.Proofs.YtdpajabhmmmjoaaGreat
open Go.AM
set_option autoImplicit false
set_option linter.unusedVariables false
set_option linter.unusedSimpArgs false
set_option maxRecDepth 100000
theorem aCK(v:Int)(h:0≤v∧v≤18446744073709551615):∃r,oK v r:=
 anB (2^64+1) v ⟨_,akN (2^64+1) v h (Nat.lt_succ_self _),_,_,rfl,rfl,rfl⟩
theorem aDn(v:Int)(h:0≤v∧v≤18446744073709551615):∃r,abk 8 v r:=
 ay4 1 8 v ⟨_,aCE 1 v h,_,_,rfl,rfl,fun _=>rfl⟩
theorem uI(n:Int):∃r,gR n r:=by
 apply avl 1
 unfold alZ alY
 refine aF (aDn _ (af3 n)) ?_
 rintro(r:Int) ⟨-,hr⟩
 have hr:r=xE (IntKind.wrap .u64 n):=hr rfl
 subst hr
 refine aF (aCK _ (atJ n)) ?_
 rintro(q:List UInt8) ⟨-,hq⟩
 refine aG ⟨_,_,rfl,rfl,?_⟩
 simp only[aaq,ya,aql]
 exact hq
theorem amT(p n:Int)(hp:0≤p∧p≤18446744073709551615)(hn:0≤n∧n≤8):∃r,nN p n r:=
 asV 100 p n ⟨_,azl 100 p n hp hn (by omega),_,_,rfl,rfl,rfl⟩
theorem amU(s:List UInt8)(h:s.length≤1000000000000000):∃r,pg s r:=by
 apply avo 1
 unfold al5 al1
 dsimp only
 refine aF (uI _) ?_
 rintro(r:List UInt8) ⟨-,hr⟩
 have hr:r=aZ (s.length:Int):=hr
 subst hr
 have h10:=dQ (s.length:Int)
 exact vck (aG ⟨_,_,rfl,rfl,rfl⟩)
def aAJ(ts:List aA)(m:Nat):Prop:=∀(t:Int)(v:aB),wV v<m→wV v≤1000000000000000→aX ts t v=true→∃r,iY ts t v r
theorem auy(ts:List aA)(hs:dJ ts)(m:Nat)(hE:aAJ ts m)(k:aA)(v:aB)(hw:wL v.l<m)(hb:wL v.l+eo v.keys≤1000000000000000)(hkd:k.kind=12∨(k.kind=13∧v.keys.length=v.l.length))(hE':bA ts k.items v.l=true):∃r,qh ts k v r:=by
 apply asX 1000000000000000
 unfold ajI sg
 dsimp only
 have hwl:=wE v.l
 have hkl:=aiZ v.keys
 have hq:=dQ
 have pA:∀(h0:List UInt8),h0.length≤10→agu ts k.kind k.items v.keys v.l=h0++gn ts k.kind k.items v.keys v.l++aZ 0→
   Tot (aS 1000000000000000 (ql 1000000000000000) (ts,k,v,h0,v.l,(v.l.length:Int),0)) (fun z=>∃(y0:Bs)(rest:List aJ),z.1.dimR=.str y0∧z.2=rest∧yU ts k v y0):=by
  intro h0 hh0 hv
  have htl:(gn ts k.kind k.items v.keys v.l).length≤eo v.keys+wL v.l:=by
   have a1:=ai1 ts k.items v.keys v.l
   have a2:=aeb ts k.items v.l
   unfold gn
   cases (k.kind==13)<;>simp only[cond_true,cond_false]<;>omega
  refine bm (fun x=>match x with|(ts',k',v',acc,l',q,i)=>ts'=ts∧k'=k∧v'=v∧l'=v.l∧q=(v.l.length:Int)∧∃j:Nat,i=(j:Int)∧j≤v.l.length∧acc++gn ts k.kind k.items (v.keys.drop j) (v.l.drop j)=h0++gn ts k.kind k.items v.keys v.l)
   (fun x=>((v.l.length:Int)-x.2.2.2.2.2.2).toNat) ?_ _ _ ⟨rfl,rfl,rfl,rfl,rfl,0,rfl,by omega,by simp⟩ (by simp;omega)
  rintro again ⟨ts',k',v',acc,l',q,i⟩ ⟨rfl,rfl,rfl,rfl,rfl,j,rfl,hj,hacc⟩ ih
  dsimp only at ih
  have hal:=congrArg List.length hacc
  simp only[List.length_append] at hal
  unfold ql
  dsimp only
  simp only[Int.toNat_natCast]
  refine aD (fun h=>?_) (fun h=>?_)
  ·have h:=of_decide_eq_true h
   have hjl:j<v'.l.length:=by omega
   have ej:IntKind.i64.wrap ((j:Int)+1)=((j+1:Nat):Int):=by rw[aI _ (by omega)];rfl
   have hfe:=abH ts' k'.items v'.l j hE' hjl
   have hd:=eg v'.l j (aC .aval) hjl
   have hwd:=amR (aC .aval) v'.l j hjl
   have hlv:=io ts' k'.items (v'.l.getD j (aC .aval))
   rw[hd] at hacc hal
   generalize v'.l.getD j (aC .aval)=x at*
   refine vck (aD (fun h13=>?_) (fun h13=>?_))
   ·simp only[bnl] at h13
    have hkl':v'.keys.length=v'.l.length:=by rcases hkd with e|e;omega;exact e.2
    have hdk:=eg v'.keys j (aC .str) (by omega)
    rw[hdk] at hacc hal
    obtain⟨q,hq'⟩:∃q:List UInt8,v'.keys.getD j (aC .str)=q:=⟨_,rfl⟩
    have hqk:=auo (aC .str) [] v'.keys j (by omega)
    simp only[hq'] at hacc hal hqk ⊢
    simp only[List.length_nil] at hqk
    simp only[gn,h13,beq_self_eq_true,cond_true,mW,List.headD_cons,List.tail_cons,List.length_append] at hacc hal
    have hqt:q.length≤(fw q).length:=by simp only[fw,List.length_append];omega
    simp only[gn,h13,beq_self_eq_true,cond_true] at htl
    refine vck ?_
    refine aF (amU q (by omega)) ?_
    rintro(y:List UInt8) ⟨-,hy⟩
    have hy:y=fw q:=hy
    subst hy
    refine vck ?_
    rw[dX]
    refine aF (hE k'.items x (by omega) (by omega) hfe) ?_
    rintro(z:List UInt8) ⟨-,hz⟩
    have hz:z=aV ts' k'.items x:=hz
    subst hz
    refine vck ?_
    refine ih (_,_,_,_,_,_,_) ⟨rfl,rfl,rfl,rfl,rfl,j+1,ej,by omega,?_⟩ (by simp only[ej];omega)
    simp only[gn,h13,beq_self_eq_true,cond_true]
    rw[←hacc]
    simp only[List.append_assoc]
   ·simp only[bnl] at h13
    have e13:(k'.kind==13)=false:=bf h13
    simp only[gn,e13,cond_false,gF,List.length_append] at hacc hal htl
    rw[dX]
    refine aF (hE k'.items x (by omega) (by omega) hfe) ?_
    rintro(z:List UInt8) ⟨-,hz⟩
    have hz:z=aV ts' k'.items x:=hz
    subst hz
    refine vck ?_
    refine ih (_,_,_,_,_,_,_) ⟨rfl,rfl,rfl,rfl,rfl,j+1,ej,by omega,?_⟩ (by simp only[ej];omega)
    simp only[gn,e13,cond_false]
    rw[←hacc]
    simp only[List.append_assoc]
  ·have h:=of_decide_eq_false h
   have hjl:j=v'.l.length:=by omega
   subst hjl
   have ht0:gn ts' k'.kind k'.items (v'.keys.drop v'.l.length) (v'.l.drop v'.l.length)=[]:=by
    rw[List.drop_length]
    unfold gn
    cases (k'.kind==13)<;>simp[gF,mW]
   rw[ht0,List.append_nil] at hacc
   refine aF (uI _) ?_
   rintro(y:List UInt8) ⟨-,hy⟩
   have hy:y=aZ 0:=hy
   subst hy
   have h00:=hq 0
   rw[ht0,List.length_nil] at hal
   refine vck (aG ⟨_,_,rfl,rfl,?_⟩)
   show acc++aZ 0=agu ts' k'.kind k'.items v'.keys v'.l
   rw[hv,hacc]
 have hi:agu ts k.kind k.items v.keys v.l=(cond (decide (0<(v.l.length:Int))) (aZ (v.l.length:Int)) [])++gn ts k.kind k.items v.keys v.l++aZ 0:=rfl
 refine aD (fun h=>?_) (fun h=>?_)
 ·refine aF (uI _) ?_
  rintro(r:List UInt8) ⟨-,hr⟩
  have hr:r=aZ (v.l.length:Int):=hr
  subst hr
  rw[h,cond_true] at hi
  exact pA _ (dQ _) hi
 ·rw[h,cond_false] at hi
  exact pA [] (by simp) hi
theorem azo(ts:List aA)(hs:dJ ts)(m:Nat)(hE:aAJ ts m):aAJ ts (m+1):=by
 intro t v hm hw hf
 refine aEd (r:=aV ts t v) (fun x hx=>⟨hx.2,by have h:=hx.1;rw[show x=aV ts t v from hx.2] at h;exact h⟩) (fun h=>⟨h,rfl⟩) fun hfit=>?_
 have hn:=adi (hfit (.agg (enc .aval v)) (by simp)) v.n (by simp[enc])
 have hT:=aec hf
 have hk:=hs.at (i:=t.toNat) (by omega)
 have hval:=afh ts t (v:=v)
 have hlen:=io ts t v
 have hwv:=uG v
 have hbig:v.s.length+eo v.keys+wL v.l≤1000000000000000:=by omega
 have hwl:=wE v.l
 have hkl:=aiZ v.keys
 apply asZ 1000000000000000
 unfold ajK sh
 dsimp only
 have f9:=arH (ts:=ts) (t:=t) (v:=v) hf
 have f12:=am8 (ts:=ts) (t:=t) (v:=v) hf
 have f13:=am9 (ts:=ts) (t:=t) (v:=v) hf
 have f14:=ana (ts:=ts) (t:=t) (v:=v) hf
 generalize hkk:ts.getD t.toNat (aC .atype)=k at hval hk f9 f12 f13 f14
 refine vck ?_
 rcases acZ hk with e|e|e|e|e|e|e|e|e|e|e|e|e|e
 ·rw[kN (c:=2) e (by decide),kN (c:=3) e (by decide),kN (c:=4) e (by decide),kN (c:=10) e (by decide),kN (c:=5) e (by decide),kN (c:=6) e (by decide),kN (c:=7) e (by decide),kN (c:=8) e (by decide),kN (c:=11) e (by decide),kN (c:=14) e (by decide),kN (c:=9) e (by decide),kN (c:=12) e (by decide),kN (c:=13) e (by decide)]
  simp only[e] at hval
  exact aG ⟨_,_,rfl,rfl,hval.symm⟩
 ·rw[kY (d:=2) e]
  simp only[e] at hval
  have hval:aV ts t v=eS v.n 1:=hval
  refine aF (amT v.n 1 hn (by omega)) ?_
  rintro(r:List UInt8) ⟨-,hr⟩
  exact aG ⟨_,_,rfl,rfl,Eq.trans hr hval.symm⟩
 ·rw[kN (c:=2) e (by decide),kY (d:=3) e]
  simp only[e] at hval
  have hval:aV ts t v=aZ (IntKind.wrap .i64 v.n):=hval
  refine aF (uI _) ?_
  rintro(r:List UInt8) ⟨-,hr⟩
  exact aG ⟨_,_,rfl,rfl,Eq.trans hr hval.symm⟩
 ·rw[kN (c:=2) e (by decide),kN (c:=3) e (by decide),kY (d:=4) e]
  simp only[e] at hval
  have hval:aV ts t v=aZ (IntKind.wrap .i64 v.n):=hval
  refine aF (uI _) ?_
  rintro(r:List UInt8) ⟨-,hr⟩
  exact aG ⟨_,_,rfl,rfl,Eq.trans hr hval.symm⟩
 ·rw[kN (c:=2) e (by decide),kN (c:=3) e (by decide),kN (c:=4) e (by decide),kN (c:=10) e (by decide),kY (d:=5) e]
  simp only[e] at hval
  have hval:aV ts t v=eS v.n 4:=hval
  refine aF (amT v.n 4 hn (by omega)) ?_
  rintro(r:List UInt8) ⟨-,hr⟩
  exact aG ⟨_,_,rfl,rfl,Eq.trans hr hval.symm⟩
 ·rw[kN (c:=2) e (by decide),kN (c:=3) e (by decide),kN (c:=4) e (by decide),kN (c:=10) e (by decide),kN (c:=5) e (by decide),kY (d:=6) e]
  simp only[e] at hval
  have hval:aV ts t v=eS v.n 8:=hval
  refine aF (amT v.n 8 hn (by omega)) ?_
  rintro(r:List UInt8) ⟨-,hr⟩
  exact aG ⟨_,_,rfl,rfl,Eq.trans hr hval.symm⟩
 ·rw[kN (c:=2) e (by decide),kN (c:=3) e (by decide),kN (c:=4) e (by decide),kN (c:=10) e (by decide),kN (c:=5) e (by decide),kN (c:=6) e (by decide),kY (d:=7) e]
  simp only[e] at hval
  have hval:aV ts t v=fw v.s:=hval
  refine aF (amU v.s (by omega)) ?_
  rintro(r:List UInt8) ⟨-,hr⟩
  exact aG ⟨_,_,rfl,rfl,Eq.trans hr hval.symm⟩
 ·rw[kN (c:=2) e (by decide),kN (c:=3) e (by decide),kN (c:=4) e (by decide),kN (c:=10) e (by decide),kN (c:=5) e (by decide),kN (c:=6) e (by decide),kN (c:=7) e (by decide),kY (d:=8) e]
  simp only[e] at hval
  have hval:aV ts t v=fw v.s:=hval
  refine aF (amU v.s (by omega)) ?_
  rintro(r:List UInt8) ⟨-,hr⟩
  exact aG ⟨_,_,rfl,rfl,Eq.trans hr hval.symm⟩
 ·rw[kN (c:=2) e (by decide),kN (c:=3) e (by decide),kN (c:=4) e (by decide),kN (c:=10) e (by decide),kN (c:=5) e (by decide),kN (c:=6) e (by decide),kN (c:=7) e (by decide),kN (c:=8) e (by decide),kN (c:=11) e (by decide),kN (c:=14) e (by decide),kY (d:=9) e]
  simp only[e] at hval
  obtain⟨r1,r2⟩:=f9 e
  have hval:aV ts t v=kF ts k.fields v.l:=hval
  have htl:=ai2 ts k.fields v.l
  have hnf:=hk.nf
  refine bm (fun x=>match x with|(ts',v',acc,fs,q,i)=>ts'=ts∧v'=v∧fs=k.fields∧q=(k.fields.length:Int)∧∃j:Nat,i=(j:Int)∧j≤v.l.length∧acc++kF ts (k.fields.drop j) (v.l.drop j)=kF ts k.fields v.l)
   (fun x=>((v.l.length:Int)-x.2.2.2.2.2).toNat) ?_ _ _ ⟨rfl,rfl,rfl,rfl,0,rfl,by omega,by simp⟩ (by simp;omega)
  rintro again ⟨ts',v',acc,fs,q,i⟩ ⟨rfl,rfl,rfl,rfl,j,rfl,hj,hacc⟩ ih
  dsimp only at ih
  have hal:=congrArg List.length hacc
  simp only[List.length_append] at hal
  unfold vh
  dsimp only
  simp only[Int.toNat_natCast]
  refine aD (fun h=>?_) (fun h=>?_)
  ·have h:=of_decide_eq_true h
   have hjl:j<v'.l.length:=by omega
   have ej:IntKind.i64.wrap ((j:Int)+1)=((j+1:Nat):Int):=by rw[aI _ (by omega)];rfl
   have hfe:=ai3 ts' k.fields v'.l j r2 hjl
   have hd:=eg v'.l j (aC .aval) hjl
   have hdf:=eg k.fields j (aC .afield) (by omega)
   have hwd:=amR (aC .aval) v'.l j hjl
   have hlv:=io ts' (k.fields.getD j (aC .afield)).typ (v'.l.getD j (aC .aval))
   rw[hd,hdf] at hacc hal
   generalize v'.l.getD j (aC .aval)=x at*
   generalize k.fields.getD j (aC .afield)=f at*
   simp only[kF,List.headD_cons,List.tail_cons,List.length_append] at hacc hal
   refine vck (vck ?_)
   rw[dX]
   refine aF (hE f.typ x (by omega) (by omega) hfe) ?_
   rintro(z:List UInt8) ⟨-,hz⟩
   have hz:z=aV ts' f.typ x:=hz
   subst hz
   refine vck ?_
   refine ih (_,_,_,_,_,_) ⟨rfl,rfl,rfl,rfl,j+1,ej,by omega,?_⟩ (by simp only[ej];omega)
   rw[←hacc]
   simp only[List.append_assoc]
  ·have h:=of_decide_eq_false h
   have hjl:j=v'.l.length:=by omega
   subst hjl
   rw[List.drop_length,kF,List.append_nil] at hacc
   exact aG ⟨_,_,rfl,rfl,hacc.trans hval.symm⟩
 ·rw[kN (c:=2) e (by decide),kN (c:=3) e (by decide),kN (c:=4) e (by decide),kY (d:=10) e]
  simp only[e] at hval
  have hval:aV ts t v=aZ (IntKind.wrap .i64 v.n):=hval
  refine aF (uI _) ?_
  rintro(r:List UInt8) ⟨-,hr⟩
  exact aG ⟨_,_,rfl,rfl,Eq.trans hr hval.symm⟩
 ·rw[kN (c:=2) e (by decide),kN (c:=3) e (by decide),kN (c:=4) e (by decide),kN (c:=10) e (by decide),kN (c:=5) e (by decide),kN (c:=6) e (by decide),kN (c:=7) e (by decide),kN (c:=8) e (by decide),kY (d:=11) e]
  simp only[e] at hval
  exact aG ⟨_,_,rfl,rfl,hval.symm⟩
 ·rw[kN (c:=2) e (by decide),kN (c:=3) e (by decide),kN (c:=4) e (by decide),kN (c:=10) e (by decide),kN (c:=5) e (by decide),kN (c:=6) e (by decide),kN (c:=7) e (by decide),kN (c:=8) e (by decide),kN (c:=11) e (by decide),kN (c:=14) e (by decide),kN (c:=9) e (by decide),kY (d:=12) e]
  simp only[e] at hval
  have hval:aV ts t v=agu ts 12 k.items v.keys v.l:=hval
  rw[←e] at hval
  rw[dX]
  refine aF (auy ts hs m hE k v (by omega) (by omega) (.inl e) (f12 e)) ?_
  rintro(r:List UInt8) ⟨-,hr⟩
  exact aG ⟨_,_,rfl,rfl,Eq.trans hr hval.symm⟩
 ·rw[kN (c:=2) e (by decide),kN (c:=3) e (by decide),kN (c:=4) e (by decide),kN (c:=10) e (by decide),kN (c:=5) e (by decide),kN (c:=6) e (by decide),kN (c:=7) e (by decide),kN (c:=8) e (by decide),kN (c:=11) e (by decide),kN (c:=14) e (by decide),kN (c:=9) e (by decide),kN (c:=12) e (by decide),kY (d:=13) e]
  simp only[e] at hval
  have hval:aV ts t v=agu ts 13 k.items v.keys v.l:=hval
  rw[←e] at hval
  rw[dX]
  refine aF (auy ts hs m hE k v (by omega) (by omega) (.inr ⟨e,(f13 e).1⟩) (f13 e).2) ?_
  rintro(r:List UInt8) ⟨-,hr⟩
  exact aG ⟨_,_,rfl,rfl,Eq.trans hr hval.symm⟩
 ·rw[kN (c:=2) e (by decide),kN (c:=3) e (by decide),kN (c:=4) e (by decide),kN (c:=10) e (by decide),kN (c:=5) e (by decide),kN (c:=6) e (by decide),kN (c:=7) e (by decide),kN (c:=8) e (by decide),kN (c:=11) e (by decide),kY (d:=14) e]
  simp only[e] at hval
  have hval:aV ts t v=aZ v.branch++gF ts (k.branches.getD v.branch.toNat 0) v.l:=hval
  obtain⟨b1,b2,x,hx,hfx⟩:=f14 e
  have h10:=dQ v.branch
  refine aF (uI _) ?_
  rintro(r:List UInt8) ⟨-,hr⟩
  have hr:r=aZ v.branch:=hr
  subst hr
  have hx0:v.l.getD (Int.toNat 0) (aC .aval)=x:=by rw[hx];rfl
  have hl1:v.l.length=1:=by rw[hx];rfl
  have hwx:wV x=wL v.l:=by rw[hx];simp[wL]
  refine vck (vck ?_)
  rw[hx0,dX]
  refine aF (hE _ x (by omega) (by omega) hfx) ?_
  rintro(z:List UInt8) ⟨-,hz⟩
  have hz:z=aV ts (k.branches.getD v.branch.toNat 0) x:=hz
  subst hz
  have hlx:=io ts (k.branches.getD v.branch.toNat 0) x
  refine vck (aG ⟨_,_,rfl,rfl,?_⟩)
  show aZ v.branch++aV ts (k.branches.getD v.branch.toNat 0) x=aV ts t v
  rw[hval,hx];simp[gF]
theorem arK(ts:List aA)(hs:dJ ts):∀m,aAJ ts m
 |0=>fun t v h=>by omega
 |m+1=>azo ts hs m (arK ts hs m)
theorem arL(ts:List aA)(hs:dJ ts):∀m,ayc ts m
 |0=>fun t v h=>by omega
 |m+1=>azm ts hs m (arL ts hs m)
theorem aa7(ts:List aA)(hs:dJ ts)(t:Int)(v:aB)(hw:wV v≤1000000000000000):∃r,jL ts t v r:=by
 apply aq6 1
 unfold agR agQ
 dsimp only
 have hpost:∀y,xF ts t v y=(y=vW ts t v):=fun _=>rfl
 simp only[hpost,vW]
 have hn:=hs.1
 refine aD (fun h=>aG ⟨_,_,_,rfl,rfl,?_⟩) (fun h=>aD (fun h2=>aG ⟨_,_,_,rfl,rfl,?_⟩) (fun h2=>?_))
 ·have h:=of_decide_eq_true h
  rw[if_pos (by simp only[isT];rw[df (by omega)];rfl)]
 ·have h2:=of_decide_eq_true h2
  rw[if_pos (by simp only[isT];rw[df (p:=t<(ts.length:Int)) (by omega)];simp)]
 ·have h:=of_decide_eq_false h
  have h2:=of_decide_eq_false h2
  have hT:=amu (ts:=ts) (t:=t) (by omega)
  rw[if_neg (by rw[hT];simp),dX]
  refine aF (aBO ts t v) ?_
  rintro(r:Bool) ⟨-,hr⟩
  have hr:r=aX ts t v:=hr
  subst hr
  refine aD (fun h3=>aG ⟨_,_,_,rfl,rfl,?_⟩) (fun h3=>?_)
  ·simp only[bnl] at h3
   rw[if_pos h3]
  ·simp only[bnl] at h3
   rw[if_neg (by rw[h3];simp)]
   refine aF (arK ts hs (wV v+1) t v (by omega) hw h3) ?_
   rintro(q:List UInt8) ⟨-,hq⟩
   have hq:q=aV ts t v:=hq
   subst hq
   refine aD (fun h4=>aG ⟨_,_,_,rfl,rfl,?_⟩) (fun h4=>aG ⟨_,_,_,rfl,rfl,?_⟩)
   ·have h4:=of_decide_eq_true h4
    rw[if_pos (by omega)]
   ·have h4:=of_decide_eq_false h4
    rw[if_neg (by omega)]
theorem azp(ts:List aA)(hs:dJ ts)(t:Int)(v:aB)(hw:wV v≤1000000000000000):∃r,qg ts t v r:=by
 apply api 1
 unfold aeY aeX
 dsimp only
 have hpost:∀y,vY ts t v y=(y=vW ts t v):=fun _=>rfl
 simp only[hpost,vW]
 refine aF (amt ts t) ?_
 rintro(r:Bool) ⟨-,hr⟩
 have hr:r=isT ts t:=hr
 subst hr
 refine aD (fun h=>aG ⟨_,_,_,rfl,rfl,?_⟩) (fun h=>?_)
 ·simp only[bnl] at h
  rw[if_pos h]
 ·simp only[bnl] at h
  rw[if_neg (by rw[h];simp)]
  refine aF (aBG ts hs t _ _ _ _ _) ?_
  rintro(r:Bool) ⟨-,hr⟩
  have hrv:(aB.mk v.n v.s v.l v.keys v.branch)=v:=dX v
  have hr:r=aX ts t v:=by rw[←hrv];exact hr
  subst hr
  refine aD (fun h3=>aG ⟨_,_,_,rfl,rfl,?_⟩) (fun h3=>?_)
  ·simp only[bnl] at h3
   rw[if_pos h3]
  ·simp only[bnl] at h3
   rw[if_neg (by rw[h3];simp),dX]
   refine aF (arL ts hs (wV v+1) t v (by omega) hw h3) ?_
   rintro(q:List UInt8) ⟨-,hq⟩
   have hq:q=aV ts t v:=hq
   subst hq
   refine aD (fun h4=>aG ⟨_,_,_,rfl,rfl,?_⟩) (fun h4=>aG ⟨_,_,_,rfl,rfl,?_⟩)
   ·have h4:=of_decide_eq_true h4
    rw[if_pos (by omega)]
   ·have h4:=of_decide_eq_false h4
    rw[if_neg (by omega)]
def aaT:List aA:=[⟨4,[],[],0,[],false,[],0,[],[]⟩]
theorem arM:dJ aaT:=by
 refine⟨by decide,fun t ht=>?_⟩
 have:t=⟨4,[],[],0,[],false,[],0,[],[]⟩:=by simpa [aaT] using ht
 subst this
 exact⟨by decide,by simp,by simp,by simp,by simp,by simp,by simp,by decide,by decide,by decide,by decide⟩
theorem azq:∃r,sf r:=by
 apply aq1 1
 unfold agP agO
 dsimp only
 refine aF (aa7 aaT arM 0 _ (by decide)) ?_
 rintro⟨r1,e1⟩ ⟨-,h1⟩
 refine aF (aa7 aaT arM 1 _ (by decide)) ?_
 rintro⟨r2,e2⟩ ⟨-,h2⟩
 have v1:aV aaT 0 (.mk 18446744073709551615 [] [] [] 0)=[1]:=by
  rw[aV]
  show aZ (IntKind.wrap .i64 18446744073709551615)=[1]
  rw[ya];decide
 have h1:(r1,e1)=(([1]:List UInt8),(0:Int)):=by
  have h1:(r1,e1)=vW aaT 0 (.mk 18446744073709551615 [] [] [] 0):=h1
  rw[h1]
  simp only[vW]
  rw[if_neg (by decide),if_neg (by decide),v1,if_neg (by decide)]
 have h2:(r2,e2)=(([]:List UInt8),(1:Int)):=by
  have h2:(r2,e2)=vW aaT 1 (.mk 0 [] [] [] 0):=h2
  rw[h2]
  simp only[vW]
  rw[if_pos (by decide)]
 simp only[Prod.mk.injEq] at h1 h2
 obtain⟨rfl,rfl⟩:=h1
 obtain⟨rfl,rfl⟩:=h2
 exact aG ⟨_,_,rfl,rfl,rfl⟩
end Go.Proofs.YtdpajabhmmmjoaaGreat
end
noncomputable section
namespace Go.Proofs.YtdpajabhmmmjoaaGreat
open Go.AM
set_option autoImplicit false
set_option linter.unusedSimpArgs false
set_option linter.unusedVariables false
set_option maxRecDepth 100000
theorem uJ{α:Type}:∀(l:List α)(d:α)(j:Nat),j<l.length→l.take (j+1)=l.take j++[l.getD j d]
 | [],_,_,h=>by simp at h
 |a::l,d,0,_=>rfl
 |a::l,d,j+1,h=>by
  rw[List.take_succ_cons,List.take_succ_cons,uJ l d j (by simpa using h)]
  rfl
theorem aBV{α:Type}(l:List α)(d:α)(i j:Nat):(l.drop i).getD j d=l.getD (i+j) d:=by simp[List.getD]
theorem ayf(ts:List aA)(t:Int):∀(l:List aB)(i:Nat),i<l.length→(aV ts t (l.getD i (aC .aval))).length≤(gF ts t l).length
 | [],_,h=>by simp at h
 |v::l,0,_=>by rw[gF,List.length_append];exact Nat.le_add_right _ _
 |v::l,i+1,h=>by
  have:=ayf ts t l i (by simpa using h)
  rw[gF,List.length_append]
  exact Nat.le_trans this (Nat.le_add_left _ _)
theorem ayg(ts:List aA)(t:Int):∀(l:List aB)(ks:List (List UInt8))(i:Nat),i<l.length→(aV ts t (l.getD i (aC .aval))).length≤(mW ts t ks l).length
 | [],_,_,h=>by simp at h
 |v::l,ks,0,_=>by
  rw[mW,List.length_append,List.length_append]
  show (aV ts t v).length≤_
  omega
 |v::l,ks,i+1,h=>by
  have:=ayg ts t l ks.tail i (by simpa using h)
  rw[mW,List.length_append]
  exact Nat.le_trans this (Nat.le_add_left _ _)
theorem ayh(ts:List aA):∀(l:List aB)(fs:List aO)(i:Nat),i<l.length→(aV ts (fs.getD i (aC .afield)).typ (l.getD i (aC .aval))).length≤(kF ts fs l).length
 | [],_,_,h=>by simp at h
 |v::l,fs,0,_=>by
  rw[kF,List.length_append]
  have:fs.headD (aC .afield)=fs.getD 0 (aC .afield):=by cases fs<;>rfl
  rw[this]
  exact Nat.le_add_right _ _
 |v::l,fs,i+1,h=>by
  have:=ayh ts l fs.tail i (by simpa using h)
  have e:fs.tail.getD i (aC .afield)=fs.getD (i+1) (aC .afield):=by cases fs<;>rfl
  rw[e] at this
  rw[kF,List.length_append]
  exact Nat.le_trans this (Nat.le_add_left _ _)
def arN(ts:List aA)(m:Nat):Prop:=∀(l:List UInt8)(n t:Int)(v:aB),eH l n→wV v<m→wV v≤1000000000000000→aX ts t v=true→(aV ts t v).length≤5000→∃r,ef l n ts t v r
section
variable{α:Type}(D:Nat→List UInt8→Got α)(L:List α)(ts:List aA)(v:aB)(k:aA)(l:List UInt8)
def gV(v:aB)(i:Nat):Nat:=100*wL (v.l.take i)+100*eo (v.keys.take i)
def aEw(s:dj):Prop:=match s with
 |(ts',v',k',acc,i,l',n)=>ts'=ts∧v'=v∧k'=k∧l'=l∧eH l n∧0≤i∧i≤L.length∧(∀f,fv (D f) (L.take i.toNat) acc)∧acc.length≤gV v i.toNat
def ayi(acc0:List UInt8)(i0 m:Int)(s:fP):Prop:=match s with
 |(ts',v',k',acc,i,m',part,j,l',n)=>ts'=ts∧v'=v∧k'=k∧acc=acc0∧i=i0∧m'=m∧l'=l∧eH l n∧i0≤j∧j≤i0+m∧(∀f,qP (D f) ((L.drop i0.toNat).take (j-i0).toNat) part)∧((acc0.length+part.length:Nat):Int)+20*(j-i0)≤gV v j.toNat
variable{D L ts v k l}
theorem auz{acc:List UInt8}{i m j n n':Int}{part s:List UInt8}{d:α}(h:ayi D L ts v k l acc i m (ts,v,k,acc,i,m,part,j,l,n))(hn:eH l n')(hi:0≤i)(hj:j<i+m)(hL:i+m≤L.length)
  (hs:∀f r,D f (s++r)=some none∨D f (s++r)=some (some (L.getD j.toNat d,r))) (hg:gV v j.toNat+s.length+20≤gV v (j.toNat+1)):
  ayi D L ts v k l acc i m (ts,v,k,acc,i,m,part++s,j+1,l,n'):=by
 obtain⟨-, -, -, -, -, -, -, -,h1,h2,h3,h4⟩:=h
 refine⟨rfl,rfl,rfl,rfl,rfl,rfl,rfl,hn,by omega,by omega,fun f=>?_,?_⟩
 ·have e1:(j+1-i).toNat=(j-i).toNat+1:=by omega
  rw[e1,uJ _ d _ (by rw[List.length_drop];omega),aBV,show i.toNat+(j-i).toNat=j.toNat by omega]
  have:=ai4 (hs f) (afi (D f))
  rw[List.append_nil] at this
  exact aBR this (h3 f)
 ·rw[List.length_append,show (j+1).toNat=j.toNat+1 by omega]
  omega
end
theorem aDo(v:aB)(j:Nat)(h:j<v.l.length)(hk:j<v.keys.length):gV v (j+1)=gV v j+100*wV (v.l.getD j (aC .aval))+100*((v.keys.getD j []).length+10):=by
 unfold gV
 rw[uJ _ (aC .aval) _ h,uJ _ [] _ hk,um,adV]
 simp only[wL,eo];omega
theorem aCL(v:aB)(j:Nat)(h:j<v.l.length)(hk:v.keys=[]):gV v (j+1)=gV v j+100*wV (v.l.getD j (aC .aval)):=by
 unfold gV
 rw[uJ _ (aC .aval) _ h,um,hk]
 simp only[wL,eo,List.take_nil];omega
theorem atR(l:List aB)(i:Nat):wL (l.take i)≤wL l:=by
 have:=um (l.take i) (l.drop i)
 rw[List.take_append_drop] at this
 omega
theorem aBW(l:List (List UInt8))(i:Nat):eo (l.take i)≤eo l:=by
 have:=adV (l.take i) (l.drop i)
 rw[List.take_append_drop] at this
 omega
theorem awo(v:aB)(i:Nat):gV v i+4000≤100*wV v:=by
 have h1:=atR v.l i
 have h2:=aBW v.keys i
 rw[uG]
 unfold gV;omega
section
variable{ts:List aA}{v:aB}{k:aA}{l:List UInt8}{m:Nat}
def aAK{α:Type}(D:Nat→List UInt8→Got α)(L:List α)(ts:List aA)(v:aB)(k:aA)(l:List UInt8):Prop:=∀(Q:Go.AM.V×List aJ→Prop)(N:Nat)(acc:List UInt8)(i mm n:Int)(part:List UInt8)(j:Int),ayi D L ts v k l acc i mm (ts,v,k,acc,i,mm,part,j,l,n)→0≤i→j<i+mm→i+mm≤L.length→
 ∀(again1:dj→Ro)(again2:fP→Ro),(∀part n,ayi D L ts v k l acc i mm (ts,v,k,acc,i,mm,part,j+1,l,n)→Tot (again2 (ts,v,k,acc,i,mm,part,j+1,l,n)) Q)→Tot (eh N again1 again2 (ts,v,k,acc,i,mm,part,j,l,n)) Q
theorem aEx(hV:arN ts m)(hk:k.kind=12)(hm:wL v.l<m)(hw:wV v≤1000000000000000)(hks:v.keys=[])(he:bA ts k.items v.l=true)(hl:(gF ts k.items v.l).length≤5000):aAK (fun f=>bY ts f k.items) v.l ts v k l:=by
 intro Q N acc i mm n part j h hi hj hL again1 again2 next
 have h':=h
 obtain⟨-, -, -, -, -, -, -,hp,h1,h2,h3,h4⟩:=h'
 unfold eh
 dsimp only
 have hwl:=wE v.l
 rw[uG] at hw
 have hjl:j.toNat<v.l.length:=by omega
 have ei:IntKind.i64.wrap (i+mm)=i+mm:=aI _ (by omega)
 have ej:IntKind.i64.wrap (j+1)=j+1:=aI _ (by omega)
 rw[ei,ej]
 have hwm:=amS v.l (v.l.getD j.toNat (aC .aval)) (fH _ _ _ hjl)
 refine aD (fun _=>aD (fun h=>by simp[hk] at h) (fun _=>aP (ixt (by omega)) ?_)) (fun h=>absurd hj (of_decide_eq_false h))
 rw[dX]
 refine aF (hV l n k.items _ hp (by omega) (by omega) (abH _ _ _ _ he hjl) (Nat.le_trans (ayf _ _ _ _ hjl) hl)) ?_
 rintro⟨s,l2,n2⟩ ⟨-,q1,q2,q3,q4⟩
 dsimp only at q1 q2 q3 q4 ⊢
 subst q3
 have hg:=aCL v j.toNat hjl hks
 have hgl:=awo v (j.toNat+1)
 rw[uG] at hgl
 refine aP (by simp;omega) ?_
 exact next _ _ (auz (d:=aC .aval) h q4 hi hj hL (fun f r=>q1 f r) (by omega))
theorem aEy(hV:arN ts m)(hk:k.kind=13)(hm:wL v.l<m)(hw:wV v≤1000000000000000)(hks:v.keys.length=v.l.length)(hv:dl v.keys=true)(he:bA ts k.items v.l=true)(hl:(mW ts k.items v.keys v.l).length≤5000):aAK (fun f=>lQ (bY ts f k.items)) (v.keys.zip v.l) ts v k l:=by
 intro Q N acc i mm n part j h hi hj hL again1 again2 next
 have h':=h
 obtain⟨-, -, -, -, -, -, -,hp,h1,h2,h3,h4⟩:=h'
 unfold eh
 dsimp only
 have hwl:=wE v.l
 rw[uG] at hw
 have hL2:i+mm≤v.l.length:=by rw[List.length_zip,hks,Nat.min_self] at hL;exact hL
 have hjl:j.toNat<v.l.length:=by omega
 have hjk:j.toNat<v.keys.length:=by omega
 have ei:IntKind.i64.wrap (i+mm)=i+mm:=aI _ (by omega)
 have ej:IntKind.i64.wrap (j+1)=j+1:=aI _ (by omega)
 rw[ei,ej]
 have hwm:=amS v.l (v.l.getD j.toNat (aC .aval)) (fH _ _ _ hjl)
 have hkm:v.keys.getD j.toNat (aC .str)∈v.keys:=fH _ _ _ hjk
 have hkw:=apS v.keys _ hkm
 have hkv:=aov _ hv _ hkm
 have hg:=aDo v j.toNat hjl hjk
 have hgl:=awo v (j.toNat+1)
 rw[uG] at hgl
 have hz:(v.keys.zip v.l).getD j.toNat (([]:List UInt8),aC .aval)=(v.keys.getD j.toNat (aC .str),v.l.getD j.toNat (aC .aval)):=by
  rw[List.getD_eq_getElem?_getD,List.getElem?_eq_getElem (by omega),List.getElem_zip]
  simp[List.getD,hjl,hjk]
 have hdf:v.keys.getD j.toNat []=v.keys.getD j.toNat (aC .str):=rfl
 rw[hdf] at hg
 generalize v.keys.getD j.toNat (aC .str)=key at hkm hkw hkv hg hz ⊢
 have hll:=dQ (key.length:Int)
 refine aD (fun _=>aD (fun _=>aP (ixt (by omega)) ?_) (fun h=>by simp[hk] at h)) (fun h=>absurd hj (of_decide_eq_false h))
 refine aF (gH _) ?_
 rintro(r5:List UInt8) ⟨-,hr5⟩
 obtain rfl:r5=aZ (key.length:Int):=hr5
 refine aP (by simp;omega) (aP (ixt (by omega)) (aP (by simp;omega) (aP (ixt (by omega)) ?_)))
 rw[dX]
 refine aF (hV l n k.items _ hp (by omega) (by omega) (abH _ _ _ _ he hjl) (Nat.le_trans (ayg _ _ _ _ _ hjl) hl)) ?_
 rintro⟨s,l2,n2⟩ ⟨-,q1,q2,q3,q4⟩
 dsimp only at q1 q2 q3 q4 ⊢
 subst q3
 refine aP (by simp;omega) ?_
 have e:((part++aZ (key.length:Int))++key)++s=part++(fw key++s):=by simp[fw]
 rw[e]
 refine next _ _ (auz (d:=(([]:List UInt8),aC .aval)) h q4 hi hj hL (fun f r=>?_) ?_)
 ·rw[hz]
  exact aye (by omega) hkv (fun r=>q1 f r) r
 ·have:(fw key).length≤10+key.length:=by simp only[fw,List.length_append];omega
  rw[List.length_append]
  omega
theorem azT{α:Type}{D:Nat→List UInt8→Got α}{L:List α}{t:Int}(hLl:L.length=v.l.length)(hw:wV v≤1000000000000000){n:Int}(hp:eH l n)(hB:aAK D L ts v k l)
  (hfin:∀(s:List UInt8) n',eH l n'→(∀f r g,(s++aZ 0++r).length<g→bO (D f) g (s++aZ 0++r)=some none∨bO (D f) g (s++aZ 0++r)=some (some (L,r)))→(s++aZ 0).length+50≤100*wV v→kP l n ts t v (s++aZ 0,l,n')) (N:Nat) (hN:v.l.length<N):
  Tot (aS N (iy N) (ts,v,k,[],0,l,n)) (fun z=>∃(y0 y1:List UInt8)(y2:Int)(rest:List aJ),z.1.dimR=.str y0∧z.2=some [.sl .u8 (.may false) y1,.int .i64 y2]::rest∧kP l n ts t v (y0,y1,y2)):=by
 have hwl:=wE v.l
 have hwe:=uG v
 refine bm (aEw D L ts v k l) (fun s=>(v.l.length-s.2.2.2.2.1:Int).toNat) ?_ _ _ ⟨rfl,rfl,rfl,rfl,hp,by omega,by omega,fun f=>atN _,by simp⟩ (by simp only;omega)
 rintro again1 ⟨ts',v',k',acc,i,l',n'⟩ ⟨rfl,rfl,rfl,rfl,hp',i1,i2,h1,h2⟩ ih
 dsimp only at ih
 unfold iy kV
 dsimp only
 have hgi:=awo v' i.toNat
 refine aD (fun h=>?_) (fun h=>?_)
 ·have h:=of_decide_eq_true h
  have e1:IntKind.i64.wrap ((v'.l.length:Int)-i)=(v'.l.length:Int)-i:=aI _ (by omega)
  rw[e1]
  refine aF (aiz l' n' _ hp' (by omega)) ?_
  rintro⟨x,l2,n2⟩ ⟨-,p1,p2,p3,p4⟩
  dsimp only at p1 p2 p3 p4 ⊢
  subst p3
  have e2:IntKind.i64.wrap (1+x)=1+x:=aI _ (by omega)
  rw[e2]
  refine bm (ayi D L ts' v' k' l2 acc i (1+x)) (fun s=>(i+(1+x)-s.2.2.2.2.2.2.2.1:Int).toNat) ?_ _ _ ⟨rfl,rfl,rfl,rfl,rfl,rfl,rfl,p4,by omega,by omega,fun f=>by simpa using afi (D f),by simp;omega⟩ (by simp only;omega)
  rintro again2 ⟨ts2,v2,k2,acc2,i2',m2,part,j,l3,n3⟩ h3 next
  have h3':=h3
  obtain⟨rfl,rfl,rfl,rfl,rfl,rfl,rfl,q1,q2,q3,q4,q5⟩:=h3'
  dsimp only at next
  by_cases hj:j<i2'+(1+x)
  ·exact hB _ N acc2 i2' (1+x) n3 part j h3 i1 hj (by omega) again1 again2 (fun part n hh=>next _ hh (by simp only;omega))
  ·obtain rfl:j=i2'+(1+x):=by omega
   have hgj:=awo v2 (i2'+(1+x)).toNat
   unfold eh
   dsimp only
   have e3:IntKind.i64.wrap (i2'+(1+x))=i2'+(1+x):=aI _ (by omega)
   rw[e3]
   refine aD (fun h=>by have:=of_decide_eq_true h;omega) (fun _=>?_)
   have hml:((L.drop i2'.toNat).take (i2'+(1+x)-i2').toNat).length=(1+x).toNat:=by rw[List.length_take,List.length_drop];omega
   have htk:L.take (i2'+(1+x)).toNat=L.take i2'.toNat++(L.drop i2'.toNat).take (i2'+(1+x)-i2').toNat:=by
    rw[show (i2'+(1+x)).toNat=i2'.toNat+(i2'+(1+x)-i2').toNat by omega,List.take_add]
   have done:∀(s:List UInt8)(n4:Int),eH l3 n4→s.length≤part.length+20→(∀f,fv (D f) ((L.drop i2'.toNat).take (i2'+(1+x)-i2').toNat) s)→Tot (again1 (ts2,v2,k2,acc2++s,i2'+(1+x),l3,n4)) _:=fun s n4 hn4 hs hb=>by
    refine ih _ ⟨rfl,rfl,rfl,rfl,hn4,by omega,by omega,fun f=>?_,?_⟩ (by simp only;omega)
    ·rw[htk]
     exact aDl (h1 f) (hb f)
    ·rw[List.length_append];omega
   refine aF (aiz l3 n3 2 q1 (by decide)) ?_
   rintro⟨y,l4,n4⟩ ⟨-,p5,p6,p7,p8⟩
   dsimp only at p5 p6 p7 p8 ⊢
   subst p7
   refine aD (fun _=>?_) (fun _=>?_)
   ·have e4:IntKind.i64.wrap (0-(1+x))=-(1+x):=by rw[aI _ (by omega)];omega
    rw[e4]
    refine aF (gH _) ?_
    rintro(r9:List UInt8) ⟨-,hr9⟩
    obtain rfl:r9=aZ (-(1+x)):=hr9
    have l1:=dQ (-(1+x))
    have l2:=dQ (part.length:Int)
    refine aP (by simp;omega) ?_
    refine aF (gH _) ?_
    rintro(r10:List UInt8) ⟨-,hr10⟩
    obtain rfl:r10=aZ (part.length:Int):=hr10
    refine aP (by simp;omega) (aP (by simp;omega) ?_)
    have e5:acc2++aZ (-(1+x))++aZ (part.length:Int)++part=acc2++(aZ (-(1+x))++(aZ (part.length:Int)++part)):=by simp
    rw[e5]
    refine done _ _ p8 (by simp only[List.length_append];omega) (fun f=>?_)
    have:=aDm (c:=part) (by rw[hml];omega) (by rw[hml];omega) (by omega) (q4 f)
    rw[hml,show (((1+x).toNat:Nat):Int)=1+x by omega] at this
    exact this
   ·refine aF (gH _) ?_
    rintro(r9:List UInt8) ⟨-,hr9⟩
    obtain rfl:r9=aZ (1+x):=hr9
    have l1:=dQ (1+x)
    refine aP (by simp;omega) (aP (by simp;omega) ?_)
    rw[List.append_assoc]
    refine done _ _ p8 (by simp only[List.length_append];omega) (fun f=>?_)
    have:=atO (by rw[hml];omega) (by rw[hml];omega) (q4 f)
    rw[hml,show (((1+x).toNat:Nat):Int)=1+x by omega] at this
    exact this
 ·have h:=of_decide_eq_false h
  refine aF (gH _) ?_
  rintro(r12:List UInt8) ⟨-,hr12⟩
  obtain rfl:r12=aZ 0:=hr12
  have l1:=dQ 0
  refine aP (by simp;omega) (aG ⟨_,_,_,_,rfl,rfl,?_⟩)
  refine hfin _ _ hp' (fun f r g hg=>?_) (by rw[List.length_append];omega)
  have:=h1 f
  rw[List.take_of_length_le (by omega)] at this
  exact atP this r g hg
end
theorem awg{D:Int→List UInt8→Got aB}{fs:List aO}{l:List aB}{acc s:List UInt8}{i:Nat}(hi:i<fs.length)(hl:i<l.length)(h:∀X,dv D fs (acc++X)=some none∨dv D fs (acc++X)=lJ (l.take i) (dv D (fs.drop i) X))
  (hs:∀r,D (fs.getD i (aC .afield)).typ (s++r)=some none∨D (fs.getD i (aC .afield)).typ (s++r)=some (some (l.getD i (aC .aval),r))):
  ∀X,dv D fs ((acc++s)++X)=some none∨dv D fs ((acc++s)++X)=lJ (l.take (i+1)) (dv D (fs.drop (i+1)) X):=by
 intro X
 rw[List.append_assoc]
 rcases h (s++X) with e|e
 ·exact .inl e
 have e1:fs.drop i=fs.getD i (aC .afield)::fs.drop (i+1):=by
  rw[List.drop_eq_getElem_cons hi];simp[List.getD,hi]
 rw[e1,dv] at e
 rw[uJ _ (aC .aval) _ hl]
 rcases hs X with e2|e2
 ·rw[e2] at e;exact .inl e
 ·rw[e2] at e
  rw[e]
  simp only
  cases dv D (fs.drop (i+1)) X with
  |none=>exact .inr rfl
  |some y=>cases y with
   |none=>exact .inl rfl
   |some y=>right;simp[lJ]
def aEz(ts:List aA)(v:aB)(k:aA)(l:List UInt8)(s:ix):Prop:=match s with
 |(ts',v',k',acc,i,l',n')=>ts'=ts∧v'=v∧k'=k∧l'=l∧eH l n'∧0≤i∧i≤v.l.length∧acc.length≤100*wL (v.l.take i.toNat)∧
  ∀f X,dv (bY ts f) k.fields (acc++X)=some none∨dv (bY ts f) k.fields (acc++X)=lJ (v.l.take i.toNat) (dv (bY ts f) (k.fields.drop i.toNat) X)
section
variable{ts:List aA}(hs:dJ ts)
include hs
theorem aDp(m:Nat)(hV:arN ts m):arN ts (m+1):=by
 intro l n t v hp hm hw hf hv
 have hT:=aec hf
 have hk:=hs.at (i:=t.toNat) (by omega)
 have hwe:=uG v
 have hwl:=wE v.l
 have hval:=afh (ts:=ts) (t:=t) (v:=v)
 apply agN (v.l.length+10)
 unfold zj ja
 dsimp only
 refine aP (ixt (by omega)) ?_
 have dec_at:∀{c:Int}(e:(ts.getD t.toNat (aC .atype)).kind=c)(f:Nat)(s:List UInt8),bY ts (f+1) t s=decK (bY ts f) (ts.getD t.toNat (aC .atype)) c s:=fun e f s=>azS e s
 refine aD (fun hc=>?_) (fun c14=>aD (fun hc=>?_) (fun c9=>aD (fun hc=>?_) (fun c12=>aD (fun hc=>?_) (fun c13=>?_))))
 ·have e:(ts.getD t.toNat (aC .atype)).kind=14:=by simpa using hc
  obtain⟨h1,h2,x,h3,h4⟩:=ana hf e
  have hb:=azR e hf
  have hnb:=hk.nb
  simp only[e] at hval
  have hval:aV ts t v=aZ v.branch++gF ts ((ts.getD t.toNat (aC .atype)).branches.getD v.branch.toNat 0) v.l:=hval
  rw[h3] at hval
  simp only[gF,List.append_nil] at hval
  rw[hval,List.length_append] at hv
  refine aF (gH _) ?_
  rintro(r1:List UInt8) ⟨-,hr1⟩
  obtain rfl:r1=aZ v.branch:=hr1
  have l1:=dQ v.branch
  have hx:v.l.getD (Int.toNat 0) (aC .aval)=x:=by rw[h3];rfl
  have hwx:wL v.l=wV x:=by rw[h3];simp only[wL];omega
  refine aP (ixt (by omega)) (aP (by rw[h3];rfl) ?_)
  rw[dX,hx]
  refine aF (hV l n _ x hp (by omega) (by omega) h4 (Nat.le_trans (Nat.le_add_left _ _) hv)) ?_
  rintro⟨s,l2,n2⟩ ⟨-,q1,q2,q3,q4⟩
  dsimp only at q1 q2 q3 q4 ⊢
  refine aP (by simp;omega) (aG ⟨_,_,_,_,rfl,rfl,?_,?_,q3,q4⟩)
  ·intro f r
   cases f with
   |zero=>exact .inl rfl
   |succ f=>
    rw[dec_at e]
    show (match sH (ts.getD t.toNat (aC .atype)).branches.length ((aZ v.branch++s)++r) with|some (b,r)=>(match bY ts f ((ts.getD t.toNat (aC .atype)).branches.getD b.toNat 0) r with|some (some (v,r'))=>some (some (aB.mk 0 [] [v] [] b,r'))|some none=>some none|none=>none)|none=>none)=some none∨(match sH (ts.getD t.toNat (aC .atype)).branches.length ((aZ v.branch++s)++r) with|some (b,r)=>(match bY ts f ((ts.getD t.toNat (aC .atype)).branches.getD b.toNat 0) r with|some (some (v,r'))=>some (some (aB.mk 0 [] [v] [] b,r'))|some none=>some none|none=>none)|none=>none)=some (some (v,r))
    rw[List.append_assoc,atM _ v.branch ⟨h1,h2⟩ (by omega)]
    simp only[]
    rcases q1 f r with e2|e2
    ·rw[show bY ts f ((ts.getD t.toNat (aC .atype)).branches.getD v.branch.toNat 0) (s++r)=_ from e2];exact .inl rfl
    ·rw[show bY ts f ((ts.getD t.toNat (aC .atype)).branches.getD v.branch.toNat 0) (s++r)=_ from e2];right;simp only[];rw[←h3,←hb]
  ·simp only[List.length_append];omega
 ·have e:(ts.getD t.toNat (aC .atype)).kind=9:=by simpa using hc
  obtain⟨h1,h2⟩:=arH hf e
  have hb:=aBT e hf
  simp only[e] at hval
  have hval:aV ts t v=kF ts (ts.getD t.toNat (aC .atype)).fields v.l:=hval
  rw[hval] at hv
  generalize hkk:ts.getD t.toNat (aC .atype)=k at*
  refine bm (aEz ts v k l) (fun s=>(v.l.length-s.2.2.2.2.1:Int).toNat) ?_ _ _
   ⟨rfl,rfl,rfl,rfl,hp,by omega,by omega,by simp,fun f X=>.inr (by rw[Int.toNat_zero,List.take_zero,List.drop_zero,List.nil_append];unfold lJ;cases dv (bY ts f) k.fields X with|none=>rfl|some y=>cases y with|none=>rfl|some y=>rfl)⟩ (by simp only;omega)
  rintro again ⟨ts',v',k',acc,i,l',n'⟩ ⟨rfl,rfl,rfl,rfl,hp',i1,i2,i3,h3⟩ ih
  dsimp only at ih
  unfold lS
  dsimp only
  refine aD (fun h=>?_) (fun h=>?_)
  ·have h:=of_decide_eq_true h
   have hil:i.toNat<v'.l.length:=by omega
   have ei:IntKind.i64.wrap (i+1)=i+1:=aI _ (by omega)
   have hwm:=amS v'.l (v'.l.getD i.toNat (aC .aval)) (fH _ _ _ hil)
   have hwt:=atR v'.l (i.toNat+1)
   have htk:=uJ v'.l (aC .aval) i.toNat hil
   rw[htk,um] at hwt
   simp only[wL] at hwt
   rw[ei,dX]
   refine aP (ixt (by omega)) (aP (ixt (by omega)) ?_)
   refine aF (hV l' n' _ _ hp' (by omega) (by omega) (ai3 _ _ _ _ h2 hil) (Nat.le_trans (ayh _ _ _ _ hil) hv)) ?_
   rintro⟨s,l2,n2⟩ ⟨-,q1,q2,q3,q4⟩
   dsimp only at q1 q2 q3 q4 ⊢
   subst q3
   refine aP (by simp;omega) (ih _ ⟨rfl,rfl,rfl,rfl,q4,by omega,by omega,?_,fun f=>?_⟩ (by simp only;omega))
   ·rw[show (i+1).toNat=i.toNat+1 by omega,htk,um,List.length_append]
    simp only[wL];omega
   ·rw[show (i+1).toNat=i.toNat+1 by omega]
    exact awg (by omega) hil (h3 f) (fun r=>q1 f r)
  ·have h:=of_decide_eq_false h
   have hwt:=atR v'.l i.toNat
   refine aG ⟨_,_,_,_,rfl,rfl,?_,?_,rfl,hp'⟩
   ·intro f r
    cases f with
    |zero=>exact .inl rfl
    |succ f=>
     rw[bY,hkk,e]
     show (match dv (bY ts' f) k'.fields (acc++r) with|some (some (l,r))=>some (some (aB.mk 0 [] l [] 0,r))|some none=>some none|none=>none)=some none∨(match dv (bY ts' f) k'.fields (acc++r) with|some (some (l,r))=>some (some (aB.mk 0 [] l [] 0,r))|some none=>some none|none=>none)=some (some (v',r))
     rcases h3 f r with e2|e2
     ·rw[e2];exact .inl rfl
     ·rw[e2,List.drop_eq_nil_of_le (by omega),List.take_of_length_le (by omega)]
      right
      simp only[dv,lJ,List.append_nil]
      rw[←hb]
   ·show acc.length+50≤_
    omega
 ·have e:(ts.getD t.toNat (aC .atype)).kind=12:=by simpa using hc
  have h1:=am8 hf e
  have hb:=azQ e hf
  simp only[e] at hval
  have hval:aV ts t v=(cond (decide (0<(v.l.length:Int))) (aZ (v.l.length:Int)) [])++gF ts (ts.getD t.toNat (aC .atype)).items v.l++aZ 0:=hval
  have hks:v.keys=[]:=by rw[hb];rfl
  have hal:(gF ts (ts.getD t.toNat (aC .atype)).items v.l).length≤5000:=by
   rw[hval,List.length_append,List.length_append] at hv;omega
  refine azT rfl hw hp (aEx hV e (by omega) hw hks h1 hal) (fun s n' hp' hb2 hl2=>⟨fun f r=>?_,hl2,rfl,hp'⟩) _ (by omega)
  cases f with
  |zero=>exact .inl rfl
  |succ f=>
   rw[dec_at e]
   show (match bO (bY ts f (ts.getD t.toNat (aC .atype)).items) _ _ with|some (some (l,r))=>some (some (aB.mk 0 [] l [] 0,r))|some none=>some none|none=>none)=some none∨(match bO (bY ts f (ts.getD t.toNat (aC .atype)).items) _ _ with|some (some (l,r))=>some (some (aB.mk 0 [] l [] 0,r))|some none=>some none|none=>none)=some (some (v,r))
   rcases hb2 f r _ (Nat.lt_succ_self _) with e2|e2<;>rw[e2]
   ·exact .inl rfl
   ·right;simp only[];rw[←hb]
 ·have e:(ts.getD t.toNat (aC .atype)).kind=13:=by simpa using hc
  obtain⟨h0,h1⟩:=am9 hf e
  obtain⟨hb,hks⟩:=aBU e hf
  simp only[e] at hval
  have hval:aV ts t v=(cond (decide (0<(v.l.length:Int))) (aZ (v.l.length:Int)) [])++mW ts (ts.getD t.toNat (aC .atype)).items v.keys v.l++aZ 0:=hval
  have hal:(mW ts (ts.getD t.toNat (aC .atype)).items v.keys v.l).length≤5000:=by
   rw[hval,List.length_append,List.length_append] at hv;omega
  refine azT (by rw[List.length_zip,h0,Nat.min_self]) hw hp (aEy hV e (by omega) hw h0 hks h1 hal) (fun s n' hp' hb2 hl2=>⟨fun f r=>?_,hl2,rfl,hp'⟩) _ (by omega)
  cases f with
  |zero=>exact .inl rfl
  |succ f=>
   rw[dec_at e]
   show (match bO (lQ (bY ts f (ts.getD t.toNat (aC .atype)).items)) _ _ with|some (some (l,r))=>if dl (l.map (·.1)) then some (some (aB.mk 0 [] (l.map (·.2)) (l.map (·.1)) 0,r)) else none|some none=>some none|none=>none)=some none∨(match bO (lQ (bY ts f (ts.getD t.toNat (aC .atype)).items)) _ _ with|some (some (l,r))=>if dl (l.map (·.1)) then some (some (aB.mk 0 [] (l.map (·.2)) (l.map (·.1)) 0,r)) else none|some none=>some none|none=>none)=some (some (v,r))
   rcases hb2 f r _ (Nat.lt_succ_self _) with e2|e2<;>rw[e2]
   ·exact .inl rfl
   ·right
    have z1:(v.keys.zip v.l).map (·.1)=v.keys:=List.map_fst_zip (by omega)
    have z2:(v.keys.zip v.l).map (·.2)=v.l:=List.map_snd_zip (by omega)
    simp only[z1,z2]
    rw[if_pos hks,←hb]
 ·rw[dX]
  refine aF (azp ts hs t v hw) ?_
  rintro⟨s,e2⟩ ⟨-,hr⟩
  have hr:(s,e2)=vW ts t v:=hr
  unfold vW at hr
  rw[if_neg (by simp[isT,hT.1,hT.2]),if_neg (by rw[hf];decide),if_neg (by omega)] at hr
  simp only[Prod.mk.injEq] at hr
  obtain⟨rfl,rfl⟩:=hr
  have hl:=io ts t v
  exact aG ⟨_,_,_,_,rfl,rfl,fun f r=>atQ ts hs (wV v+1) v (by omega) hw t hf f r,by simp only;omega,rfl,hp⟩
theorem arO:∀m,arN ts m
 |0=>fun _ _ _ _ _ h=>by omega
 |m+1=>aDp hs m (arO m)
end
end Go.Proofs.YtdpajabhmmmjoaaGreat
end
noncomputable section
namespace Go.Proofs.YtdpajabhmmmjoaaGreat
open Go.AM
set_option autoImplicit false
set_option linter.unusedVariables false
set_option maxRecDepth 100000
noncomputable def qQ:aN:=tab (P:=Tryz.prog) [] [p9,iW,ako,mX,yZ,agA,qZ,afs] [] [yR]
def tM:IR:=Sq (Rs [Mv 147 10,Fa 148 8 8,Lq 149 148,Ll 150 149,Bi 151 .lss 147 150,Mv 152 151,Gt 152 (.mov 153 0),Gt 152 (.nck 154 153),Gt 152 (.fad 155 4 154),Gt 152 (.ld 156 1 false false 155),Gt 152 (.bin 157 .eql 156 (kI 0)),Pa 158 152 157] (Cn 158 .skip (.exit 1))) (Sq (.block 2 (.reg [Fa 161 2 7,Fo [] [2] (.ld 162 1 false true 161),Mv 163 0,Fa 164 8 8,Lq 165 164,Mv 166 10,Ix 167 .afield 165 166,Fa 168 2 167,Fo [] [] (.ld 169 1 false false 168),Mv 170 2,Bc 171 .add 170 1,Fo [] [0] (.call 172 22 [163,169,171]),Pp (.bsl 173 .aval [172] true),Pp (.app 174 .aval (.tk 162) 173),Fa 175 2 7,Fo [] [2] (.st none 1 175 (.tk 174))] [[],[0],[],[],[3],[],[3,4,5],rg 3 6,rg 3 7,[],[9],rg 2 10,rg 2 11,rg 0 12,rg 0 13,rg 0 14])) (Rg [Mv 159 10,Bc 160 .add 159 1,Mv 10 160]))
def tN:IR:=Rs [Pp (.ld 183 5 true false 7),Sv 5 6 183] .ret
def af4:IR:=Rs [Pp (.new 6 [vU 0,vS,nl .aval,nl .str,vI 0])] (Rs [Mv 11 0,Nk 12 11,Fa 13 3 12,Lo 14 13,Bc 15 .add 14 1,Nk 16 11,Fa 17 3 16,Sv 1 17 15] (Sq (Rs [Mv 18 2,Bc 19 .gtr 18 20,Mv 20 19,Gf 20 (.mov 21 0),Gf 20 (.nck 22 21),Gf 20 (.fad 23 3 22),Gf 20 (.ld 24 1 false false 23),Gf 20 (.bin 25 .gtr 24 (kI 2000)),Po 26 20 25] (Cn 26 (Rg [Mv 27 0,Ca 28 42 [27,kI 3]]) .skip)) (Rs [Pp (.bld 29 [vU 0,vS,nl .aval,nl .str,vI 0] []),Pp (.new 7 [vU 0,vS,nl .aval,nl .str,vI 0]),Sv 5 7 29] (Sq (Rs [Mv 30 0,Nk 31 30,Fa 32 4 31,Lo 33 32,Bc 34 .neq 33 0] (Cn 34 (Rs [Pp (.ld 35 5 true false 7),Sv 5 6 35] .ret) .skip)) (Rs [Mv 36 0,Nk 37 36,Fa 38 0 37,Fa 39 0 38,Lo 40 39,Mv 41 1,Ix 42 .atype 40 41,Ld 43 10 true 42,Pp (.alr 8 10),Fz 8 10 43] (Sq (Rs [Fa 44 0 8,Lq 45 44] (.block 0 (Rs [Bc 47 .eql 45 2,Mv 46 47] (Cn 46 (Rs [Mv 48 0,Ca 49 43 [48,kI 1],Fa 50 0 7,Sv 1 50 49] (Rs [Fa 51 0 7,Lo 52 51,Pp (.bin 53 .gtr 52 (kU 1))] (Cn 53 (Rg [Mv 54 0,Ca 55 42 [54,kI 2]]) .skip))) (Sq (Rs [Bc 57 .eql 45 3,Mv 56 57] (Cn 56 .skip (Rg [Bc 58 .eql 45 4,Mv 56 58]))) (Cn 56 (Rs [Mv 59 0,Ca 60 44 [59],Mv 9 60] (Sq (Rs [Fa 61 0 8,Lq 62 61,Bc 63 .eql 62 3,Mv 64 63,Gt 64 (.mov 65 9),Gt 64 (.bin 66 .lss 65 (kI (-2147483648))),Gt 64 (.mov 67 66),Gf 67 (.mov 68 9),Gf 67 (.bin 69 .geq 68 (kI 2147483648)),Gt 64 (.pick 70 67 (kB true) 69),Pa 71 64 70] (Cn 71 (Rg [Mv 72 0,Ca 73 42 [72,kI 2]]) .skip)) (Rg [Mv 74 9,Pp (.cvi 75 .u64 74),Fa 76 0 7,Sv 1 76 75]))) (Rs [Bc 78 .eql 45 5,Mv 77 78] (Cn 77 (Rg [Mv 79 0,Ca 80 43 [79,kI 4],Fa 81 0 7,Sv 1 81 80]) (Rs [Bc 83 .eql 45 6,Mv 82 83] (Cn 82 (Rg [Mv 84 0,Ca 85 43 [84,kI 8],Fa 86 0 7,Sv 1 86 85]) (Sq (Rs [Bc 88 .eql 45 7,Mv 87 88] (Cn 87 .skip (Rg [Bc 89 .eql 45 8,Mv 87 89]))) (Cn 87 (Rs [Mv 90 0,Ca 91 45 [90],Fa 92 1 7,Sv 1 92 91] (Rs [Fa 93 0 8,Lq 94 93,Bc 95 .eql 94 8,Mv 96 95,Gt 96 (.fad 97 1 7),Gt 96 (.ld 98 1 false false 97),Gt 96 (.call 99 46 [98]),Gt 96 (.un 100 .not 99),Pa 101 96 100] (Cn 101 (Rg [Mv 102 0,Ca 103 42 [102,kI 2]]) .skip))) (Rs [Bc 105 .eql 45 10,Mv 104 105] (Cn 104 (Rg [Mv 106 0,Fa 107 4 8,Lq 108 107,Ll 109 108,Ca 110 47 [106,109],Pp (.cvi 111 .u64 110),Fa 112 0 7,Sv 1 112 111]) (Rs [Bc 114 .eql 45 11,Mv 113 114] (Cn 113 (Rg [Mv 115 0,Fa 116 7 8,Lq 117 116,Ca 118 48 [115,117],Fa 119 1 7,Sv 1 119 118]) (Rs [Bc 121 .eql 45 14,Mv 120 121] (Cn 120 (Rs [Mv 122 0,Fa 123 9 8,Lq 124 123,Ll 125 124,Ca 126 47 [122,125],Fa 127 4 7,Sv 1 127 126] (Rs [Mv 128 0,Nk 129 128,Fa 130 4 129,Lo 131 130,Bc 132 .eql 131 0] (Cn 132 (Rg [Mv 133 0,Fa 134 9 8,Lq 135 134,Fa 136 4 7,Lo 137 136,Ix 138 (.num .i64) 135 137,Lq 139 138,Mv 140 2,Bc 141 .add 140 1,Ca 142 22 [133,139,141],Pp (.bsl 143 .aval [142] true),Fa 144 2 7,Sk 1 144 143]) .skip))) (Rs [Bc 146 .eql 45 9,Mv 145 146] (Cn 145 (Rs [Mi 10 0] (.block 1 (.loop [0,2,6,7,8,10,1000000] 3 tM))) (Sq (Rs [Bc 177 .eql 45 12,Mv 176 177] (Cn 176 .skip (Rg [Bc 178 .eql 45 13,Mv 176 178]))) (Cn 176 (Rs [Mv 179 0,Ld 180 10 true 8,Mv 181 2,Ca 182 49 [179,180,181],Sv 5 6 182] .ret) .skip)))))))))))))))))))))) tN))))))
def wS:List RV:=[.cell 6 5 true]
theorem af5:FnC Tryz.prog qQ [22,42,43,44,45,47,48,49,2000022,2000042,2000043,2000044,2000045,2000047,2000048,2000049] 1 yc Tryz.f22 af4 wS:=fnC Tryz.func22
def aez(R:IR→(Ex→St→Ro)→St→Ro)(a:St→Ro):Ex→St→Ro:=(bF a [0,2,6,7,8,10,1000000] 3 (aQ 1 (aQ 0 (bv (R tN) (fin wS)))))
abbrev gB:Type:=(Int×aA×Int×List aA×Bs×Int×Int×Int×Int×Bs×List aB×Bss×Int×Int×Bs×List aB×Bss×Int)
def jz:gB→St:=fun(i,j,k,l,m,n,o,p,q,r,a,b,c,d,e,f,g,h)=>{env:=(.ptr 0 0::.undef::.int .i64 i::(U 3 (.ptr 1 0::.ptr 2 0::.ea (enc .atype j)::.undef::.int .i64 k::(U 173 [])))),hp:=[some [.sl .atype (.may false) l,.sl .u8 (.may false) m,.int .i64 n,.int .i64 o,.int .i64 p],some [.int .u64 q,.str r,.sl .aval .own a,.sl .str .own b,.int .i64 c],some [.int .u64 d,.str e,.sl .aval .own f,.sl .str .own g,.int .i64 h]]}
def oo(N:Nat):(St→Ro)→St→Ro:=fun a s=>run qQ N tM (aez (run qQ N) a) s
def kh(N:Nat)(h:gB→Ro):gB→Ro:=fun(y,s,i,j,k,l,m,g,n,o,p,q,r,c,d,a,e,f)=>
 let t:=(↑(List.length s.fields):Int)
 let z:=(some (.agg [.int .u64 c,.str d,.sl .aval (.may false) a,.sl .str (.may false) e,.int .i64 f],[some [.sl .atype (.may false) j,.sl .u8 (.may false) k,.int .i64 l,.int .i64 m,.int .i64 g],some [.int .u64 c,.str d,.sl .aval (.may false) a,.sl .str (.may false) e,.int .i64 f],some [.int .u64 c,.str d,.sl .aval .own a,.sl .str .own e,.int .i64 f]]):Ro)
 cond (decide (i<t)) (
 cond (g==0) (
 chk (ixl i s.fields) (
 let u:=(List.getD s.fields (Int.toNat i) (aC .afield))
 let v:=(IntKind.wrap .i64 (y+1))
 aE (bH j k l m g u.typ v) (fun b=>
 chk (decide ((List.length a+List.length ([(reA b.1)]:List aB))*80≤140737488355328)) (
 let w:=(a++([(reA b.1)]:List aB))
 let x:=(IntKind.wrap .i64 (i+1))
 h (y,s,x,b.2.1,b.2.2.1,b.2.2.2.1,b.2.2.2.2.1,b.2.2.2.2.2,n,o,p,q,r,c,d,w,e,f))))) (
 z)) (
 z)
theorem aed(N:Nat):LB (oo N) jz (kh N):=fun _ _=>by kernel_rfl
def fD(N:Nat)(d:List aA)(f:Bs)(g bl e p1 p2:Int)(q0:gB→Ro):Ro:=
 let x1:=(IntKind.wrap .i64 (bl+1))
 let c:=fun g0 g1 g2 g3 g4 g5 g6 g7=>(some (.agg [.int .u64 g0,.str g1,.sl .aval (.may false) ([]:List aB),.sl .str (.may false) ([]:Bss),.int .i64 g2],[some [.sl .atype (.may false) g3,.sl .u8 (.may false) g4,.int .i64 g5,.int .i64 g6,.int .i64 g7],some [.int .u64 g0,.str g1,.sl .aval (.may false) ([]:List aB),.sl .str (.may false) ([]:Bss),.int .i64 g2],some [.int .u64 g0,.str g1,.sl .aval .own ([]:List aB),.sl .str .own ([]:Bss),.int .i64 g2]]):Ro)
 let z1:=fun g0 g1 g2 g3 g4 g5=>q0 (p2,g0,0,g1,g2,g3,g4,g5,0,([]:Bs),([]:List aB),([]:Bss),0,0,([]:Bs),([]:List aB),([]:Bss),0)
 cond (decide (20<p2)) (
 aE (aM d f g x1 e 3) (fun b=>
 cond (!(b.2.2.2.2==0)) (
 c 0 ([]:Bs) 0 b.1 b.2.1 b.2.2.1 b.2.2.2.1 b.2.2.2.2) (
 chk (ixl p1 b.1) (
 let x2:=(List.getD b.1 (Int.toNat p1) (aC .atype))
 cond (x2.kind==2) (
 aE (cL b.1 b.2.1 b.2.2.1 b.2.2.2.1 b.2.2.2.2 1) (fun r2=>
 cond (decide (1<r2.1)) (
 aE (aM r2.2.1 r2.2.2.1 r2.2.2.2.1 r2.2.2.2.2.1 r2.2.2.2.2.2 2) (fun r3=>
 c r2.1 ([]:Bs) 0 r3.1 r3.2.1 r3.2.2.1 r3.2.2.2.1 r3.2.2.2.2)) (
 c r2.1 ([]:Bs) 0 r2.2.1 r2.2.2.1 r2.2.2.2.1 r2.2.2.2.2.1 r2.2.2.2.2.2))) (
 cond (x2.kind==3) (
 aE (bD b.1 b.2.1 b.2.2.1 b.2.2.2.1 b.2.2.2.2) (fun r4=>
 cond (x2.kind==3) (
 let x3:=decide (r4.1<(-2147483648))
 cond x3 (
 aE (aM r4.2.1 r4.2.2.1 r4.2.2.2.1 r4.2.2.2.2.1 r4.2.2.2.2.2 2) (fun r5=>
 c (IntKind.wrap .u64 r4.1) ([]:Bs) 0 r5.1 r5.2.1 r5.2.2.1 r5.2.2.2.1 r5.2.2.2.2)) (
 let x4:=decide (2147483648≤r4.1)
 cond x4 (
 aE (aM r4.2.1 r4.2.2.1 r4.2.2.2.1 r4.2.2.2.2.1 r4.2.2.2.2.2 2) (fun r6=>
 c (IntKind.wrap .u64 r4.1) ([]:Bs) 0 r6.1 r6.2.1 r6.2.2.1 r6.2.2.2.1 r6.2.2.2.2)) (
 c (IntKind.wrap .u64 r4.1) ([]:Bs) 0 r4.2.1 r4.2.2.1 r4.2.2.2.1 r4.2.2.2.2.1 r4.2.2.2.2.2))) (
 c (IntKind.wrap .u64 r4.1) ([]:Bs) 0 r4.2.1 r4.2.2.1 r4.2.2.2.1 r4.2.2.2.2.1 r4.2.2.2.2.2))) (
 cond (x2.kind==4) (
 aE (bD b.1 b.2.1 b.2.2.1 b.2.2.2.1 b.2.2.2.2) (fun r7=>
 cond (x2.kind==3) (
 let x5:=decide (r7.1<(-2147483648))
 cond x5 (
 aE (aM r7.2.1 r7.2.2.1 r7.2.2.2.1 r7.2.2.2.2.1 r7.2.2.2.2.2 2) (fun r8=>
 c (IntKind.wrap .u64 r7.1) ([]:Bs) 0 r8.1 r8.2.1 r8.2.2.1 r8.2.2.2.1 r8.2.2.2.2)) (
 let x6:=decide (2147483648≤r7.1)
 cond x6 (
 aE (aM r7.2.1 r7.2.2.1 r7.2.2.2.1 r7.2.2.2.2.1 r7.2.2.2.2.2 2) (fun r9=>
 c (IntKind.wrap .u64 r7.1) ([]:Bs) 0 r9.1 r9.2.1 r9.2.2.1 r9.2.2.2.1 r9.2.2.2.2)) (
 c (IntKind.wrap .u64 r7.1) ([]:Bs) 0 r7.2.1 r7.2.2.1 r7.2.2.2.1 r7.2.2.2.2.1 r7.2.2.2.2.2))) (
 c (IntKind.wrap .u64 r7.1) ([]:Bs) 0 r7.2.1 r7.2.2.1 r7.2.2.2.1 r7.2.2.2.2.1 r7.2.2.2.2.2))) (
 cond (x2.kind==5) (
 aE (cL b.1 b.2.1 b.2.2.1 b.2.2.2.1 b.2.2.2.2 4) (fun ap=>
 c ap.1 ([]:Bs) 0 ap.2.1 ap.2.2.1 ap.2.2.2.1 ap.2.2.2.2.1 ap.2.2.2.2.2)) (
 cond (x2.kind==6) (
 aE (cL b.1 b.2.1 b.2.2.1 b.2.2.2.1 b.2.2.2.2 8) (fun aq=>
 c aq.1 ([]:Bs) 0 aq.2.1 aq.2.2.1 aq.2.2.2.1 aq.2.2.2.2.1 aq.2.2.2.2.2)) (
 cond (x2.kind==7) (
 aE (cO b.1 b.2.1 b.2.2.1 b.2.2.2.1 b.2.2.2.2) (fun p=>
 cond (x2.kind==8) (
 aE (ez p.1) (fun(bz:Bool)=>
 cond (!bz) (
 aE (aM p.2.1 p.2.2.1 p.2.2.2.1 p.2.2.2.2.1 p.2.2.2.2.2 2) (fun a4=>
 c 0 p.1 0 a4.1 a4.2.1 a4.2.2.1 a4.2.2.2.1 a4.2.2.2.2)) (
 c 0 p.1 0 p.2.1 p.2.2.1 p.2.2.2.1 p.2.2.2.2.1 p.2.2.2.2.2))) (
 c 0 p.1 0 p.2.1 p.2.2.1 p.2.2.2.1 p.2.2.2.2.1 p.2.2.2.2.2))) (
 cond (x2.kind==8) (
 aE (cO b.1 b.2.1 b.2.2.1 b.2.2.2.1 b.2.2.2.2) (fun q=>
 cond (x2.kind==8) (
 aE (ez q.1) (fun(b0:Bool)=>
 cond (!b0) (
 aE (aM q.2.1 q.2.2.1 q.2.2.2.1 q.2.2.2.2.1 q.2.2.2.2.2 2) (fun a5=>
 c 0 q.1 0 a5.1 a5.2.1 a5.2.2.1 a5.2.2.2.1 a5.2.2.2.2)) (
 c 0 q.1 0 q.2.1 q.2.2.1 q.2.2.2.1 q.2.2.2.2.1 q.2.2.2.2.2))) (
 c 0 q.1 0 q.2.1 q.2.2.1 q.2.2.2.1 q.2.2.2.2.1 q.2.2.2.2.2))) (
 cond (x2.kind==10) (
 let x7:=(↑(List.length x2.syms):Int)
 aE (di b.1 b.2.1 b.2.2.1 b.2.2.2.1 b.2.2.2.2 x7) (fun ar=>
 let x8:=(IntKind.wrap .u64 ar.1)
 c x8 ([]:Bs) 0 ar.2.1 ar.2.2.1 ar.2.2.2.1 ar.2.2.2.2.1 ar.2.2.2.2.2)) (
 cond (x2.kind==11) (
 aE (cP b.1 b.2.1 b.2.2.1 b.2.2.2.1 b.2.2.2.2 x2.size) (fun au=>
 c 0 au.1 0 au.2.1 au.2.2.1 au.2.2.2.1 au.2.2.2.2.1 au.2.2.2.2.2)) (
 cond (x2.kind==14) (
 let x9:=(↑(List.length x2.branches):Int)
 aE (di b.1 b.2.1 b.2.2.1 b.2.2.2.1 b.2.2.2.2 x9) (fun w=>
 cond (w.2.2.2.2.2==0) (
 chk (ixl w.1 x2.branches) (
 let b1:=List.getD x2.branches (Int.toNat w.1) (aC (.num .i64))
 let b2:=(IntKind.wrap .i64 (p2+1))
 aE (bH w.2.1 w.2.2.1 w.2.2.2.1 w.2.2.2.2.1 w.2.2.2.2.2 b1 b2) (fun al=>
 some (.agg [.int .u64 0,.str ([]:Bs),.sl .aval (.may true) ([(reA al.1)]:List aB),.sl .str (.may false) ([]:Bss),.int .i64 w.1],[some [.sl .atype (.may false) al.2.1,.sl .u8 (.may false) al.2.2.1,.int .i64 al.2.2.2.1,.int .i64 al.2.2.2.2.1,.int .i64 al.2.2.2.2.2],some [.int .u64 0,.str ([]:Bs),.sl .aval (.may true) ([(reA al.1)]:List aB),.sl .str (.may false) ([]:Bss),.int .i64 w.1],some [.int .u64 0,.str ([]:Bs),.sl .aval (.may true) ([(reA al.1)]:List aB),.sl .str .own ([]:Bss),.int .i64 w.1]])))) (
 c 0 ([]:Bs) w.1 w.2.1 w.2.2.1 w.2.2.2.1 w.2.2.2.2.1 w.2.2.2.2.2))) (
 cond (x2.kind==9) (
 z1 x2 b.1 b.2.1 b.2.2.1 b.2.2.2.1 b.2.2.2.2) (
 cond (x2.kind==12) (
 aE (cN b.1 b.2.1 b.2.2.1 b.2.2.2.1 b.2.2.2.2 x2 p2) (fun z=>
 some (.agg [.int .u64 z.1.n,.str z.1.s,.sl .aval (.may false) z.1.l,.sl .str (.may false) z.1.keys,.int .i64 z.1.branch],[some [.sl .atype (.may false) z.2.1,.sl .u8 (.may false) z.2.2.1,.int .i64 z.2.2.2.1,.int .i64 z.2.2.2.2.1,.int .i64 z.2.2.2.2.2],some [.int .u64 z.1.n,.str z.1.s,.sl .aval (.may false) z.1.l,.sl .str (.may false) z.1.keys,.int .i64 z.1.branch],some [.int .u64 0,.str ([]:Bs),.sl .aval .own ([]:List aB),.sl .str .own ([]:Bss),.int .i64 0]]))) (
 cond (x2.kind==13) (
 aE (cN b.1 b.2.1 b.2.2.1 b.2.2.2.1 b.2.2.2.2 x2 p2) (fun aa=>
 some (.agg [.int .u64 aa.1.n,.str aa.1.s,.sl .aval (.may false) aa.1.l,.sl .str (.may false) aa.1.keys,.int .i64 aa.1.branch],[some [.sl .atype (.may false) aa.2.1,.sl .u8 (.may false) aa.2.2.1,.int .i64 aa.2.2.2.1,.int .i64 aa.2.2.2.2.1,.int .i64 aa.2.2.2.2.2],some [.int .u64 aa.1.n,.str aa.1.s,.sl .aval (.may false) aa.1.l,.sl .str (.may false) aa.1.keys,.int .i64 aa.1.branch],some [.int .u64 0,.str ([]:Bs),.sl .aval .own ([]:List aB),.sl .str .own ([]:Bss),.int .i64 0]]))) (
 c 0 ([]:Bs) 0 b.1 b.2.1 b.2.2.1 b.2.2.2.1 b.2.2.2.2))))))))))))))))) (
 cond (decide (2000<x1)) (
 aE (aM d f g x1 e 3) (fun a=>
 cond (!(a.2.2.2.2==0)) (
 c 0 ([]:Bs) 0 a.1 a.2.1 a.2.2.1 a.2.2.2.1 a.2.2.2.2) (
 chk (ixl p1 a.1) (
 let m:=(List.getD a.1 (Int.toNat p1) (aC .atype))
 cond (m.kind==2) (
 aE (cL a.1 a.2.1 a.2.2.1 a.2.2.2.1 a.2.2.2.2 1) (fun af=>
 cond (decide (1<af.1)) (
 aE (aM af.2.1 af.2.2.1 af.2.2.2.1 af.2.2.2.2.1 af.2.2.2.2.2 2) (fun a6=>
 c af.1 ([]:Bs) 0 a6.1 a6.2.1 a6.2.2.1 a6.2.2.2.1 a6.2.2.2.2)) (
 c af.1 ([]:Bs) 0 af.2.1 af.2.2.1 af.2.2.2.1 af.2.2.2.2.1 af.2.2.2.2.2))) (
 cond (m.kind==3) (
 aE (bD a.1 a.2.1 a.2.2.1 a.2.2.2.1 a.2.2.2.2) (fun h=>
 cond (m.kind==3) (
 let b3:=decide (h.1<(-2147483648))
 cond b3 (
 aE (aM h.2.1 h.2.2.1 h.2.2.2.1 h.2.2.2.2.1 h.2.2.2.2.2 2) (fun a7=>
 let b4:=(IntKind.wrap .u64 h.1)
 c b4 ([]:Bs) 0 a7.1 a7.2.1 a7.2.2.1 a7.2.2.2.1 a7.2.2.2.2)) (
 let b5:=decide (2147483648≤h.1)
 cond b5 (
 aE (aM h.2.1 h.2.2.1 h.2.2.2.1 h.2.2.2.2.1 h.2.2.2.2.2 2) (fun a8=>
 let b6:=(IntKind.wrap .u64 h.1)
 c b6 ([]:Bs) 0 a8.1 a8.2.1 a8.2.2.1 a8.2.2.2.1 a8.2.2.2.2)) (
 let b7:=(IntKind.wrap .u64 h.1)
 c b7 ([]:Bs) 0 h.2.1 h.2.2.1 h.2.2.2.1 h.2.2.2.2.1 h.2.2.2.2.2))) (
 let b8:=(IntKind.wrap .u64 h.1)
 c b8 ([]:Bs) 0 h.2.1 h.2.2.1 h.2.2.2.1 h.2.2.2.2.1 h.2.2.2.2.2))) (
 cond (m.kind==4) (
 aE (bD a.1 a.2.1 a.2.2.1 a.2.2.2.1 a.2.2.2.2) (fun i=>
 cond (m.kind==3) (
 let b9:=decide (i.1<(-2147483648))
 cond b9 (
 aE (aM i.2.1 i.2.2.1 i.2.2.2.1 i.2.2.2.2.1 i.2.2.2.2.2 2) (fun a9=>
 let ca:=(IntKind.wrap .u64 i.1)
 c ca ([]:Bs) 0 a9.1 a9.2.1 a9.2.2.1 a9.2.2.2.1 a9.2.2.2.2)) (
 let cb:=decide (2147483648≤i.1)
 cond cb (
 aE (aM i.2.1 i.2.2.1 i.2.2.2.1 i.2.2.2.2.1 i.2.2.2.2.2 2) (fun ba=>
 let cc:=(IntKind.wrap .u64 i.1)
 c cc ([]:Bs) 0 ba.1 ba.2.1 ba.2.2.1 ba.2.2.2.1 ba.2.2.2.2)) (
 let cd:=(IntKind.wrap .u64 i.1)
 c cd ([]:Bs) 0 i.2.1 i.2.2.1 i.2.2.2.1 i.2.2.2.2.1 i.2.2.2.2.2))) (
 let ce:=(IntKind.wrap .u64 i.1)
 c ce ([]:Bs) 0 i.2.1 i.2.2.1 i.2.2.2.1 i.2.2.2.2.1 i.2.2.2.2.2))) (
 cond (m.kind==5) (
 aE (cL a.1 a.2.1 a.2.2.1 a.2.2.2.1 a.2.2.2.2 4) (fun av=>
 c av.1 ([]:Bs) 0 av.2.1 av.2.2.1 av.2.2.2.1 av.2.2.2.2.1 av.2.2.2.2.2)) (
 cond (m.kind==6) (
 aE (cL a.1 a.2.1 a.2.2.1 a.2.2.2.1 a.2.2.2.2 8) (fun aw=>
 c aw.1 ([]:Bs) 0 aw.2.1 aw.2.2.1 aw.2.2.2.1 aw.2.2.2.2.1 aw.2.2.2.2.2)) (
 cond (m.kind==7) (
 aE (cO a.1 a.2.1 a.2.2.1 a.2.2.2.1 a.2.2.2.2) (fun r=>
 cond (m.kind==8) (
 aE (ez r.1) (fun(cf:Bool)=>
 cond (!cf) (
 aE (aM r.2.1 r.2.2.1 r.2.2.2.1 r.2.2.2.2.1 r.2.2.2.2.2 2) (fun bb=>
 c 0 r.1 0 bb.1 bb.2.1 bb.2.2.1 bb.2.2.2.1 bb.2.2.2.2)) (
 c 0 r.1 0 r.2.1 r.2.2.1 r.2.2.2.1 r.2.2.2.2.1 r.2.2.2.2.2))) (
 c 0 r.1 0 r.2.1 r.2.2.1 r.2.2.2.1 r.2.2.2.2.1 r.2.2.2.2.2))) (
 cond (m.kind==8) (
 aE (cO a.1 a.2.1 a.2.2.1 a.2.2.2.1 a.2.2.2.2) (fun t=>
 cond (m.kind==8) (
 aE (ez t.1) (fun(cg:Bool)=>
 cond (!cg) (
 aE (aM t.2.1 t.2.2.1 t.2.2.2.1 t.2.2.2.2.1 t.2.2.2.2.2 2) (fun bc=>
 c 0 t.1 0 bc.1 bc.2.1 bc.2.2.1 bc.2.2.2.1 bc.2.2.2.2)) (
 c 0 t.1 0 t.2.1 t.2.2.1 t.2.2.2.1 t.2.2.2.2.1 t.2.2.2.2.2))) (
 c 0 t.1 0 t.2.1 t.2.2.1 t.2.2.2.1 t.2.2.2.2.1 t.2.2.2.2.2))) (
 cond (m.kind==10) (
 let ch:=(↑(List.length m.syms):Int)
 aE (di a.1 a.2.1 a.2.2.1 a.2.2.2.1 a.2.2.2.2 ch) (fun ax=>
 let ci:=(IntKind.wrap .u64 ax.1)
 c ci ([]:Bs) 0 ax.2.1 ax.2.2.1 ax.2.2.2.1 ax.2.2.2.2.1 ax.2.2.2.2.2)) (
 cond (m.kind==11) (
 aE (cP a.1 a.2.1 a.2.2.1 a.2.2.2.1 a.2.2.2.2 m.size) (fun ay=>
 c 0 ay.1 0 ay.2.1 ay.2.2.1 ay.2.2.2.1 ay.2.2.2.2.1 ay.2.2.2.2.2)) (
 cond (m.kind==14) (
 let cj:=(↑(List.length m.branches):Int)
 aE (di a.1 a.2.1 a.2.2.1 a.2.2.2.1 a.2.2.2.2 cj) (fun x=>
 cond (x.2.2.2.2.2==0) (
 chk (ixl x.1 m.branches) (
 let ck:=List.getD m.branches (Int.toNat x.1) (aC (.num .i64))
 let cl:=(IntKind.wrap .i64 (p2+1))
 aE (bH x.2.1 x.2.2.1 x.2.2.2.1 x.2.2.2.2.1 x.2.2.2.2.2 ck cl) (fun am=>
 some (.agg [.int .u64 0,.str ([]:Bs),.sl .aval (.may true) ([(reA am.1)]:List aB),.sl .str (.may false) ([]:Bss),.int .i64 x.1],[some [.sl .atype (.may false) am.2.1,.sl .u8 (.may false) am.2.2.1,.int .i64 am.2.2.2.1,.int .i64 am.2.2.2.2.1,.int .i64 am.2.2.2.2.2],some [.int .u64 0,.str ([]:Bs),.sl .aval (.may true) ([(reA am.1)]:List aB),.sl .str (.may false) ([]:Bss),.int .i64 x.1],some [.int .u64 0,.str ([]:Bs),.sl .aval (.may true) ([(reA am.1)]:List aB),.sl .str .own ([]:Bss),.int .i64 x.1]])))) (
 c 0 ([]:Bs) x.1 x.2.1 x.2.2.1 x.2.2.2.1 x.2.2.2.2.1 x.2.2.2.2.2))) (
 cond (m.kind==9) (
 z1 m a.1 a.2.1 a.2.2.1 a.2.2.2.1 a.2.2.2.2) (
 cond (m.kind==12) (
 aE (cN a.1 a.2.1 a.2.2.1 a.2.2.2.1 a.2.2.2.2 m p2) (fun ab=>
 some (.agg [.int .u64 ab.1.n,.str ab.1.s,.sl .aval (.may false) ab.1.l,.sl .str (.may false) ab.1.keys,.int .i64 ab.1.branch],[some [.sl .atype (.may false) ab.2.1,.sl .u8 (.may false) ab.2.2.1,.int .i64 ab.2.2.2.1,.int .i64 ab.2.2.2.2.1,.int .i64 ab.2.2.2.2.2],some [.int .u64 ab.1.n,.str ab.1.s,.sl .aval (.may false) ab.1.l,.sl .str (.may false) ab.1.keys,.int .i64 ab.1.branch],some [.int .u64 0,.str ([]:Bs),.sl .aval .own ([]:List aB),.sl .str .own ([]:Bss),.int .i64 0]]))) (
 cond (m.kind==13) (
 aE (cN a.1 a.2.1 a.2.2.1 a.2.2.2.1 a.2.2.2.2 m p2) (fun ac=>
 some (.agg [.int .u64 ac.1.n,.str ac.1.s,.sl .aval (.may false) ac.1.l,.sl .str (.may false) ac.1.keys,.int .i64 ac.1.branch],[some [.sl .atype (.may false) ac.2.1,.sl .u8 (.may false) ac.2.2.1,.int .i64 ac.2.2.2.1,.int .i64 ac.2.2.2.2.1,.int .i64 ac.2.2.2.2.2],some [.int .u64 ac.1.n,.str ac.1.s,.sl .aval (.may false) ac.1.l,.sl .str (.may false) ac.1.keys,.int .i64 ac.1.branch],some [.int .u64 0,.str ([]:Bs),.sl .aval .own ([]:List aB),.sl .str .own ([]:Bss),.int .i64 0]]))) (
 c 0 ([]:Bs) 0 a.1 a.2.1 a.2.2.1 a.2.2.2.1 a.2.2.2.2))))))))))))))))) (
 cond (!(e==0)) (
 c 0 ([]:Bs) 0 d f g x1 e) (
 chk (ixl p1 d) (
 let o:=(List.getD d (Int.toNat p1) (aC .atype))
 cond (o.kind==2) (
 aE (cL d f g x1 e 1) (fun ag=>
 cond (decide (1<ag.1)) (
 aE (aM ag.2.1 ag.2.2.1 ag.2.2.2.1 ag.2.2.2.2.1 ag.2.2.2.2.2 2) (fun bd=>
 c ag.1 ([]:Bs) 0 bd.1 bd.2.1 bd.2.2.1 bd.2.2.2.1 bd.2.2.2.2)) (
 c ag.1 ([]:Bs) 0 ag.2.1 ag.2.2.1 ag.2.2.2.1 ag.2.2.2.2.1 ag.2.2.2.2.2))) (
 cond (o.kind==3) (
 aE (bD d f g x1 e) (fun j=>
 cond (o.kind==3) (
 let cm:=decide (j.1<(-2147483648))
 cond cm (
 aE (aM j.2.1 j.2.2.1 j.2.2.2.1 j.2.2.2.2.1 j.2.2.2.2.2 2) (fun be=>
 let cn:=(IntKind.wrap .u64 j.1)
 c cn ([]:Bs) 0 be.1 be.2.1 be.2.2.1 be.2.2.2.1 be.2.2.2.2)) (
 let co:=decide (2147483648≤j.1)
 cond co (
 aE (aM j.2.1 j.2.2.1 j.2.2.2.1 j.2.2.2.2.1 j.2.2.2.2.2 2) (fun bf=>
 let cp:=(IntKind.wrap .u64 j.1)
 c cp ([]:Bs) 0 bf.1 bf.2.1 bf.2.2.1 bf.2.2.2.1 bf.2.2.2.2)) (
 let cq:=(IntKind.wrap .u64 j.1)
 c cq ([]:Bs) 0 j.2.1 j.2.2.1 j.2.2.2.1 j.2.2.2.2.1 j.2.2.2.2.2))) (
 let cr:=(IntKind.wrap .u64 j.1)
 c cr ([]:Bs) 0 j.2.1 j.2.2.1 j.2.2.2.1 j.2.2.2.2.1 j.2.2.2.2.2))) (
 cond (o.kind==4) (
 aE (bD d f g x1 e) (fun k=>
 cond (o.kind==3) (
 let cs:=decide (k.1<(-2147483648))
 cond cs (
 aE (aM k.2.1 k.2.2.1 k.2.2.2.1 k.2.2.2.2.1 k.2.2.2.2.2 2) (fun bg=>
 let ct:=(IntKind.wrap .u64 k.1)
 c ct ([]:Bs) 0 bg.1 bg.2.1 bg.2.2.1 bg.2.2.2.1 bg.2.2.2.2)) (
 let cu:=decide (2147483648≤k.1)
 cond cu (
 aE (aM k.2.1 k.2.2.1 k.2.2.2.1 k.2.2.2.2.1 k.2.2.2.2.2 2) (fun bh=>
 let cv:=(IntKind.wrap .u64 k.1)
 c cv ([]:Bs) 0 bh.1 bh.2.1 bh.2.2.1 bh.2.2.2.1 bh.2.2.2.2)) (
 let cw:=(IntKind.wrap .u64 k.1)
 c cw ([]:Bs) 0 k.2.1 k.2.2.1 k.2.2.2.1 k.2.2.2.2.1 k.2.2.2.2.2))) (
 let cx:=(IntKind.wrap .u64 k.1)
 c cx ([]:Bs) 0 k.2.1 k.2.2.1 k.2.2.2.1 k.2.2.2.2.1 k.2.2.2.2.2))) (
 cond (o.kind==5) (
 aE (cL d f g x1 e 4) (fun az=>
 c az.1 ([]:Bs) 0 az.2.1 az.2.2.1 az.2.2.2.1 az.2.2.2.2.1 az.2.2.2.2.2)) (
 cond (o.kind==6) (
 aE (cL d f g x1 e 8) (fun a0=>
 c a0.1 ([]:Bs) 0 a0.2.1 a0.2.2.1 a0.2.2.2.1 a0.2.2.2.2.1 a0.2.2.2.2.2)) (
 cond (o.kind==7) (
 aE (cO d f g x1 e) (fun u=>
 cond (o.kind==8) (
 aE (ez u.1) (fun(cy:Bool)=>
 cond (!cy) (
 aE (aM u.2.1 u.2.2.1 u.2.2.2.1 u.2.2.2.2.1 u.2.2.2.2.2 2) (fun bi=>
 c 0 u.1 0 bi.1 bi.2.1 bi.2.2.1 bi.2.2.2.1 bi.2.2.2.2)) (
 c 0 u.1 0 u.2.1 u.2.2.1 u.2.2.2.1 u.2.2.2.2.1 u.2.2.2.2.2))) (
 c 0 u.1 0 u.2.1 u.2.2.1 u.2.2.2.1 u.2.2.2.2.1 u.2.2.2.2.2))) (
 cond (o.kind==8) (
 aE (cO d f g x1 e) (fun v=>
 cond (o.kind==8) (
 aE (ez v.1) (fun(cz:Bool)=>
 cond (!cz) (
 aE (aM v.2.1 v.2.2.1 v.2.2.2.1 v.2.2.2.2.1 v.2.2.2.2.2 2) (fun bj=>
 c 0 v.1 0 bj.1 bj.2.1 bj.2.2.1 bj.2.2.2.1 bj.2.2.2.2)) (
 c 0 v.1 0 v.2.1 v.2.2.1 v.2.2.2.1 v.2.2.2.2.1 v.2.2.2.2.2))) (
 c 0 v.1 0 v.2.1 v.2.2.1 v.2.2.2.1 v.2.2.2.2.1 v.2.2.2.2.2))) (
 cond (o.kind==10) (
 let c0:=(↑(List.length o.syms):Int)
 aE (di d f g x1 e c0) (fun a1=>
 let c1:=(IntKind.wrap .u64 a1.1)
 c c1 ([]:Bs) 0 a1.2.1 a1.2.2.1 a1.2.2.2.1 a1.2.2.2.2.1 a1.2.2.2.2.2)) (
 cond (o.kind==11) (
 aE (cP d f g x1 e o.size) (fun a2=>
 c 0 a2.1 0 a2.2.1 a2.2.2.1 a2.2.2.2.1 a2.2.2.2.2.1 a2.2.2.2.2.2)) (
 cond (o.kind==14) (
 let c2:=(↑(List.length o.branches):Int)
 aE (di d f g x1 e c2) (fun y=>
 cond (y.2.2.2.2.2==0) (
 chk (ixl y.1 o.branches) (
 let c3:=List.getD o.branches (Int.toNat y.1) (aC (.num .i64))
 let c4:=(IntKind.wrap .i64 (p2+1))
 aE (bH y.2.1 y.2.2.1 y.2.2.2.1 y.2.2.2.2.1 y.2.2.2.2.2 c3 c4) (fun an=>
 some (.agg [.int .u64 0,.str ([]:Bs),.sl .aval (.may true) ([(reA an.1)]:List aB),.sl .str (.may false) ([]:Bss),.int .i64 y.1],[some [.sl .atype (.may false) an.2.1,.sl .u8 (.may false) an.2.2.1,.int .i64 an.2.2.2.1,.int .i64 an.2.2.2.2.1,.int .i64 an.2.2.2.2.2],some [.int .u64 0,.str ([]:Bs),.sl .aval (.may true) ([(reA an.1)]:List aB),.sl .str (.may false) ([]:Bss),.int .i64 y.1],some [.int .u64 0,.str ([]:Bs),.sl .aval (.may true) ([(reA an.1)]:List aB),.sl .str .own ([]:Bss),.int .i64 y.1]])))) (
 c 0 ([]:Bs) y.1 y.2.1 y.2.2.1 y.2.2.2.1 y.2.2.2.2.1 y.2.2.2.2.2))) (
 cond (o.kind==9) (
 z1 o d f g x1 e) (
 cond (o.kind==12) (
 aE (cN d f g x1 e o p2) (fun ad=>
 some (.agg [.int .u64 ad.1.n,.str ad.1.s,.sl .aval (.may false) ad.1.l,.sl .str (.may false) ad.1.keys,.int .i64 ad.1.branch],[some [.sl .atype (.may false) ad.2.1,.sl .u8 (.may false) ad.2.2.1,.int .i64 ad.2.2.2.1,.int .i64 ad.2.2.2.2.1,.int .i64 ad.2.2.2.2.2],some [.int .u64 ad.1.n,.str ad.1.s,.sl .aval (.may false) ad.1.l,.sl .str (.may false) ad.1.keys,.int .i64 ad.1.branch],some [.int .u64 0,.str ([]:Bs),.sl .aval .own ([]:List aB),.sl .str .own ([]:Bss),.int .i64 0]]))) (
 cond (o.kind==13) (
 aE (cN d f g x1 e o p2) (fun ae=>
 some (.agg [.int .u64 ae.1.n,.str ae.1.s,.sl .aval (.may false) ae.1.l,.sl .str (.may false) ae.1.keys,.int .i64 ae.1.branch],[some [.sl .atype (.may false) ae.2.1,.sl .u8 (.may false) ae.2.2.1,.int .i64 ae.2.2.2.1,.int .i64 ae.2.2.2.2.1,.int .i64 ae.2.2.2.2.2],some [.int .u64 ae.1.n,.str ae.1.s,.sl .aval (.may false) ae.1.l,.sl .str (.may false) ae.1.keys,.int .i64 ae.1.branch],some [.int .u64 0,.str ([]:Bs),.sl .aval .own ([]:List aB),.sl .str .own ([]:Bss),.int .i64 0]]))) (
 c 0 ([]:Bs) 0 d f g x1 e)))))))))))))))))
def pz(N:Nat)(a:List aA)(b:Bs)(c d e f g:Int):Ro:=fD N a b c d e f g (fun z=>aS N (kh N) z)
theorem vQ(N:Nat)(a:List aA)(c:Bs)(d g i j k:Int)(h:Tot (pz N a c d g i j k) (fun z=>∃(l:aB)(m:List aA)(n:Bs)(o:Int)(p:Int)(s:Int)(rest:List aJ),z.1.dimR=.agg (enc .aval l)∧z.2=some [.sl .atype (.may false) m,.sl .u8 (.may false) n,.int .i64 o,.int .i64 p,.int .i64 s]::rest∧nM a c d g i j k (l,m,n,o,p,s))):∃r,bH a c d g i j k r:=FnC.finO (css:=[[.sl .atype (.may false) a,.sl .u8 (.may false) c,.int .i64 d,.int .i64 g,.int .i64 i]]) af5 (N:=N) ((bM _ (by kernel_rfl) rfl (fun C=>fD N a c d g i j k (fun z=>C 1000000 (jz z))) (fun C=>by kernel_rfl)).trans (Eq.trans (b:=fD N a c d g i j k (fun z=>bo N (oo N) (jz z))) (by kernel_rfl) (congrArg (fD N a c d g i j k) (funext fun z=>bk (jz) (oo N) (kh N) (aed N) N z)))) h fun _ ⟨l,m,n,o,p,s,_,e,f,q⟩=>⟨(l,m,n,o,p,s),e,⟨_,f⟩,q⟩
noncomputable def dc:aN:=tab (P:=Tryz.prog) [] [p9,iW,mX,yZ] [] [afm,yR]
def sA:IR:=Sq (Rs [Mv 50 11,Mv 51 8,Bi 52 .lss 50 51,Mv 53 52,Gt 53 (.mov 54 0),Gt 53 (.nck 55 54),Gt 53 (.fad 56 4 55),Gt 53 (.ld 57 1 false false 56),Gt 53 (.bin 58 .eql 57 (kI 0)),Pa 59 53 58] (Cn 59 .skip (.exit 2))) (Sq (.block 3 (Sq (Rs [Fa 62 0 4,Lq 63 62,Bc 64 .eql 63 12] (Cn 64 (Sq (.reg [Fa 65 2 7,Fo [] [2] (.ld 66 1 false true 65),Mv 67 0,Fa 68 3 4,Lq 69 68,Mv 70 2,Bc 71 .add 70 1,Fo [] [0] (.call 72 22 [67,69,71]),Pp (.bsl 73 .aval [72] true),Pp (.app 74 .aval (.tk 66) 73),Fa 75 2 7,Fo [] [2] (.st none 1 75 (.tk 74))] [[],[0],[],[],[3],[],[5],rg 2 6,rg 2 7,rg 0 8,rg 0 9,rg 0 10]) (.exit 3)) .skip)) (Rs [Mv 76 0,Ca 77 45 [76],Mv 12 77] (Sq (Rs [Mv 78 12,Ca 79 46 [78],Un 80 79] (Cn 80 (Rg [Mv 81 0,Ca 82 42 [81,kI 2]]) .skip)) (Rs [Mv 83 0,Fa 84 3 4,Lq 85 84,Mv 86 2,Bc 87 .add 86 1,Ca 88 22 [83,85,87],Pp (.alr 13 5),Fz 13 5 88] (Rs [Mv 89 0,Nk 90 89,Fa 91 4 90,Lo 92 91,Bc 93 .eql 92 0] (Cn 93 (Rg [Pp (.ld 94 5 true false 7),Mv 95 12,Ld 96 5 true 13,Ca 97 18 [94,95,96],Sv 5 7 97]) .skip))))))) (Rg [Mv 60 11,Bc 61 .add 60 1,Mv 11 61]))
def sB:IR:=Rs [Mv 98 0,Nk 99 98,Fa 100 4 99,Lo 101 100,Bc 102 .eql 101 0,Mv 103 102,Gt 103 (.mov 104 9),Gt 103 (.bin 105 .geq 104 (kI 0)),Pa 106 103 105,Mv 107 106,Gt 107 (.mov 108 0),Gt 107 (.nck 109 108),Gt 107 (.fad 110 2 109),Gt 107 (.ld 111 1 false false 110),Gt 107 (.mov 112 10),Gt 107 (.bin 113 .sub 111 112),Gt 107 (.mov 114 9),Gt 107 (.bin 115 .neq 113 114),Pa 116 107 115] (Cn 116 (Rg [Mv 117 0,Nk 118 117,Fa 119 4 118,Pp (.st none 1 119 (kI 2))]) .skip)
def ip:IR:=Sq (Rs [Mv 15 0,Nk 16 15,Fa 17 4 16,Lo 18 17,Bc 19 .eql 18 0] (Cn 19 .skip (.exit 0))) (.block 1 (Rs [Mv 20 0,Ca 21 44 [20],Mv 8 21] (Sq (Rs [Mv 22 0,Nk 23 22,Fa 24 4 23,Lo 25 24,Bc 26 .neq 25 0,Mv 27 26,Gf 27 (.mov 28 8),Gf 27 (.bin 29 .eql 28 (kI 0)),Po 30 27 29] (Cn 30 (Rs [Pp (.ld 31 5 true false 7),Sv 5 6 31] .ret) .skip)) (Rs [Mi 9 (-1)] (Sq (Rs [Mv 32 8,Bc 33 .lss 32 0] (Cn 33 (Rs [Mv 34 8,Pp (.un 35 .neg 34),Mv 8 35] (Sq (Rs [Mv 36 8,Bc 37 .lss 36 0] (Cn 37 (Rg [Mv 38 0,Ca 39 42 [38,kI 2]]) .skip)) (Rs [Mv 40 0,Ca 41 44 [40],Mv 9 41] (Rs [Mv 42 9,Bc 43 .lss 42 0] (Cn 43 (Rg [Mv 44 0,Ca 45 42 [44,kI 2]]) .skip))))) .skip)) (Rs [Mv 46 0,Nk 47 46,Fa 48 2 47,Lo 49 48,Mv 10 49] (Sq (Rs [Mi 11 0] (.block 2 (.loop [0,2,4,6,7,8,9,10,11,1000000] 3 sA))) sB)))))))
def mG:IR:=Rs [Pp (.ld 120 5 true false 7),Sv 5 6 120] .ret
def aeA:IR:=Rs [Bx 4 1,Pp (.new 6 [vU 0,vS,nl .aval,nl .str,vI 0])] (Rs [Pp (.bld 14 [vU 0,vS,nl .aval,nl .str,vI 0] []),Pp (.new 7 [vU 0,vS,nl .aval,nl .str,vI 0]),Sv 5 7 14] (Sq (.block 0 (.loop [0,2,4,6,7,1000001] 3 ip)) mG))
def oq:List RV:=[.cell 6 5 true]
theorem aeB:FnC Tryz.prog dc [22,42,44,45,2000022,2000042,2000044,2000045] 1 wv Tryz.f49 aeA oq:=fnC Tryz.func49
def jA(R:IR→(Ex→St→Ro)→St→Ro)(a:St→Ro):Ex→St→Ro:=(bF a [0,2,4,6,7,1000001] 3 (aQ 0 (bv (R mG) (fin oq))))
abbrev bK:Type:=(Int×aA×List aA×Bs×Int×Int×Int×Int×Bs×List aB×Bss×Int×Int×Bs×List aB×Bss×Int)⊕(Int×aA×List aA×Bs×Int×Int×Int×Int×Bs×List aB×Bss×Int×Int×Bs×List aB×Bss×Int)
def abI:(Int×aA×List aA×Bs×Int×Int×Int×Int×Bs×List aB×Bss×Int×Int×Bs×List aB×Bss×Int)→St:=fun(h,i,j,k,l,m,n,o,p,q,a,b,c,d,e,f,g)=>{env:=(.ptr 0 0::.undef::.int .i64 h::.undef::.ea (enc .atype i)::.undef::.ptr 1 0::.ptr 2 0::(U 113 [])),hp:=[some [.sl .atype (.may false) j,.sl .u8 (.may false) k,.int .i64 l,.int .i64 m,.int .i64 n],some [.int .u64 o,.str p,.sl .aval .own q,.sl .str .own a,.int .i64 b],some [.int .u64 c,.str d,.sl .aval .own e,.sl .str .own f,.int .i64 g]]}
def abJ:(Int×aA×List aA×Bs×Int×Int×Int×Int×Bs×List aB×Bss×Int×Int×Bs×List aB×Bss×Int)→St:=fun(h,i,j,k,l,m,n,o,p,q,a,b,c,d,e,f,g)=>{env:=(.ptr 0 0::.undef::.int .i64 h::.undef::.ea (enc .atype i)::.undef::.ptr 1 0::.ptr 2 0::(U 113 [])),hp:=[some [.sl .atype (.may false) j,.sl .u8 (.may false) k,.int .i64 l,.int .i64 m,.int .i64 n],some [.int .u64 o,.str p,.sl .aval .own q,.sl .str .own a,.int .i64 b],some [.int .u64 c,.str d,.sl .aval (.may false) e,.sl .str (.may false) f,.int .i64 g]]}
def bL:bK→St
 |(Sum.inl x)=>abI x
 |(Sum.inr x)=>abJ x
def aee(R:IR→(Ex→St→Ro)→St→Ro)(a b:St→Ro):Ex→St→Ro:=(bF b [0,2,4,6,7,8,9,10,11,1000000] 3 (aQ 2 (bv (R sB) (aQ 1 (jA R a)))))
abbrev dy:Type:=(Int×aA×Int×Int×Int×Int×List aA×Bs×Int×Int×Int×Int×Bs×List aB×Bss×Int×Int×Bs×List aB×Bss×Int)⊕(Int×aA×Int×Int×Int×Int×List aA×Bs×Int×Int×Int×Int×Bs×List aB×Bss×Int×Int×Bs×List aB×Bss×Int)
def abK:(Int×aA×Int×Int×Int×Int×List aA×Bs×Int×Int×Int×Int×Bs×List aB×Bss×Int×Int×Bs×List aB×Bss×Int)→St:=fun(l,m,n,o,p,q,r,s,t,u,a,b,c,d,e,f,g,h,i,j,k)=>{env:=(.ptr 0 0::.undef::.int .i64 l::.undef::.ea (enc .atype m)::.undef::.ptr 1 0::.ptr 2 0::.int .i64 n::.int .i64 o::.int .i64 p::.int .i64 q::(U 109 [])),hp:=[some [.sl .atype (.may false) r,.sl .u8 (.may false) s,.int .i64 t,.int .i64 u,.int .i64 a],some [.int .u64 b,.str c,.sl .aval .own d,.sl .str .own e,.int .i64 f],some [.int .u64 g,.str h,.sl .aval .own i,.sl .str .own j,.int .i64 k]]}
def abL:(Int×aA×Int×Int×Int×Int×List aA×Bs×Int×Int×Int×Int×Bs×List aB×Bss×Int×Int×Bs×List aB×Bss×Int)→St:=fun(l,m,n,o,p,q,r,s,t,u,a,b,c,d,e,f,g,h,i,j,k)=>{env:=(.ptr 0 0::.undef::.int .i64 l::.undef::.ea (enc .atype m)::.undef::.ptr 1 0::.ptr 2 0::.int .i64 n::.int .i64 o::.int .i64 p::.int .i64 q::(U 109 [])),hp:=[some [.sl .atype (.may false) r,.sl .u8 (.may false) s,.int .i64 t,.int .i64 u,.int .i64 a],some [.int .u64 b,.str c,.sl .aval .own d,.sl .str .own e,.int .i64 f],some [.int .u64 g,.str h,.sl .aval (.may false) i,.sl .str (.may false) j,.int .i64 k]]}
def eG:dy→St
 |(Sum.inl x)=>abK x
 |(Sum.inr x)=>abL x
def jB(N:Nat)(a:St→Ro):(St→Ro)→St→Ro:=fun b s=>run dc N sA (aee (run dc N) a b) s
def dZ(N:Nat)(af:bK→Ro)(d:dy→Ro)(x:dy):Ro:=
 match x with
 |(Sum.inl (v2,v4,v8,v9,v,u,w,y,c,z,a,h,i,j,k,m,o,p,b,q,r))=>
  let z0:=fun g0 g1 g2 g3 g4 g5 g6=>d (Sum.inl (v2,v4,v8,v9,v,g0,g1,g2,g3,g4,g5,h,i,j,k,m,o,p,g6,q,r))
  let z1:=fun g0=>af (Sum.inl (v2,v4,w,y,c,z,g0,h,i,j,k,m,o,p,b,q,r))
  cond (decide (u<v8)) (
   cond (a==0) (
    cond (v4.kind==12) (
     let x2:=(IntKind.wrap .i64 (v2+1))
     aE (bH w y c z a v4.items x2) (fun r5=>
      chk (decide ((List.length b+List.length ([(reA r5.1)]:List aB))*80≤140737488355328)) (
       let x3:=(b++([(reA r5.1)]:List aB))
       let x4:=(IntKind.wrap .i64 (u+1))
       z0 x4 r5.2.1 r5.2.2.1 r5.2.2.2.1 r5.2.2.2.2.1 r5.2.2.2.2.2 x3))) (
     aE (cO w y c z a) (fun r6=>
      aE (ez r6.1) (fun(r7:Bool)=>
       cond (!r7) (
        aE (aM r6.2.1 r6.2.2.1 r6.2.2.2.1 r6.2.2.2.2.1 r6.2.2.2.2.2 2) (fun r8=>
         let x5:=(IntKind.wrap .i64 (v2+1))
         aE (bH r8.1 r8.2.1 r8.2.2.1 r8.2.2.2.1 r8.2.2.2.2 v4.items x5) (fun r9=>
          cond (r9.2.2.2.2.2==0) (
           aE (fy o p b q r r6.1 r9.1.n r9.1.s r9.1.l r9.1.keys r9.1.branch) (fun ah=>
            let x6:=(IntKind.wrap .i64 (u+1))
            d (Sum.inr (v2,v4,v8,v9,v,x6,r9.2.1,r9.2.2.1,r9.2.2.2.1,r9.2.2.2.2.1,r9.2.2.2.2.2,h,i,j,k,m,ah.1,ah.2.1,ah.2.2.1,ah.2.2.2.1,ah.2.2.2.2)))) (
           let x7:=(IntKind.wrap .i64 (u+1))
           z0 x7 r9.2.1 r9.2.2.1 r9.2.2.2.1 r9.2.2.2.2.1 r9.2.2.2.2.2 b)))) (
        let x8:=(IntKind.wrap .i64 (v2+1))
        aE (bH r6.2.1 r6.2.2.1 r6.2.2.2.1 r6.2.2.2.2.1 r6.2.2.2.2.2 v4.items x8) (fun e=>
         cond (e.2.2.2.2.2==0) (
          aE (fy o p b q r r6.1 e.1.n e.1.s e.1.l e.1.keys e.1.branch) (fun ai=>
           let x9:=(IntKind.wrap .i64 (u+1))
           d (Sum.inr (v2,v4,v8,v9,v,x9,e.2.1,e.2.2.1,e.2.2.2.1,e.2.2.2.2.1,e.2.2.2.2.2,h,i,j,k,m,ai.1,ai.2.1,ai.2.2.1,ai.2.2.2.1,ai.2.2.2.2)))) (
          let ay:=(IntKind.wrap .i64 (u+1))
          z0 ay e.2.1 e.2.2.1 e.2.2.2.1 e.2.2.2.2.1 e.2.2.2.2.2 b))))))) (
    cond (a==0) (
     cond (decide (0≤v9)) (
      let az:=(IntKind.wrap .i64 (c-v))
      cond (!(az==v9)) (
       z1 2) (
       z1 a)) (
      z1 a)) (
     z1 a))) (
   cond (a==0) (
    cond (decide (0≤v9)) (
     let a0:=(IntKind.wrap .i64 (c-v))
     cond (!(a0==v9)) (
      z1 2) (
      z1 a)) (
     z1 a)) (
    z1 a))
 |(Sum.inr (v2,v4,v8,v9,v,u,w,y,c,z,a,h,i,j,k,m,o,p,b,q,r))=>
  let z0:=fun g0 g1 g2 g3 g4 g5=>d (Sum.inr (v2,v4,v8,v9,v,g0,g1,g2,g3,g4,g5,h,i,j,k,m,o,p,b,q,r))
  let z1:=fun g0=>af (Sum.inr (v2,v4,w,y,c,z,g0,h,i,j,k,m,o,p,b,q,r))
  cond (decide (u<v8)) (
   cond (a==0) (
    cond (v4.kind==12) (
     let a1:=(IntKind.wrap .i64 (v2+1))
     aE (bH w y c z a v4.items a1) (fun bl=>
      none)) (
     aE (cO w y c z a) (fun t=>
      aE (ez t.1) (fun(a2:Bool)=>
       cond (!a2) (
        aE (aM t.2.1 t.2.2.1 t.2.2.2.1 t.2.2.2.2.1 t.2.2.2.2.2 2) (fun aj=>
         let a3:=(IntKind.wrap .i64 (v2+1))
         aE (bH aj.1 aj.2.1 aj.2.2.1 aj.2.2.2.1 aj.2.2.2.2 v4.items a3) (fun f=>
          cond (f.2.2.2.2.2==0) (
           aE (fy o p b q r t.1 f.1.n f.1.s f.1.l f.1.keys f.1.branch) (fun ak=>
            let a4:=(IntKind.wrap .i64 (u+1))
            d (Sum.inr (v2,v4,v8,v9,v,a4,f.2.1,f.2.2.1,f.2.2.2.1,f.2.2.2.2.1,f.2.2.2.2.2,h,i,j,k,m,ak.1,ak.2.1,ak.2.2.1,ak.2.2.2.1,ak.2.2.2.2)))) (
           let a5:=(IntKind.wrap .i64 (u+1))
           z0 a5 f.2.1 f.2.2.1 f.2.2.2.1 f.2.2.2.2.1 f.2.2.2.2.2)))) (
        let a6:=(IntKind.wrap .i64 (v2+1))
        aE (bH t.2.1 t.2.2.1 t.2.2.2.1 t.2.2.2.2.1 t.2.2.2.2.2 v4.items a6) (fun g=>
         cond (g.2.2.2.2.2==0) (
          aE (fy o p b q r t.1 g.1.n g.1.s g.1.l g.1.keys g.1.branch) (fun al=>
           let a7:=(IntKind.wrap .i64 (u+1))
           d (Sum.inr (v2,v4,v8,v9,v,a7,g.2.1,g.2.2.1,g.2.2.2.1,g.2.2.2.2.1,g.2.2.2.2.2,h,i,j,k,m,al.1,al.2.1,al.2.2.1,al.2.2.2.1,al.2.2.2.2)))) (
          let a8:=(IntKind.wrap .i64 (u+1))
          z0 a8 g.2.1 g.2.2.1 g.2.2.2.1 g.2.2.2.2.1 g.2.2.2.2.2))))))) (
    cond (a==0) (
     cond (decide (0≤v9)) (
      let a9:=(IntKind.wrap .i64 (c-v))
      cond (!(a9==v9)) (
       z1 2) (
       z1 a)) (
      z1 a)) (
     z1 a))) (
   cond (a==0) (
    cond (decide (0≤v9)) (
     let ba:=(IntKind.wrap .i64 (c-v))
     cond (!(ba==v9)) (
      z1 2) (
      z1 a)) (
     z1 a)) (
    z1 a))
theorem ac2(N:Nat)(b:St→Ro):∀(a:St→Ro)(x:dy),jB N b a (eG x)=dZ N (fun y=>b (bL y)) (fun y=>a (eG y)) x:=by
 intro a x
 rcases x with x|x<;>kernel_rfl
def jC(N:Nat):(St→Ro)→St→Ro:=fun a s=>run dc N ip (jA (run dc N) a) s
def iM(N:Nat)(al:bK→Ro)(q1:dy→Ro)(x:bK):Ro:=
 match x with
 |(Sum.inl (v2,v4,l,m,n,o,k,q,r,s,t,u,c,d,e,f,g))=>
  let z0:=fun g0 g1 g2 g3 g4=>(some (.agg [.int .u64 c,.str d,.sl .aval (.may false) e,.sl .str (.may false) f,.int .i64 g],[some [.sl .atype (.may false) g0,.sl .u8 (.may false) g1,.int .i64 g2,.int .i64 g3,.int .i64 g4],some [.int .u64 c,.str d,.sl .aval (.may false) e,.sl .str (.may false) f,.int .i64 g],some [.int .u64 c,.str d,.sl .aval .own e,.sl .str .own f,.int .i64 g]]):Ro)
  let v:=fun g0 g1 g2 g3 g4 g5 g6=>q1 (Sum.inl (v2,v4,g0,g1,g2,0,g3,g4,g2,g5,g6,q,r,s,t,u,c,d,e,f,g))
  cond (k==0) (
   aE (bD l m n o k) (fun b=>
    cond (!(b.2.2.2.2.2==0)) (
     z0 b.2.1 b.2.2.1 b.2.2.2.1 b.2.2.2.2.1 b.2.2.2.2.2) (
     cond (b.1==0) (
      z0 b.2.1 b.2.2.1 b.2.2.2.1 b.2.2.2.2.1 b.2.2.2.2.2) (
      cond (decide (b.1<0)) (
       let x1:=(IntKind.wrap .i64 (0-b.1))
       cond (decide (x1<0)) (
        aE (aM b.2.1 b.2.2.1 b.2.2.2.1 b.2.2.2.2.1 b.2.2.2.2.2 2) (fun r2=>
         aE (bD r2.1 r2.2.1 r2.2.2.1 r2.2.2.2.1 r2.2.2.2.2) (fun p=>
          cond (decide (p.1<0)) (
           aE (aM p.2.1 p.2.2.1 p.2.2.2.1 p.2.2.2.2.1 p.2.2.2.2.2 2) (fun r4=>
            v x1 p.1 r4.2.2.1 r4.1 r4.2.1 r4.2.2.2.1 r4.2.2.2.2)) (
           v x1 p.1 p.2.2.2.1 p.2.1 p.2.2.1 p.2.2.2.2.1 p.2.2.2.2.2)))) (
        aE (bD b.2.1 b.2.2.1 b.2.2.2.1 b.2.2.2.2.1 b.2.2.2.2.2) (fun h=>
         cond (decide (h.1<0)) (
          aE (aM h.2.1 h.2.2.1 h.2.2.2.1 h.2.2.2.2.1 h.2.2.2.2.2 2) (fun w=>
           v x1 h.1 w.2.2.1 w.1 w.2.1 w.2.2.2.1 w.2.2.2.2)) (
          v x1 h.1 h.2.2.2.1 h.2.1 h.2.2.1 h.2.2.2.2.1 h.2.2.2.2.2)))) (
       v b.1 (-1) b.2.2.2.1 b.2.1 b.2.2.1 b.2.2.2.2.1 b.2.2.2.2.2))))) (
   z0 l m n o k)
 |(Sum.inr (v2,v4,l,m,n,o,k,q,r,s,t,u,c,d,e,f,g))=>
  let z0:=fun g0 g1 g2 g3 g4=>(some (.agg [.int .u64 c,.str d,.sl .aval (.may false) e,.sl .str (.may false) f,.int .i64 g],[some [.sl .atype (.may false) g0,.sl .u8 (.may false) g1,.int .i64 g2,.int .i64 g3,.int .i64 g4],some [.int .u64 c,.str d,.sl .aval (.may false) e,.sl .str (.may false) f,.int .i64 g],some [.int .u64 c,.str d,.sl .aval (.may false) e,.sl .str (.may false) f,.int .i64 g]]):Ro)
  let v:=fun g0 g1 g2 g3 g4 g5 g6=>q1 (Sum.inr (v2,v4,g0,g1,g2,0,g3,g4,g2,g5,g6,q,r,s,t,u,c,d,e,f,g))
  cond (k==0) (
   aE (bD l m n o k) (fun a=>
    cond (!(a.2.2.2.2.2==0)) (
     z0 a.2.1 a.2.2.1 a.2.2.2.1 a.2.2.2.2.1 a.2.2.2.2.2) (
     cond (a.1==0) (
      z0 a.2.1 a.2.2.1 a.2.2.2.1 a.2.2.2.2.1 a.2.2.2.2.2) (
      cond (decide (a.1<0)) (
       let y:=(IntKind.wrap .i64 (0-a.1))
       cond (decide (y<0)) (
        aE (aM a.2.1 a.2.2.1 a.2.2.2.1 a.2.2.2.2.1 a.2.2.2.2.2 2) (fun z=>
         aE (bD z.1 z.2.1 z.2.2.1 z.2.2.2.1 z.2.2.2.2) (fun i=>
          cond (decide (i.1<0)) (
           aE (aM i.2.1 i.2.2.1 i.2.2.2.1 i.2.2.2.2.1 i.2.2.2.2.2 2) (fun aa=>
            v y i.1 aa.2.2.1 aa.1 aa.2.1 aa.2.2.2.1 aa.2.2.2.2)) (
           v y i.1 i.2.2.2.1 i.2.1 i.2.2.1 i.2.2.2.2.1 i.2.2.2.2.2)))) (
        aE (bD a.2.1 a.2.2.1 a.2.2.2.1 a.2.2.2.2.1 a.2.2.2.2.2) (fun j=>
         cond (decide (j.1<0)) (
          aE (aM j.2.1 j.2.2.1 j.2.2.2.1 j.2.2.2.2.1 j.2.2.2.2.2 2) (fun ab=>
           v y j.1 ab.2.2.1 ab.1 ab.2.1 ab.2.2.2.1 ab.2.2.2.2)) (
          v y j.1 j.2.2.2.1 j.2.1 j.2.2.1 j.2.2.2.2.1 j.2.2.2.2.2)))) (
       v a.1 (-1) a.2.2.2.1 a.2.1 a.2.2.1 a.2.2.2.2.1 a.2.2.2.2.2))))) (
   z0 l m n o k)
def jD(N:Nat)(a:bK→Ro)(x:bK):Ro:=iM N a (fun z=>aS N (dZ N a) z) x
def nY(N:Nat)(a:St→Ro):List (Nat×(St→Ro)):=(bP dc N ip (jA (run dc N) a)++(bP dc N mG (fin oq)++[]))
theorem ac3(N:Nat):∀(a:St→Ro)(x:bK),jC N a (bL x)=jD N (fun y=>a (bL y)) x:=by
 intro a x
 have hX:∀C:Nat→St→Ro,cE C dc N ip (jA (cE C dc N) a) (bL x)=iM N (fun y=>a (bL y)) (fun z=>C 1000000 (eG z)) x:=by
  intro C
  rcases x with x|x<;>kernel_rfl
 have h:jC N a (bL x)=iM N (fun y=>a (bL y)) (fun z=>bo N (jB N a) (eG z)) x:=(dh (C:=eJ (nY N a)) (bU (aY (l:=(nY N a)) (by kernel_rfl))) (mH (de (eR (bU (dF (aY (l:=(nY N a)) (by kernel_rfl)))) rfl))) _).trans ((hX _).trans (by kernel_rfl))
 have e1:(fun z=>bo N (jB N a) (eG z))=(fun z=>aS N (dZ N (fun y=>a (bL y))) z):=funext fun z=>bk (eG) (jB N a) (dZ N (fun y=>a (bL y))) (ac2 N a) N z
 rw[h,e1]
 rfl
def gD(N:Nat)(a:List aA)(b:Bs)(c d e:Int)(f:aA)(g:Int)(h:bK→Ro):Ro:=
 h (Sum.inl (g,f,a,b,c,d,e,0,([]:Bs),([]:List aB),([]:Bss),0,0,([]:Bs),([]:List aB),([]:Bss),0))
def vR(N:Nat)(a:List aA)(b:Bs)(c d e:Int)(f:aA)(g:Int):Ro:=gD N a b c d e f g (fun z=>aS N (jD N) z)
theorem aef(N:Nat)(a:List aA)(c:Bs)(d g i:Int)(j:aA)(k:Int)(h:Tot (vR N a c d g i j k) (fun z=>∃(l:aB)(m:List aA)(n:Bs)(o:Int)(p:Int)(s:Int)(rest:List aJ),z.1.dimR=.agg (enc .aval l)∧z.2=some [.sl .atype (.may false) m,.sl .u8 (.may false) n,.int .i64 o,.int .i64 p,.int .i64 s]::rest∧iK a c d g i j k (l,m,n,o,p,s))):∃r,cN a c d g i j k r:=FnC.finO (css:=[[.sl .atype (.may false) a,.sl .u8 (.may false) c,.int .i64 d,.int .i64 g,.int .i64 i]]) aeB (N:=N) ((bM _ (by kernel_rfl) rfl (fun C=>gD N a c d g i j k (fun z=>C 1000001 (bL z))) (fun C=>by kernel_rfl)).trans (Eq.trans (b:=gD N a c d g i j k (fun z=>bo N (jC N) (bL z))) (by kernel_rfl) (congrArg (gD N a c d g i j k) (funext fun z=>bk (bL) (jC N) (jD N) (ac3 N) N z)))) h fun _ ⟨l,m,n,o,p,s,_,e,f,q⟩=>⟨(l,m,n,o,p,s),e,⟨_,f⟩,q⟩
noncomputable def atS:aN:=tab (P:=Tryz.prog) [] [p9] [] [yQ]
def arP:IR:=Rs [Bx 3 0,Pp (.new 6 [vU 0,vS,nl .aval,nl .str,vI 0]),Mi 7 0,Mi 8 0] (Sq (Rs [Ld 11 1 true 3,Mv 12 1,Ca 13 21 [11,12],Un 14 13] (Cn 14 (Rs [Pp (.bld 15 [vU 0,vS,fu .aval true,fu .str true,vI 0] []),Sv 5 6 15,Mi 7 0,Mi 8 1] .ret) .skip)) (Rs [Ld 16 1 true 3,Mv 17 2,Pp (.bld 18 [fu .atype true,fu .u8 true,vI 0,vI 0,vI 0] [(0,1,16),(1,1,17)]),Pp (.box 19 18),Mv 9 19] (Rs [Mv 20 9,Mv 21 1,Ca 22 22 [20,21,kI 1],Pp (.alr 10 5),Fz 10 5 22] (Sq (Rs [Mv 23 9,Nk 24 23,Fa 25 4 24,Lo 26 25,Bc 27 .neq 26 0] (Cn 27 (Sq (.reg [Pp (.bld 28 [vU 0,vS,fu .aval true,fu .str true,vI 0] []),Mv 29 9,Nk 30 29,Fa 31 4 30,Fo [1] [] (.ld 32 1 false false 31),Fo [] [0] (.st none 5 6 28),Mi 7 0,Mv 8 32] [[],[],[1],[1,2],[1,2,3],[0],[0,5],rg 0 6]) .ret) .skip)) (Sq (.reg [Ld 33 5 true 10,Mv 34 9,Nk 35 34,Fa 36 2 35,Fo [1] [] (.ld 37 1 false false 36),Fo [] [0] (.st none 5 6 33),Mv 7 37,Mi 8 0] [[],[],[1],[1,2],[1,2,3],[0],rg 0 5,rg 0 6]) .ret)))))
def arQ:List RV:=[.cell 6 5 true,.t 7,.t 8]
theorem arR:FnC Tryz.prog atS [22,2000022] 0 agx Tryz.f9 arP arQ:=fnC Tryz.func9
def afj(N:Nat)(b:List aA)(c:Int)(e:Bs):Ro:=
 let d:=fun f g=>(some (.tup [.agg [.int .u64 0,.str ([]:Bs),.sl .aval (.may true) ([]:List aB),.sl .str (.may true) ([]:Bss),.int .i64 0],.int .i64 0,.int .i64 f],g):Ro)
 aE (kL b c) (fun(h:Bool)=>
 cond (!h) (
 d 1 [some [.int .u64 0,.str ([]:Bs),.sl .aval (.may true) ([]:List aB),.sl .str (.may true) ([]:Bss),.int .i64 0]]) (
 aE (bH b e 0 0 0 c 1) (fun a=>
 cond (!(a.2.2.2.2.2==0)) (
 d a.2.2.2.2.2 [some [.int .u64 0,.str ([]:Bs),.sl .aval (.may true) ([]:List aB),.sl .str (.may true) ([]:Bss),.int .i64 0],some [.sl .atype (.may false) a.2.1,.sl .u8 (.may false) a.2.2.1,.int .i64 a.2.2.2.1,.int .i64 a.2.2.2.2.1,.int .i64 a.2.2.2.2.2]]) (
 some (.tup [.agg [.int .u64 a.1.n,.str a.1.s,.sl .aval (.may false) a.1.l,.sl .str (.may false) a.1.keys,.int .i64 a.1.branch],.int .i64 a.2.2.2.1,.int .i64 0],[some [.int .u64 a.1.n,.str a.1.s,.sl .aval (.may false) a.1.l,.sl .str (.may false) a.1.keys,.int .i64 a.1.branch],some [.sl .atype (.may false) a.2.1,.sl .u8 (.may false) a.2.2.1,.int .i64 a.2.2.2.1,.int .i64 a.2.2.2.2.1,.int .i64 a.2.2.2.2.2]])))))
def afk(N:Nat)(a:List aA)(b:Int)(c:Bs):Ro:=afj N a b c
theorem apT(N:Nat)(a:List aA)(f:Int)(g:Bs)(h:Tot (afk N a f g) (fun z=>∃(b:aB)(c:Int)(d:Int)(rest:List aJ),z.1.dimR=.tup [.agg (enc .aval b),.int .i64 c,.int .i64 d]∧z.2=rest∧acu a f g (b,c,d))):∃r,nA a f g r:=arR.finP (N:=N) (by kernel_rfl) h fun _ ⟨b,c,d,_,e,_,q⟩=>⟨(b,c,d),e,q⟩
end Go.Proofs.YtdpajabhmmmjoaaGreat
end
