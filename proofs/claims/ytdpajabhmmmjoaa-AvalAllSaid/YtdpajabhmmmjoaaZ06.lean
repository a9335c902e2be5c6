import Derived.KernelRfl
import Derived.Test.YtdpajabhmmmjoaaZ02
import Derived.Test.YtdpajabhmmmjoaaZ04
import Derived.Test.YtdpajabhmmmjoaaZ05
section
namespace Go.Proofs.Ytdpajabhmmmjoaa
open Go.AM
set_option autoImplicit false
set_option linter.unusedVariables false
set_option linter.unusedSimpArgs false
set_option maxRecDepth 100000
theorem aDt (deep : Int) (hd : 1 ≤ deep ∧ deep ≤ 20) (hT : yK (deep + 1)) (ts : List ac) (e c0 c1 : Int) (c2 : List UInt8) (c3 : List ae) (c4 : List (List UInt8)) (k : Int) (space : List UInt8)
  (h : ts.length ≤ 60) (hn : aK (.mk c0 c1 c2 c3 c4)) (hs : (space.length : Int) ≤ 202 * deep) (hk : k ≠ 14) (hk2 : 1 ≤ k ∧ k ≤ 14) : ∃ r, ik ts e c0 c1 c2 c3 c4 k space deep r := by
 obtain ⟨k1, k2, k3, k4, k5, k6⟩ := hn.kids
 apply agQ 2000
 unfold oj gB
 have last : ∀ (sp : List UInt8) (e2 : Int) (o0 : Int) (o1 : List UInt8) (o2 : List (List UInt8)), (sp.length : Int) ≤ 202 * deep + 201 → (e2 = 0 → e = 0) → o0 = k → Tot (dQ 2000 (k, sp, deep, c0, c1, c2, c3, c4, ts, e2, o0, o1, o2, 0, [], false, [], 0, [], [])) (fun z => ∃ (y0 : Int) (y1 : List ac) (y2 : Int) (rest : List an), z.1.dimR = .int .i64 y0 ∧ z.2 = some [.ul .atype y1, .int .i64 y2] :: rest ∧ fe ts e c0 c1 c2 c3 c4 k space deep (y0, y1, y2)) := by
  intro sp e2 o0 o1 o2 hsp he ho
  unfold dQ
  dsimp only
  subst ho
  have tk : o0 ≠ 10 → qb (ts.length + 1) ⟨o0, o1, o2, 0, [], false, [], 0, [], []⟩ := fun h10 => ⟨by simp only; omega, by simp, by simp, by simp, by simp, by simp, by simp, fun h => absurd h hk, hk2, fun h => absurd h h10⟩
  repeat' (first | (with_reducible refine ah ?_ ?_ <;> (intro hb; (try simp only [bnl] at hb); (try revert hb; intro _))) | with_reducible refine aq ?_ ?_ | with_reducible refine ak ?_ | fail)
  ·rename_i h2
   exact ⟨_, _, _, _, rfl, rfl, bj.stuck (Nat.le_refl _) h h2, fun h => absurd h h2⟩
  rename_i h2
  refine ag (amo _ _ _ _ _ _ _ _ _ _ _ _ h) ?_
  rintro r ⟨-, hr⟩
  have ho := la.add h hr
  clear hr
  obtain ⟨a, ts1, e1⟩ := r
  dsimp only at ho ⊢
  have hr1 : e1 = 0 → 0 ≤ a ∧ a < ts1.length := fun h0 => ho.range h0
  have wk : ∀ {ts' : List ac} {e' : Int}, bj ts e2 ts' e' → bj ts e ts' e' := fun g => g.weak he
  have wstuck : ∀ {c : Int}, c ≠ 0 → bj ts e ts1 (if e1 = 0 then c else e1) := fun hc => bj.stuck ho.len ho.cap (nz hc)
  repeat' (first | (with_reducible refine ah ?_ ?_ <;> (intro hb; (try simp only [bnl] at hb); (try revert hb; intro _))) | with_reducible refine aq ?_ ?_ | with_reducible refine ak ?_ | (refine ag (aCQ deep hd hT _ _ _ _ _ _ _ _ _ ho.cap hn hsp hr1) ?_; rintro ⟨ts3, e3⟩ ⟨-, ts2, g1, g2⟩; dsimp only at g1 g2 ⊢) | (refine ag (aBR _ _ _ _ _ _ _ _ hn hr1) ?_; rintro ⟨ts3, e3⟩ ⟨-, g1, g2⟩; dsimp only at g1 g2 ⊢) | fail)
  ·rename_i h9
   have h10 : o0 ≠ 10 := by omega
   have tk := tk h10
   have ho2 := ho.more g1
   have gk := ho2.kept tk
   refine ⟨_, _, _, _, rfl, rfl, ?_⟩
   rcases g2 with rfl | ⟨l, l1, l2, t, t1, rfl⟩
   ·exact ⟨wk gk, fun h0 => ho2.range h0⟩
   ·by_cases h0 : e3 = 0
    ·rw [ho2.get h0] at t1
     obtain rfl := Option.some.inj t1
     have hr := ho2.range h0
     refine ⟨wk (ho2.done h0 ⟨by simp only; omega, l2, l1, by simp, by simp, by simp, by simp, tk.done, tk.kind, tk.enum⟩), fun _ => ?_⟩
     simpa using hr
    ·exact ⟨bj.stuck (by simpa using gk.len) (by simpa using gk.cap) h0, fun h => absurd h h0⟩
  ·refine ⟨_, _, _, _, rfl, rfl, ?_⟩
   by_cases h0 : e3 = 0
   ·obtain ⟨l, h', d, l0, l1, t, t1, rfl⟩ := g2.2 h0
    have h1 := g1 h0
    rw [ho.get h1] at t1
    obtain rfl := Option.some.inj t1
    have hr := ho.range h1
    have := ho.done h1 (t := ⟨o0, o1, o2, 0, l, h', d, 0, [], []⟩) ⟨by simp only; omega, by simp, by simp, by simp, by simp, l1, by simp, fun h => absurd h hk, hk2, fun _ => l0⟩
    refine ⟨wk (by rw [h0]; rw [h1] at this; exact this), fun _ => ?_⟩
    simpa using hr
   ·have := g2.1 h0
    subst this
    exact ⟨bj.stuck ho.len ho.cap h0, fun h => absurd h h0⟩
  ·refine ag (nd _ _ _ _ _ _ (by omega)) ?_
   rintro r ⟨-, hr⟩
   clear hr
   repeat' (first | (with_reducible refine ah ?_ ?_ <;> (intro hb; (try simp only [bnl] at hb); (try revert hb; intro _))) | with_reducible refine aq ?_ ?_ | with_reducible refine ak ?_ | (refine ag (bR _ _ _) ?_; rintro _ ⟨-, rfl⟩; try dsimp only) | fail)
   all_goals first | exact ⟨_, _, _, _, rfl, rfl, wstuck (by decide), fun h => absurd h (nz (by decide))⟩ | (have := hr1 (by assumption); first | (simp only [bnl, lnl]; done) | (simp only [bnl, lnl]; omega)) | (first | (simp only [bnl, lnl]; done) | (simp only [bnl, lnl]; omega)) | skip
   ·rename_i hz0 hz1 h0
    have hr := ho.range h0
    have tk := tk (by assumption)
    rw [nr (ho.get h0)]
    refine ⟨_, _, _, _, rfl, rfl, wk (ho.done h0 ⟨by simp only; omega, by simp, by simp, by simp, by simp, by simp, by simp only; omega, tk.done, tk.kind, tk.enum⟩), fun _ => ?_⟩
    simpa using hr
   ·rename_i h0
    exact ⟨_, _, _, _, rfl, rfl, wk (ho.kept (tk (by assumption))), fun h => absurd h h0⟩
 have mid : ∀ (sp : List UInt8) (e2 : Int) (nm : List UInt8) (al : List (List UInt8)), (sp.length : Int) ≤ 202 * deep + 201 → (e2 = 0 → e = 0) → bP al → al.length ≤ 100 → Tot (aB 2000 (dR 2000) (k, sp, deep, c0, c1, c2, c3, c4, al, 0, ts, e2, k, nm, [], 0, [], false, [], 0, [], [])) (fun z => ∃ (y0 : Int) (y1 : List ac) (y2 : Int) (rest : List an), z.1.dimR = .int .i64 y0 ∧ z.2 = some [.ul .atype y1, .int .i64 y2] :: rest ∧ fe ts e c0 c1 c2 c3 c4 k space deep (y0, y1, y2)) := by
  intro sp e2 nm al hsp he hal hal2
  refine bi (fun x => match x with | (k', sp', dp, d0, d1, d2, d3, d4, al', i, ts', e3, o0, o1, o2, o3, o4, o5, o6, o7, o8, o9) => k' = k ∧ sp' = sp ∧ dp = deep ∧ d0 = c0 ∧ d1 = c1 ∧ d2 = c2 ∧ d3 = c3 ∧ d4 = c4 ∧ al' = al ∧ 0 ≤ i ∧ i ≤ (al.length : Int) ∧ ts' = ts ∧ (e3 = 0 → e = 0) ∧ o0 = k ∧ (o2.length : Int) = i ∧ o3 = 0 ∧ o4 = [] ∧ o5 = false ∧ o6 = [] ∧ o7 = 0 ∧ o8 = [] ∧ o9 = []) (fun x => ((al.length : Int) - x.2.2.2.2.2.2.2.2.2.1).toNat) ?_ _ _
   ⟨rfl, rfl, rfl, rfl, rfl, rfl, rfl, rfl, rfl, by simp, by simp, rfl, he, rfl, rfl, rfl, rfl, rfl, rfl, rfl, rfl, rfl⟩ (by simp; omega)
  rintro again ⟨k', sp', dp, d0, d1, d2, d3, d4, al', i, ts', e3, o0, o1, o2, o3, o4, o5, o6, o7, o8, o9⟩ ⟨rfl, rfl, rfl, rfl, rfl, rfl, rfl, rfl, rfl, i1, i2, rfl, i3, rfl, i4, rfl, rfl, rfl, rfl, rfl, rfl, rfl⟩ ih
  dsimp only at ih
  have ew : i < al'.length → IntKind.i64.wrap (i + 1) = i + 1 := fun h => ap (i + 1) (by omega)
  have next : ∀ (e5 : Int) (w : List UInt8), i < al'.length → (e5 = 0 → e = 0) → Tot (again (o0, sp', dp, d0, d1, d2, d3, d4, al', IntKind.i64.wrap (i + 1), ts', e5, o0, o1, o2 ++ [w], 0, [], false, [], 0, [], [])) _ := fun e5 w hi he5 => ih (o0, sp', dp, d0, d1, d2, d3, d4, al', IntKind.i64.wrap (i + 1), ts', e5, o0, o1, o2 ++ [w], 0, [], false, [], 0, [], [])
   (by
    simp only [ew hi, List.length_append, List.length_cons, List.length_nil]
    exact ⟨trivial, trivial, trivial, trivial, trivial, trivial, trivial, trivial, trivial, by omega, by omega, trivial, he5, trivial, by omega, trivial, trivial, trivial, trivial, trivial, trivial, trivial⟩) (by simp only [ew hi]; omega)
  have lst : ∀ e4 : Int, (e4 = 0 → e = 0) → Tot (dQ 2000 (o0, sp', dp, d0, d1, d2, d3, d4, ts', e4, o0, o1, o2, 0, [], false, [], 0, [], [])) _ := fun e4 h4 => last sp' e4 o0 o1 o2 hsp h4 rfl
  unfold dR iW
  dsimp only
  have wn := aiF hal i.toNat
  repeat' (first | (with_reducible refine ah ?_ ?_ <;> (intro hb; (try simp only [bnl] at hb); (try revert hb; intro _))) | with_reducible refine aq ?_ ?_ | with_reducible refine ak ?_ | (refine ag (bR _ _ _) ?_; rintro _ ⟨-, rfl⟩; try dsimp only) | (refine ag (axY _ _ _ _ wn (by omega)) ?_; rintro ⟨w, ts4, e4⟩ ⟨-, w1, rfl, w2⟩; dsimp only at w1 w2 ⊢) | (refine ag (aA1 _ _ _ h) ?_; rintro ⟨b, c, ts4, e4⟩ ⟨-, hq, hf⟩; simp only [Prod.mk.injEq] at hq; obtain ⟨rfl, rfl⟩ := hq; dsimp only at hf ⊢) | fail)
  all_goals first | (first | (simp only [bnl, lnl]; done) | (simp only [bnl, lnl]; omega)) | exact next _ _ (by omega) (fun h => i3 (w2 h)) | exact lst _ i3 | exact lst _ (fun h => absurd h (nz (by decide))) | skip
 refine ag (apS _ _ _ _ _ _ _ _ _ hn) ?_
 rintro ⟨nm, ts', e1⟩ ⟨-, w1, rfl, w2⟩
 dsimp only at w1 w2 ⊢
 refine ag (nd _ _ _ _ _ _ (by omega)) ?_
 rintro r ⟨-, hr⟩
 have hg := rk (k := c0) (names := c4) (name := [110, 97, 109, 101, 115, 112, 97, 99, 101]) k6
 simp only [bW] at hr
 rw [← hr] at hg
 have g1 := hg.kids.1
 have first : ∀ (sp : List UInt8) (e2 : Int), (sp.length : Int) ≤ 202 * deep → (e2 = 0 → e = 0) → Tot (jF 2000 (k, sp, deep, c0, c1, c2, c3, c4, nm, ts', e2)) (fun z => ∃ (y0 : Int) (y1 : List ac) (y2 : Int) (rest : List an), z.1.dimR = .int .i64 y0 ∧ z.2 = some [.ul .atype y1, .int .i64 y2] :: rest ∧ fe ts' e c0 c1 c2 c3 c4 k space deep (y0, y1, y2)) := by
  intro sp e2 hsp he
  unfold jF iX
  dsimp only
  repeat' (first | (with_reducible refine ah ?_ ?_ <;> (intro hb; (try simp only [bnl] at hb); (try revert hb; intro _))) | with_reducible refine aq ?_ ?_ | with_reducible refine ak ?_ | fail)
  ·rename_i h2
   exact ⟨_, _, _, _, rfl, rfl, bj.stuck (Nat.le_refl _) h h2, fun h => absurd h h2⟩
  refine ag (axY _ _ _ _ w1 (by omega)) ?_
  rintro ⟨w, ts4, e4⟩ ⟨-, x1, rfl, x2⟩
  dsimp only at x1 x2 ⊢
  refine ag (aCP _ (by omega)) ?_
  rintro b ⟨-, hb⟩
  dsimp only [kc] at hb ⊢
  refine ag (al6 _ _ _ _ _ _ _ _ hn) ?_
  rintro ⟨al, is, ts6, e7⟩ ⟨-, t1, t2, rfl, t3⟩
  dsimp only at t1 t2 t3 ⊢
  exact mid _ _ _ _ (by omega) (fun h => he (x2 (t3 h))) t2 t1
 repeat' (first | (with_reducible refine ah ?_ ?_ <;> (intro hb; (try simp only [bnl] at hb); (try revert hb; intro _))) | with_reducible refine aq ?_ ?_ | with_reducible refine ak ?_ | (refine ag (bR _ _ _) ?_; rintro _ ⟨-, rfl⟩; try dsimp only) | fail)
 ·exact first _ _ (by omega) (fun h => absurd h (nz (by decide)))
 ·exact first _ _ (by omega) w2
 ·exact first _ _ hs w2
theorem ax0 (deep : Int) (hd : 1 ≤ deep ∧ deep ≤ 21) (hT : deep ≤ 20 → yK (deep + 1)) : yK deep := by
 intro ts e c0 c1 c2 c3 c4 space h hn hs
 obtain ⟨k1, k2, k3, k4, k5, k6⟩ := hn.kids
 apply aiE 2000
 unfold pt iq
 dsimp only
 have stuck : ∀ {c : Int}, c ≠ 0 → bj ts e ts (if e = 0 then c else e) := fun hc => bj.stuck (Nat.le_refl _) h (nz hc)
 repeat' (first | (with_reducible refine ah ?_ ?_ <;> (intro hb; (try simp only [bnl] at hb); (try revert hb; intro _))) | with_reducible refine aq ?_ ?_ | with_reducible refine ak ?_ | (refine ag (bR _ _ _) ?_; rintro _ ⟨-, rfl⟩; try dsimp only) | (refine ag (axZ _ _ _ _ h k1 (by omega)) ?_; rintro ⟨a, ts', e'⟩ ⟨-, g1, g2⟩; dsimp only at g1 g2 ⊢) | (refine ag (aDs deep (by omega) (hT (by omega)) _ _ _ _ _ _ _ _ h hn hs) ?_; rintro ⟨a, ts', e'⟩ ⟨-, g1, g2⟩; dsimp only at g1 g2 ⊢) | fail)
 all_goals first | exact ⟨_, _, _, _, rfl, rfl, stuck (by decide), fun h => absurd h (nz (by decide))⟩ | exact ⟨_, _, _, _, rfl, rfl, g1, g2⟩ | skip
 ·rename_i he
  exact ⟨_, _, _, _, rfl, rfl, bj.refl h, fun h => absurd h he⟩
 rename_i he hdd _ _ _
 have hT := hT (by omega)
 have ed : IntKind.i64.wrap (deep + 1) = deep + 1 := ap (deep + 1) (by omega)
 refine ag (nd _ _ _ _ _ _ (by omega)) ?_
 rintro r ⟨-, hr⟩
 have hg := rk (k := c0) (names := c4) (name := [116, 121, 112, 101]) k6
 simp only [bW] at hr
 rw [← hr] at hg
 have hgk := hg.kids
 clear hr
 obtain ⟨d0, d1, d2, d3, d4, d5⟩ := r
 dsimp only at hg hgk ⊢
 have part : ∀ (word : List UInt8) (k : Int) (a : Int) (ts1 : List ac) (e1 : Int), k ≠ 14 → (1 ≤ k ∧ k ≤ 14) → k ≠ 10 → la ts e ⟨k, [], [], 0, [], false, [], 0, [], []⟩ a ts1 e1 → Tot (gF 2000 (space, deep, c0, c1, c2, c3, c4, a, word, ts1, e1)) (fun z => ∃ (y0 : Int) (y1 : List ac) (y2 : Int) (rest : List an), z.1.dimR = .int .i64 y0 ∧ z.2 = some [.ul .atype y1, .int .i64 y2] :: rest ∧ dO ts e c0 c1 c2 c3 c4 space deep (y0, y1, y2)) := by
  intro word k a ts1 e1 hk hk2 hk10 ho
  unfold gF
  dsimp only
  refine ag (nd _ _ _ _ _ _ (by omega)) ?_
  rintro r ⟨-, hr⟩
  have hg := rk (k := c0) (names := c4) (name := word) k6
  simp only [bW] at hr
  rw [← hr] at hg
  clear hr
  repeat' (first | (with_reducible refine ah ?_ ?_ <;> (intro hb; (try simp only [bnl] at hb); (try revert hb; intro _))) | with_reducible refine aq ?_ ?_ | with_reducible refine ak ?_ | (refine ag (bR _ _ _) ?_; rintro _ ⟨-, rfl⟩; try dsimp only) | fail)
  ·exact ⟨_, _, _, _, rfl, rfl, bj.stuck ho.len ho.cap (nz (by decide)), fun h => absurd h (nz (by decide))⟩
  simp only [ed]
  refine ag (hT _ _ _ _ _ _ _ _ ho.cap hg (by omega)) ?_
  rintro ⟨i, ts2, e2⟩ ⟨-, x1, x2⟩
  dsimp only at x1 x2 ⊢
  have ho2 := ho.more x1
  have hr2 : e2 = 0 → 0 ≤ a ∧ a < ts2.length := fun h0 => ho2.range h0
  repeat' (first | (with_reducible refine ah ?_ ?_ <;> (intro hb; (try simp only [bnl] at hb); (try revert hb; intro _))) | with_reducible refine aq ?_ ?_ | with_reducible refine ak ?_ | fail)
  all_goals first | (have := hr2 (by assumption); first | (simp only [bnl, lnl]; done) | (simp only [bnl, lnl]; omega)) | (first | (simp only [bnl, lnl]; done) | (simp only [bnl, lnl]; omega)) | skip
  ·rename_i h0
   have hr := ho2.range h0
   rw [nr (ho2.get h0)]
   refine ⟨_, _, _, _, rfl, rfl, ho2.done h0 ⟨x2 h0, by simp, by simp, by simp, by simp, by simp, by simp, fun h => absurd h hk, hk2, fun h => absurd h hk10⟩, fun _ => ?_⟩
   simpa using hr
  ·rename_i h0
   exact ⟨_, _, _, _, rfl, rfl, ho2.stuck h0, fun h => absurd h h0⟩
 have txt : Tot (gG 2000 (space, d0, d1, d2, d3, d4, ts, e)) (fun z => ∃ (y0 : Int) (y1 : List ac) (y2 : Int) (rest : List an), z.1.dimR = .int .i64 y0 ∧ z.2 = some [.ul .atype y1, .int .i64 y2] :: rest ∧ dO ts e c0 c1 c2 c3 c4 space deep (y0, y1, y2)) := by
  unfold gG
  dsimp only
  refine ag (axZ _ _ _ _ h hgk.1 (by omega)) ?_
  rintro ⟨a, ts', e'⟩ ⟨-, g1, g2⟩
  exact ak ⟨_, _, _, _, rfl, rfl, g1, g2⟩
 have one : ∀ b : Bool, (b = true → d2 = [97, 114, 114, 97, 121] ∨ d2 = [109, 97, 112]) → Tot (gH 2000 (space, deep, c0, c1, c2, c3, c4, d0, d1, d2, d3, d4, b, ts, e)) (fun z => ∃ (y0 : Int) (y1 : List ac) (y2 : Int) (rest : List an), z.1.dimR = .int .i64 y0 ∧ z.2 = some [.ul .atype y1, .int .i64 y2] :: rest ∧ dO ts e c0 c1 c2 c3 c4 space deep (y0, y1, y2)) := by
  intro b hb
  unfold gH jI
  dsimp only
  refine ah (fun h1 => ?_) (fun h1 => txt)
  refine ag (apO _) ?_
  rintro (k : Int) ⟨-, hk1, hk2, hk3, hk4, hk5⟩
  have hb := hb h1
  have hk : k ≠ 14 := fun h => by have := hk3 h; subst this; revert hb; decide
  have hk10 : k ≠ 10 := fun h => by have := hk5 h; subst this; revert hb; decide
  have hk0 : k ≠ 0 := fun h => by
   rcases hb with hb | hb
   ·exact hk4 h 11 (by decide) hb.symm
   ·exact hk4 h 12 (by decide) hb.symm
  refine ag (amo _ _ _ _ _ _ _ _ _ _ _ _ h) ?_
  rintro r ⟨-, hr⟩
  have ho := la.add h hr
  clear hr
  obtain ⟨a, ts1, e1⟩ := r
  dsimp only at ho ⊢
  repeat' (first | (with_reducible refine ah ?_ ?_ <;> (intro hb; (try simp only [bnl] at hb); (try revert hb; intro _))) | with_reducible refine aq ?_ ?_ | with_reducible refine ak ?_ | fail)
  all_goals exact part _ k _ _ _ hk (by omega) hk10 ho
 have zero : ∀ b : Bool, (b = true → d2 = [114, 101, 99, 111, 114, 100] ∨ d2 = [101, 110, 117, 109] ∨ d2 = [102, 105, 120, 101, 100]) → Tot (kA 2000 (space, deep, c0, c1, c2, c3, c4, d0, d1, d2, d3, d4, d2, b, ts, e)) (fun z => ∃ (y0 : Int) (y1 : List ac) (y2 : Int) (rest : List an), z.1.dimR = .int .i64 y0 ∧ z.2 = some [.ul .atype y1, .int .i64 y2] :: rest ∧ dO ts e c0 c1 c2 c3 c4 space deep (y0, y1, y2)) := by
  intro b hb
  unfold kA jJ
  dsimp only
  refine ah (fun h1 => ?_) (fun h1 => ah (fun h2 => one _ fun _ => ?_) (fun h2 => one _ fun h3 => ?_))
  ·refine ag (apO _) ?_
   rintro (k : Int) ⟨-, hk1, hk2, hk3, hk4, hk5⟩
   have hb := hb h1
   have hk : k ≠ 14 := fun h => by have := hk3 h; subst this; revert hb; decide
   have hk0 : k ≠ 0 := fun h => by
    rcases hb with hb | hb | hb
    ·exact hk4 h 8 (by decide) hb.symm
    ·exact hk4 h 9 (by decide) hb.symm
    ·exact hk4 h 10 (by decide) hb.symm
   refine ag (aDt deep (by omega) hT _ _ _ _ _ _ _ _ _ h hn hs hk (by omega)) ?_
   rintro ⟨a, ts', e'⟩ ⟨-, g1, g2⟩
   exact ak ⟨_, _, _, _, rfl, rfl, g1, g2⟩
  ·exact .inl (of_decide_eq_true h2)
  ·exact .inr (of_decide_eq_true h3)
 repeat' (first | (with_reducible refine ah ?_ ?_ <;> (intro hb; (try simp only [bnl] at hb); (try revert hb; intro _))) | with_reducible refine aq ?_ ?_ | with_reducible refine ak ?_ | (refine ag (bR _ _ _) ?_; rintro _ ⟨-, rfl⟩; try dsimp only) | fail)
 ·exact ⟨_, _, _, _, rfl, rfl, stuck (by decide), fun h => absurd h (nz (by decide))⟩
 ·simp only [ed]
  refine ag (hT _ _ _ _ _ _ _ _ h hg (by omega)) ?_
  rintro ⟨a, ts', e'⟩ ⟨-, g1, g2⟩
  exact ak ⟨_, _, _, _, rfl, rfl, g1, g2⟩
 all_goals refine zero _ fun hb => ?_
 ·exact .inl (of_decide_eq_true hb)
 ·exact .inr (.inl (of_decide_eq_true hb))
 ·exact .inr (.inr (of_decide_eq_true hb))
theorem aA4 : ∀ (n : Nat) (deep : Int), deep + n = 21 → 1 ≤ deep → yK deep
 | 0, deep, h, h1 => ax0 deep (by omega) (fun h' => by omega)
 | n + 1, deep, h, h1 => ax0 deep (by omega) (fun _ => aA4 n (deep + 1) (by omega) (by omega))
theorem aEa (c0 c1 : Int) (c2 : List UInt8) (c3 : List ae) (c4 : List (List UInt8)) (hn : aK (.mk c0 c1 c2 c3 c4)) : ∃ r, qe c0 c1 c2 c3 c4 r := by
 apply axb 1
 unfold xw ajK
 refine ag (aA4 20 1 (by omega) (by omega) _ _ _ _ _ _ _ _ (by simp) hn (by simp)) ?_
 rintro ⟨a, ts', e'⟩ ⟨-, g1, g2⟩
 dsimp only at g1 g2 ⊢
 repeat' (first | (with_reducible refine ah ?_ ?_ <;> (intro hb; (try simp only [bnl] at hb); (try revert hb; intro _))) | with_reducible refine aq ?_ ?_ | with_reducible refine ak ?_ | fail)
 ·rename_i h0
  exact ⟨_, _, _, rfl, rfl, fun h => absurd h h0⟩
 ·rename_i h0
  exact ⟨_, _, _, rfl, rfl, fun _ => by rw [h0] at g1; exact g1.sch⟩
end Go.Proofs.Ytdpajabhmmmjoaa
end
section
namespace Go.Proofs.Ytdpajabhmmmjoaa
open Go.AM
set_option autoImplicit false
set_option linter.unusedVariables false
set_option maxRecDepth 100000
noncomputable def bA : au := tab (P := Try.prog) [] [amS, nV, vd, rG, alE] [] [wi, alA]
noncomputable def aiG : IR := (.cond (.t 19) (.reg [Mv 20 7, Bc 21 .rem 20 8, Mv 7 21] []) .skip)
noncomputable def aiH : IR := .ret
noncomputable def aiI : IR := .ret
noncomputable def aiJ : IR := .ret
noncomputable def aiK : IR := .ret
noncomputable def aiL : IR := .ret
noncomputable def kC : IR := (.cond (.t 62) (.seq (.reg [Mv 72 2, Nk 73 72, ⟨none, .ld 74 1 false false (.t 73), some ([1], [])⟩, Mv 75 0, Mv 76 2, Nk 77 76, ⟨none, .ld 78 1 false false (.t 77), some ([1], [])⟩, Pp (.lenl 79 (.t 78)), ⟨none, .call (some 80) 60 [(.t 75), (.t 79)], some ([], [0])⟩, Pp (.ixa 81 .str (.t 74) (.t 80)), Ld 82 1 false 81, Pp (.call (some 83) 86 [(.t 82)]), ⟨none, .st none 5 (.t 6) (.t 83), some ([], [2])⟩] [[], [0], [0, 1], [], [], [4], [4, 5], [4, 5, 6], [3, 4, 5, 6, 7], [0, 1, 2, 3, 4, 5, 6, 7, 8], [0, 1, 2, 3, 4, 5, 6, 7, 8, 9], [0, 1, 2, 3, 4, 5, 6, 7, 8, 9, 10], [0, 1, 2, 3, 4, 5, 6, 7, 8, 9, 10, 11]]) aiL) .skip)
noncomputable def aiM : IR := (.cut [0, 1, 2, 6, 7, 62, 1000000] 3 kC)
noncomputable def aiN : IR := (.cond (.t 55) (.seq (.reg [Mv 58 0, Mv 59 1, Mv 60 2, Pp (.call (some 61) 146 [(.t 58), (.t 59), (.t 60)]), Pp (.st none 5 (.t 6) (.t 61))] []) aiK) (.seq (.reg [Mv 63 7, Bc 64 .eql 63 14, Mv 65 64, Pg (65, true) (.mov 66 (.t 2)), Pg (65, true) (.nck (some 67) (.t 66)), Pg (65, true) (.ld 68 1 false false (.t 67)), Pg (65, true) (.lenl 69 (.t 68)), Pg (65, true) (.bin 70 .gtr (.t 69) (.c (.int .i64 0))), Pa 71 65 70, Mv 62 71] []) aiM))
noncomputable def aiO : IR := (.cond (.t 43) (.seq (.reg [Pp (.bsl 46 .str [(.c (.str ([116, 121, 112, 101] : Bs))), (.c (.str ([118, 97, 108, 117, 101, 115] : Bs)))] true), Pp (.call (some 47) 86 [(.c (.str ([109, 97, 112] : Bs)))]), Mv 48 0, Mv 49 1, Bc 50 .add 49 1, Mv 51 2, Pp (.call (some 52) 117 [(.t 48), (.t 50), (.t 51)]), Pp (.bsl 53 .jnode [(.t 47), (.t 52)] true), Pp (.call (some 54) 118 [(.t 46), (.t 53)]), Pp (.st none 5 (.t 6) (.t 54))] []) aiJ) (.seq (.reg [Mv 56 7, Bc 57 .lss 56 14, Mv 55 57] []) aiN))
noncomputable def ag5 : IR := (.cond (.t 31) (.seq (.reg [Pp (.bsl 34 .str [(.c (.str ([116, 121, 112, 101] : Bs))), (.c (.str ([105, 116, 101, 109, 115] : Bs)))] true), Pp (.call (some 35) 86 [(.c (.str ([97, 114, 114, 97, 121] : Bs)))]), Mv 36 0, Mv 37 1, Bc 38 .add 37 1, Mv 39 2, Pp (.call (some 40) 117 [(.t 36), (.t 38), (.t 39)]), Pp (.bsl 41 .jnode [(.t 35), (.t 40)] true), Pp (.call (some 42) 118 [(.t 34), (.t 41)]), Pp (.st none 5 (.t 6) (.t 42))] []) aiI) (.seq (.reg [Mv 44 7, Bc 45 .eql 44 10, Mv 43 45] []) aiO))
noncomputable def ag6 : IR := (.cond (.t 23) (.seq (.reg [Mv 26 8, Mv 27 7, Pp (.ixa 28 .str (.t 26) (.t 27)), Ld 29 1 false 28, Pp (.call (some 30) 86 [(.t 29)]), Pp (.st none 5 (.t 6) (.t 30))] []) aiH) (.seq (.reg [Mv 32 7, Bc 33 .lss 32 10, Mv 31 33] []) ag5))
noncomputable def ag7 : IR := .ret
noncomputable def ag8 : IR := (.cond (.t 135) (.reg [Fa 136 4 11, ⟨none, .ld 137 1 false false (.t 136), some ([3], [])⟩, Pp (.bsl 138 .str [(.c (.str ([100, 101, 102, 97, 117, 108, 116] : Bs)))] true), Pp (.app 139 .str (.tk 137) (.t 138)), Fa 140 3 11, ⟨none, .ld 141 1 false false (.t 140), some ([3], [])⟩, Pp (.call (some 142) 86 [(.c (.str ([88] : Bs)))]), Pp (.bsl 143 .jnode [(.t 142)] true), Pp (.app 144 .jnode (.tk 141) (.t 143)), Fa 145 4 11, ⟨none, .st none 1 (.t 145) (.tk 139), some ([], [3])⟩, Fa 146 3 11, ⟨none, .st none 1 (.t 146) (.tk 144), some ([], [3])⟩] [[], [0], [], [0, 1, 2], [], [4], [0, 1, 2, 3], [0, 1, 2, 3, 6], [0, 1, 2, 3, 4, 5, 6, 7], [0, 1, 2, 3, 4, 5], [0, 1, 2, 3, 4, 5, 6, 7, 8, 9], [0, 1, 2, 3, 4, 5, 6, 7, 8, 9, 10], [0, 1, 2, 3, 4, 5, 6, 7, 8, 9, 10, 11]]) .skip)
noncomputable def ag9 : IR := .ret
noncomputable def aha : IR := (.seq (.reg [Pp (.ld 147 5 true false (.t 11)), Pp (.st none 5 (.t 6) (.t 147))] []) ag9)
noncomputable def ahb : IR := (.seq (.seq (.reg [Mv 133 0, Pp (.call (some 134) 60 [(.t 133), (.c (.int .i64 2))]), Bc 135 .eql 134 0] []) ag8) aha)
noncomputable def ahc : IR := (.seq (.reg [Pp (.bsl 125 .str [(.c (.str ([116, 121, 112, 101] : Bs))), (.c (.str ([110, 97, 109, 101] : Bs))), (.c (.str ([115, 121, 109, 98, 111, 108, 115] : Bs)))] true), Pp (.call (some 126) 86 [(.c (.str ([101, 110, 117, 109] : Bs)))]), Mv 127 9, Pp (.call (some 128) 86 [(.t 127)]), Mv 129 10, Pp (.bld 130 [.int .i64 0, .int .i64 0, .str ([] : Bs), .sl .jnode (.may true) ([] : List ae), .sl .str (.may true) ([] : Bss)] [(0, 1, (.c (.int .i64 5))), (3, 1, (.t 129))]), Pp (.bsl 131 .jnode [(.t 126), (.t 128), (.t 130)] true), Pp (.call (some 132) 118 [(.t 125), (.t 131)]), Pp (.new 11 [.int .i64 0, .int .i64 0, .str ([] : Bs), .sl .jnode .own ([] : List ae), .sl .str .own ([] : Bss)]), Pp (.st none 5 (.t 11) (.t 132))] []) ahb)
noncomputable def ahd : IR := (.cond (.t 114) (.seq (.reg [Pp (.call (some 117) 86 [(.c (.str ([88] : Bs)))]), Pp (.call (some 118) 86 [(.c (.str ([89] : Bs)))]), Pp (.call (some 119) 86 [(.c (.str ([90] : Bs)))]), Pp (.bsl 120 .jnode [(.t 117), (.t 118), (.t 119)] true), Mv 121 0, Pp (.call (some 122) 60 [(.t 121), (.c (.int .i64 3))]), Pp (.bin 123 .add (.c (.int .i64 1)) (.t 122)), Pp (.subl 124 .jnode (.t 120) none (some (.t 123))), Mv 10 124] []) ahc) .skip)
noncomputable def ahe : IR := (.cond (.t 102) (.seq (.reg [Pp (.bsl 105 .str [(.c (.str ([116, 121, 112, 101] : Bs))), (.c (.str ([110, 97, 109, 101] : Bs))), (.c (.str ([115, 105, 122, 101] : Bs)))] true), Pp (.call (some 106) 86 [(.c (.str ([102, 105, 120, 101, 100] : Bs)))]), Mv 107 9, Pp (.call (some 108) 86 [(.t 107)]), Mv 109 0, Pp (.call (some 110) 60 [(.t 109), (.c (.int .i64 4))]), Pp (.bld 111 [.int .i64 0, .int .i64 0, .str ([] : Bs), .sl .jnode (.may true) ([] : List ae), .sl .str (.may true) ([] : Bss)] [(0, 1, (.c (.int .i64 3))), (1, 1, (.t 110))]), Pp (.bsl 112 .jnode [(.t 106), (.t 108), (.t 111)] true), Pp (.call (some 113) 118 [(.t 105), (.t 112)]), Pp (.st none 5 (.t 6) (.t 113))] []) ag7) (.seq (.reg [Mv 115 7, Bc 116 .eql 115 16, Mv 114 116] []) ahd))
noncomputable def ahf : IR := .ret
noncomputable def ahg : IR := (.seq (.reg [Mv 148 0, Mv 149 9, Mv 150 1, Mv 151 2, Pp (.call (some 152) 73 [(.t 148), (.t 149), (.t 150), (.t 151)]), Pp (.st none 5 (.t 6) (.t 152))] []) ahf)
noncomputable def ahh : IR := (.seq (.block 1 (.seq (.reg [Mv 103 7, Bc 104 .eql 103 15, Mv 102 104] []) ahe)) ahg)
noncomputable def ahi : IR := (.seq (.reg [Mv 94 2, Mv 95 2, Nk 96 95, Pp (.ld 97 1 false true (.t 96)), Mv 98 9, Pp (.bsl 99 .str [(.t 98)] true), Pp (.app 100 .str (.tk 97) (.t 99)), Nk 101 94, Pp (.st none 1 (.t 101) (.tk 100))] []) ahh)
noncomputable def tF : IR := (.seq (.reg [Mv 84 2, Nk 85 84, Pp (.ld 86 1 false false (.t 85)), Pp (.lenl 87 (.t 86)), Bc 88 .rem 87 26, Pp (.bin 89 .add (.c (.int .i64 97)) (.t 88)), Pp (.cvi 90 .u8 (.t 89)), Pp (.bsl 91 .u8 [(.t 90)] true), Pp (.b2s 92 (.t 91)), Pp (.bin 93 .add (.c (.str ([78] : Bs))) (.t 92)), Mv 9 93] []) ahi)
noncomputable def nt : IR := (.cut [0, 1, 2, 6, 7, 1000001] 3 tF)
noncomputable def ahj : IR := (.seq (.block 0 (.seq (.reg [Mv 24 7, Bc 25 .lss 24 8, Mv 23 25] []) ag6)) nt)
noncomputable def jK : IR := (.seq (.reg [Pp (.bsl 22 .str [(.c (.str ([105, 110, 116] : Bs))), (.c (.str ([108, 111, 110, 103] : Bs))), (.c (.str ([115, 116, 114, 105, 110, 103] : Bs))), (.c (.str ([98, 121, 116, 101, 115] : Bs))), (.c (.str ([98, 111, 111, 108, 101, 97, 110] : Bs))), (.c (.str ([110, 117, 108, 108] : Bs))), (.c (.str ([102, 108, 111, 97, 116] : Bs))), (.c (.str ([100, 111, 117, 98, 108, 101] : Bs)))] true), Mv 8 22] []) ahj)
noncomputable def ahk : IR := (.cut [0, 1, 2, 6, 7, 1000002] 3 jK)
noncomputable def ahl : IR := (.seq (.seq (.reg [Mv 14 1, Bc 15 .gtr 14 3, Mv 16 15, Pg (16, false) (.mov 17 (.t 0)), Pg (16, false) (.call (some 18) 59 [(.t 17)]), Po 19 16 18] []) aiG) ahk)
noncomputable def ahm : IR := (.seq (.reg [Mv 12 0, Pp (.call (some 13) 60 [(.t 12), (.c (.int .i64 20))]), Mv 7 13] []) ahl)
noncomputable def qB : IR := (.seq (.reg [Pp (.new 6 [.int .i64 0, .int .i64 0, .str ([] : Bs), .sl .jnode .own ([] : List ae), .sl .str .own ([] : Bss)])] []) ahm)
noncomputable def cF : List RV := [.cell 6 5 true]
theorem al7 : FnC Try.prog bA [59, 60, 73, 117, 146, 2000059, 2000060, 2000073, 2000117, 2000146] 2 xM Try.f117 qB cF := fnC (by kernel_rfl) Try.func117 (by kernel_rfl) (by kernel_rfl) (by decide)
abbrev iu : Type := (Int × Int × Bs × Int × Bss × Int × Int × Bs × List ae × Bss)
noncomputable def gI (x : iu) : St := { env := (.ptr 0 0 :: .int .i64 x.1 :: .ptr 1 0 :: (U 3 (.ptr 2 0 :: .int .i64 x.2.1 :: (U 145 [])))), hp := [some [.sl .u8 (.may false) x.2.2.1, .int .i64 x.2.2.2.1], some [.sl .str .own x.2.2.2.2.1], some [.int .i64 x.2.2.2.2.2.1, .int .i64 x.2.2.2.2.2.2.1, .str x.2.2.2.2.2.2.2.1, .sl .jnode .own x.2.2.2.2.2.2.2.2.1, .sl .str .own x.2.2.2.2.2.2.2.2.2]] }
abbrev iv : Type := (Int × Int × Bool × Bs × Int × Bss × Int × Int × Bs × List ae × Bss)
noncomputable def eg (x : iv) : St := { env := (.ptr 0 0 :: .int .i64 x.1 :: .ptr 1 0 :: (U 3 (.ptr 2 0 :: .int .i64 x.2.1 :: (U 54 (.bool x.2.2.1 :: (U 90 [])))))), hp := [some [.sl .u8 (.may false) x.2.2.2.1, .int .i64 x.2.2.2.2.1], some [.sl .str .own x.2.2.2.2.2.1], some [.int .i64 x.2.2.2.2.2.2.1, .int .i64 x.2.2.2.2.2.2.2.1, .str x.2.2.2.2.2.2.2.2.1, .sl .jnode .own x.2.2.2.2.2.2.2.2.2.1, .sl .str .own x.2.2.2.2.2.2.2.2.2.2]] }
noncomputable def pu (R : IR → (Ex → St → Ro) → St → Ro) : Ex → St → Ro := (aD 0 (bo (R nt) (fin cF)))
abbrev ln : Type := (Int × Int × Bs × Int × Bss × Int × Int × Bs × List ae × Bss)
noncomputable def kD (x : ln) : St := { env := (.ptr 0 0 :: .int .i64 x.1 :: .ptr 1 0 :: (U 3 (.ptr 2 0 :: .int .i64 x.2.1 :: (U 145 [])))), hp := [some [.sl .u8 (.may false) x.2.2.1, .int .i64 x.2.2.2.1], some [.sl .str .own x.2.2.2.2.1], some [.int .i64 x.2.2.2.2.2.1, .int .i64 x.2.2.2.2.2.2.1, .str x.2.2.2.2.2.2.2.1, .sl .jnode .own x.2.2.2.2.2.2.2.2.1, .sl .str .own x.2.2.2.2.2.2.2.2.2]] }
noncomputable def pv (N : Nat) : St → Ro := fun s => run bA N tF (fin cF) s
noncomputable def iw (N : Nat) (x : ln) : Ro :=
 let v1 : Int := x.1
 let v7 : Int := x.2.1
 let o0_0 : Bs := x.2.2.1
 let o0_1 : Int := x.2.2.2.1
 let o1_0 : Bss := x.2.2.2.2.1
 let o2_0 : Int := x.2.2.2.2.2.1
 let o2_1 : Int := x.2.2.2.2.2.2.1
 let o2_2 : Bs := x.2.2.2.2.2.2.2.1
 let o2_3 : List ae := x.2.2.2.2.2.2.2.2.1
 let o2_4 : Bss := x.2.2.2.2.2.2.2.2.2
 let x7 : Int := (↑(List.length o1_0) : Int)
 let x8 : Int := (IntKind.wrap .i64 (97 + (Int.tmod x7 26)))
 chk (decide (List.length ([78] : Bs) + List.length ([(UInt8.ofNat (Int.toNat (IntKind.wrap .u8 x8)))] : Bs) ≤ 9223372036854775807)) (
  let x9 : Bs := (([78] : Bs) ++ ([(UInt8.ofNat (Int.toNat (IntKind.wrap .u8 x8)))] : Bs))
  chk (decide ((List.length o1_0 + List.length ([x9] : Bss)) * 16 ≤ 140737488355328)) (
   let x10 : Bss := (o1_0 ++ ([x9] : Bss))
   cond (v7 == 15) (
    ai (be ([102, 105, 120, 101, 100] : Bs)) (fun r12 =>
     ai (be x9) (fun r13 =>
      ai (aU o0_0 o0_1 4) (fun r14 =>
       ai (dY true ([([116, 121, 112, 101] : Bs), ([110, 97, 109, 101] : Bs), ([115, 105, 122, 101] : Bs)] : Bss) true ([⟨r12.1, r12.2.1, r12.2.2.1, r12.2.2.2.1, r12.2.2.2.2⟩, ⟨r13.1, r13.2.1, r13.2.2.1, r13.2.2.2.1, r13.2.2.2.2⟩, ⟨3, r14.1, ([] : Bs), ([] : List ae), ([] : Bss)⟩] : List ae)) (fun r15 =>
        some (.agg [.int .i64 r15.1, .int .i64 r15.2.1, .str r15.2.2.1, .sl .jnode (.may r15.2.2.2.1) r15.2.2.2.2.1, .sl .str (.may r15.2.2.2.2.2.1) r15.2.2.2.2.2.2], [some [.sl .u8 (.may false) r14.2.1, .int .i64 r14.2.2], some [.sl .str .own x10], some [.int .i64 r15.1, .int .i64 r15.2.1, .str r15.2.2.1, .sl .jnode (.may r15.2.2.2.1) r15.2.2.2.2.1, .sl .str (.may r15.2.2.2.2.2.1) r15.2.2.2.2.2.2]])))))) (
    cond (v7 == 16) (
     ai (be ([88] : Bs)) (fun r16 =>
      ai (be ([89] : Bs)) (fun r17 =>
       ai (be ([90] : Bs)) (fun r18 =>
        ai (aU o0_0 o0_1 3) (fun r19 =>
         let x11 : Int := (IntKind.wrap .i64 (1 + r19.1))
         chk ((decide (0 ≤ x11) && decide (x11 ≤ (↑(List.length ([⟨r16.1, r16.2.1, r16.2.2.1, r16.2.2.2.1, r16.2.2.2.2⟩, ⟨r17.1, r17.2.1, r17.2.2.1, r17.2.2.2.1, r17.2.2.2.2⟩, ⟨r18.1, r18.2.1, r18.2.2.1, r18.2.2.2.1, r18.2.2.2.2⟩] : List ae)) : Int)))) (
          let x12 : List ae := (List.drop 0 (List.take (Int.toNat x11) ([⟨r16.1, r16.2.1, r16.2.2.1, r16.2.2.2.1, r16.2.2.2.2⟩, ⟨r17.1, r17.2.1, r17.2.2.1, r17.2.2.2.1, r17.2.2.2.2⟩, ⟨r18.1, r18.2.1, r18.2.2.1, r18.2.2.2.1, r18.2.2.2.2⟩] : List ae)))
          ai (be ([101, 110, 117, 109] : Bs)) (fun r20 =>
           ai (be x9) (fun r21 =>
            ai (dY true ([([116, 121, 112, 101] : Bs), ([110, 97, 109, 101] : Bs), ([115, 121, 109, 98, 111, 108, 115] : Bs)] : Bss) true ([⟨r20.1, r20.2.1, r20.2.2.1, r20.2.2.2.1, r20.2.2.2.2⟩, ⟨r21.1, r21.2.1, r21.2.2.1, r21.2.2.2.1, r21.2.2.2.2⟩, ⟨5, 0, ([] : Bs), x12, ([] : Bss)⟩] : List ae)) (fun r22 =>
             ai (aU r19.2.1 r19.2.2 2) (fun r23 =>
              cond (r23.1 == 0) (
               chk ((r22.2.2.2.2.2.1 && decide (0 < List.length ([([100, 101, 102, 97, 117, 108, 116] : Bs)] : Bss))) && decide ((List.length r22.2.2.2.2.2.2 + List.length ([([100, 101, 102, 97, 117, 108, 116] : Bs)] : Bss)) * 16 ≤ 140737488355328)) (
                let x13 : Bss := (r22.2.2.2.2.2.2 ++ ([([100, 101, 102, 97, 117, 108, 116] : Bs)] : Bss))
                ai (be ([88] : Bs)) (fun r24 =>
                 chk ((r22.2.2.2.1 && decide (0 < List.length ([⟨r24.1, r24.2.1, r24.2.2.1, r24.2.2.2.1, r24.2.2.2.2⟩] : List ae))) && decide ((List.length r22.2.2.2.2.1 + List.length ([⟨r24.1, r24.2.1, r24.2.2.1, r24.2.2.2.1, r24.2.2.2.2⟩] : List ae)) * 80 ≤ 140737488355328)) (
                  let x14 : List ae := (r22.2.2.2.2.1 ++ ([⟨r24.1, r24.2.1, r24.2.2.1, r24.2.2.2.1, r24.2.2.2.2⟩] : List ae))
                  some (.agg [.int .i64 r22.1, .int .i64 r22.2.1, .str r22.2.2.1, .sl .jnode (.may false) x14, .sl .str (.may false) x13], [some [.sl .u8 (.may false) r23.2.1, .int .i64 r23.2.2], some [.sl .str .own x10], some [.int .i64 r22.1, .int .i64 r22.2.1, .str r22.2.2.1, .sl .jnode (.may false) x14, .sl .str (.may false) x13], some [.int .i64 r22.1, .int .i64 r22.2.1, .str r22.2.2.1, .sl .jnode .own x14, .sl .str .own x13]]))))) (
               some (.agg [.int .i64 r22.1, .int .i64 r22.2.1, .str r22.2.2.1, .sl .jnode (.may r22.2.2.2.1) r22.2.2.2.2.1, .sl .str (.may r22.2.2.2.2.2.1) r22.2.2.2.2.2.2], [some [.sl .u8 (.may false) r23.2.1, .int .i64 r23.2.2], some [.sl .str .own x10], some [.int .i64 r22.1, .int .i64 r22.2.1, .str r22.2.2.1, .sl .jnode (.may r22.2.2.2.1) r22.2.2.2.2.1, .sl .str (.may r22.2.2.2.2.2.1) r22.2.2.2.2.2.2], some [.int .i64 r22.1, .int .i64 r22.2.1, .str r22.2.2.1, .sl .jnode (.may r22.2.2.2.1) r22.2.2.2.2.1, .sl .str (.may r22.2.2.2.2.2.1) r22.2.2.2.2.2.2]])))))))))))) (
     ai (eX o0_0 o0_1 x10 x9 v1) (fun r25 =>
      some (.agg [.int .i64 r25.1, .int .i64 r25.2.1, .str r25.2.2.1, .sl .jnode (.may false) r25.2.2.2.1, .sl .str (.may false) r25.2.2.2.2.1], [some [.sl .u8 (.may false) r25.2.2.2.2.2.1, .int .i64 r25.2.2.2.2.2.2.1], some [.sl .str .own r25.2.2.2.2.2.2.2], some [.int .i64 r25.1, .int .i64 r25.2.1, .str r25.2.2.1, .sl .jnode (.may false) r25.2.2.2.1, .sl .str (.may false) r25.2.2.2.2.1]]))))))
theorem aiP (N : Nat) : ∀ (x : ln), pv N (kD x) = iw N x := by
 intro x
 kernel_rfl
noncomputable def lp (N : Nat) : St → Ro := fun s => run bA N kC (pu (run bA N)) s
noncomputable def kE (N : Nat) (q2 : ln → Ro) (x : iv) : Ro :=
 let v1 : Int := x.1
 let v7 : Int := x.2.1
 let v62 : Bool := x.2.2.1
 let o0_0 : Bs := x.2.2.2.1
 let o0_1 : Int := x.2.2.2.2.1
 let o1_0 : Bss := x.2.2.2.2.2.1
 let o2_0 : Int := x.2.2.2.2.2.2.1
 let o2_1 : Int := x.2.2.2.2.2.2.2.1
 let o2_2 : Bs := x.2.2.2.2.2.2.2.2.1
 let o2_3 : List ae := x.2.2.2.2.2.2.2.2.2.1
 let o2_4 : Bss := x.2.2.2.2.2.2.2.2.2.2
 cond v62 (
  let x5 : Int := (↑(List.length o1_0) : Int)
  ai (aU o0_0 o0_1 x5) (fun r10 =>
   chk ((decide (0 ≤ r10.1) && decide (r10.1 < ↑(List.length o1_0)))) (
    let x6 : Bs := List.getD o1_0 (Int.toNat r10.1) (af .str)
    ai (be x6) (fun r11 =>
     some (.agg [.int .i64 r11.1, .int .i64 r11.2.1, .str r11.2.2.1, .sl .jnode (.may false) r11.2.2.2.1, .sl .str (.may false) r11.2.2.2.2], [some [.sl .u8 (.may false) r10.2.1, .int .i64 r10.2.2], some [.sl .str .own o1_0], some [.int .i64 r11.1, .int .i64 r11.2.1, .str r11.2.2.1, .sl .jnode (.may false) r11.2.2.2.1, .sl .str (.may false) r11.2.2.2.2]]))))) (
  q2 (v1, v7, o0_0, o0_1, o1_0, o2_0, o2_1, o2_2, o2_3, o2_4))
noncomputable def ix (N : Nat) (x : iv) : Ro := kE N (fun z => iw N z) x
noncomputable def pw (N : Nat) : List (Nat × (St → Ro)) := (aI bA N kC (pu (run bA N)) ++ (aI bA N nt (fin cF) ++ []))
theorem aiQ (N : Nat) : ∀ (x : iv), lp N (eg x) = ix N x := by
 intro x
 have hX : ∀ C : Nat → St → Ro, bI C bA N kC (pu (bI C bA N)) (eg x) = kE N (fun z => C 1000001 (kD z)) x := by
  intro C
  kernel_rfl
 have h : lp N (eg x) = kE N (fun z => pv N (kD z)) x := (cA (C := ec (pw N)) (bL (aL (l := (pw N)) (by kernel_rfl))) (cL (f8 (bL (dz (aL (l := (pw N)) (by kernel_rfl)))) rfl)) _).trans ((hX _).trans (by kernel_rfl))
 have e2 : (fun z => pv N (kD z)) = (fun z => iw N z) := funext fun z => aiP N z
 rw [h, e2]
 rfl
noncomputable def px (N : Nat) : St → Ro := fun s => run bA N jK (fin cF) s
noncomputable def kF (N : Nat) (q1 : iv → Ro) (x : iu) : Ro :=
 let v1 : Int := x.1
 let v7 : Int := x.2.1
 let o0_0 : Bs := x.2.2.1
 let o0_1 : Int := x.2.2.2.1
 let o1_0 : Bss := x.2.2.2.2.1
 let o2_0 : Int := x.2.2.2.2.2.1
 let o2_1 : Int := x.2.2.2.2.2.2.1
 let o2_2 : Bs := x.2.2.2.2.2.2.2.1
 let o2_3 : List ae := x.2.2.2.2.2.2.2.2.1
 let o2_4 : Bss := x.2.2.2.2.2.2.2.2.2
 cond (decide (v7 < 8)) (
  chk ((decide (0 ≤ v7) && decide (v7 < ↑(List.length ([([105, 110, 116] : Bs), ([108, 111, 110, 103] : Bs), ([115, 116, 114, 105, 110, 103] : Bs), ([98, 121, 116, 101, 115] : Bs), ([98, 111, 111, 108, 101, 97, 110] : Bs), ([110, 117, 108, 108] : Bs), ([102, 108, 111, 97, 116] : Bs), ([100, 111, 117, 98, 108, 101] : Bs)] : Bss))))) (
   let x1 : Bs := List.getD ([([105, 110, 116] : Bs), ([108, 111, 110, 103] : Bs), ([115, 116, 114, 105, 110, 103] : Bs), ([98, 121, 116, 101, 115] : Bs), ([98, 111, 111, 108, 101, 97, 110] : Bs), ([110, 117, 108, 108] : Bs), ([102, 108, 111, 97, 116] : Bs), ([100, 111, 117, 98, 108, 101] : Bs)] : Bss) (Int.toNat v7) (af .str)
   ai (be x1) (fun r2 =>
    some (.agg [.int .i64 r2.1, .int .i64 r2.2.1, .str r2.2.2.1, .sl .jnode (.may false) r2.2.2.2.1, .sl .str (.may false) r2.2.2.2.2], [some [.sl .u8 (.may false) o0_0, .int .i64 o0_1], some [.sl .str .own o1_0], some [.int .i64 r2.1, .int .i64 r2.2.1, .str r2.2.2.1, .sl .jnode (.may false) r2.2.2.2.1, .sl .str (.may false) r2.2.2.2.2]])))) (
  cond (decide (v7 < 10)) (
   ai (be ([97, 114, 114, 97, 121] : Bs)) (fun r3 =>
    let x2 : Int := (IntKind.wrap .i64 (v1 + 1))
    ai (cu o0_0 o0_1 o1_0 x2) (fun r4 =>
     ai (dY true ([([116, 121, 112, 101] : Bs), ([105, 116, 101, 109, 115] : Bs)] : Bss) true ([⟨r3.1, r3.2.1, r3.2.2.1, r3.2.2.2.1, r3.2.2.2.2⟩, ⟨r4.1, r4.2.1, r4.2.2.1, r4.2.2.2.1, r4.2.2.2.2.1⟩] : List ae)) (fun r5 =>
      some (.agg [.int .i64 r5.1, .int .i64 r5.2.1, .str r5.2.2.1, .sl .jnode (.may r5.2.2.2.1) r5.2.2.2.2.1, .sl .str (.may r5.2.2.2.2.2.1) r5.2.2.2.2.2.2], [some [.sl .u8 (.may false) r4.2.2.2.2.2.1, .int .i64 r4.2.2.2.2.2.2.1], some [.sl .str .own r4.2.2.2.2.2.2.2], some [.int .i64 r5.1, .int .i64 r5.2.1, .str r5.2.2.1, .sl .jnode (.may r5.2.2.2.1) r5.2.2.2.2.1, .sl .str (.may r5.2.2.2.2.2.1) r5.2.2.2.2.2.2]]))))) (
   cond (v7 == 10) (
    ai (be ([109, 97, 112] : Bs)) (fun r6 =>
     let x3 : Int := (IntKind.wrap .i64 (v1 + 1))
     ai (cu o0_0 o0_1 o1_0 x3) (fun r7 =>
      ai (dY true ([([116, 121, 112, 101] : Bs), ([118, 97, 108, 117, 101, 115] : Bs)] : Bss) true ([⟨r6.1, r6.2.1, r6.2.2.1, r6.2.2.2.1, r6.2.2.2.2⟩, ⟨r7.1, r7.2.1, r7.2.2.1, r7.2.2.2.1, r7.2.2.2.2.1⟩] : List ae)) (fun r8 =>
       some (.agg [.int .i64 r8.1, .int .i64 r8.2.1, .str r8.2.2.1, .sl .jnode (.may r8.2.2.2.1) r8.2.2.2.2.1, .sl .str (.may r8.2.2.2.2.2.1) r8.2.2.2.2.2.2], [some [.sl .u8 (.may false) r7.2.2.2.2.2.1, .int .i64 r7.2.2.2.2.2.2.1], some [.sl .str .own r7.2.2.2.2.2.2.2], some [.int .i64 r8.1, .int .i64 r8.2.1, .str r8.2.2.1, .sl .jnode (.may r8.2.2.2.1) r8.2.2.2.2.1, .sl .str (.may r8.2.2.2.2.2.1) r8.2.2.2.2.2.2]]))))) (
    cond (decide (v7 < 14)) (
     ai (jo o0_0 o0_1 o1_0 v1) (fun r9 =>
      some (.agg [.int .i64 r9.1, .int .i64 r9.2.1, .str r9.2.2.1, .sl .jnode (.may false) r9.2.2.2.1, .sl .str (.may false) r9.2.2.2.2.1], [some [.sl .u8 (.may false) r9.2.2.2.2.2.1, .int .i64 r9.2.2.2.2.2.2.1], some [.sl .str .own r9.2.2.2.2.2.2.2], some [.int .i64 r9.1, .int .i64 r9.2.1, .str r9.2.2.1, .sl .jnode (.may false) r9.2.2.2.1, .sl .str (.may false) r9.2.2.2.2.1]]))) (
     cond (v7 == 14) (
      let x4 : Int := (↑(List.length o1_0) : Int)
      q1 (v1, v7, decide (0 < x4), o0_0, o0_1, o1_0, o2_0, o2_1, o2_2, o2_3, o2_4)) (
      q1 (v1, v7, false, o0_0, o0_1, o1_0, o2_0, o2_1, o2_2, o2_3, o2_4))))))
noncomputable def lq (N : Nat) (x : iu) : Ro := kF N (fun z => ix N z) x
noncomputable def vl (N : Nat) : List (Nat × (St → Ro)) := (aI bA N jK (fin cF) ++ [])
theorem aiR (N : Nat) : ∀ (x : iu), px N (gI x) = lq N x := by
 intro x
 have hX : ∀ C : Nat → St → Ro, bI C bA N jK (fin cF) (gI x) = kF N (fun z => C 1000000 (eg z)) x := by
  intro C
  kernel_rfl
 have h : px N (gI x) = kF N (fun z => lp N (eg z)) x := (cA (C := ec (vl N)) (bL (aL (l := (vl N)) (by kernel_rfl))) rfl _).trans ((hX _).trans (by kernel_rfl))
 have e1 : (fun z => lp N (eg z)) = (fun z => ix N z) := funext fun z => aiQ N z
 rw [h, e1]
 rfl
noncomputable def jr (N : Nat) (o0_0 : Bs) (o0_1 : Int) (o1_0 : Bss) (p1 : Int) (q0 : iu → Ro) : Ro :=
 ai (aU o0_0 o0_1 20) (fun r1 =>
  cond (decide (3 < p1)) (
   q0 (p1, (Int.tmod r1.1 8), r1.2.1, r1.2.2, o1_0, 0, 0, ([] : Bs), ([] : List ae), ([] : Bss))) (
   ai (ke r1.2.1 r1.2.2) (fun r26 =>
    cond r26.1 (
     q0 (p1, (Int.tmod r1.1 8), r26.2.1, r26.2.2, o1_0, 0, 0, ([] : Bs), ([] : List ae), ([] : Bss))) (
     q0 (p1, r1.1, r26.2.1, r26.2.2, o1_0, 0, 0, ([] : Bs), ([] : List ae), ([] : Bss))))))
noncomputable def qC (N : Nat) (o0_0 : Bs) (o0_1 : Int) (o1_0 : Bss) (p1 : Int) : Ro := jr N o0_0 o0_1 o1_0 p1 (fun z => lq N z)
noncomputable def am5 (N : Nat) : List (Nat × (St → Ro)) := aI bA N qB (fin cF) ++ []
theorem akl (N : Nat) (o0_0 : Bs) (o0_1 : Int) (o1_0 : Bss) (p1 : Int) : aE bA N 153 cF qB [.ptr 0 0, .int .i64 p1, .ptr 1 0] [some [.sl .u8 (.may false) o0_0, .int .i64 o0_1], some [.sl .str .own o1_0]] = qC N o0_0 o0_1 o1_0 p1 :=
 (bx (am5 N) (by kernel_rfl) rfl (fun C => jr N o0_0 o0_1 o1_0 p1 (fun z => C 1000002 (gI z))) (fun C => by kernel_rfl)).trans (Eq.trans (b := jr N o0_0 o0_1 o1_0 p1 (fun z => px N (gI z))) (by kernel_rfl) (congrArg (jr N o0_0 o0_1 o1_0 p1) (funext fun z => aiR N z)))
theorem akm (N : Nat) (o0_0 : Bs) (o0_1 : Int) (o1_0 : Bss) (p1 : Int) (h : Tot (qC N o0_0 o0_1 o1_0 p1) (fun z => ∃ (y0 : Int) (y1 : Int) (y2 : Bs) (y3 : List ae) (y4 : Bss) (y5 : Bs) (y6 : Int) (y7 : Bss) (rest : List an), z.1.dimR = .agg [.int .i64 y0, .int .i64 y1, .str y2, .sl .jnode (.may false) y3, .sl .str (.may false) y4] ∧ z.2 = some [.sl .u8 (.may false) y5, .int .i64 y6] :: some [.sl .str .own y7] :: rest ∧ ef o0_0 o0_1 o1_0 p1 (y0, y1, y2, y3, y4, y5, y6, y7))) : ∃ r, cu o0_0 o0_1 o1_0 p1 r := by
 obtain ⟨⟨v, hp⟩, hz, y0, y1, y2, y3, y4, y5, y6, y7, rest, e1, e2, hq⟩ := h
 simp only at e1 e2
 subst e2
 exact ⟨(y0, y1, y2, y3, y4, y5, y6, y7), aP.dimR (FnC.objs (css := [[.sl .u8 (.may false) o0_0, .int .i64 o0_1], [.sl .str .own o1_0]]) (css' := [[.sl .u8 (.may false) y5, .int .i64 y6], [.sl .str .own y7]]) al7 (akl N o0_0 o0_1 o1_0 p1) hz rfl) e1, hq⟩
noncomputable def wM : au := tab (P := Try.prog) [] [nV, rG] [] [wi]
noncomputable def ahn : IR := (.cond (.t 14) (.reg [Fa 15 3 7, ⟨none, .ld 16 1 false false (.t 15), some ([3], [])⟩, Pp (.bsl 17 .str [(.c (.str ([105, 110, 116] : Bs))), (.c (.str ([115, 116, 114, 105, 110, 103] : Bs)))] true), Mv 18 0, ⟨none, .call (some 19) 60 [(.t 18), (.c (.int .i64 2))], some ([], [0])⟩, Pp (.ixa 20 .str (.t 17) (.t 19)), Ld 21 1 false 20, Pp (.call (some 22) 86 [(.t 21)]), Pp (.bsl 23 .jnode [(.t 22)] true), Pp (.app 24 .jnode (.tk 16) (.t 23)), Fa 25 3 7, ⟨none, .st none 1 (.t 25) (.tk 24), some ([], [3])⟩] [[], [0], [], [], [3], [2, 3, 4], [2, 3, 4, 5], [2, 3, 4, 5, 6], [2, 3, 4, 5, 6, 7], [0, 1, 2, 3, 4, 5, 6, 7, 8], [0, 1, 2, 3, 4, 5, 6, 7, 8, 9], [0, 1, 2, 3, 4, 5, 6, 7, 8, 9, 10]]) .skip)
noncomputable def aho : IR := (.cond (.t 33) (.reg [Fa 34 3 7, Pp (.ld 35 1 false true (.t 34)), Ld 36 5 true 8, Pp (.bsl 37 .jnode [(.t 36)] true), Pp (.app 38 .jnode (.tk 35) (.t 37)), Fa 39 3 7, Pp (.st none 1 (.t 39) (.tk 38))] []) .skip)
noncomputable def ahp : IR := .ret
noncomputable def ahq : IR := (.seq (.reg [Pp (.ld 40 5 true false (.t 7)), Pp (.st none 5 (.t 6) (.t 40))] []) ahp)
noncomputable def ahr : IR := (.seq (.seq (.reg [Fa 31 0 8, Ld 32 1 false 31, Bc 33 .eql 32 6] []) aho) ahq)
noncomputable def ahs : IR := (.seq (.reg [Mv 26 0, Mv 27 1, Bc 28 .add 27 1, Mv 29 2, Pp (.call (some 30) 117 [(.t 26), (.t 28), (.t 29)]), Pp (.alr 8 5), Pp (.frz none 8 5 (.t 30))] []) ahr)
noncomputable def aht : IR := (.seq (.seq (.reg [Mv 12 0, Pp (.call (some 13) 60 [(.t 12), (.c (.int .i64 2))]), Bc 14 .eql 13 0] []) ahn) ahs)
noncomputable def ahu : IR := (.seq (.reg [Pp (.call (some 9) 86 [(.c (.str ([110, 117, 108, 108] : Bs)))]), Pp (.bsl 10 .jnode [(.t 9)] true), Pp (.bld 11 [.int .i64 0, .int .i64 0, .str ([] : Bs), .sl .jnode .own ([] : List ae), .sl .str .own ([] : Bss)] [(0, 1, (.c (.int .i64 5))), (3, 1, (.t 10))]), Pp (.new 7 [.int .i64 0, .int .i64 0, .str ([] : Bs), .sl .jnode .own ([] : List ae), .sl .str .own ([] : Bss)]), Pp (.st none 5 (.t 7) (.t 11))] []) aht)
noncomputable def vm : IR := (.seq (.reg [Pp (.new 6 [.int .i64 0, .int .i64 0, .str ([] : Bs), .sl .jnode .own ([] : List ae), .sl .str .own ([] : Bss)])] []) ahu)
noncomputable def vn : List RV := [.cell 6 5 true]
theorem akn : FnC Try.prog wM [60, 117, 2000060, 2000117] 2 wu Try.f146 vm vn := fnC (by kernel_rfl) Try.func146 (by kernel_rfl) (by kernel_rfl) (by decide)
noncomputable def vo (N : Nat) (o0_0 : Bs) (o0_1 : Int) (o1_0 : Bss) (p1 : Int)  : Ro :=
 ai (be ([110, 117, 108, 108] : Bs)) (fun r1 =>
  ai (aU o0_0 o0_1 2) (fun r2 =>
   cond (r2.1 == 0) (
    ai (aU r2.2.1 r2.2.2 2) (fun r3 =>
     chk ((decide (0 ≤ r3.1) && decide (r3.1 < ↑(List.length ([([105, 110, 116] : Bs), ([115, 116, 114, 105, 110, 103] : Bs)] : Bss))))) (
      let x1 : Bs := List.getD ([([105, 110, 116] : Bs), ([115, 116, 114, 105, 110, 103] : Bs)] : Bss) (Int.toNat r3.1) (af .str)
      ai (be x1) (fun r4 =>
       chk ((true && decide (0 < List.length ([⟨r4.1, r4.2.1, r4.2.2.1, r4.2.2.2.1, r4.2.2.2.2⟩] : List ae))) && decide ((List.length ([⟨r1.1, r1.2.1, r1.2.2.1, r1.2.2.2.1, r1.2.2.2.2⟩] : List ae) + List.length ([⟨r4.1, r4.2.1, r4.2.2.1, r4.2.2.2.1, r4.2.2.2.2⟩] : List ae)) * 80 ≤ 140737488355328)) (
        let x2 : List ae := (([⟨r1.1, r1.2.1, r1.2.2.1, r1.2.2.2.1, r1.2.2.2.2⟩] : List ae) ++ ([⟨r4.1, r4.2.1, r4.2.2.1, r4.2.2.2.1, r4.2.2.2.2⟩] : List ae))
        let x3 : Int := (IntKind.wrap .i64 (p1 + 1))
        ai (cu r3.2.1 r3.2.2 o1_0 x3) (fun r5 =>
         cond (r5.1 == 6) (
          chk (decide ((List.length x2 + List.length ([⟨r5.1, r5.2.1, r5.2.2.1, r5.2.2.2.1, r5.2.2.2.2.1⟩] : List ae)) * 80 ≤ 140737488355328)) (
           let x4 : List ae := (x2 ++ ([⟨r5.1, r5.2.1, r5.2.2.1, r5.2.2.2.1, r5.2.2.2.2.1⟩] : List ae))
           some (.agg [.int .i64 5, .int .i64 0, .str ([] : Bs), .sl .jnode (.may false) x4, .sl .str (.may false) ([] : Bss)], [some [.sl .u8 (.may false) r5.2.2.2.2.2.1, .int .i64 r5.2.2.2.2.2.2.1], some [.sl .str .own r5.2.2.2.2.2.2.2], some [.int .i64 5, .int .i64 0, .str ([] : Bs), .sl .jnode (.may false) x4, .sl .str (.may false) ([] : Bss)], some [.int .i64 5, .int .i64 0, .str ([] : Bs), .sl .jnode .own x4, .sl .str .own ([] : Bss)]]))) (
          some (.agg [.int .i64 5, .int .i64 0, .str ([] : Bs), .sl .jnode (.may false) x2, .sl .str (.may false) ([] : Bss)], [some [.sl .u8 (.may false) r5.2.2.2.2.2.1, .int .i64 r5.2.2.2.2.2.2.1], some [.sl .str .own r5.2.2.2.2.2.2.2], some [.int .i64 5, .int .i64 0, .str ([] : Bs), .sl .jnode (.may false) x2, .sl .str (.may false) ([] : Bss)], some [.int .i64 5, .int .i64 0, .str ([] : Bs), .sl .jnode .own x2, .sl .str .own ([] : Bss)]])))))))) (
    let x5 : Int := (IntKind.wrap .i64 (p1 + 1))
    ai (cu r2.2.1 r2.2.2 o1_0 x5) (fun r6 =>
     cond (r6.1 == 6) (
      chk ((true && decide (0 < List.length ([⟨r6.1, r6.2.1, r6.2.2.1, r6.2.2.2.1, r6.2.2.2.2.1⟩] : List ae))) && decide ((List.length ([⟨r1.1, r1.2.1, r1.2.2.1, r1.2.2.2.1, r1.2.2.2.2⟩] : List ae) + List.length ([⟨r6.1, r6.2.1, r6.2.2.1, r6.2.2.2.1, r6.2.2.2.2.1⟩] : List ae)) * 80 ≤ 140737488355328)) (
       let x6 : List ae := (([⟨r1.1, r1.2.1, r1.2.2.1, r1.2.2.2.1, r1.2.2.2.2⟩] : List ae) ++ ([⟨r6.1, r6.2.1, r6.2.2.1, r6.2.2.2.1, r6.2.2.2.2.1⟩] : List ae))
       some (.agg [.int .i64 5, .int .i64 0, .str ([] : Bs), .sl .jnode (.may false) x6, .sl .str (.may false) ([] : Bss)], [some [.sl .u8 (.may false) r6.2.2.2.2.2.1, .int .i64 r6.2.2.2.2.2.2.1], some [.sl .str .own r6.2.2.2.2.2.2.2], some [.int .i64 5, .int .i64 0, .str ([] : Bs), .sl .jnode (.may false) x6, .sl .str (.may false) ([] : Bss)], some [.int .i64 5, .int .i64 0, .str ([] : Bs), .sl .jnode .own x6, .sl .str .own ([] : Bss)]]))) (
      some (.agg [.int .i64 5, .int .i64 0, .str ([] : Bs), .sl .jnode (.may true) ([⟨r1.1, r1.2.1, r1.2.2.1, r1.2.2.2.1, r1.2.2.2.2⟩] : List ae), .sl .str (.may false) ([] : Bss)], [some [.sl .u8 (.may false) r6.2.2.2.2.2.1, .int .i64 r6.2.2.2.2.2.2.1], some [.sl .str .own r6.2.2.2.2.2.2.2], some [.int .i64 5, .int .i64 0, .str ([] : Bs), .sl .jnode (.may true) ([⟨r1.1, r1.2.1, r1.2.2.1, r1.2.2.2.1, r1.2.2.2.2⟩] : List ae), .sl .str (.may false) ([] : Bss)], some [.int .i64 5, .int .i64 0, .str ([] : Bs), .sl .jnode (.may true) ([⟨r1.1, r1.2.1, r1.2.2.1, r1.2.2.2.1, r1.2.2.2.2⟩] : List ae), .sl .str .own ([] : Bss)]]))))))
noncomputable def py (N : Nat) (o0_0 : Bs) (o0_1 : Int) (o1_0 : Bss) (p1 : Int) : Ro := vo N o0_0 o0_1 o1_0 p1
theorem aiS (N : Nat) (o0_0 : Bs) (o0_1 : Int) (o1_0 : Bss) (p1 : Int) : aE wM N 41 vn vm [.ptr 0 0, .int .i64 p1, .ptr 1 0] [some [.sl .u8 (.may false) o0_0, .int .i64 o0_1], some [.sl .str .own o1_0]] = py N o0_0 o0_1 o1_0 p1 := by kernel_rfl
theorem aiT (N : Nat) (o0_0 : Bs) (o0_1 : Int) (o1_0 : Bss) (p1 : Int) (h : Tot (py N o0_0 o0_1 o1_0 p1) (fun z => ∃ (y0 : Int) (y1 : Int) (y2 : Bs) (y3 : List ae) (y4 : Bss) (y5 : Bs) (y6 : Int) (y7 : Bss) (rest : List an), z.1.dimR = .agg [.int .i64 y0, .int .i64 y1, .str y2, .sl .jnode (.may false) y3, .sl .str (.may false) y4] ∧ z.2 = some [.sl .u8 (.may false) y5, .int .i64 y6] :: some [.sl .str .own y7] :: rest ∧ tv o0_0 o0_1 o1_0 p1 (y0, y1, y2, y3, y4, y5, y6, y7))) : ∃ r, jo o0_0 o0_1 o1_0 p1 r := by
 obtain ⟨⟨v, hp⟩, hz, y0, y1, y2, y3, y4, y5, y6, y7, rest, e1, e2, hq⟩ := h
 simp only at e1 e2
 subst e2
 exact ⟨(y0, y1, y2, y3, y4, y5, y6, y7), aP.dimR (FnC.objs (css := [[.sl .u8 (.may false) o0_0, .int .i64 o0_1], [.sl .str .own o1_0]]) (css' := [[.sl .u8 (.may false) y5, .int .i64 y6], [.sl .str .own y7]]) akn (aiS N o0_0 o0_1 o1_0 p1) hz rfl) e1, hq⟩
noncomputable def iy : au := tab (P := Try.prog) [] [nV, rG, ah6] [] [wi, alA]
noncomputable def afc : IR := (.cond (.t 19) .skip (.exit 0))
noncomputable def afd : IR := (.cond (.t 40) (.reg [Fa 41 4 13, ⟨none, .ld 42 1 false false (.t 41), some ([4], [])⟩, Pp (.bsl 43 .str [(.c (.str ([100, 101, 102, 97, 117, 108, 116] : Bs)))] true), Pp (.app 44 .str (.tk 42) (.t 43)), Fa 45 3 13, ⟨none, .ld 46 1 false false (.t 45), some ([4], [])⟩, Mv 47 0, Ld 48 5 true 12, ⟨none, .call (some 49) 119 [(.t 47), (.t 48)], some ([], [0])⟩, Pp (.bsl 50 .jnode [(.t 49)] true), Pp (.app 51 .jnode (.tk 46) (.t 50)), Fa 52 4 13, ⟨none, .st none 1 (.t 52) (.tk 44), some ([], [4])⟩, Fa 53 3 13, ⟨none, .st none 1 (.t 53) (.tk 51), some ([], [4])⟩] [[], [0], [], [0, 1, 2], [], [4], [], [], [0, 1, 2, 3, 6, 7], [0, 1, 2, 3, 6, 7, 8], [0, 1, 2, 3, 4, 5, 6, 7, 8, 9], [0, 1, 2, 3, 4, 5], [0, 1, 2, 3, 4, 5, 6, 7, 8, 9, 10, 11], [0, 1, 2, 3, 4, 5, 6, 7, 8, 9, 10, 11, 12], [0, 1, 2, 3, 4, 5, 6, 7, 8, 9, 10, 11, 12, 13]]) .skip)
noncomputable def afe : IR := (.reg [Fa 54 3 9, Pp (.ld 55 1 false true (.t 54)), Pp (.ld 56 5 true false (.t 13)), Pp (.bsl 57 .jnode [(.t 56)] true), Pp (.app 58 .jnode (.tk 55) (.t 57)), Fa 59 3 9, Pp (.st none 1 (.t 59) (.tk 58))] [])
noncomputable def aff : IR := (.seq (.seq (.reg [Mv 38 0, Pp (.call (some 39) 60 [(.t 38), (.c (.int .i64 3))]), Bc 40 .eql 39 0] []) afd) afe)
noncomputable def afg : IR := (.seq (.reg [Pp (.bsl 27 .str [(.c (.str ([110, 97, 109, 101] : Bs))), (.c (.str ([116, 121, 112, 101] : Bs)))] true), Mv 28 10, Pp (.bin 29 .add (.c (.int .i64 97)) (.t 28)), Pp (.cvi 30 .u8 (.t 29)), Pp (.bsl 31 .u8 [(.t 30)] true), Pp (.b2s 32 (.t 31)), Pp (.bin 33 .add (.c (.str ([102] : Bs))) (.t 32)), Pp (.call (some 34) 86 [(.t 33)]), Ld 35 5 true 12, Pp (.bsl 36 .jnode [(.t 34), (.t 35)] true), Pp (.call (some 37) 118 [(.t 27), (.t 36)]), Pp (.new 13 [.int .i64 0, .int .i64 0, .str ([] : Bs), .sl .jnode .own ([] : List ae), .sl .str .own ([] : Bss)]), ⟨none, .st none 5 (.t 13) (.t 37), some ([], [4])⟩] [[], [], [1], [1, 2], [1, 2, 3], [1, 2, 3, 4], [1, 2, 3, 4, 5], [1, 2, 3, 4, 5, 6], [], [1, 2, 3, 4, 5, 6, 7, 8], [0, 1, 2, 3, 4, 5, 6, 7, 8, 9], [], [0, 1, 2, 3, 4, 5, 6, 7, 8, 9, 10, 11]]) aff)
noncomputable def afh : IR := (.reg [Mv 20 10, Bc 21 .add 20 1, Mv 10 21] [])
noncomputable def afi : IR := (.seq (.block 1 (.seq (.reg [Mv 22 0, Mv 23 2, Bc 24 .add 23 1, Mv 25 3, Pp (.call (some 26) 117 [(.t 22), (.t 24), (.t 25)]), Pp (.alr 12 5), Pp (.frz none 12 5 (.t 26))] []) afg)) afh)
noncomputable def sj : IR := (.seq (.seq (.reg [Mv 17 10, Mv 18 11, Bi 19 .lss 17 18] []) afc) afi)
noncomputable def afj : IR := (.block 0 (.loop [0, 1, 2, 3, 8, 9, 10, 11, 1000000] 4 sj))
noncomputable def afk : IR := .ret
noncomputable def rE : IR := (.seq (.reg [Pp (.bsl 60 .str [(.c (.str ([116, 121, 112, 101] : Bs))), (.c (.str ([110, 97, 109, 101] : Bs))), (.c (.str ([110, 97, 109, 101, 115, 112, 97, 99, 101] : Bs))), (.c (.str ([102, 105, 101, 108, 100, 115] : Bs)))] true), Pp (.call (some 61) 86 [(.c (.str ([114, 101, 99, 111, 114, 100] : Bs)))]), Mv 62 1, Pp (.call (some 63) 86 [(.t 62)]), Pp (.call (some 64) 86 [(.c (.str ([115] : Bs)))]), ⟨none, .ld 65 5 true false (.t 9), some ([3], [])⟩, Pp (.bsl 66 .jnode [(.t 61), (.t 63), (.t 64), (.t 65)] true), Pp (.call (some 67) 118 [(.t 60), (.t 66)]), ⟨none, .st none 5 (.t 8) (.t 67), some ([], [2])⟩] [[], [], [], [1, 2], [1, 2, 3], [], [1, 2, 3, 4, 5], [0, 1, 2, 3, 4, 5, 6], [0, 1, 2, 3, 4, 5, 6, 7]]) afk)
noncomputable def ack : IR := (.seq (.seq (.reg [Mv 15 0, Pp (.call (some 16) 60 [(.t 15), (.c (.int .i64 5))]), Pp (.mov 10 (.c (.int .i64 0))), Mv 11 16] []) afj) rE)
noncomputable def acl : IR := (.seq (.reg [Pp (.bld 14 [.int .i64 0, .int .i64 0, .str ([] : Bs), .sl .jnode .own ([] : List ae), .sl .str .own ([] : Bss)] [(0, 1, (.c (.int .i64 5)))]), Pp (.new 9 [.int .i64 0, .int .i64 0, .str ([] : Bs), .sl .jnode .own ([] : List ae), .sl .str .own ([] : Bss)]), Pp (.st none 5 (.t 9) (.t 14))] []) ack)
noncomputable def oq : IR := (.seq (.reg [Pp (.new 8 [.int .i64 0, .int .i64 0, .str ([] : Bs), .sl .jnode .own ([] : List ae), .sl .str .own ([] : Bss)])] []) acl)
noncomputable def kG : List RV := [.cell 8 5 true]
theorem aiU : FnC Try.prog iy [60, 117, 119, 2000060, 2000117, 2000119] 2 u7 Try.f73 oq kG := fnC (by kernel_rfl) Try.func73 (by kernel_rfl) (by kernel_rfl) (by decide)
noncomputable def ahv (R : IR → (Ex → St → Ro) → St → Ro) (again0 : St → Ro) : Ex → St → Ro := (br again0 [0, 1, 2, 3, 8, 9, 10, 11, 1000000] 4 (aD 0 (bo (R rE) (fin kG))))
abbrev fY : Type := (Bs × Int × Int × Int × Bs × Int × Bss × Int × Int × Bs × List ae × Bss × Int × Int × Bs × List ae × Bss)
noncomputable def fo (x : fY) : St := { env := (.ptr 0 0 :: .str x.1 :: .int .i64 x.2.1 :: .ptr 1 0 :: (U 4 (.ptr 2 0 :: .ptr 3 0 :: .int .i64 x.2.2.1 :: .int .i64 x.2.2.2.1 :: (U 56 [])))), hp := [some [.sl .u8 (.may false) x.2.2.2.2.1, .int .i64 x.2.2.2.2.2.1], some [.sl .str .own x.2.2.2.2.2.2.1], some [.int .i64 x.2.2.2.2.2.2.2.1, .int .i64 x.2.2.2.2.2.2.2.2.1, .str x.2.2.2.2.2.2.2.2.2.1, .sl .jnode .own x.2.2.2.2.2.2.2.2.2.2.1, .sl .str .own x.2.2.2.2.2.2.2.2.2.2.2.1], some [.int .i64 x.2.2.2.2.2.2.2.2.2.2.2.2.1, .int .i64 x.2.2.2.2.2.2.2.2.2.2.2.2.2.1, .str x.2.2.2.2.2.2.2.2.2.2.2.2.2.2.1, .sl .jnode .own x.2.2.2.2.2.2.2.2.2.2.2.2.2.2.2.1, .sl .str .own x.2.2.2.2.2.2.2.2.2.2.2.2.2.2.2.2]] }
noncomputable def nu (N : Nat) : (St → Ro) → St → Ro := fun again0 s => run iy N sj (ahv (run iy N) again0) s
noncomputable def jL (N : Nat) (again0 : fY → Ro) (x : fY) : Ro :=
 let v1 : Bs := x.1
 let v2 : Int := x.2.1
 let v10 : Int := x.2.2.1
 let v11 : Int := x.2.2.2.1
 let o0_0 : Bs := x.2.2.2.2.1
 let o0_1 : Int := x.2.2.2.2.2.1
 let o1_0 : Bss := x.2.2.2.2.2.2.1
 let o2_0 : Int := x.2.2.2.2.2.2.2.1
 let o2_1 : Int := x.2.2.2.2.2.2.2.2.1
 let o2_2 : Bs := x.2.2.2.2.2.2.2.2.2.1
 let o2_3 : List ae := x.2.2.2.2.2.2.2.2.2.2.1
 let o2_4 : Bss := x.2.2.2.2.2.2.2.2.2.2.2.1
 let o3_0 : Int := x.2.2.2.2.2.2.2.2.2.2.2.2.1
 let o3_1 : Int := x.2.2.2.2.2.2.2.2.2.2.2.2.2.1
 let o3_2 : Bs := x.2.2.2.2.2.2.2.2.2.2.2.2.2.2.1
 let o3_3 : List ae := x.2.2.2.2.2.2.2.2.2.2.2.2.2.2.2.1
 let o3_4 : Bss := x.2.2.2.2.2.2.2.2.2.2.2.2.2.2.2.2
 cond (decide (v10 < v11)) (
  let x1 : Int := (IntKind.wrap .i64 (v2 + 1))
  ai (cu o0_0 o0_1 o1_0 x1) (fun r2 =>
   let x2 : Int := (IntKind.wrap .i64 (97 + v10))
   chk (decide (List.length ([102] : Bs) + List.length ([(UInt8.ofNat (Int.toNat (IntKind.wrap .u8 x2)))] : Bs) ≤ 9223372036854775807)) (
    let x3 : Bs := (([102] : Bs) ++ ([(UInt8.ofNat (Int.toNat (IntKind.wrap .u8 x2)))] : Bs))
    ai (be x3) (fun r3 =>
     ai (dY true ([([110, 97, 109, 101] : Bs), ([116, 121, 112, 101] : Bs)] : Bss) true ([⟨r3.1, r3.2.1, r3.2.2.1, r3.2.2.2.1, r3.2.2.2.2⟩, ⟨r2.1, r2.2.1, r2.2.2.1, r2.2.2.2.1, r2.2.2.2.2.1⟩] : List ae)) (fun r4 =>
      ai (aU r2.2.2.2.2.2.1 r2.2.2.2.2.2.2.1 3) (fun r5 =>
       cond (r5.1 == 0) (
        chk ((r4.2.2.2.2.2.1 && decide (0 < List.length ([([100, 101, 102, 97, 117, 108, 116] : Bs)] : Bss))) && decide ((List.length r4.2.2.2.2.2.2 + List.length ([([100, 101, 102, 97, 117, 108, 116] : Bs)] : Bss)) * 16 ≤ 140737488355328)) (
         let x4 : Bss := (r4.2.2.2.2.2.2 ++ ([([100, 101, 102, 97, 117, 108, 116] : Bs)] : Bss))
         ai (gi r5.2.1 r5.2.2 r2.1 r2.2.1 r2.2.2.1 r2.2.2.2.1 r2.2.2.2.2.1) (fun r6 =>
          chk ((r4.2.2.2.1 && decide (0 < List.length ([⟨r6.1, r6.2.1, r6.2.2.1, r6.2.2.2.1, r6.2.2.2.2.1⟩] : List ae))) && decide ((List.length r4.2.2.2.2.1 + List.length ([⟨r6.1, r6.2.1, r6.2.2.1, r6.2.2.2.1, r6.2.2.2.2.1⟩] : List ae)) * 80 ≤ 140737488355328)) (
           let x5 : List ae := (r4.2.2.2.2.1 ++ ([⟨r6.1, r6.2.1, r6.2.2.1, r6.2.2.2.1, r6.2.2.2.2.1⟩] : List ae))
           chk (decide ((List.length o3_3 + List.length ([⟨r4.1, r4.2.1, r4.2.2.1, x5, x4⟩] : List ae)) * 80 ≤ 140737488355328)) (
            let x6 : List ae := (o3_3 ++ ([⟨r4.1, r4.2.1, r4.2.2.1, x5, x4⟩] : List ae))
            let x7 : Int := (IntKind.wrap .i64 (v10 + 1))
            again0 (v1, v2, x7, v11, r6.2.2.2.2.2.1, r6.2.2.2.2.2.2, r2.2.2.2.2.2.2.2, o2_0, o2_1, o2_2, o2_3, o2_4, o3_0, o3_1, o3_2, x6, o3_4)))))) (
        chk (decide ((List.length o3_3 + List.length ([⟨r4.1, r4.2.1, r4.2.2.1, r4.2.2.2.2.1, r4.2.2.2.2.2.2⟩] : List ae)) * 80 ≤ 140737488355328)) (
         let x8 : List ae := (o3_3 ++ ([⟨r4.1, r4.2.1, r4.2.2.1, r4.2.2.2.2.1, r4.2.2.2.2.2.2⟩] : List ae))
         let x9 : Int := (IntKind.wrap .i64 (v10 + 1))
         again0 (v1, v2, x9, v11, r5.2.1, r5.2.2, r2.2.2.2.2.2.2.2, o2_0, o2_1, o2_2, o2_3, o2_4, o3_0, o3_1, o3_2, x8, o3_4))))))))) (
  ai (be ([114, 101, 99, 111, 114, 100] : Bs)) (fun r7 =>
   ai (be v1) (fun r8 =>
    ai (be ([115] : Bs)) (fun r9 =>
     ai (dY true ([([116, 121, 112, 101] : Bs), ([110, 97, 109, 101] : Bs), ([110, 97, 109, 101, 115, 112, 97, 99, 101] : Bs), ([102, 105, 101, 108, 100, 115] : Bs)] : Bss) true ([⟨r7.1, r7.2.1, r7.2.2.1, r7.2.2.2.1, r7.2.2.2.2⟩, ⟨r8.1, r8.2.1, r8.2.2.1, r8.2.2.2.1, r8.2.2.2.2⟩, ⟨r9.1, r9.2.1, r9.2.2.1, r9.2.2.2.1, r9.2.2.2.2⟩, ⟨o3_0, o3_1, o3_2, o3_3, o3_4⟩] : List ae)) (fun r10 =>
      some (.agg [.int .i64 r10.1, .int .i64 r10.2.1, .str r10.2.2.1, .sl .jnode (.may r10.2.2.2.1) r10.2.2.2.2.1, .sl .str (.may r10.2.2.2.2.2.1) r10.2.2.2.2.2.2], [some [.sl .u8 (.may false) o0_0, .int .i64 o0_1], some [.sl .str .own o1_0], some [.int .i64 r10.1, .int .i64 r10.2.1, .str r10.2.2.1, .sl .jnode (.may r10.2.2.2.1) r10.2.2.2.2.1, .sl .str (.may r10.2.2.2.2.2.1) r10.2.2.2.2.2.2], some [.int .i64 o3_0, .int .i64 o3_1, .str o3_2, .sl .jnode .own o3_3, .sl .str .own o3_4]]))))))
theorem afl (N : Nat) : ∀ (again0 : St → Ro) (x : fY), nu N again0 (fo x) = jL N (fun y => again0 (fo y)) x := by
 intro again0 x
 kernel_rfl
noncomputable def gJ (N : Nat) (o0_0 : Bs) (o0_1 : Int) (o1_0 : Bss) (p1 : Bs) (p2 : Int) (q0 : fY → Ro) : Ro :=
 ai (aU o0_0 o0_1 5) (fun r1 =>
  q0 (p1, p2, 0, r1.1, r1.2.1, r1.2.2, o1_0, 0, 0, ([] : Bs), ([] : List ae), ([] : Bss), 5, 0, ([] : Bs), ([] : List ae), ([] : Bss)))
noncomputable def ot (N : Nat) (o0_0 : Bs) (o0_1 : Int) (o1_0 : Bss) (p1 : Bs) (p2 : Int) : Ro := gJ N o0_0 o0_1 o1_0 p1 p2 (fun z => aB N (jL N) z)
noncomputable def ako (N : Nat) : List (Nat × (St → Ro)) := aI iy N oq (fin kG) ++ []
theorem ahw (N : Nat) (o0_0 : Bs) (o0_1 : Int) (o1_0 : Bss) (p1 : Bs) (p2 : Int) : aE iy N 68 kG oq [.ptr 0 0, .str p1, .int .i64 p2, .ptr 1 0] [some [.sl .u8 (.may false) o0_0, .int .i64 o0_1], some [.sl .str .own o1_0]] = ot N o0_0 o0_1 o1_0 p1 p2 :=
 (bx (ako N) (by kernel_rfl) rfl (fun C => gJ N o0_0 o0_1 o1_0 p1 p2 (fun z => C 1000000 (fo z))) (fun C => by kernel_rfl)).trans (Eq.trans (b := gJ N o0_0 o0_1 o1_0 p1 p2 (fun z => aW N (nu N) (fo z))) (by kernel_rfl) (congrArg (gJ N o0_0 o0_1 o1_0 p1 p2) (funext fun z => aT (fo) (nu N) (jL N) (afl N) N z)))
theorem ahx (N : Nat) (o0_0 : Bs) (o0_1 : Int) (o1_0 : Bss) (p1 : Bs) (p2 : Int) (h : Tot (ot N o0_0 o0_1 o1_0 p1 p2) (fun z => ∃ (y0 : Int) (y1 : Int) (y2 : Bs) (y3 : List ae) (y4 : Bss) (y5 : Bs) (y6 : Int) (y7 : Bss) (rest : List an), z.1.dimR = .agg [.int .i64 y0, .int .i64 y1, .str y2, .sl .jnode (.may false) y3, .sl .str (.may false) y4] ∧ z.2 = some [.sl .u8 (.may false) y5, .int .i64 y6] :: some [.sl .str .own y7] :: rest ∧ rR o0_0 o0_1 o1_0 p1 p2 (y0, y1, y2, y3, y4, y5, y6, y7))) : ∃ r, eX o0_0 o0_1 o1_0 p1 p2 r := by
 obtain ⟨⟨v, hp⟩, hz, y0, y1, y2, y3, y4, y5, y6, y7, rest, e1, e2, hq⟩ := h
 simp only at e1 e2
 subst e2
 exact ⟨(y0, y1, y2, y3, y4, y5, y6, y7), aP.dimR (FnC.objs (css := [[.sl .u8 (.may false) o0_0, .int .i64 o0_1], [.sl .str .own o1_0]]) (css' := [[.sl .u8 (.may false) y5, .int .i64 y6], [.sl .str .own y7]]) aiU (ahw N o0_0 o0_1 o1_0 p1 p2) hz rfl) e1, hq⟩
noncomputable def bw : au := tab (P := Try.prog) [] [nV] [] [wi, aCJ]
noncomputable def acm : IR := (.cond (.t 12) .skip (.reg [Pp (.bin 16 .eql (.t 11) (.c (.str ([100, 111, 117, 98, 108, 101] : Bs)))), Mv 12 16] []))
noncomputable def acn : IR := (.cond (.t 12) .skip (.seq (.reg [Pp (.bin 15 .eql (.t 11) (.c (.str ([102, 108, 111, 97, 116] : Bs)))), Mv 12 15] []) acm))
noncomputable def aco : IR := (.cond (.t 12) .skip (.seq (.reg [Pp (.bin 14 .eql (.t 11) (.c (.str ([108, 111, 110, 103] : Bs)))), Mv 12 14] []) acn))
noncomputable def acp : IR := .ret
noncomputable def acq : IR := (.cond (.t 21) .skip (.reg [Pp (.bin 23 .eql (.t 11) (.c (.str ([98, 121, 116, 101, 115] : Bs)))), Mv 21 23] []))
noncomputable def acr : IR := .ret
noncomputable def acs : IR := .ret
noncomputable def acu : IR := .ret
noncomputable def acv : IR := (.cond (.t 35) (.seq (.reg [Pp (.bld 37 [.int .i64 0, .int .i64 0, .str ([] : Bs), .sl .jnode .own ([] : List ae), .sl .str .own ([] : Bss)] [(0, 1, (.c (.int .i64 1)))]), Pp (.st none 5 (.t 4) (.t 37))] []) acu) .skip)
noncomputable def acw : IR := (.cond (.t 30) (.seq (.reg [Mv 32 0, Pp (.call (some 33) 60 [(.t 32), (.c (.int .i64 2))]), Pp (.bld 34 [.int .i64 0, .int .i64 0, .str ([] : Bs), .sl .jnode .own ([] : List ae), .sl .str .own ([] : Bss)] [(0, 1, (.c (.int .i64 2))), (1, 1, (.t 33))]), Pp (.st none 5 (.t 4) (.t 34))] []) acs) (.seq (.reg [Pp (.bin 36 .eql (.t 11) (.c (.str ([110, 117, 108, 108] : Bs)))), Mv 35 36] []) acv))
noncomputable def z5 : IR := (.cond (.t 21) (.seq (.reg [Pp (.bsl 24 .str [(.c (.str ([] : Bs))), (.c (.str ([100] : Bs))), (.c (.str ([195, 164] : Bs)))] true), Mv 25 0, Pp (.call (some 26) 60 [(.t 25), (.c (.int .i64 3))]), Pp (.ixa 27 .str (.t 24) (.t 26)), Ld 28 1 false 27, Pp (.call (some 29) 86 [(.t 28)]), Pp (.st none 5 (.t 4) (.t 29))] []) acr) (.seq (.reg [Pp (.bin 31 .eql (.t 11) (.c (.str ([98, 111, 111, 108, 101, 97, 110] : Bs)))), Mv 30 31] []) acw))
noncomputable def gK : IR := (.cond (.t 12) (.seq (.reg [Mv 17 0, Pp (.call (some 18) 60 [(.t 17), (.c (.int .i64 200))]), Bc 19 .sub 18 50, Pp (.bld 20 [.int .i64 0, .int .i64 0, .str ([] : Bs), .sl .jnode .own ([] : List ae), .sl .str .own ([] : Bss)] [(0, 1, (.c (.int .i64 3))), (1, 1, (.t 19))]), Pp (.st none 5 (.t 4) (.t 20))] []) acp) (.seq (.seq (.reg [Pp (.bin 22 .eql (.t 11) (.c (.str ([115, 116, 114, 105, 110, 103] : Bs)))), Mv 21 22] []) acq) z5))
noncomputable def z6 : IR := (.cut [0, 3, 4, 11, 12, 1000000] 2 gK)
noncomputable def z7 : IR := (.block 0 (.seq (.seq (.reg [Pp (.bin 13 .eql (.t 11) (.c (.str ([105, 110, 116] : Bs)))), Mv 12 13] []) aco) z6))
noncomputable def z8 : IR := (.cond (.t 9) (.seq (.reg [Fa 10 2 3, Ld 11 1 false 10] []) z7) .skip)
noncomputable def z9 : IR := .ret
noncomputable def aaa : IR := (.cond (.t 40) (.seq (.reg [Pp (.bld 41 [.int .i64 0, .int .i64 0, .str ([] : Bs), .sl .jnode .own ([] : List ae), .sl .str .own ([] : Bss)] [(0, 1, (.c (.int .i64 1)))]), Pp (.st none 5 (.t 4) (.t 41))] []) z9) .skip)
noncomputable def aab : IR := .ret
noncomputable def aac : IR := .ret
noncomputable def aad : IR := (.cond (.t 52) (.seq (.reg [Pp (.call (some 54) 86 [(.c (.str ([88] : Bs)))]), Pp (.st none 5 (.t 4) (.t 54))] []) aac) .skip)
noncomputable def aae : IR := (.cond (.t 49) (.seq (.reg [Pp (.bld 51 [.int .i64 0, .int .i64 0, .str ([] : Bs), .sl .jnode .own ([] : List ae), .sl .str .own ([] : Bss)] [(0, 1, (.c (.int .i64 5)))]), Pp (.st none 5 (.t 4) (.t 51))] []) aab) (.seq (.reg [Pp (.bin 53 .eql (.t 48) (.c (.str ([101, 110, 117, 109] : Bs)))), Mv 52 53] []) aad))
noncomputable def aaf : IR := (.block 1 (.seq (.reg [Pp (.bin 50 .eql (.t 48) (.c (.str ([97, 114, 114, 97, 121] : Bs)))), Mv 49 50] []) aae))
noncomputable def aag : IR := .ret
noncomputable def aah : IR := (.seq (.reg [Pp (.bld 55 [.int .i64 0, .int .i64 0, .str ([] : Bs), .sl .jnode .own ([] : List ae), .sl .str .own ([] : Bss)] [(0, 1, (.c (.int .i64 6)))]), Pp (.st none 5 (.t 4) (.t 55))] []) aag)
noncomputable def aai : IR := (.seq (.seq (.reg [Fa 47 2 5, Ld 48 1 false 47] []) aaf) aah)
noncomputable def aaj : IR := (.seq (.reg [Ld 43 5 true 3, Pp (.call (some 44) 87 [(.t 43), (.c (.str ([116, 121, 112, 101] : Bs)))]), Mv 42 44, Ex_ 45 0 42, Ex_ 46 1 42, Pp (.alr 5 5), Pp (.frz none 5 5 (.t 45)), Mv 6 46] []) aai)
noncomputable def lb : IR := (.seq (.seq (.reg [Fa 38 0 3, Ld 39 1 false 38, Bc 40 .eql 39 5] []) aaa) aaj)
noncomputable def lc : IR := (.cut [3, 4, 1000001] 2 lb)
noncomputable def aak : IR := (.seq (.seq (.reg [Fa 7 0 3, Ld 8 1 false 7, Bc 9 .eql 8 4] []) z8) lc)
noncomputable def nv : IR := (.seq (.reg [Pp (.boxe 3 (.t 1)), Pp (.new 4 [.int .i64 0, .int .i64 0, .str ([] : Bs), .sl .jnode .own ([] : List ae), .sl .str .own ([] : Bss)])] []) aak)
noncomputable def cX : List RV := [.cell 4 5 true]
theorem ahy : FnC Try.prog bw [60, 2000060] 1 uE Try.f119 nv cX := fnC (by kernel_rfl) Try.func119 (by kernel_rfl) (by kernel_rfl) (by decide)
abbrev fp : Type := (Int × Int × Bs × List ae × Bss × Bs × Bool × Bs × Int × Int × Int × Bs × List ae × Bss)
noncomputable def eu (x : fp) : St := { env := (.ptr 0 0 :: .undef :: .undef :: .ea [.int .i64 x.1, .int .i64 x.2.1, .str x.2.2.1, .sl .jnode (.may false) x.2.2.2.1, .sl .str (.may false) x.2.2.2.2.1] :: .ptr 1 0 :: (U 6 (.str x.2.2.2.2.2.1 :: .bool x.2.2.2.2.2.2.1 :: (U 43 [])))), hp := [some [.sl .u8 (.may false) x.2.2.2.2.2.2.2.1, .int .i64 x.2.2.2.2.2.2.2.2.1], some [.int .i64 x.2.2.2.2.2.2.2.2.2.1, .int .i64 x.2.2.2.2.2.2.2.2.2.2.1, .str x.2.2.2.2.2.2.2.2.2.2.2.1, .sl .jnode .own x.2.2.2.2.2.2.2.2.2.2.2.2.1, .sl .str .own x.2.2.2.2.2.2.2.2.2.2.2.2.2]] }
noncomputable def mp (R : IR → (Ex → St → Ro) → St → Ro) : Ex → St → Ro := (aD 0 (bo (R lc) (fin cX)))
abbrev ja : Type := (Int × Int × Bs × List ae × Bss × Bs × Int × Int × Int × Bs × List ae × Bss)
noncomputable def hR (x : ja) : St := { env := (U 3 (.ea [.int .i64 x.1, .int .i64 x.2.1, .str x.2.2.1, .sl .jnode (.may false) x.2.2.2.1, .sl .str (.may false) x.2.2.2.2.1] :: .ptr 1 0 :: (U 51 []))), hp := [some [.sl .u8 (.may false) x.2.2.2.2.2.1, .int .i64 x.2.2.2.2.2.2.1], some [.int .i64 x.2.2.2.2.2.2.2.1, .int .i64 x.2.2.2.2.2.2.2.2.1, .str x.2.2.2.2.2.2.2.2.2.1, .sl .jnode .own x.2.2.2.2.2.2.2.2.2.2.1, .sl .str .own x.2.2.2.2.2.2.2.2.2.2.2]] }
noncomputable def mq (N : Nat) : St → Ro := fun s => run bw N lb (fin cX) s
noncomputable def fq (N : Nat) (x : ja) : Ro :=
 let v3_0 : Int := x.1
 let v3_1 : Int := x.2.1
 let v3_2 : Bs := x.2.2.1
 let v3_3 : List ae := x.2.2.2.1
 let v3_4 : Bss := x.2.2.2.2.1
 let o0_0 : Bs := x.2.2.2.2.2.1
 let o0_1 : Int := x.2.2.2.2.2.2.1
 let o1_0 : Int := x.2.2.2.2.2.2.2.1
 let o1_1 : Int := x.2.2.2.2.2.2.2.2.1
 let o1_2 : Bs := x.2.2.2.2.2.2.2.2.2.1
 let o1_3 : List ae := x.2.2.2.2.2.2.2.2.2.2.1
 let o1_4 : Bss := x.2.2.2.2.2.2.2.2.2.2.2
 cond (v3_0 == 5) (
  some (.agg [.int .i64 1, .int .i64 0, .str ([] : Bs), .sl .jnode (.may false) ([] : List ae), .sl .str (.may false) ([] : Bss)], [some [.sl .u8 (.may false) o0_0, .int .i64 o0_1], some [.int .i64 1, .int .i64 0, .str ([] : Bs), .sl .jnode .own ([] : List ae), .sl .str .own ([] : Bss)]])) (
  ai (rh v3_0 v3_1 v3_2 v3_3 v3_4 ([116, 121, 112, 101] : Bs)) (fun r5 =>
   let x7 : Bool := decide (r5.2.2.1 = ([97, 114, 114, 97, 121] : Bs))
   cond x7 (
    some (.agg [.int .i64 5, .int .i64 0, .str ([] : Bs), .sl .jnode (.may false) ([] : List ae), .sl .str (.may false) ([] : Bss)], [some [.sl .u8 (.may false) o0_0, .int .i64 o0_1], some [.int .i64 5, .int .i64 0, .str ([] : Bs), .sl .jnode .own ([] : List ae), .sl .str .own ([] : Bss)]])) (
    let x8 : Bool := decide (r5.2.2.1 = ([101, 110, 117, 109] : Bs))
    cond x8 (
     ai (be ([88] : Bs)) (fun r6 =>
      some (.agg [.int .i64 r6.1, .int .i64 r6.2.1, .str r6.2.2.1, .sl .jnode (.may false) r6.2.2.2.1, .sl .str (.may false) r6.2.2.2.2], [some [.sl .u8 (.may false) o0_0, .int .i64 o0_1], some [.int .i64 r6.1, .int .i64 r6.2.1, .str r6.2.2.1, .sl .jnode (.may false) r6.2.2.2.1, .sl .str (.may false) r6.2.2.2.2]]))) (
     some (.agg [.int .i64 6, .int .i64 0, .str ([] : Bs), .sl .jnode (.may false) ([] : List ae), .sl .str (.may false) ([] : Bss)], [some [.sl .u8 (.may false) o0_0, .int .i64 o0_1], some [.int .i64 6, .int .i64 0, .str ([] : Bs), .sl .jnode .own ([] : List ae), .sl .str .own ([] : Bss)]])))))
theorem acx (N : Nat) : ∀ (x : ja), mq N (hR x) = fq N x := by
 intro x
 kernel_rfl
noncomputable def mr (N : Nat) : St → Ro := fun s => run bw N gK (mp (run bw N)) s
noncomputable def hU (N : Nat) (q1 : ja → Ro) (x : fp) : Ro :=
 let v3_0 : Int := x.1
 let v3_1 : Int := x.2.1
 let v3_2 : Bs := x.2.2.1
 let v3_3 : List ae := x.2.2.2.1
 let v3_4 : Bss := x.2.2.2.2.1
 let v11 : Bs := x.2.2.2.2.2.1
 let v12 : Bool := x.2.2.2.2.2.2.1
 let o0_0 : Bs := x.2.2.2.2.2.2.2.1
 let o0_1 : Int := x.2.2.2.2.2.2.2.2.1
 let o1_0 : Int := x.2.2.2.2.2.2.2.2.2.1
 let o1_1 : Int := x.2.2.2.2.2.2.2.2.2.2.1
 let o1_2 : Bs := x.2.2.2.2.2.2.2.2.2.2.2.1
 let o1_3 : List ae := x.2.2.2.2.2.2.2.2.2.2.2.2.1
 let o1_4 : Bss := x.2.2.2.2.2.2.2.2.2.2.2.2.2
 cond v12 (
  ai (aU o0_0 o0_1 200) (fun r1 =>
   let x2 : Int := (IntKind.wrap .i64 (r1.1 - 50))
   some (.agg [.int .i64 3, .int .i64 x2, .str ([] : Bs), .sl .jnode (.may false) ([] : List ae), .sl .str (.may false) ([] : Bss)], [some [.sl .u8 (.may false) r1.2.1, .int .i64 r1.2.2], some [.int .i64 3, .int .i64 x2, .str ([] : Bs), .sl .jnode .own ([] : List ae), .sl .str .own ([] : Bss)]]))) (
  let x3 : Bool := decide (v11 = ([115, 116, 114, 105, 110, 103] : Bs))
  cond x3 (
   cond x3 (
    ai (aU o0_0 o0_1 3) (fun r2 =>
     chk ((decide (0 ≤ r2.1) && decide (r2.1 < ↑(List.length ([([] : Bs), ([100] : Bs), ([195, 164] : Bs)] : Bss))))) (
      let x4 : Bs := List.getD ([([] : Bs), ([100] : Bs), ([195, 164] : Bs)] : Bss) (Int.toNat r2.1) (af .str)
      ai (be x4) (fun r3 =>
       some (.agg [.int .i64 r3.1, .int .i64 r3.2.1, .str r3.2.2.1, .sl .jnode (.may false) r3.2.2.2.1, .sl .str (.may false) r3.2.2.2.2], [some [.sl .u8 (.may false) r2.2.1, .int .i64 r2.2.2], some [.int .i64 r3.1, .int .i64 r3.2.1, .str r3.2.2.1, .sl .jnode (.may false) r3.2.2.2.1, .sl .str (.may false) r3.2.2.2.2]]))))) (
    let x5 : Bool := decide (v11 = ([98, 111, 111, 108, 101, 97, 110] : Bs))
    cond x5 (
     ai (aU o0_0 o0_1 2) (fun r4 =>
      some (.agg [.int .i64 2, .int .i64 r4.1, .str ([] : Bs), .sl .jnode (.may false) ([] : List ae), .sl .str (.may false) ([] : Bss)], [some [.sl .u8 (.may false) r4.2.1, .int .i64 r4.2.2], some [.int .i64 2, .int .i64 r4.1, .str ([] : Bs), .sl .jnode .own ([] : List ae), .sl .str .own ([] : Bss)]]))) (
     let x6 : Bool := decide (v11 = ([110, 117, 108, 108] : Bs))
     cond x6 (
      some (.agg [.int .i64 1, .int .i64 0, .str ([] : Bs), .sl .jnode (.may false) ([] : List ae), .sl .str (.may false) ([] : Bss)], [some [.sl .u8 (.may false) o0_0, .int .i64 o0_1], some [.int .i64 1, .int .i64 0, .str ([] : Bs), .sl .jnode .own ([] : List ae), .sl .str .own ([] : Bss)]])) (
      q1 (v3_0, v3_1, v3_2, v3_3, v3_4, o0_0, o0_1, o1_0, o1_1, o1_2, o1_3, o1_4))))) (
   let x9 : Bool := decide (v11 = ([98, 121, 116, 101, 115] : Bs))
   cond x9 (
    ai (aU o0_0 o0_1 3) (fun r7 =>
     chk ((decide (0 ≤ r7.1) && decide (r7.1 < ↑(List.length ([([] : Bs), ([100] : Bs), ([195, 164] : Bs)] : Bss))))) (
      let x10 : Bs := List.getD ([([] : Bs), ([100] : Bs), ([195, 164] : Bs)] : Bss) (Int.toNat r7.1) (af .str)
      ai (be x10) (fun r8 =>
       some (.agg [.int .i64 r8.1, .int .i64 r8.2.1, .str r8.2.2.1, .sl .jnode (.may false) r8.2.2.2.1, .sl .str (.may false) r8.2.2.2.2], [some [.sl .u8 (.may false) r7.2.1, .int .i64 r7.2.2], some [.int .i64 r8.1, .int .i64 r8.2.1, .str r8.2.2.1, .sl .jnode (.may false) r8.2.2.2.1, .sl .str (.may false) r8.2.2.2.2]]))))) (
    let x11 : Bool := decide (v11 = ([98, 111, 111, 108, 101, 97, 110] : Bs))
    cond x11 (
     ai (aU o0_0 o0_1 2) (fun r9 =>
      some (.agg [.int .i64 2, .int .i64 r9.1, .str ([] : Bs), .sl .jnode (.may false) ([] : List ae), .sl .str (.may false) ([] : Bss)], [some [.sl .u8 (.may false) r9.2.1, .int .i64 r9.2.2], some [.int .i64 2, .int .i64 r9.1, .str ([] : Bs), .sl .jnode .own ([] : List ae), .sl .str .own ([] : Bss)]]))) (
     let x12 : Bool := decide (v11 = ([110, 117, 108, 108] : Bs))
     cond x12 (
      some (.agg [.int .i64 1, .int .i64 0, .str ([] : Bs), .sl .jnode (.may false) ([] : List ae), .sl .str (.may false) ([] : Bss)], [some [.sl .u8 (.may false) o0_0, .int .i64 o0_1], some [.int .i64 1, .int .i64 0, .str ([] : Bs), .sl .jnode .own ([] : List ae), .sl .str .own ([] : Bss)]])) (
      q1 (v3_0, v3_1, v3_2, v3_3, v3_4, o0_0, o0_1, o1_0, o1_1, o1_2, o1_3, o1_4))))))
noncomputable def jb (N : Nat) (x : fp) : Ro := hU N (fun z => fq N z) x
noncomputable def ms (N : Nat) : List (Nat × (St → Ro)) := (aI bw N gK (mp (run bw N)) ++ (aI bw N lc (fin cX) ++ []))
theorem acy (N : Nat) : ∀ (x : fp), mr N (eu x) = jb N x := by
 intro x
 have hX : ∀ C : Nat → St → Ro, bI C bw N gK (mp (bI C bw N)) (eu x) = hU N (fun z => C 1000001 (hR z)) x := by
  intro C
  kernel_rfl
 have h : mr N (eu x) = hU N (fun z => mq N (hR z)) x := (cA (C := ec (ms N)) (bL (aL (l := (ms N)) (by kernel_rfl))) (cL (f8 (bL (dz (aL (l := (ms N)) (by kernel_rfl)))) rfl)) _).trans ((hX _).trans (by kernel_rfl))
 have e1 : (fun z => mq N (hR z)) = (fun z => fq N z) := funext fun z => acx N z
 rw [h, e1]
 rfl
abbrev jc : Type := (Int × Int × Bs × List ae × Bss × Bs × Int × Int × Int × Bs × List ae × Bss)
noncomputable def lz (x : jc) : St := { env := (U 3 (.ea [.int .i64 x.1, .int .i64 x.2.1, .str x.2.2.1, .sl .jnode (.may false) x.2.2.2.1, .sl .str (.may false) x.2.2.2.2.1] :: .ptr 1 0 :: (U 51 []))), hp := [some [.sl .u8 (.may false) x.2.2.2.2.2.1, .int .i64 x.2.2.2.2.2.2.1], some [.int .i64 x.2.2.2.2.2.2.2.1, .int .i64 x.2.2.2.2.2.2.2.2.1, .str x.2.2.2.2.2.2.2.2.2.1, .sl .jnode .own x.2.2.2.2.2.2.2.2.2.2.1, .sl .str .own x.2.2.2.2.2.2.2.2.2.2.2]] }
noncomputable def sk (N : Nat) : St → Ro := fun s => run bw N lb (fin cX) s
noncomputable def jd (N : Nat) (x : jc) : Ro :=
 let v3_0 : Int := x.1
 let v3_1 : Int := x.2.1
 let v3_2 : Bs := x.2.2.1
 let v3_3 : List ae := x.2.2.2.1
 let v3_4 : Bss := x.2.2.2.2.1
 let o0_0 : Bs := x.2.2.2.2.2.1
 let o0_1 : Int := x.2.2.2.2.2.2.1
 let o1_0 : Int := x.2.2.2.2.2.2.2.1
 let o1_1 : Int := x.2.2.2.2.2.2.2.2.1
 let o1_2 : Bs := x.2.2.2.2.2.2.2.2.2.1
 let o1_3 : List ae := x.2.2.2.2.2.2.2.2.2.2.1
 let o1_4 : Bss := x.2.2.2.2.2.2.2.2.2.2.2
 cond (v3_0 == 5) (
  some (.agg [.int .i64 1, .int .i64 0, .str ([] : Bs), .sl .jnode (.may false) ([] : List ae), .sl .str (.may false) ([] : Bss)], [some [.sl .u8 (.may false) o0_0, .int .i64 o0_1], some [.int .i64 1, .int .i64 0, .str ([] : Bs), .sl .jnode .own ([] : List ae), .sl .str .own ([] : Bss)]])) (
  ai (rh v3_0 v3_1 v3_2 v3_3 v3_4 ([116, 121, 112, 101] : Bs)) (fun r10 =>
   let x16 : Bool := decide (r10.2.2.1 = ([97, 114, 114, 97, 121] : Bs))
   cond x16 (
    some (.agg [.int .i64 5, .int .i64 0, .str ([] : Bs), .sl .jnode (.may false) ([] : List ae), .sl .str (.may false) ([] : Bss)], [some [.sl .u8 (.may false) o0_0, .int .i64 o0_1], some [.int .i64 5, .int .i64 0, .str ([] : Bs), .sl .jnode .own ([] : List ae), .sl .str .own ([] : Bss)]])) (
    let x17 : Bool := decide (r10.2.2.1 = ([101, 110, 117, 109] : Bs))
    cond x17 (
     ai (be ([88] : Bs)) (fun r11 =>
      some (.agg [.int .i64 r11.1, .int .i64 r11.2.1, .str r11.2.2.1, .sl .jnode (.may false) r11.2.2.2.1, .sl .str (.may false) r11.2.2.2.2], [some [.sl .u8 (.may false) o0_0, .int .i64 o0_1], some [.int .i64 r11.1, .int .i64 r11.2.1, .str r11.2.2.1, .sl .jnode (.may false) r11.2.2.2.1, .sl .str (.may false) r11.2.2.2.2]]))) (
     some (.agg [.int .i64 6, .int .i64 0, .str ([] : Bs), .sl .jnode (.may false) ([] : List ae), .sl .str (.may false) ([] : Bss)], [some [.sl .u8 (.may false) o0_0, .int .i64 o0_1], some [.int .i64 6, .int .i64 0, .str ([] : Bs), .sl .jnode .own ([] : List ae), .sl .str .own ([] : Bss)]])))))
theorem acz (N : Nat) : ∀ (x : jc), sk N (lz x) = jd N x := by
 intro x
 kernel_rfl
noncomputable def fZ (N : Nat) (o0_0 : Bs) (o0_1 : Int) (p1_0 : Int) (p1_1 : Int) (p1_2 : Bs) (p1_3 : List ae) (p1_4 : Bss) (q0 : fp → Ro) (q2 : jc → Ro) : Ro :=
 cond (p1_0 == 4) (
  let x1 : Bool := decide (p1_2 = ([105, 110, 116] : Bs))
  cond x1 (
   q0 (p1_0, p1_1, p1_2, p1_3, p1_4, p1_2, x1, o0_0, o0_1, 0, 0, ([] : Bs), ([] : List ae), ([] : Bss))) (
   let x13 : Bool := decide (p1_2 = ([108, 111, 110, 103] : Bs))
   cond x13 (
    q0 (p1_0, p1_1, p1_2, p1_3, p1_4, p1_2, x13, o0_0, o0_1, 0, 0, ([] : Bs), ([] : List ae), ([] : Bss))) (
    let x14 : Bool := decide (p1_2 = ([102, 108, 111, 97, 116] : Bs))
    cond x14 (
     q0 (p1_0, p1_1, p1_2, p1_3, p1_4, p1_2, x14, o0_0, o0_1, 0, 0, ([] : Bs), ([] : List ae), ([] : Bss))) (
     let x15 : Bool := decide (p1_2 = ([100, 111, 117, 98, 108, 101] : Bs))
     q0 (p1_0, p1_1, p1_2, p1_3, p1_4, p1_2, x15, o0_0, o0_1, 0, 0, ([] : Bs), ([] : List ae), ([] : Bss)))))) (
  q2 (p1_0, p1_1, p1_2, p1_3, p1_4, o0_0, o0_1, 0, 0, ([] : Bs), ([] : List ae), ([] : Bss)))
noncomputable def nw (N : Nat) (o0_0 : Bs) (o0_1 : Int) (p1_0 : Int) (p1_1 : Int) (p1_2 : Bs) (p1_3 : List ae) (p1_4 : Bss) : Ro := fZ N o0_0 o0_1 p1_0 p1_1 p1_2 p1_3 p1_4 (fun z => jb N z) (fun z => jd N z)
noncomputable def aiV (N : Nat) : List (Nat × (St → Ro)) := aI bw N nv (fin cX) ++ []
theorem afm (N : Nat) (o0_0 : Bs) (o0_1 : Int) (p1_0 : Int) (p1_1 : Int) (p1_2 : Bs) (p1_3 : List ae) (p1_4 : Bss) : aE bw N 56 cX nv [.ptr 0 0, .agg [.int .i64 p1_0, .int .i64 p1_1, .str p1_2, .sl .jnode (.may false) p1_3, .sl .str (.may false) p1_4]] [some [.sl .u8 (.may false) o0_0, .int .i64 o0_1]] = nw N o0_0 o0_1 p1_0 p1_1 p1_2 p1_3 p1_4 :=
 (bx (aiV N) (by kernel_rfl) rfl (fun C => fZ N o0_0 o0_1 p1_0 p1_1 p1_2 p1_3 p1_4 (fun z => C 1000000 (eu z)) (fun z => C 1000001 (lz z))) (fun C => by kernel_rfl)).trans (Eq.trans (b := fZ N o0_0 o0_1 p1_0 p1_1 p1_2 p1_3 p1_4 (fun z => mr N (eu z)) (fun z => sk N (lz z))) (by kernel_rfl) (congr (congrArg (fZ N o0_0 o0_1 p1_0 p1_1 p1_2 p1_3 p1_4) (funext fun z => acy N z)) (funext fun z => acz N z)))
theorem afn (N : Nat) (o0_0 : Bs) (o0_1 : Int) (p1_0 : Int) (p1_1 : Int) (p1_2 : Bs) (p1_3 : List ae) (p1_4 : Bss) (h : Tot (nw N o0_0 o0_1 p1_0 p1_1 p1_2 p1_3 p1_4) (fun z => ∃ (y0 : Int) (y1 : Int) (y2 : Bs) (y3 : List ae) (y4 : Bss) (y5 : Bs) (y6 : Int) (rest : List an), z.1.dimR = .agg [.int .i64 y0, .int .i64 y1, .str y2, .sl .jnode (.may false) y3, .sl .str (.may false) y4] ∧ z.2 = some [.sl .u8 (.may false) y5, .int .i64 y6] :: rest ∧ en o0_0 o0_1 p1_0 p1_1 p1_2 p1_3 p1_4 (y0, y1, y2, y3, y4, y5, y6))) : ∃ r, gi o0_0 o0_1 p1_0 p1_1 p1_2 p1_3 p1_4 r := by
 obtain ⟨⟨v, hp⟩, hz, y0, y1, y2, y3, y4, y5, y6, rest, e1, e2, hq⟩ := h
 simp only at e1 e2
 subst e2
 exact ⟨(y0, y1, y2, y3, y4, y5, y6), aP.dimR (FnC.objs (css := [[.sl .u8 (.may false) o0_0, .int .i64 o0_1]]) (css' := [[.sl .u8 (.may false) y5, .int .i64 y6]]) ahy (afm N o0_0 o0_1 p1_0 p1_1 p1_2 p1_3 p1_4) hz rfl) e1, hq⟩
noncomputable def xV : au := tab (P := Try.prog) [] [ajT] [] [aAs, ayx]
noncomputable def aiW : IR := .ret
noncomputable def aiX : IR := (.cond (.t 16) (.seq (.reg [Ld 17 1 true 4, Pp (.st none 1 (.t 2) (.t 17)), Pp (.mov 3 (.c (.bool false)))] []) aiW) .skip)
noncomputable def aiY : IR := .ret
noncomputable def aiZ : IR := (.seq (.reg [Ld 24 1 true 4, Mv 25 6, Bc 26 .eql 25 0, Pp (.st none 1 (.t 2) (.t 24)), Mv 3 26] []) aiY)
noncomputable def ai0 : IR := (.seq (.reg [Ld 19 1 true 4, Pp (.call (some 20) 41 [(.t 19)]), Mv 18 20, Ex_ 21 0 18, Ex_ 22 1 18, Ex_ 23 2 18, Mv 6 21, Mv 7 22, Mv 8 23] []) aiZ)
noncomputable def ai1 : IR := (.seq (.seq (.reg [Mv 15 5, Bc 16 .neq 15 0] []) aiX) ai0)
noncomputable def ai2 : IR := (.seq (.reg [Mv 10 0, Pp (.call (some 11) 40 [(.t 10)]), Pp (.call (some 12) 39 [(.t 11)]), Mv 9 12, Ex_ 13 0 9, Ex_ 14 1 9, Pp (.alr 4 1), Pp (.frz none 4 1 (.t 13)), Mv 5 14] []) ai1)
noncomputable def wN : IR := (.seq (.reg [Pp (.new 2 [.sl .atype .own ([] : List ac)]), Pp (.mov 3 (.c (.bool false)))] []) ai2)
noncomputable def wO : List RV := [.cell 2 1 true, .t 3]
theorem al8 : FnC Try.prog xV [40, 2000040] 1 xK Try.f15 wN wO := fnC (by kernel_rfl) Try.func15 (by kernel_rfl) (by kernel_rfl) (by decide)
noncomputable def wP (N : Nat) (o0_0 : Bs) (o0_1 : Int)  : Ro :=
 ai (ii o0_0 o0_1) (fun r1 =>
  ai (qe r1.1 r1.2.1 r1.2.2.1 r1.2.2.2.1 r1.2.2.2.2.1) (fun r2 =>
   cond (!(r2.2 == 0)) (
    some (.tup [.agg [.sl .atype (.may false) r2.1], .bool false], [some [.sl .u8 (.may false) r1.2.2.2.2.2.1, .int .i64 r1.2.2.2.2.2.2], some [.sl .atype (.may false) r2.1]])) (
    ai (oM r2.1) (fun r3 =>
     some (.tup [.agg [.sl .atype (.may false) r2.1], .bool (r3.1 == 0)], [some [.sl .u8 (.may false) r1.2.2.2.2.2.1, .int .i64 r1.2.2.2.2.2.2], some [.sl .atype (.may false) r2.1]])))))
noncomputable def qD (N : Nat) (o0_0 : Bs) (o0_1 : Int) : Ro := wP N o0_0 o0_1
theorem akp (N : Nat) (o0_0 : Bs) (o0_1 : Int) : aE xV N 27 wO wN [.ptr 0 0] [some [.sl .u8 (.may false) o0_0, .int .i64 o0_1]] = qD N o0_0 o0_1 := by kernel_rfl
theorem akq (N : Nat) (o0_0 : Bs) (o0_1 : Int) (h : Tot (qD N o0_0 o0_1) (fun z => ∃ (y0 : List ac) (y1 : Bool) (y2 : Bs) (y3 : Int) (rest : List an), z.1.dimR = .tup [.agg [.sl .atype (.may false) y0], .bool y1] ∧ z.2 = some [.sl .u8 (.may false) y2, .int .i64 y3] :: rest ∧ uC o0_0 o0_1 (y0, y1, y2, y3))) : ∃ r, kd o0_0 o0_1 r := by
 obtain ⟨⟨v, hp⟩, hz, y0, y1, y2, y3, rest, e1, e2, hq⟩ := h
 simp only at e1 e2
 subst e2
 exact ⟨(y0, y1, y2, y3), aP.dimR (FnC.objs (css := [[.sl .u8 (.may false) o0_0, .int .i64 o0_1]]) (css' := [[.sl .u8 (.may false) y2, .int .i64 y3]]) al8 (akp N o0_0 o0_1) hz rfl) e1, hq⟩
end Go.Proofs.Ytdpajabhmmmjoaa
end
section
namespace Go.Proofs.Ytdpajabhmmmjoaa
open Go.AM
set_option autoImplicit false
set_option linter.unusedVariables false
set_option linter.unusedSimpArgs false
set_option maxRecDepth 100000
theorem dx (k n : Int) (s : List UInt8) (h : s.length ≤ 100) : aK (.mk k n s [] []) := .mk _ _ _ _ _ h (by simp) (by simp) (by simp) (by simp) (by simp)
theorem ahz (k n : Int) (l : List ae) (h : l.length ≤ 100) (hl : ∀ c ∈ l, aK c) (hk : k ≠ 6) : aK (.mk k n [] l []) := .mk _ _ _ _ _ (by simp) h (by simp) (by simp) (fun h => absurd h hk) hl
theorem ai3 (k n : Int) (l : List ae) (names : List (List UInt8)) (hn : names.length = l.length) (h : l.length ≤ 100) (hs : bP names) (hl : ∀ c ∈ l, aK c) : aK (.mk k n [] l names) := .mk _ _ _ _ _ (by simp) h (by omega) hs (fun _ => hn) hl
theorem amp {l : List (List UInt8)} (h : bP l) (i : Nat) : (l.getD i (af .str)).length ≤ 100 := aiF h i
theorem aBS (a : List UInt8) (n : Int) (c0 c1 : Int) (c2 : List UInt8) (c3 : List ae) (c4 : List (List UInt8)) (hp : nU a n) (hn : aK (.mk c0 c1 c2 c3 c4)) : ∃ r, gi a n c0 c1 c2 c3 c4 r := by
 obtain ⟨k1, k2, k3, k4, k5, k6⟩ := hn.kids
 apply afn 1
 unfold nw fZ
 have one : ∀ (n' : Int) (x0 x1 : Int) (x2 : List UInt8) (x3 : List ae) (x4 : List (List UInt8)), nU a n' → Tot (fq 1 (c0, c1, c2, c3, c4, a, n', x0, x1, x2, x3, x4)) (fun z => ∃ (y0 : Int) (y1 : Int) (y2 : List UInt8) (y3 : List ae) (y4 : List (List UInt8)) (y5 : List UInt8) (y6 : Int) (rest : List an), z.1.dimR = .agg [.int .i64 y0, .int .i64 y1, .str y2, .sl .jnode (.may false) y3, .sl .str (.may false) y4] ∧ z.2 = some [.sl .u8 (.may false) y5, .int .i64 y6] :: rest ∧ en a n c0 c1 c2 c3 c4 (y0, y1, y2, y3, y4, y5, y6)) := by
  intro n' x0 x1 x2 x3 x4 hp'
  unfold fq
  dsimp only
  repeat' (first | (with_reducible refine ah ?_ ?_ <;> (intro hb; (try simp only [bnl] at hb); (try revert hb; intro _))) | with_reducible refine aq ?_ ?_ | with_reducible refine ak ?_ | (refine ag (aCf _ _ _ _ _ _ k3 (by omega)) ?_; rintro r ⟨-, hr⟩; clear hr) | (refine ag (cT _) ?_; rintro _ ⟨-, rfl⟩; dsimp only) | fail)
  all_goals exact ⟨_, _, _, _, _, _, _, _, rfl, rfl, dx _ _ _ (by simp), rfl, hp'⟩
 have two : ∀ (n' : Int) (x0 x1 : Int) (x2 : List UInt8) (x3 : List ae) (x4 : List (List UInt8)), nU a n' → Tot (jd 1 (c0, c1, c2, c3, c4, a, n', x0, x1, x2, x3, x4)) (fun z => ∃ (y0 : Int) (y1 : Int) (y2 : List UInt8) (y3 : List ae) (y4 : List (List UInt8)) (y5 : List UInt8) (y6 : Int) (rest : List an), z.1.dimR = .agg [.int .i64 y0, .int .i64 y1, .str y2, .sl .jnode (.may false) y3, .sl .str (.may false) y4] ∧ z.2 = some [.sl .u8 (.may false) y5, .int .i64 y6] :: rest ∧ en a n c0 c1 c2 c3 c4 (y0, y1, y2, y3, y4, y5, y6)) := by
  intro n' x0 x1 x2 x3 x4 hp'
  unfold jd
  dsimp only
  repeat' (first | (with_reducible refine ah ?_ ?_ <;> (intro hb; (try simp only [bnl] at hb); (try revert hb; intro _))) | with_reducible refine aq ?_ ?_ | with_reducible refine ak ?_ | (refine ag (aCf _ _ _ _ _ _ k3 (by omega)) ?_; rintro r ⟨-, hr⟩; clear hr) | (refine ag (cT _) ?_; rintro _ ⟨-, rfl⟩; dsimp only) | fail)
  all_goals exact ⟨_, _, _, _, _, _, _, _, rfl, rfl, dx _ _ _ (by simp), rfl, hp'⟩
 have zero : ∀ (b : Bool), Tot (jb 1 (c0, c1, c2, c3, c4, c2, b, a, n, 0, 0, [], [], [])) (fun z => ∃ (y0 : Int) (y1 : Int) (y2 : List UInt8) (y3 : List ae) (y4 : List (List UInt8)) (y5 : List UInt8) (y6 : Int) (rest : List an), z.1.dimR = .agg [.int .i64 y0, .int .i64 y1, .str y2, .sl .jnode (.may false) y3, .sl .str (.may false) y4] ∧ z.2 = some [.sl .u8 (.may false) y5, .int .i64 y6] :: rest ∧ en a n c0 c1 c2 c3 c4 (y0, y1, y2, y3, y4, y5, y6)) := by
  intro b
  unfold jb hU
  dsimp only
  have w3 : bP ([([] : List UInt8), ([100] : List UInt8), ([195, 164] : List UInt8)] : List (List UInt8)) := by simp [bP]
  repeat' (first | (with_reducible refine ah ?_ ?_ <;> (intro hb; (try simp only [bnl] at hb); (try revert hb; intro _))) | with_reducible refine aq ?_ ?_ | with_reducible refine ak ?_ | (refine ag (rl _ _ _ hp (by omega) (by omega)) ?_; rintro ⟨m, a', n'⟩ ⟨-, m1, m2, rfl, m3⟩; dsimp only at m1 m2 m3 ⊢) | (refine ag (cT _) ?_; rintro _ ⟨-, rfl⟩; dsimp only) | fail)
  all_goals first | exact ⟨_, _, _, _, _, _, _, _, rfl, rfl, dx _ _ _ (Nat.zero_le _), rfl, hp⟩ | exact ⟨_, _, _, _, _, _, _, _, rfl, rfl, dx _ _ _ (Nat.zero_le _), rfl, m3⟩ | exact ⟨_, _, _, _, _, _, _, _, rfl, rfl, dx _ _ _ (amp w3 _), rfl, m3⟩ | exact one _ _ _ _ _ _ hp | exact two _ _ _ _ _ _ hp | (first | (simp only [bnl, lnl]; done) | (simp only [bnl, lnl]; omega)) | skip
 dsimp only
 repeat' (first | (with_reducible refine ah ?_ ?_ <;> (intro hb; (try simp only [bnl] at hb); (try revert hb; intro _))) | with_reducible refine aq ?_ ?_ | with_reducible refine ak ?_ | fail)
 all_goals first | exact zero _ | exact two _ _ _ _ _ _ hp
def att (deep : Int) : Prop := ∀ (a : List UInt8) (n : Int) (ns : List (List UInt8)), nU a n → bP ns → ns.length + qc (5 - deep.toNat) ≤ 100000 → ∃ r, cu a n ns deep r
theorem afo {deep : Int} (h : 0 ≤ deep ∧ deep ≤ 4) : qc (5 - deep.toNat) = 1 + 4 * qc (5 - (deep + 1).toNat) := by
 have : 5 - deep.toNat = (5 - (deep + 1).toNat) + 1 := by omega
 rw [this]; rfl
theorem aCR (deep : Int) (hd : 0 ≤ deep ∧ deep ≤ 3) (hT : att (deep + 1)) (a : List UInt8) (n : Int) (ns : List (List UInt8)) (hp : nU a n) (hns : bP ns) (hl : ns.length + qc (5 - deep.toNat) ≤ 100000) : ∃ r, jo a n ns deep r := by
 have hN := afo (deep := deep) (by omega)
 have ed : IntKind.i64.wrap (deep + 1) = deep + 1 := ap (deep + 1) (by omega)
 apply aiT 1
 unfold py vo
 have w2 : bP ([([105, 110, 116] : List UInt8), ([115, 116, 114, 105, 110, 103] : List UInt8)] : List (List UInt8)) := by simp [bP]
 refine ag (cT _) ?_
 rintro _ ⟨-, rfl⟩
 refine ag (rl _ _ _ hp (by omega) (by omega)) ?_
 rintro ⟨m, a', n'⟩ ⟨-, m1, m2, rfl, m3⟩
 dsimp only at m1 m2 m3 ⊢
 refine ah (fun _ => ?_) (fun _ => ?_)
 ·refine ag (rl _ _ _ m3 (by omega) (by omega)) ?_
  rintro ⟨m', a', n''⟩ ⟨-, m1', m2', rfl, m3'⟩
  dsimp only at m1' m2' m3' ⊢
  refine aq (by first | (simp only [bnl, lnl]; done) | (simp only [bnl, lnl]; omega)) ?_
  refine ag (cT _) ?_
  rintro _ ⟨-, rfl⟩
  dsimp only
  refine aq (by first | (simp only [bnl, lnl]; done) | (simp only [bnl, lnl]; omega)) ?_
  rw [ed]
  refine ag (hT _ _ _ m3' hns (by omega)) ?_
  rintro ⟨t0, t1, t2, t3, t4, a'', n3, ns'⟩ ⟨-, h1, rfl, h3, h4, h5⟩
  dsimp only at h1 h3 h4 h5 ⊢
  have kids2 : ∀ c ∈ ([ae.mk 4 0 [110, 117, 108, 108] [] []] ++ [ae.mk 4 0 (List.getD ([([105, 110, 116] : List UInt8), ([115, 116, 114, 105, 110, 103] : List UInt8)] : List (List UInt8)) (Int.toNat m') (af .str)) [] []]), aK c := by
   intro c hc
   simp only [List.cons_append, List.nil_append, List.mem_cons, List.not_mem_nil, or_false] at hc
   rcases hc with rfl | rfl
   ·exact dx _ _ _ (by simp)
   ·exact dx _ _ _ (amp w2 _)
  repeat' (first | (with_reducible refine ah ?_ ?_ <;> (intro hb; (try simp only [bnl] at hb); (try revert hb; intro _))) | with_reducible refine aq ?_ ?_ | with_reducible refine ak ?_ | fail)
  ·first | (simp only [bnl, lnl]; done) | (simp only [bnl, lnl]; omega)
  ·refine ⟨_, _, _, _, _, _, _, _, _, rfl, rfl, ahz _ _ _ (by simp) ?_ (by simp), rfl, h3, h4, by simp only; omega⟩
   intro c hc
   rcases List.mem_append.1 hc with hc | hc
   ·exact kids2 c hc
   ·simp only [List.mem_singleton] at hc
    subst hc; exact h1
  ·exact ⟨_, _, _, _, _, _, _, _, _, rfl, rfl, ahz _ _ _ (by simp) kids2 (by simp), rfl, h3, h4, by simp only; omega⟩
 ·rw [ed]
  refine ag (hT _ _ _ m3 hns (by omega)) ?_
  rintro ⟨t0, t1, t2, t3, t4, a'', n3, ns'⟩ ⟨-, h1, rfl, h3, h4, h5⟩
  dsimp only at h1 h3 h4 h5 ⊢
  repeat' (first | (with_reducible refine ah ?_ ?_ <;> (intro hb; (try simp only [bnl] at hb); (try revert hb; intro _))) | with_reducible refine aq ?_ ?_ | with_reducible refine ak ?_ | fail)
  ·first | (simp only [bnl, lnl]; done) | (simp only [bnl, lnl]; omega)
  ·refine ⟨_, _, _, _, _, _, _, _, _, rfl, rfl, ahz _ _ _ (by simp) ?_ (by simp), rfl, h3, h4, by simp only; omega⟩
   intro c hc
   simp only [List.cons_append, List.nil_append, List.mem_cons, List.not_mem_nil, or_false] at hc
   rcases hc with rfl | rfl
   ·exact dx _ _ _ (by simp)
   ·exact h1
  ·refine ⟨_, _, _, _, _, _, _, _, _, rfl, rfl, ahz _ _ _ (by simp) ?_ (by simp), rfl, h3, h4, by simp only; omega⟩
   intro c hc
   simp only [List.mem_singleton] at hc
   subst hc; exact dx _ _ _ (by simp)
theorem an6 (deep : Int) (hd : 0 ≤ deep ∧ deep ≤ 3) (hT : att (deep + 1)) (a : List UInt8) (n : Int) (ns : List (List UInt8)) (name : List UInt8) (hp : nU a n) (hns : bP ns) (hnm : name.length ≤ 100) (hl : ns.length + qc (5 - deep.toNat) ≤ 100001) : ∃ r, eX a n ns name deep r := by
 have hN := afo (deep := deep) (by omega)
 have ed : IntKind.i64.wrap (deep + 1) = deep + 1 := ap (deep + 1) (by omega)
 apply ahx 100
 unfold ot gJ
 refine ag (rl _ _ _ hp (by omega) (by omega)) ?_
 rintro ⟨m, a', n'⟩ ⟨-, m1, m2, rfl, m3⟩
 dsimp only at m1 m2 m3 ⊢
 refine bi (fun x => match x with | (nm, dp, i, m', a2, n2, ns2, x0, x1, x2, x3, x4, k0, k1, k2, l, k4) => nm = name ∧ dp = deep ∧ 0 ≤ i ∧ i ≤ m ∧ m' = m ∧ a2 = a' ∧ nU a' n2 ∧ bP ns2 ∧ (ns2.length : Int) ≤ ns.length + i * qc (5 - (deep + 1).toNat) ∧ k0 = 5 ∧ k1 = 0 ∧ k2 = [] ∧ k4 = [] ∧ (l.length : Int) = i ∧ ∀ c ∈ l, aK c) (fun x => (m - x.2.2.1).toNat) ?_ _ _
  ⟨rfl, rfl, by simp, m1, rfl, rfl, m3, hns, by simp, rfl, rfl, rfl, rfl, rfl, by simp⟩ (by simp only; omega)
 rintro again ⟨nm, dp, i, m', a2, n2, ns2, x0, x1, x2, x3, x4, k0, k1, k2, l, k4⟩ ⟨rfl, rfl, i1, i2, rfl, rfl, i3, i4, i5, rfl, rfl, rfl, rfl, i6, i7⟩ ih
 dsimp only at ih
 have ei : i < m' → IntKind.i64.wrap (i + 1) = i + 1 := fun h => ap (i + 1) (by omega)
 generalize hq : qc (5 - (dp + 1).toNat) = q at *
 have hi5 : i * (q : Int) ≤ 4 * q := Int.mul_le_mul_of_nonneg_right (by omega) (by omega)
 have nnil : bP ([] : List (List UInt8)) := by simp [bP]
 unfold jL
 dsimp only
 refine ah (fun h => ?_) (fun h => ?_)
 ·have h := of_decide_eq_true h
  rw [ed]
  have hi4 : (i + 1) * (q : Int) ≤ 4 * q := Int.mul_le_mul_of_nonneg_right (by omega) (by omega)
  have hi6 : (i + 1) * (q : Int) = i * q + q := by rw [Int.add_mul, Int.one_mul]
  refine ag (hT _ _ _ i3 i4 (by rw [hq]; omega)) ?_
  rintro ⟨t0, t1, t2, t3, t4, a'', n3, ns'⟩ ⟨-, h1, rfl, h3, h4, h5⟩
  dsimp only at h1 h3 h4 h5 ⊢
  rw [hq] at h5
  refine aq (by first | (simp only [bnl, lnl]; done) | (simp only [bnl, lnl]; omega)) ?_
  refine ag (cT _) ?_
  rintro _ ⟨-, rfl⟩
  refine ag (wK _ _ _ _) ?_
  rintro _ ⟨-, rfl⟩
  dsimp only
  refine ag (rl _ _ _ h3 (by omega) (by omega)) ?_
  rintro ⟨mm, a3, n4⟩ ⟨-, mm1, mm2, rfl, mm3⟩
  dsimp only at mm1 mm2 mm3 ⊢
  have next : ∀ (n5 : Int) (c : ae), nU a3 n5 → aK c → Tot (again (nm, dp, IntKind.i64.wrap (i + 1), m', a3, n5, ns', x0, x1, x2, x3, x4, 5, 0, [], l ++ [c], [])) _ := fun n5 c hp5 hc => ih (nm, dp, IntKind.i64.wrap (i + 1), m', a3, n5, ns', x0, x1, x2, x3, x4, 5, 0, [], l ++ [c], [])
   (by
    simp only [ei h, List.length_append, List.length_cons, List.length_nil]
    refine ⟨trivial, trivial, by omega, by omega, trivial, trivial, hp5, h4, by omega, trivial, trivial, trivial, trivial, by omega, ?_⟩
    intro d hd
    rcases List.mem_append.1 hd with hd | hd
    ·exact i7 d hd
    ·simp only [List.mem_singleton] at hd
     subst hd; exact hc) (by simp only [ei h]; omega)
  have f1 : aK (.mk 4 0 ([102] ++ [UInt8.ofNat (Int.toNat (IntKind.wrap .u8 (IntKind.wrap .i64 (97 + i))))]) [] []) := dx _ _ _ (by simp)
  refine ah (fun _ => ?_) (fun _ => ?_)
  ·refine aq (by first | (simp only [bnl, lnl]; done) | (simp only [bnl, lnl]; omega)) ?_
   refine ag (aBS _ _ _ _ _ _ _ mm3 h1) ?_
   rintro ⟨d0, d1, d2, d3, d4, a4, n5⟩ ⟨-, q1, rfl, q3⟩
   dsimp only at q1 q3 ⊢
   refine aq (by first | (simp only [bnl, lnl]; done) | (simp only [bnl, lnl]; omega)) ?_
   refine aq (by first | (simp only [bnl, lnl]; done) | (simp only [bnl, lnl]; omega)) ?_
   refine next _ _ q3 (ai3 _ _ _ _ (by simp) (by simp) (by simp [bP]) ?_)
   intro c hc
   simp only [List.cons_append, List.nil_append, List.mem_cons, List.not_mem_nil, or_false] at hc
   rcases hc with rfl | rfl | rfl
   ·exact f1
   ·exact h1
   ·exact q1
  ·refine aq (by first | (simp only [bnl, lnl]; done) | (simp only [bnl, lnl]; omega)) ?_
   refine next _ _ mm3 (ai3 _ _ _ _ (by simp) (by simp) (by simp [bP]) ?_)
   intro c hc
   simp only [List.mem_cons, List.not_mem_nil, or_false] at hc
   rcases hc with rfl | rfl
   ·exact f1
   ·exact h1
 ·refine ag (cT _) ?_
  rintro _ ⟨-, rfl⟩
  refine ag (cT _) ?_
  rintro _ ⟨-, rfl⟩
  refine ag (cT _) ?_
  rintro _ ⟨-, rfl⟩
  refine ag (wK _ _ _ _) ?_
  rintro _ ⟨-, rfl⟩
  dsimp only
  refine ak ⟨_, _, _, _, _, _, _, _, _, rfl, rfl, ⟨ai3 _ _ _ _ (by simp) (by simp) (by simp [bP]) ?_, rfl, i3, i4, by simp only; omega⟩, by simp only; omega⟩
  intro c hc
  simp only [List.mem_cons, List.not_mem_nil, or_false] at hc
  rcases hc with rfl | rfl | rfl | rfl
  ·exact dx _ _ _ (by simp)
  ·exact dx _ _ _ hnm
  ·exact dx _ _ _ (by simp)
  ·exact ahz _ _ _ (by omega) i7 (by decide)
theorem atu (deep : Int) (hd : 0 ≤ deep ∧ deep ≤ 4) (hT : deep ≤ 3 → att (deep + 1)) : att deep := by
 intro a n ns hp hns hl
 have hN := afo (deep := deep) (by omega)
 have ed : IntKind.i64.wrap (deep + 1) = deep + 1 := ap (deep + 1) (by omega)
 apply akm 1
 unfold qC jr
 have w8 : bP ([([105, 110, 116] : List UInt8), ([108, 111, 110, 103] : List UInt8), ([115, 116, 114, 105, 110, 103] : List UInt8), ([98, 121, 116, 101, 115] : List UInt8), ([98, 111, 111, 108, 101, 97, 110] : List UInt8), ([110, 117, 108, 108] : List UInt8), ([102, 108, 111, 97, 116] : List UInt8), ([100, 111, 117, 98, 108, 101] : List UInt8)] : List (List UInt8)) := by simp [bP]
 have two : ∀ (k n' : Int), deep ≤ 3 → nU a n' → Tot (iw 1 (deep, k, a, n', ns, 0, 0, [], [], [])) (fun z => ∃ (y0 : Int) (y1 : Int) (y2 : List UInt8) (y3 : List ae) (y4 : List (List UInt8)) (y5 : List UInt8) (y6 : Int) (y7 : List (List UInt8)) (rest : List an), z.1.dimR = .agg [.int .i64 y0, .int .i64 y1, .str y2, .sl .jnode (.may false) y3, .sl .str (.may false) y4] ∧ z.2 = some [.sl .u8 (.may false) y5, .int .i64 y6] :: some [.sl .str .own y7] :: rest ∧ ef a n ns deep (y0, y1, y2, y3, y4, y5, y6, y7)) := by
  intro k n' hd3 hp'
  have hT := hT hd3
  unfold iw
  dsimp only
  refine aq (by first | (simp only [bnl, lnl]; done) | (simp only [bnl, lnl]; omega)) ?_
  refine aq (by first | (simp only [bnl, lnl]; done) | (simp only [bnl, lnl]; omega)) ?_
  generalize hnm : ([78] : List UInt8) ++ [(UInt8.ofNat (Int.toNat (IntKind.wrap .u8 (IntKind.wrap .i64 (97 + (Int.tmod (↑(List.length ns) : Int) 26))))))] = nm
  have hnl : nm.length ≤ 100 := by subst hnm; simp
  have hns2 : bP (ns ++ [nm]) := by
   intro x hx
   rcases List.mem_append.1 hx with hx | hx
   ·exact hns x hx
   ·simp only [List.mem_singleton] at hx
    subst hx; exact hnl
  have hlen : (ns ++ [nm]).length = ns.length + 1 := by simp
  refine ah (fun _ => ?_) (fun _ => ah (fun _ => ?_) (fun _ => ?_))
  ·refine ag (cT _) ?_
   rintro _ ⟨-, rfl⟩
   refine ag (cT _) ?_
   rintro _ ⟨-, rfl⟩
   refine ag (rl _ _ _ hp' (by omega) (by omega)) ?_
   rintro ⟨mm, a3, n4⟩ ⟨-, mm1, mm2, rfl, mm3⟩
   dsimp only at mm1 mm2 mm3 ⊢
   refine ag (wK _ _ _ _) ?_
   rintro _ ⟨-, rfl⟩
   dsimp only
   refine ak ⟨_, _, _, _, _, _, _, _, _, rfl, rfl, ai3 _ _ _ _ (by simp) (by simp) (by simp [bP]) ?_, rfl, mm3, hns2, by simp only [hlen]; omega⟩
   intro c hc
   simp only [List.mem_cons, List.not_mem_nil, or_false] at hc
   rcases hc with rfl | rfl | rfl
   ·exact dx _ _ _ (by simp)
   ·exact dx _ _ _ hnl
   ·exact dx _ _ _ (by simp)
  ·refine ag (cT _) ?_
   rintro _ ⟨-, rfl⟩
   refine ag (cT _) ?_
   rintro _ ⟨-, rfl⟩
   refine ag (cT _) ?_
   rintro _ ⟨-, rfl⟩
   refine ag (rl _ _ _ hp' (by omega) (by omega)) ?_
   rintro ⟨mm, a3, n4⟩ ⟨-, mm1, mm2, rfl, mm3⟩
   dsimp only at mm1 mm2 mm3 ⊢
   have em : IntKind.i64.wrap (1 + mm) = 1 + mm := ap (1 + mm) (by omega)
   rw [em]
   refine aq (by first | (simp only [bnl, lnl]; done) | (simp only [bnl, lnl]; omega)) ?_
   refine ag (cT _) ?_
   rintro _ ⟨-, rfl⟩
   refine ag (cT _) ?_
   rintro _ ⟨-, rfl⟩
   refine ag (wK _ _ _ _) ?_
   rintro _ ⟨-, rfl⟩
   dsimp only
   refine ag (rl _ _ _ mm3 (by omega) (by omega)) ?_
   rintro ⟨m5, a5, n5⟩ ⟨-, m51, m52, rfl, m53⟩
   dsimp only at m51 m52 m53 ⊢
   have hsub : ∀ c ∈ (List.drop 0 (List.take (Int.toNat (1 + mm)) ([ae.mk 4 0 [88] [] [], ae.mk 4 0 [89] [] [], ae.mk 4 0 [90] [] []] : List ae))), aK c := by
    intro c hc
    rw [List.drop_zero] at hc
    have hc := List.mem_of_mem_take hc
    simp only [List.mem_cons, List.not_mem_nil, or_false] at hc
    rcases hc with rfl | rfl | rfl <;> exact dx _ _ _ (by simp)
   have hsl : (List.drop 0 (List.take (Int.toNat (1 + mm)) ([ae.mk 4 0 [88] [] [], ae.mk 4 0 [89] [] [], ae.mk 4 0 [90] [] []] : List ae))).length ≤ 100 := by
    simp only [List.length_drop, List.length_take, List.length_cons, List.length_nil]; omega
   have hsy := ahz 5 0 _ hsl hsub (by decide)
   refine ah (fun _ => ?_) (fun _ => ?_)
   ·refine aq (by first | (simp only [bnl, lnl]; done) | (simp only [bnl, lnl]; omega)) ?_
    refine ag (cT _) ?_
    rintro _ ⟨-, rfl⟩
    dsimp only
    refine aq (by first | (simp only [bnl, lnl]; done) | (simp only [bnl, lnl]; omega)) ?_
    refine ak ⟨_, _, _, _, _, _, _, _, _, rfl, rfl, ai3 _ _ _ _ (by simp) (by simp) (by simp [bP]) ?_, rfl, m53, hns2, by simp only [hlen]; omega⟩
    intro c hc
    simp only [List.cons_append, List.nil_append, List.mem_cons, List.not_mem_nil, or_false] at hc
    rcases hc with rfl | rfl | rfl | rfl
    ·exact dx _ _ _ (by simp)
    ·exact dx _ _ _ hnl
    ·exact hsy
    ·exact dx _ _ _ (by simp)
   ·refine ak ⟨_, _, _, _, _, _, _, _, _, rfl, rfl, ai3 _ _ _ _ (by simp) (by simp) (by simp [bP]) ?_, rfl, m53, hns2, by simp only [hlen]; omega⟩
    intro c hc
    simp only [List.mem_cons, List.not_mem_nil, or_false] at hc
    rcases hc with rfl | rfl | rfl
    ·exact dx _ _ _ (by simp)
    ·exact dx _ _ _ hnl
    ·exact hsy
  ·refine ag (an6 deep (by omega) hT _ _ _ _ hp' hns2 hnl ?_) ?_
   ·rw [hlen]; omega
   rintro ⟨t0, t1, t2, t3, t4, a'', n3, ns'⟩ ⟨-, ⟨h1, rfl, h3, h4, h5⟩, h6⟩
   dsimp only at h1 h3 h4 h5 h6 ⊢
   rw [hlen] at h6
   exact ak ⟨_, _, _, _, _, _, _, _, _, rfl, rfl, h1, rfl, h3, h4, by simp only; omega⟩
 have one : ∀ (k n' : Int) (b : Bool), deep ≤ 3 → nU a n' → (b = true → 0 < ns.length) → Tot (ix 1 (deep, k, b, a, n', ns, 0, 0, [], [], [])) (fun z => ∃ (y0 : Int) (y1 : Int) (y2 : List UInt8) (y3 : List ae) (y4 : List (List UInt8)) (y5 : List UInt8) (y6 : Int) (y7 : List (List UInt8)) (rest : List an), z.1.dimR = .agg [.int .i64 y0, .int .i64 y1, .str y2, .sl .jnode (.may false) y3, .sl .str (.may false) y4] ∧ z.2 = some [.sl .u8 (.may false) y5, .int .i64 y6] :: some [.sl .str .own y7] :: rest ∧ ef a n ns deep (y0, y1, y2, y3, y4, y5, y6, y7)) := by
  intro k n' b hd3 hp' hb
  unfold ix kE
  dsimp only
  refine ah (fun h1 => ?_) (fun h1 => two _ _ hd3 hp')
  have hb := hb h1
  have numTot : ∃ r, aU a n' (ns.length : Int) r := aAZ _ _ _ hp' (by omega)
  refine ag numTot ?_
  rintro ⟨mm, a3, n4⟩ ⟨-, mm1, mm2, rfl, mm3⟩
  dsimp only at mm1 mm2 mm3 ⊢
  refine aq (by first | (simp only [bnl, lnl]; done) | (simp only [bnl, lnl]; omega)) ?_
  refine ag (cT _) ?_
  rintro _ ⟨-, rfl⟩
  exact ak ⟨_, _, _, _, _, _, _, _, _, rfl, rfl, dx _ _ _ (amp hns _), rfl, mm3, hns, by simp only; omega⟩
 have zero : ∀ (k n' : Int), 0 ≤ k → (8 ≤ k → deep ≤ 3) → nU a n' → Tot (lq 1 (deep, k, a, n', ns, 0, 0, [], [], [])) (fun z => ∃ (y0 : Int) (y1 : Int) (y2 : List UInt8) (y3 : List ae) (y4 : List (List UInt8)) (y5 : List UInt8) (y6 : Int) (y7 : List (List UInt8)) (rest : List an), z.1.dimR = .agg [.int .i64 y0, .int .i64 y1, .str y2, .sl .jnode (.may false) y3, .sl .str (.may false) y4] ∧ z.2 = some [.sl .u8 (.may false) y5, .int .i64 y6] :: some [.sl .str .own y7] :: rest ∧ ef a n ns deep (y0, y1, y2, y3, y4, y5, y6, y7)) := by
  intro k n' hk hk2 hp'
  unfold lq kF
  dsimp only
  refine ah (fun h1 => ?_) (fun h1 => ?_)
  ·have h1 := of_decide_eq_true h1
   refine aq (by first | (simp only [bnl, lnl]; done) | (simp only [bnl, lnl]; omega)) ?_
   refine ag (cT _) ?_
   rintro _ ⟨-, rfl⟩
   exact ak ⟨_, _, _, _, _, _, _, _, _, rfl, rfl, dx _ _ _ (amp w8 _), rfl, hp', hns, by simp only; omega⟩
  have hd3 := hk2 (by have := of_decide_eq_false h1; omega)
  have hT := hT hd3
  rw [ed]
  have tab : ∀ (word w2 : List UInt8), word.length ≤ 100 → w2.length ≤ 100 → ∀ (nm : List UInt8), nm.length ≤ 100 → Tot (ai (be word) (fun r3 => ai (cu a n' ns (deep + 1)) (fun r4 =>
     ai (dY true ([nm, w2] : List (List UInt8)) true ([⟨r3.1, r3.2.1, r3.2.2.1, r3.2.2.2.1, r3.2.2.2.2⟩, ⟨r4.1, r4.2.1, r4.2.2.1, r4.2.2.2.1, r4.2.2.2.2.1⟩] : List ae)) (fun r5 =>
      some (V.agg [.int .i64 r5.1, .int .i64 r5.2.1, .str r5.2.2.1, .sl .jnode (.may r5.2.2.2.1) r5.2.2.2.2.1, .sl .str (.may r5.2.2.2.2.2.1) r5.2.2.2.2.2.2], ([some [.sl .u8 (.may false) r4.2.2.2.2.2.1, .int .i64 r4.2.2.2.2.2.2.1], some [.sl .str .own r4.2.2.2.2.2.2.2], some [.int .i64 r5.1, .int .i64 r5.2.1, .str r5.2.2.1, .sl .jnode (.may r5.2.2.2.1) r5.2.2.2.2.1, .sl .str (.may r5.2.2.2.2.2.1) r5.2.2.2.2.2.2]] : List an)))))) (fun z => ∃ (y0 : Int) (y1 : Int) (y2 : List UInt8) (y3 : List ae) (y4 : List (List UInt8)) (y5 : List UInt8) (y6 : Int) (y7 : List (List UInt8)) (rest : List an), z.1.dimR = .agg [.int .i64 y0, .int .i64 y1, .str y2, .sl .jnode (.may false) y3, .sl .str (.may false) y4] ∧ z.2 = some [.sl .u8 (.may false) y5, .int .i64 y6] :: some [.sl .str .own y7] :: rest ∧ ef a n ns deep (y0, y1, y2, y3, y4, y5, y6, y7)) := by
   intro word w2 hw hw2 nm hnm
   refine ag (cT _) ?_
   rintro _ ⟨-, rfl⟩
   refine ag (hT _ _ _ hp' hns (by omega)) ?_
   rintro ⟨t0, t1, t2, t3, t4, a'', n3, ns'⟩ ⟨-, h1, rfl, h3, h4, h5⟩
   dsimp only at h1 h3 h4 h5 ⊢
   refine ag (wK _ _ _ _) ?_
   rintro _ ⟨-, rfl⟩
   dsimp only
   refine ak ⟨_, _, _, _, _, _, _, _, _, rfl, rfl, ai3 _ _ _ _ (by simp) (by simp) ?_ ?_, rfl, h3, h4, by simp only; omega⟩
   ·intro x hx
    simp only [List.mem_cons, List.not_mem_nil, or_false] at hx
    rcases hx with rfl | rfl <;> assumption
   ·intro c hc
    simp only [List.mem_cons, List.not_mem_nil, or_false] at hc
    rcases hc with rfl | rfl
    ·exact dx _ _ _ hw
    ·exact h1
  refine ah (fun _ => ?_) (fun _ => ah (fun _ => ?_) (fun _ => ah (fun _ => ?_) (fun _ => ah (fun _ => one _ _ _ hd3 hp' fun hb => ?_) (fun _ => one _ _ _ hd3 hp' fun hb => by cases hb))))
  ·exact tab _ _ (by simp) (by simp) _ (by simp)
  ·exact tab _ _ (by simp) (by simp) _ (by simp)
  ·refine ag (aCR deep (by omega) hT _ _ _ hp' hns hl) ?_
   rintro ⟨t0, t1, t2, t3, t4, a'', n3, ns'⟩ ⟨-, h1, rfl, h3, h4, h5⟩
   exact ak ⟨_, _, _, _, _, _, _, _, _, rfl, rfl, h1, rfl, h3, h4, h5⟩
  ·have := of_decide_eq_true hb
   omega
 refine ag (rl _ _ _ hp (by omega) (by omega)) ?_
 rintro ⟨m, a', n'⟩ ⟨-, m1, m2, rfl, m3⟩
 dsimp only at m1 m2 m3 ⊢
 have t8 : 0 ≤ Int.tmod m 8 ∧ Int.tmod m 8 < 8 := ⟨Int.tmod_nonneg _ m1, Int.tmod_lt_of_pos _ (by omega)⟩
 refine ah (fun h1 => zero _ _ t8.1 (fun h => by omega) m3) (fun h1 => ?_)
 have h1 := of_decide_eq_false h1
 refine ag (aD6 _ _) ?_
 rintro ⟨b, a2, n2⟩ ⟨-, rfl, rfl⟩
 dsimp only
 exact ah (fun _ => zero _ _ t8.1 (fun h => by omega) m3) (fun _ => zero _ _ m1 (fun _ => by omega) m3)
theorem ax1 : ∀ (k : Nat) (deep : Int), deep + k = 4 → 0 ≤ deep → att deep
 | 0, deep, h, h1 => atu deep (by omega) (fun h' => by omega)
 | k + 1, deep, h, h1 => atu deep (by omega) (fun _ => ax1 k (deep + 1) (by omega) (by omega))
theorem aCS (a : List UInt8) (n : Int) (hp : nU a n) : ∃ r, ii a n r := by
 apply af8 1
 unfold nY uN
 refine ag (an6 0 (by omega) (ax1 3 1 (by omega) (by omega)) _ _ _ _ hp (by simp [bP]) (by simp) (by simp [qc])) ?_
 rintro ⟨t0, t1, t2, t3, t4, a'', n3, ns'⟩ ⟨-, ⟨h1, rfl, h3, h4, h5⟩, h6⟩
 exact ak ⟨_, _, _, _, _, _, _, _, rfl, rfl, h1, rfl, h3⟩
end Go.Proofs.Ytdpajabhmmmjoaa
end
