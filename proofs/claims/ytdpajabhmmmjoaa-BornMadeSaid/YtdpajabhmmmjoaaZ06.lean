import Derived.Test.YtdpajabhmmmjoaaChecked
import Derived.ChangeArms
import Derived.ChangeSlices
import Derived.WideShapes
import Derived.WideKeyArgs
import Derived.KernelRfl
import Derived.Test.YtdpajabhmmmjoaaZ02
import Derived.Test.YtdpajabhmmmjoaaZ03
import Derived.Test.YtdpajabhmmmjoaaZ04
import Derived.Test.YtdpajabhmmmjoaaZ05
noncomputable section
namespace Go.Proofs.Ytdpajabhmmmjoaa
open Go.AM
set_option autoImplicit false
set_option linter.unusedVariables false
set_option linter.unusedSimpArgs false
set_option maxRecDepth 100000
theorem alh (deep : Int) (hd : 1 ≤ deep ∧ deep ≤ 20) (hT : vc (deep + 1)) (ts : List ak) (e c0 c1 : Int) (c2 : List UInt8) (c3 : List aA) (c4 : List (List UInt8)) (k : Int) (space : List UInt8)
  (h : ts.length ≤ 60) (hn : aV (.mk c0 c1 c2 c3 c4)) (hs : (space.length : Int) ≤ 202 * deep) (hk : k ≠ 14) (hk2 : 1 ≤ k ∧ k ≤ 14) : ∃ r, f7 ts e c0 c1 c2 c3 c4 k space deep r := by
 obtain ⟨k1, k2, k3, k4, k5, k6⟩ := hn.kids
 apply yT 2000
 unfold mB fw
 have last : ∀ (sp : List UInt8) (e2 o0 : Int) (o1 : List UInt8) (o2 : List (List UInt8)), (sp.length : Int) ≤ 202 * deep + 201 → (e2 = 0 → e = 0) → o0 = k → Tot (dg 2000 (k, sp, deep, c0, c1, c2, c3, c4, ts, e2, o0, o1, o2, 0, [], false, [], 0, [], [])) (fun z => ∃ (y0 : Int) (y1 : List ak) (y2 : Int) (rest : List aI), z.1.dimR = .int .i64 y0 ∧ z.2 = some [.ul .atype y1, .int .i64 y2] :: rest ∧ dM ts e c0 c1 c2 c3 c4 k space deep (y0, y1, y2)) := by
  intro sp e2 o0 o1 o2 hsp he ho
  unfold dg
  dsimp only
  subst ho
  have tk : o0 ≠ 10 → fZ (ts.length + 1) ⟨o0, o1, o2, 0, [], false, [], 0, [], []⟩ := fun h10 => ⟨by simp only; omega, by simp, by simp, by simp, by simp, by simp, by simp, fun h => absurd h hk, hk2, fun h => absurd h h10, fun _ => rfl⟩
  repeat' (first | (with_reducible refine aD ?_ ?_ <;> (intro hb; (try simp only [bnl] at hb); (try revert hb; intro _))) | with_reducible refine aN ?_ ?_ | with_reducible refine aG ?_ | fail)
  ·rename_i h2
   exact ⟨_, _, _, _, rfl, rfl, bp.stuck (Nat.le_refl _) h h2, fun h => absurd h h2⟩
  rename_i h2
  refine aE (acH _ _ _ _ _ _ _ _ _ _ _ _ h) ?_
  rintro r ⟨-, hr⟩
  have ho := jA.add h hr
  clear hr
  obtain ⟨a, ts1, e1⟩ := r
  dsimp only at ho ⊢
  have hr1 : e1 = 0 → 0 ≤ a ∧ a < ts1.length := fun h0 => ho.range h0
  have wk : ∀ {ts' : List ak} {e' : Int}, bp ts e2 ts' e' → bp ts e ts' e' := fun g => g.weak he
  have wstuck : ∀ {c : Int}, c ≠ 0 → bp ts e ts1 (if e1 = 0 then c else e1) := fun hc => bp.stuck ho.len ho.cap (nz hc)
  repeat' (first | (with_reducible refine aD ?_ ?_ <;> (intro hb; (try simp only [bnl] at hb); (try revert hb; intro _))) | with_reducible refine aN ?_ ?_ | with_reducible refine aG ?_ | (refine aE (akt deep hd hT _ _ _ _ _ _ _ _ _ ho.cap hn hsp hr1) ?_; rintro ⟨ts3, e3⟩ ⟨-, ts2, g1, g2⟩; dsimp only at g1 g2 ⊢) | (refine aE (ajx _ _ _ _ _ _ _ _ hn hr1) ?_; rintro ⟨ts3, e3⟩ ⟨-, g1, g2⟩; dsimp only at g1 g2 ⊢) | fail)
  ·rename_i h9
   have h10 : o0 ≠ 10 := by omega
   have tk := tk h10
   have ho2 := ho.more g1
   have gk := ho2.kept tk
   refine ⟨_, _, _, _, rfl, rfl, ?_⟩
   rcases g2 with rfl | ⟨l, l1, l2, t, t1, rfl⟩
   ·exact ⟨wk gk, fun h0 => ho2.range h0⟩
   ·by_cases h0 : e3 = 0
    ·rw [ho2.get h0] at t1
     obtain rfl := Option.some.inj t1
     have hr := ho2.range h0
     refine ⟨wk (ho2.done h0 ⟨by simp only; omega, l2, l1, by simp, by simp, by simp, by simp, tk.done, tk.kind, tk.enum, fun h => absurd h9 h⟩), fun _ => ?_⟩
     simpa using hr
    ·exact ⟨bp.stuck (by simpa using gk.len) (by simpa using gk.cap) h0, fun h => absurd h h0⟩
  ·refine ⟨_, _, _, _, rfl, rfl, ?_⟩
   by_cases h0 : e3 = 0
   ·obtain ⟨l, h', d, l0, l1, t, t1, rfl⟩ := g2.2 h0
    have h1 := g1 h0
    rw [ho.get h1] at t1
    obtain rfl := Option.some.inj t1
    have hr := ho.range h1
    have := ho.done h1 (t := ⟨o0, o1, o2, 0, l, h', d, 0, [], []⟩) ⟨by simp only; omega, by simp, by simp, by simp, by simp, l1, by simp, fun h => absurd h hk, hk2, fun _ => l0, fun _ => rfl⟩
    refine ⟨wk (by rw [h0]; rw [h1] at this; exact this), fun _ => ?_⟩
    simpa using hr
   ·have := g2.1 h0
    subst this
    exact ⟨bp.stuck ho.len ho.cap h0, fun h => absurd h h0⟩
  ·refine aE (lr _ _ _ _ _ _ (by omega)) ?_
   rintro r ⟨-, hr⟩
   clear hr
   repeat' (first | (with_reducible refine aD ?_ ?_ <;> (intro hb; (try simp only [bnl] at hb); (try revert hb; intro _))) | with_reducible refine aN ?_ ?_ | with_reducible refine aG ?_ | (refine aE (bN _ _ _) ?_; rintro _ ⟨-, rfl⟩; try dsimp only) | fail)
   all_goals first | exact ⟨_, _, _, _, rfl, rfl, wstuck (by decide), fun h => absurd h (nz (by decide))⟩ | (have := hr1 (by assumption); first | (simp only [bnl, lnl]; done) | (simp only [bnl, lnl]; omega)) | (first | (simp only [bnl, lnl]; done) | (simp only [bnl, lnl]; omega)) | skip
   ·rename_i hz0 hz1 h0
    have hr := ho.range h0
    have tk := tk (by assumption)
    rw [lR (ho.get h0)]
    refine ⟨_, _, _, _, rfl, rfl, wk (ho.done h0 ⟨by simp only; omega, by simp, by simp, by simp, by simp, by simp, by simp only; omega, tk.done, tk.kind, tk.enum, fun _ => rfl⟩), fun _ => ?_⟩
    simpa using hr
   ·rename_i h0
    exact ⟨_, _, _, _, rfl, rfl, wk (ho.kept (tk (by assumption))), fun h => absurd h h0⟩
 have mid : ∀ (sp : List UInt8) (e2 : Int) (nm : List UInt8) (al : List (List UInt8)), (sp.length : Int) ≤ 202 * deep + 201 → (e2 = 0 → e = 0) → bK al → al.length ≤ 100 → Tot (aW 2000 (dh 2000) (k, sp, deep, c0, c1, c2, c3, c4, al, 0, ts, e2, k, nm, [], 0, [], false, [], 0, [], [])) (fun z => ∃ (y0 : Int) (y1 : List ak) (y2 : Int) (rest : List aI), z.1.dimR = .int .i64 y0 ∧ z.2 = some [.ul .atype y1, .int .i64 y2] :: rest ∧ dM ts e c0 c1 c2 c3 c4 k space deep (y0, y1, y2)) := by
  intro sp e2 nm al hsp he hal hal2
  refine bd (fun x => match x with | (k', sp', dp, d0, d1, d2, d3, d4, al', i, ts', e3, o0, o1, o2, o3, o4, o5, o6, o7, o8, o9) => k' = k ∧ sp' = sp ∧ dp = deep ∧ d0 = c0 ∧ d1 = c1 ∧ d2 = c2 ∧ d3 = c3 ∧ d4 = c4 ∧ al' = al ∧ 0 ≤ i ∧ i ≤ (al.length : Int) ∧ ts' = ts ∧ (e3 = 0 → e = 0) ∧ o0 = k ∧ (o2.length : Int) = i ∧ o3 = 0 ∧ o4 = [] ∧ o5 = false ∧ o6 = [] ∧ o7 = 0 ∧ o8 = [] ∧ o9 = []) (fun x => ((al.length : Int) - x.2.2.2.2.2.2.2.2.2.1).toNat) ?_ _ _
   ⟨rfl, rfl, rfl, rfl, rfl, rfl, rfl, rfl, rfl, by simp, by simp, rfl, he, rfl, rfl, rfl, rfl, rfl, rfl, rfl, rfl, rfl⟩ (by simp; omega)
  rintro again ⟨k', sp', dp, d0, d1, d2, d3, d4, al', i, ts', e3, o0, o1, o2, o3, o4, o5, o6, o7, o8, o9⟩ ⟨rfl, rfl, rfl, rfl, rfl, rfl, rfl, rfl, rfl, i1, i2, rfl, i3, rfl, i4, rfl, rfl, rfl, rfl, rfl, rfl, rfl⟩ ih
  dsimp only at ih
  have ew : i < al'.length → IntKind.i64.wrap (i + 1) = i + 1 := fun h => aJ (i + 1) (by omega)
  have next : ∀ (e5 : Int) (w : List UInt8), i < al'.length → (e5 = 0 → e = 0) → Tot (again (o0, sp', dp, d0, d1, d2, d3, d4, al', IntKind.i64.wrap (i + 1), ts', e5, o0, o1, o2 ++ [w], 0, [], false, [], 0, [], [])) _ := fun e5 w hi he5 => ih (o0, sp', dp, d0, d1, d2, d3, d4, al', IntKind.i64.wrap (i + 1), ts', e5, o0, o1, o2 ++ [w], 0, [], false, [], 0, [], [])
   (by
    simp only [ew hi, List.length_append, List.length_cons, List.length_nil]
    exact ⟨trivial, trivial, trivial, trivial, trivial, trivial, trivial, trivial, trivial, by omega, by omega, trivial, he5, trivial, by omega, trivial, trivial, trivial, trivial, trivial, trivial, trivial⟩) (by simp only [ew hi]; omega)
  have lst : ∀ e4 : Int, (e4 = 0 → e = 0) → Tot (dg 2000 (o0, sp', dp, d0, d1, d2, d3, d4, ts', e4, o0, o1, o2, 0, [], false, [], 0, [], [])) _ := fun e4 h4 => last sp' e4 o0 o1 o2 hsp h4 rfl
  unfold dh gT
  dsimp only
  have wn := z5 hal i.toNat
  repeat' (first | (with_reducible refine aD ?_ ?_ <;> (intro hb; (try simp only [bnl] at hb); (try revert hb; intro _))) | with_reducible refine aN ?_ ?_ | with_reducible refine aG ?_ | (refine aE (bN _ _ _) ?_; rintro _ ⟨-, rfl⟩; try dsimp only) | (refine aE (agq _ _ _ _ wn (by omega)) ?_; rintro ⟨w, ts4, e4⟩ ⟨-, w1, rfl, w2⟩; dsimp only at w1 w2 ⊢) | (refine aE (aiB _ _ _ h) ?_; rintro ⟨b, c, ts4, e4⟩ ⟨-, hq, hf⟩; simp only [Prod.mk.injEq] at hq; obtain ⟨rfl, rfl⟩ := hq; dsimp only at hf ⊢) | fail)
  all_goals first | (first | (simp only [bnl, lnl]; done) | (simp only [bnl, lnl]; omega)) | exact next _ _ (by omega) (fun h => i3 (w2 h)) | exact lst _ i3 | exact lst _ (fun h => absurd h (nz (by decide))) | skip
 refine aE (adV _ _ _ _ _ _ _ _ _ hn) ?_
 rintro ⟨nm, ts', e1⟩ ⟨-, w1, rfl, w2⟩
 dsimp only at w1 w2 ⊢
 refine aE (lr _ _ _ _ _ _ (by omega)) ?_
 rintro r ⟨-, hr⟩
 have hg := pA (k := c0) (names := c4) (name := [110, 97, 109, 101, 115, 112, 97, 99, 101]) k6
 simp only [bQ] at hr
 rw [← hr] at hg
 have g1 := hg.kids.1
 have first : ∀ (sp : List UInt8) (e2 : Int), (sp.length : Int) ≤ 202 * deep → (e2 = 0 → e = 0) → Tot (iu 2000 (k, sp, deep, c0, c1, c2, c3, c4, nm, ts', e2)) (fun z => ∃ (y0 : Int) (y1 : List ak) (y2 : Int) (rest : List aI), z.1.dimR = .int .i64 y0 ∧ z.2 = some [.ul .atype y1, .int .i64 y2] :: rest ∧ dM ts' e c0 c1 c2 c3 c4 k space deep (y0, y1, y2)) := by
  intro sp e2 hsp he
  unfold iu gU
  dsimp only
  repeat' (first | (with_reducible refine aD ?_ ?_ <;> (intro hb; (try simp only [bnl] at hb); (try revert hb; intro _))) | with_reducible refine aN ?_ ?_ | with_reducible refine aG ?_ | fail)
  ·rename_i h2
   exact ⟨_, _, _, _, rfl, rfl, bp.stuck (Nat.le_refl _) h h2, fun h => absurd h h2⟩
  refine aE (agq _ _ _ _ w1 (by omega)) ?_
  rintro ⟨w, ts4, e4⟩ ⟨-, x1, rfl, x2⟩
  dsimp only at x1 x2 ⊢
  refine aE (aks _ (by omega)) ?_
  rintro b ⟨-, hb⟩
  dsimp only [iC] at hb ⊢
  refine aE (acB _ _ _ _ _ _ _ _ hn) ?_
  rintro ⟨al, is, ts6, e7⟩ ⟨-, t1, t2, rfl, t3⟩
  dsimp only at t1 t2 t3 ⊢
  exact mid _ _ _ _ (by omega) (fun h => he (x2 (t3 h))) t2 t1
 repeat' (first | (with_reducible refine aD ?_ ?_ <;> (intro hb; (try simp only [bnl] at hb); (try revert hb; intro _))) | with_reducible refine aN ?_ ?_ | with_reducible refine aG ?_ | (refine aE (bN _ _ _) ?_; rintro _ ⟨-, rfl⟩; try dsimp only) | fail)
 ·exact first _ _ (by omega) (fun h => absurd h (nz (by decide)))
 ·exact first _ _ (by omega) w2
 ·exact first _ _ hs w2
theorem ags (deep : Int) (hd : 1 ≤ deep ∧ deep ≤ 21) (hT : deep ≤ 20 → vc (deep + 1)) : vc deep := by
 intro ts e c0 c1 c2 c3 c4 space h hn hs
 obtain ⟨k1, k2, k3, k4, k5, k6⟩ := hn.kids
 apply z4 2000
 unfold nD gl
 dsimp only
 have stuck : ∀ {c : Int}, c ≠ 0 → bp ts e ts (if e = 0 then c else e) := fun hc => bp.stuck (Nat.le_refl _) h (nz hc)
 repeat' (first | (with_reducible refine aD ?_ ?_ <;> (intro hb; (try simp only [bnl] at hb); (try revert hb; intro _))) | with_reducible refine aN ?_ ?_ | with_reducible refine aG ?_ | (refine aE (bN _ _ _) ?_; rintro _ ⟨-, rfl⟩; try dsimp only) | (refine aE (agr _ _ _ _ h k1 (by omega)) ?_; rintro ⟨a, ts', e'⟩ ⟨-, g1, g2⟩; dsimp only at g1 g2 ⊢) | (refine aE (alg deep (by omega) (hT (by omega)) _ _ _ _ _ _ _ _ h hn hs) ?_; rintro ⟨a, ts', e'⟩ ⟨-, g1, g2⟩; dsimp only at g1 g2 ⊢) | fail)
 all_goals first | exact ⟨_, _, _, _, rfl, rfl, stuck (by decide), fun h => absurd h (nz (by decide))⟩ | exact ⟨_, _, _, _, rfl, rfl, g1, g2⟩ | skip
 ·rename_i he
  exact ⟨_, _, _, _, rfl, rfl, bp.refl h, fun h => absurd h he⟩
 rename_i he hdd _ _ _
 have hT := hT (by omega)
 have ed : IntKind.i64.wrap (deep + 1) = deep + 1 := aJ (deep + 1) (by omega)
 refine aE (lr _ _ _ _ _ _ (by omega)) ?_
 rintro r ⟨-, hr⟩
 have hg := pA (k := c0) (names := c4) (name := [116, 121, 112, 101]) k6
 simp only [bQ] at hr
 rw [← hr] at hg
 have hgk := hg.kids
 clear hr
 obtain ⟨d0, d1, d2, d3, d4, d5⟩ := r
 dsimp only at hg hgk ⊢
 have part : ∀ (word : List UInt8) (k a : Int) (ts1 : List ak) (e1 : Int), k ≠ 14 → (1 ≤ k ∧ k ≤ 14) → k ≠ 10 → jA ts e ⟨k, [], [], 0, [], false, [], 0, [], []⟩ a ts1 e1 → Tot (fA 2000 (space, deep, c0, c1, c2, c3, c4, a, word, ts1, e1)) (fun z => ∃ (y0 : Int) (y1 : List ak) (y2 : Int) (rest : List aI), z.1.dimR = .int .i64 y0 ∧ z.2 = some [.ul .atype y1, .int .i64 y2] :: rest ∧ dd ts e c0 c1 c2 c3 c4 space deep (y0, y1, y2)) := by
  intro word k a ts1 e1 hk hk2 hk10 ho
  unfold fA
  dsimp only
  refine aE (lr _ _ _ _ _ _ (by omega)) ?_
  rintro r ⟨-, hr⟩
  have hg := pA (k := c0) (names := c4) (name := word) k6
  simp only [bQ] at hr
  rw [← hr] at hg
  clear hr
  repeat' (first | (with_reducible refine aD ?_ ?_ <;> (intro hb; (try simp only [bnl] at hb); (try revert hb; intro _))) | with_reducible refine aN ?_ ?_ | with_reducible refine aG ?_ | (refine aE (bN _ _ _) ?_; rintro _ ⟨-, rfl⟩; try dsimp only) | fail)
  ·exact ⟨_, _, _, _, rfl, rfl, bp.stuck ho.len ho.cap (nz (by decide)), fun h => absurd h (nz (by decide))⟩
  simp only [ed]
  refine aE (hT _ _ _ _ _ _ _ _ ho.cap hg (by omega)) ?_
  rintro ⟨i, ts2, e2⟩ ⟨-, x1, x2⟩
  dsimp only at x1 x2 ⊢
  have ho2 := ho.more x1
  have hr2 : e2 = 0 → 0 ≤ a ∧ a < ts2.length := fun h0 => ho2.range h0
  repeat' (first | (with_reducible refine aD ?_ ?_ <;> (intro hb; (try simp only [bnl] at hb); (try revert hb; intro _))) | with_reducible refine aN ?_ ?_ | with_reducible refine aG ?_ | fail)
  all_goals first | (have := hr2 (by assumption); first | (simp only [bnl, lnl]; done) | (simp only [bnl, lnl]; omega)) | (first | (simp only [bnl, lnl]; done) | (simp only [bnl, lnl]; omega)) | skip
  ·rename_i h0
   have hr := ho2.range h0
   rw [lR (ho2.get h0)]
   refine ⟨_, _, _, _, rfl, rfl, ho2.done h0 ⟨x2 h0, by simp, by simp, by simp, by simp, by simp, by simp, fun h => absurd h hk, hk2, fun h => absurd h hk10, fun _ => rfl⟩, fun _ => ?_⟩
   simpa using hr
  ·rename_i h0
   exact ⟨_, _, _, _, rfl, rfl, ho2.stuck h0, fun h => absurd h h0⟩
 have txt : Tot (fB 2000 (space, d0, d1, d2, d3, d4, ts, e)) (fun z => ∃ (y0 : Int) (y1 : List ak) (y2 : Int) (rest : List aI), z.1.dimR = .int .i64 y0 ∧ z.2 = some [.ul .atype y1, .int .i64 y2] :: rest ∧ dd ts e c0 c1 c2 c3 c4 space deep (y0, y1, y2)) := by
  unfold fB
  dsimp only
  refine aE (agr _ _ _ _ h hgk.1 (by omega)) ?_
  rintro ⟨a, ts', e'⟩ ⟨-, g1, g2⟩
  exact aG ⟨_, _, _, _, rfl, rfl, g1, g2⟩
 have one : ∀ b : Bool, (b = true → d2 = [97, 114, 114, 97, 121] ∨ d2 = [109, 97, 112]) → Tot (fC 2000 (space, deep, c0, c1, c2, c3, c4, d0, d1, d2, d3, d4, b, ts, e)) (fun z => ∃ (y0 : Int) (y1 : List ak) (y2 : Int) (rest : List aI), z.1.dimR = .int .i64 y0 ∧ z.2 = some [.ul .atype y1, .int .i64 y2] :: rest ∧ dd ts e c0 c1 c2 c3 c4 space deep (y0, y1, y2)) := by
  intro b hb
  unfold fC ix
  dsimp only
  refine aD (fun h1 => ?_) (fun h1 => txt)
  refine aE (adI _) ?_
  rintro (k : Int) ⟨-, hk1, hk2, hk3, hk4, hk5⟩
  have hb := hb h1
  have hk : k ≠ 14 := fun h => by have := hk3 h; subst this; revert hb; decide
  have hk10 : k ≠ 10 := fun h => by have := hk5 h; subst this; revert hb; decide
  have hk0 : k ≠ 0 := fun h => by
   rcases hb with hb | hb
   ·exact hk4 h 11 (by decide) hb.symm
   ·exact hk4 h 12 (by decide) hb.symm
  refine aE (acH _ _ _ _ _ _ _ _ _ _ _ _ h) ?_
  rintro r ⟨-, hr⟩
  have ho := jA.add h hr
  clear hr
  obtain ⟨a, ts1, e1⟩ := r
  dsimp only at ho ⊢
  repeat' (first | (with_reducible refine aD ?_ ?_ <;> (intro hb; (try simp only [bnl] at hb); (try revert hb; intro _))) | with_reducible refine aN ?_ ?_ | with_reducible refine aG ?_ | fail)
  all_goals exact part _ k _ _ _ hk (by omega) hk10 ho
 have zero : ∀ b : Bool, (b = true → d2 = [114, 101, 99, 111, 114, 100] ∨ d2 = [101, 110, 117, 109] ∨ d2 = [102, 105, 120, 101, 100]) → Tot (ja 2000 (space, deep, c0, c1, c2, c3, c4, d0, d1, d2, d3, d4, d2, b, ts, e)) (fun z => ∃ (y0 : Int) (y1 : List ak) (y2 : Int) (rest : List aI), z.1.dimR = .int .i64 y0 ∧ z.2 = some [.ul .atype y1, .int .i64 y2] :: rest ∧ dd ts e c0 c1 c2 c3 c4 space deep (y0, y1, y2)) := by
  intro b hb
  unfold ja iy
  dsimp only
  refine aD (fun h1 => ?_) (fun h1 => aD (fun h2 => one _ fun _ => ?_) (fun h2 => one _ fun h3 => ?_))
  ·refine aE (adI _) ?_
   rintro (k : Int) ⟨-, hk1, hk2, hk3, hk4, hk5⟩
   have hb := hb h1
   have hk : k ≠ 14 := fun h => by have := hk3 h; subst this; revert hb; decide
   have hk0 : k ≠ 0 := fun h => by
    rcases hb with hb | hb | hb
    ·exact hk4 h 8 (by decide) hb.symm
    ·exact hk4 h 9 (by decide) hb.symm
    ·exact hk4 h 10 (by decide) hb.symm
   refine aE (alh deep (by omega) hT _ _ _ _ _ _ _ _ _ h hn hs hk (by omega)) ?_
   rintro ⟨a, ts', e'⟩ ⟨-, g1, g2⟩
   exact aG ⟨_, _, _, _, rfl, rfl, g1, g2⟩
  ·exact .inl (of_decide_eq_true h2)
  ·exact .inr (of_decide_eq_true h3)
 repeat' (first | (with_reducible refine aD ?_ ?_ <;> (intro hb; (try simp only [bnl] at hb); (try revert hb; intro _))) | with_reducible refine aN ?_ ?_ | with_reducible refine aG ?_ | (refine aE (bN _ _ _) ?_; rintro _ ⟨-, rfl⟩; try dsimp only) | fail)
 ·exact ⟨_, _, _, _, rfl, rfl, stuck (by decide), fun h => absurd h (nz (by decide))⟩
 ·simp only [ed]
  refine aE (hT _ _ _ _ _ _ _ _ h hg (by omega)) ?_
  rintro ⟨a, ts', e'⟩ ⟨-, g1, g2⟩
  exact aG ⟨_, _, _, _, rfl, rfl, g1, g2⟩
 all_goals refine zero _ fun hb => ?_
 ·exact .inl (by first | assumption | exact of_decide_eq_true hb)
 ·exact .inr (.inl (by first | assumption | exact of_decide_eq_true hb))
 ·exact .inr (.inr (by first | assumption | exact of_decide_eq_true hb))
theorem aiV : ∀ (n : Nat) (deep : Int), deep + n = 21 → 1 ≤ deep → vc deep
 | 0, deep, h, h1 => ags deep (by omega) (fun h' => by omega)
 | n + 1, deep, h, h1 => ags deep (by omega) (fun _ => aiV n (deep + 1) (by omega) (by omega))
theorem alU (c0 c1 : Int) (c2 : List UInt8) (c3 : List aA) (c4 : List (List UInt8)) (hn : aV (.mk c0 c1 c2 c3 c4)) : ∃ r, oq c0 c1 c2 c3 c4 r := by
 apply af8 1
 unfold uH aaM
 refine aE (aiV 20 1 (by omega) (by omega) _ _ _ _ _ _ _ _ (by simp) hn (by simp)) ?_
 rintro ⟨a, ts', e'⟩ ⟨-, g1, g2⟩
 dsimp only at g1 g2 ⊢
 repeat' (first | (with_reducible refine aD ?_ ?_ <;> (intro hb; (try simp only [bnl] at hb); (try revert hb; intro _))) | with_reducible refine aN ?_ ?_ | with_reducible refine aG ?_ | fail)
 ·rename_i h0
  exact ⟨_, _, _, rfl, rfl, fun h => absurd h h0⟩
 ·rename_i h0
  exact ⟨_, _, _, rfl, rfl, fun _ => by have g2 := g2 h0; rw [h0] at g1; exact g1.sch (by omega)⟩
end Go.Proofs.Ytdpajabhmmmjoaa
end
noncomputable section
namespace Go.Proofs.Ytdpajabhmmmjoaa
open Go.AM
set_option autoImplicit false
set_option linter.unusedVariables false
set_option linter.unusedSimpArgs false
set_option maxRecDepth 100000
theorem cR (k n : Int) (s : List UInt8) (h : s.length ≤ 100) : aV (.mk k n s [] []) := .mk _ _ _ _ _ h (by simp) (by simp) (by simp) (by simp) (by simp)
theorem yY (k n : Int) (l : List aA) (h : l.length ≤ 8) (hl : ∀ c ∈ l, aV c) (hk : k ≠ 6) : aV (.mk k n [] l []) := .mk _ _ _ _ _ (by simp) h (by simp) (by simp) (fun h => absurd h hk) hl
theorem z6 (k n : Int) (l : List aA) (names : List (List UInt8)) (hn : names.length = l.length) (h : l.length ≤ 8) (hs : bK names) (hl : ∀ c ∈ l, aV c) : aV (.mk k n [] l names) := .mk _ _ _ _ _ (by simp) h (by omega) hs (fun _ => hn) hl
theorem acI {l : List (List UInt8)} (h : bK l) (i : Nat) : (l.getD i (aC .str)).length ≤ 100 := z5 h i
theorem ajy (a : List UInt8) (n c0 c1 : Int) (c2 : List UInt8) (c3 : List aA) (c4 : List (List UInt8)) (hp : l9 a n) (hn : aV (.mk c0 c1 c2 c3 c4)) : ∃ r, eV a n c0 c1 c2 c3 c4 r := by
 obtain ⟨k1, k2, k3, k4, k5, k6⟩ := hn.kids
 apply xv 1
 unfold lG eF
 have one : ∀ (n' x0 x1 : Int) (x2 : List UInt8) (x3 : List aA) (x4 : List (List UInt8)), l9 a n' → Tot (d7 1 (c0, c1, c2, c3, c4, a, n', x0, x1, x2, x3, x4)) (fun z => ∃ (y0 y1 : Int) (y2 : List UInt8) (y3 : List aA) (y4 : List (List UInt8)) (y5 : List UInt8) (y6 : Int) (rest : List aI), z.1.dimR = .agg [.int .i64 y0, .int .i64 y1, .str y2, .sl .jnode (.may false) y3, .sl .str (.may false) y4] ∧ z.2 = some [.sl .u8 (.may false) y5, .int .i64 y6] :: rest ∧ dx a n c0 c1 c2 c3 c4 (y0, y1, y2, y3, y4, y5, y6)) := by
  intro n' x0 x1 x2 x3 x4 hp'
  unfold d7
  dsimp only
  repeat' (first | (with_reducible refine aD ?_ ?_ <;> (intro hb; (try simp only [bnl] at hb); (try revert hb; intro _))) | with_reducible refine aN ?_ ?_ | with_reducible refine aG ?_ | (refine aE (ajO _ _ _ _ _ _ k3 (by omega)) ?_; rintro r ⟨-, hr⟩; clear hr) | (refine aE (cu _) ?_; rintro _ ⟨-, rfl⟩; dsimp only) | fail)
  all_goals exact ⟨_, _, _, _, _, _, _, _, rfl, rfl, cR _ _ _ (by simp), rfl, hp'⟩
 have two : ∀ (n' x0 x1 : Int) (x2 : List UInt8) (x3 : List aA) (x4 : List (List UInt8)), l9 a n' → Tot (gK 1 (c0, c1, c2, c3, c4, a, n', x0, x1, x2, x3, x4)) (fun z => ∃ (y0 y1 : Int) (y2 : List UInt8) (y3 : List aA) (y4 : List (List UInt8)) (y5 : List UInt8) (y6 : Int) (rest : List aI), z.1.dimR = .agg [.int .i64 y0, .int .i64 y1, .str y2, .sl .jnode (.may false) y3, .sl .str (.may false) y4] ∧ z.2 = some [.sl .u8 (.may false) y5, .int .i64 y6] :: rest ∧ dx a n c0 c1 c2 c3 c4 (y0, y1, y2, y3, y4, y5, y6)) := by
  intro n' x0 x1 x2 x3 x4 hp'
  unfold gK
  dsimp only
  repeat' (first | (with_reducible refine aD ?_ ?_ <;> (intro hb; (try simp only [bnl] at hb); (try revert hb; intro _))) | with_reducible refine aN ?_ ?_ | with_reducible refine aG ?_ | (refine aE (ajO _ _ _ _ _ _ k3 (by omega)) ?_; rintro r ⟨-, hr⟩; clear hr) | (refine aE (cu _) ?_; rintro _ ⟨-, rfl⟩; dsimp only) | fail)
  all_goals exact ⟨_, _, _, _, _, _, _, _, rfl, rfl, cR _ _ _ (by simp), rfl, hp'⟩
 have zero : ∀ (b : Bool), Tot (gI 1 (c0, c1, c2, c3, c4, c2, b, a, n, 0, 0, [], [], [])) (fun z => ∃ (y0 y1 : Int) (y2 : List UInt8) (y3 : List aA) (y4 : List (List UInt8)) (y5 : List UInt8) (y6 : Int) (rest : List aI), z.1.dimR = .agg [.int .i64 y0, .int .i64 y1, .str y2, .sl .jnode (.may false) y3, .sl .str (.may false) y4] ∧ z.2 = some [.sl .u8 (.may false) y5, .int .i64 y6] :: rest ∧ dx a n c0 c1 c2 c3 c4 (y0, y1, y2, y3, y4, y5, y6)) := by
  intro b
  unfold gI fQ
  dsimp only
  have w3 : bK ([([] : List UInt8), ([100] : List UInt8), ([195, 164] : List UInt8)] : List (List UInt8)) := by simp [bK]
  repeat' (first | (with_reducible refine aD ?_ ?_ <;> (intro hb; (try simp only [bnl] at hb); (try revert hb; intro _))) | with_reducible refine aN ?_ ?_ | with_reducible refine aG ?_ | (refine aE (pz _ _ _ hp (by omega) (by omega)) ?_; rintro ⟨m, a', n'⟩ ⟨-, m1, m2, rfl, m3⟩; dsimp only at m1 m2 m3 ⊢) | (refine aE (cu _) ?_; rintro _ ⟨-, rfl⟩; dsimp only) | fail)
  all_goals first | exact ⟨_, _, _, _, _, _, _, _, rfl, rfl, cR _ _ _ (Nat.zero_le _), rfl, hp⟩ | exact ⟨_, _, _, _, _, _, _, _, rfl, rfl, cR _ _ _ (Nat.zero_le _), rfl, m3⟩ | exact ⟨_, _, _, _, _, _, _, _, rfl, rfl, cR _ _ _ (acI w3 _), rfl, m3⟩ | exact one _ _ _ _ _ _ hp | exact two _ _ _ _ _ _ hp | (first | (simp only [bnl, lnl]; done) | (simp only [bnl, lnl]; omega)) | skip
 dsimp only
 repeat' (first | (with_reducible refine aD ?_ ?_ <;> (intro hb; (try simp only [bnl] at hb); (try revert hb; intro _))) | with_reducible refine aN ?_ ?_ | with_reducible refine aG ?_ | fail)
 all_goals first | exact zero _ | exact two _ _ _ _ _ _ hp
def ae1 (deep : Int) : Prop := ∀ (a : List UInt8) (n : Int) (ns : List (List UInt8)), l9 a n → bK ns → ns.length + om (5 - deep.toNat) ≤ 100000 → ∃ r, cd a n ns deep r
theorem xH {deep : Int} (h : 0 ≤ deep ∧ deep ≤ 4) : om (5 - deep.toNat) = 1 + 4 * om (5 - (deep + 1).toNat) := by
 have : 5 - deep.toNat = (5 - (deep + 1).toNat) + 1 := by omega
 rw [this]; rfl
theorem aku (deep : Int) (hd : 0 ≤ deep ∧ deep ≤ 3) (hT : ae1 (deep + 1)) (a : List UInt8) (n : Int) (ns : List (List UInt8)) (hp : l9 a n) (hns : bK ns) (hl : ns.length + om (5 - deep.toNat) ≤ 100000) : ∃ r, g8 a n ns deep r := by
 have hN := xH (deep := deep) (by omega)
 have ed : IntKind.i64.wrap (deep + 1) = deep + 1 := aJ (deep + 1) (by omega)
 apply zO 1
 unfold nw sH
 have w2 : bK ([([105, 110, 116] : List UInt8), ([115, 116, 114, 105, 110, 103] : List UInt8)] : List (List UInt8)) := by simp [bK]
 refine aE (cu _) ?_
 rintro _ ⟨-, rfl⟩
 refine aE (pz _ _ _ hp (by omega) (by omega)) ?_
 rintro ⟨m, a', n'⟩ ⟨-, m1, m2, rfl, m3⟩
 dsimp only at m1 m2 m3 ⊢
 refine aD (fun _ => ?_) (fun _ => ?_)
 ·refine aE (pz _ _ _ m3 (by omega) (by omega)) ?_
  rintro ⟨m', a', n''⟩ ⟨-, m1', m2', rfl, m3'⟩
  dsimp only at m1' m2' m3' ⊢
  refine vck ?_
  refine aE (cu _) ?_
  rintro _ ⟨-, rfl⟩
  dsimp only
  refine vck ?_
  rw [ed]
  refine aE (hT _ _ _ m3' hns (by omega)) ?_
  rintro ⟨t0, t1, t2, t3, t4, a'', n3, ns'⟩ ⟨-, h1, rfl, h3, h4, h5⟩
  dsimp only at h1 h3 h4 h5 ⊢
  have kids2 : ∀ c ∈ ([aA.mk 4 0 [110, 117, 108, 108] [] []] ++ [aA.mk 4 0 (List.getD ([([105, 110, 116] : List UInt8), ([115, 116, 114, 105, 110, 103] : List UInt8)] : List (List UInt8)) (Int.toNat m') (aC .str)) [] []]), aV c := by
   intro c hc
   simp only [List.cons_append, List.nil_append, List.mem_cons, List.not_mem_nil, or_false] at hc
   rcases hc with rfl | rfl
   ·exact cR _ _ _ (by simp)
   ·exact cR _ _ _ (acI w2 _)
  repeat' (first | (with_reducible refine aD ?_ ?_ <;> (intro hb; (try simp only [bnl] at hb); (try revert hb; intro _))) | with_reducible refine aN ?_ ?_ | with_reducible refine aG ?_ | fail)
  ·first | (simp only [bnl, lnl]; done) | (simp only [bnl, lnl]; omega)
  ·refine ⟨_, _, _, _, _, _, _, _, _, rfl, rfl, yY _ _ _ (by simp) ?_ (by simp), rfl, h3, h4, by simp only; omega⟩
   intro c hc
   rcases List.mem_append.1 hc with hc | hc
   ·exact kids2 c hc
   ·simp only [List.mem_singleton] at hc
    subst hc; exact h1
  ·exact ⟨_, _, _, _, _, _, _, _, _, rfl, rfl, yY _ _ _ (by simp) kids2 (by simp), rfl, h3, h4, by simp only; omega⟩
 ·rw [ed]
  refine aE (hT _ _ _ m3 hns (by omega)) ?_
  rintro ⟨t0, t1, t2, t3, t4, a'', n3, ns'⟩ ⟨-, h1, rfl, h3, h4, h5⟩
  dsimp only at h1 h3 h4 h5 ⊢
  repeat' (first | (with_reducible refine aD ?_ ?_ <;> (intro hb; (try simp only [bnl] at hb); (try revert hb; intro _))) | with_reducible refine aN ?_ ?_ | with_reducible refine aG ?_ | fail)
  ·first | (simp only [bnl, lnl]; done) | (simp only [bnl, lnl]; omega)
  ·refine ⟨_, _, _, _, _, _, _, _, _, rfl, rfl, yY _ _ _ (by simp) ?_ (by simp), rfl, h3, h4, by simp only; omega⟩
   intro c hc
   simp only [List.cons_append, List.nil_append, List.mem_cons, List.not_mem_nil, or_false] at hc
   rcases hc with rfl | rfl
   ·exact cR _ _ _ (by simp)
   ·exact h1
  ·refine ⟨_, _, _, _, _, _, _, _, _, rfl, rfl, yY _ _ _ (by simp) ?_ (by simp), rfl, h3, h4, by simp only; omega⟩
   intro c hc
   simp only [List.mem_singleton] at hc
   subst hc; exact cR _ _ _ (by simp)
theorem adl (deep : Int) (hd : 0 ≤ deep ∧ deep ≤ 3) (hT : ae1 (deep + 1)) (a : List UInt8) (n : Int) (ns : List (List UInt8)) (name : List UInt8) (hp : l9 a n) (hns : bK ns) (hnm : name.length ≤ 100) (hl : ns.length + om (5 - deep.toNat) ≤ 100001) : ∃ r, dH a n ns name deep r := by
 have hN := xH (deep := deep) (by omega)
 have ed : IntKind.i64.wrap (deep + 1) = deep + 1 := aJ (deep + 1) (by omega)
 apply yE 100
 unfold mq ff
 refine aE (pz _ _ _ hp (by omega) (by omega)) ?_
 rintro ⟨m, a', n'⟩ ⟨-, m1, m2, rfl, m3⟩
 dsimp only at m1 m2 m3 ⊢
 refine bd (fun x => match x with | (nm, dp, i, m', a2, n2, ns2, x0, x1, x2, x3, x4, k0, k1, k2, l, k4) => nm = name ∧ dp = deep ∧ 0 ≤ i ∧ i ≤ m ∧ m' = m ∧ a2 = a' ∧ l9 a' n2 ∧ bK ns2 ∧ (ns2.length : Int) ≤ ns.length + i * om (5 - (deep + 1).toNat) ∧ k0 = 5 ∧ k1 = 0 ∧ k2 = [] ∧ k4 = [] ∧ (l.length : Int) = i ∧ ∀ c ∈ l, aV c) (fun x => (m - x.2.2.1).toNat) ?_ _ _
  ⟨rfl, rfl, by simp, m1, rfl, rfl, m3, hns, by simp, rfl, rfl, rfl, rfl, rfl, by simp⟩ (by simp only; omega)
 rintro again ⟨nm, dp, i, m', a2, n2, ns2, x0, x1, x2, x3, x4, k0, k1, k2, l, k4⟩ ⟨rfl, rfl, i1, i2, rfl, rfl, i3, i4, i5, rfl, rfl, rfl, rfl, i6, i7⟩ ih
 dsimp only at ih
 have ei : i < m' → IntKind.i64.wrap (i + 1) = i + 1 := fun h => aJ (i + 1) (by omega)
 generalize hq : om (5 - (dp + 1).toNat) = q at *
 have hi5 : i * (q : Int) ≤ 4 * q := Int.mul_le_mul_of_nonneg_right (by omega) (by omega)
 have nnil : bK ([] : List (List UInt8)) := by simp [bK]
 unfold ij
 dsimp only
 refine aD (fun h => ?_) (fun h => ?_)
 ·have h := of_decide_eq_true h
  rw [ed]
  have hi4 : (i + 1) * (q : Int) ≤ 4 * q := Int.mul_le_mul_of_nonneg_right (by omega) (by omega)
  have hi6 : (i + 1) * (q : Int) = i * q + q := by rw [Int.add_mul, Int.one_mul]
  refine aE (hT _ _ _ i3 i4 (by rw [hq]; omega)) ?_
  rintro ⟨t0, t1, t2, t3, t4, a'', n3, ns'⟩ ⟨-, h1, rfl, h3, h4, h5⟩
  dsimp only at h1 h3 h4 h5 ⊢
  rw [hq] at h5
  refine vck ?_
  refine aE (cu _) ?_
  rintro _ ⟨-, rfl⟩
  refine aE (tO _ _ _ _) ?_
  rintro _ ⟨-, rfl⟩
  dsimp only
  refine aE (pz _ _ _ h3 (by omega) (by omega)) ?_
  rintro ⟨mm, a3, n4⟩ ⟨-, mm1, mm2, rfl, mm3⟩
  dsimp only at mm1 mm2 mm3 ⊢
  have next : ∀ (n5 : Int) (c : aA), l9 a3 n5 → aV c → Tot (again (nm, dp, IntKind.i64.wrap (i + 1), m', a3, n5, ns', x0, x1, x2, x3, x4, 5, 0, [], l ++ [c], [])) _ := fun n5 c hp5 hc => ih (nm, dp, IntKind.i64.wrap (i + 1), m', a3, n5, ns', x0, x1, x2, x3, x4, 5, 0, [], l ++ [c], [])
   (by
    simp only [ei h, List.length_append, List.length_cons, List.length_nil]
    refine ⟨trivial, trivial, by omega, by omega, trivial, trivial, hp5, h4, by omega, trivial, trivial, trivial, trivial, by omega, ?_⟩
    intro d hd
    rcases List.mem_append.1 hd with hd | hd
    ·exact i7 d hd
    ·simp only [List.mem_singleton] at hd
     subst hd; exact hc) (by simp only [ei h]; omega)
  have f1 : aV (.mk 4 0 ([102] ++ [UInt8.ofNat (Int.toNat (IntKind.wrap .u8 (IntKind.wrap .i64 (97 + i))))]) [] []) := cR _ _ _ (by simp)
  refine aD (fun _ => ?_) (fun _ => ?_)
  ·refine vck ?_
   refine aE (ajy _ _ _ _ _ _ _ mm3 h1) ?_
   rintro ⟨d0, d1, d2, d3, d4, a4, n5⟩ ⟨-, q1, rfl, q3⟩
   dsimp only at q1 q3 ⊢
   refine vck ?_
   refine vck ?_
   refine next _ _ q3 (z6 _ _ _ _ (by simp) (by simp) (by simp [bK]) ?_)
   intro c hc
   simp only [List.cons_append, List.nil_append, List.mem_cons, List.not_mem_nil, or_false] at hc
   rcases hc with rfl | rfl | rfl
   ·exact f1
   ·exact h1
   ·exact q1
  ·refine vck ?_
   refine next _ _ mm3 (z6 _ _ _ _ (by simp) (by simp) (by simp [bK]) ?_)
   intro c hc
   simp only [List.mem_cons, List.not_mem_nil, or_false] at hc
   rcases hc with rfl | rfl
   ·exact f1
   ·exact h1
 ·refine aE (cu _) ?_
  rintro _ ⟨-, rfl⟩
  refine aE (cu _) ?_
  rintro _ ⟨-, rfl⟩
  refine aE (cu _) ?_
  rintro _ ⟨-, rfl⟩
  refine aE (tO _ _ _ _) ?_
  rintro _ ⟨-, rfl⟩
  dsimp only
  refine aG ⟨_, _, _, _, _, _, _, _, _, rfl, rfl, ⟨z6 _ _ _ _ (by simp) (by simp) (by simp [bK]) ?_, rfl, i3, i4, by simp only; omega⟩, by simp only; omega⟩
  intro c hc
  simp only [List.mem_cons, List.not_mem_nil, or_false] at hc
  rcases hc with rfl | rfl | rfl | rfl
  ·exact cR _ _ _ (by simp)
  ·exact cR _ _ _ hnm
  ·exact cR _ _ _ (by simp)
  ·exact yY _ _ _ (by omega) i7 (by decide)
theorem ae2 (deep : Int) (hd : 0 ≤ deep ∧ deep ≤ 4) (hT : deep ≤ 3 → ae1 (deep + 1)) : ae1 deep := by
 intro a n ns hp hns hl
 have hN := xH (deep := deep) (by omega)
 have ed : IntKind.i64.wrap (deep + 1) = deep + 1 := aJ (deep + 1) (by omega)
 apply aa5 1
 unfold pd hJ
 have w8 : bK ([([105, 110, 116] : List UInt8), ([108, 111, 110, 103] : List UInt8), ([115, 116, 114, 105, 110, 103] : List UInt8), ([98, 121, 116, 101, 115] : List UInt8), ([98, 111, 111, 108, 101, 97, 110] : List UInt8), ([110, 117, 108, 108] : List UInt8), ([102, 108, 111, 97, 116] : List UInt8), ([100, 111, 117, 98, 108, 101] : List UInt8)] : List (List UInt8)) := by simp [bK]
 have two : ∀ (k n' : Int), deep ≤ 3 → l9 a n' → Tot (gc 1 (deep, k, a, n', ns, 0, 0, [], [], [])) (fun z => ∃ (y0 y1 : Int) (y2 : List UInt8) (y3 : List aA) (y4 : List (List UInt8)) (y5 : List UInt8) (y6 : Int) (y7 : List (List UInt8)) (rest : List aI), z.1.dimR = .agg [.int .i64 y0, .int .i64 y1, .str y2, .sl .jnode (.may false) y3, .sl .str (.may false) y4] ∧ z.2 = some [.sl .u8 (.may false) y5, .int .i64 y6] :: some [.sl .str .own y7] :: rest ∧ dv a n ns deep (y0, y1, y2, y3, y4, y5, y6, y7)) := by
  intro k n' hd3 hp'
  have hT := hT hd3
  unfold gc
  dsimp only
  refine vck ?_
  refine vck ?_
  generalize hnm : ([78] : List UInt8) ++ [(UInt8.ofNat (Int.toNat (IntKind.wrap .u8 (IntKind.wrap .i64 (97 + (Int.tmod (↑(List.length ns) : Int) 26))))))] = nm
  have hnl : nm.length ≤ 100 := by subst hnm; simp
  have hns2 : bK (ns ++ [nm]) := by
   intro x hx
   rcases List.mem_append.1 hx with hx | hx
   ·exact hns x hx
   ·simp only [List.mem_singleton] at hx
    subst hx; exact hnl
  have hlen : (ns ++ [nm]).length = ns.length + 1 := by simp
  refine aD (fun _ => ?_) (fun _ => aD (fun _ => ?_) (fun _ => ?_))
  ·refine aE (cu _) ?_
   rintro _ ⟨-, rfl⟩
   refine aE (cu _) ?_
   rintro _ ⟨-, rfl⟩
   refine aE (pz _ _ _ hp' (by omega) (by omega)) ?_
   rintro ⟨mm, a3, n4⟩ ⟨-, mm1, mm2, rfl, mm3⟩
   dsimp only at mm1 mm2 mm3 ⊢
   refine aE (tO _ _ _ _) ?_
   rintro _ ⟨-, rfl⟩
   dsimp only
   refine aG ⟨_, _, _, _, _, _, _, _, _, rfl, rfl, z6 _ _ _ _ (by simp) (by simp) (by simp [bK]) ?_, rfl, mm3, hns2, by simp only [hlen]; omega⟩
   intro c hc
   simp only [List.mem_cons, List.not_mem_nil, or_false] at hc
   rcases hc with rfl | rfl | rfl
   ·exact cR _ _ _ (by simp)
   ·exact cR _ _ _ hnl
   ·exact cR _ _ _ (by simp)
  ·refine aE (cu _) ?_
   rintro _ ⟨-, rfl⟩
   refine aE (cu _) ?_
   rintro _ ⟨-, rfl⟩
   refine aE (cu _) ?_
   rintro _ ⟨-, rfl⟩
   refine aE (pz _ _ _ hp' (by omega) (by omega)) ?_
   rintro ⟨mm, a3, n4⟩ ⟨-, mm1, mm2, rfl, mm3⟩
   dsimp only at mm1 mm2 mm3 ⊢
   have em : IntKind.i64.wrap (1 + mm) = 1 + mm := aJ (1 + mm) (by omega)
   rw [em]
   refine vck ?_
   refine aE (cu _) ?_
   rintro _ ⟨-, rfl⟩
   refine aE (cu _) ?_
   rintro _ ⟨-, rfl⟩
   refine aE (tO _ _ _ _) ?_
   rintro _ ⟨-, rfl⟩
   dsimp only
   refine aE (pz _ _ _ mm3 (by omega) (by omega)) ?_
   rintro ⟨m5, a5, n5⟩ ⟨-, m51, m52, rfl, m53⟩
   dsimp only at m51 m52 m53 ⊢
   have hsub : ∀ c ∈ (List.drop 0 (List.take (Int.toNat (1 + mm)) ([aA.mk 4 0 [88] [] [], aA.mk 4 0 [89] [] [], aA.mk 4 0 [90] [] []] : List aA))), aV c := by
    intro c hc
    rw [List.drop_zero] at hc
    have hc := List.mem_of_mem_take hc
    simp only [List.mem_cons, List.not_mem_nil, or_false] at hc
    rcases hc with rfl | rfl | rfl <;> exact cR _ _ _ (by simp)
   have hsl : (List.drop 0 (List.take (Int.toNat (1 + mm)) ([aA.mk 4 0 [88] [] [], aA.mk 4 0 [89] [] [], aA.mk 4 0 [90] [] []] : List aA))).length ≤ 8 := by
    simp only [List.length_drop, List.length_take, List.length_cons, List.length_nil]; omega
   have hsy := yY 5 0 _ hsl hsub (by decide)
   refine aD (fun _ => ?_) (fun _ => ?_)
   ·refine vck ?_
    refine aE (cu _) ?_
    rintro _ ⟨-, rfl⟩
    dsimp only
    refine vck ?_
    refine aG ⟨_, _, _, _, _, _, _, _, _, rfl, rfl, z6 _ _ _ _ (by simp) (by simp) (by simp [bK]) ?_, rfl, m53, hns2, by simp only [hlen]; omega⟩
    intro c hc
    simp only [List.cons_append, List.nil_append, List.mem_cons, List.not_mem_nil, or_false] at hc
    rcases hc with rfl | rfl | rfl | rfl
    ·exact cR _ _ _ (by simp)
    ·exact cR _ _ _ hnl
    ·exact hsy
    ·exact cR _ _ _ (by simp)
   ·refine aG ⟨_, _, _, _, _, _, _, _, _, rfl, rfl, z6 _ _ _ _ (by simp) (by simp) (by simp [bK]) ?_, rfl, m53, hns2, by simp only [hlen]; omega⟩
    intro c hc
    simp only [List.mem_cons, List.not_mem_nil, or_false] at hc
    rcases hc with rfl | rfl | rfl
    ·exact cR _ _ _ (by simp)
    ·exact cR _ _ _ hnl
    ·exact hsy
  ·refine aE (adl deep (by omega) hT _ _ _ _ hp' hns2 hnl ?_) ?_
   ·rw [hlen]; omega
   rintro ⟨t0, t1, t2, t3, t4, a'', n3, ns'⟩ ⟨-, ⟨h1, rfl, h3, h4, h5⟩, h6⟩
   dsimp only at h1 h3 h4 h5 h6 ⊢
   rw [hlen] at h6
   exact aG ⟨_, _, _, _, _, _, _, _, _, rfl, rfl, h1, rfl, h3, h4, by simp only; omega⟩
 have one : ∀ (k n' : Int) (b : Bool), deep ≤ 3 → l9 a n' → (b = true → 0 < ns.length) → Tot (ge 1 (deep, k, b, a, n', ns, 0, 0, [], [], [])) (fun z => ∃ (y0 y1 : Int) (y2 : List UInt8) (y3 : List aA) (y4 : List (List UInt8)) (y5 : List UInt8) (y6 : Int) (y7 : List (List UInt8)) (rest : List aI), z.1.dimR = .agg [.int .i64 y0, .int .i64 y1, .str y2, .sl .jnode (.may false) y3, .sl .str (.may false) y4] ∧ z.2 = some [.sl .u8 (.may false) y5, .int .i64 y6] :: some [.sl .str .own y7] :: rest ∧ dv a n ns deep (y0, y1, y2, y3, y4, y5, y6, y7)) := by
  intro k n' b hd3 hp' hb
  unfold ge iR
  dsimp only
  refine aD (fun h1 => ?_) (fun h1 => two _ _ hd3 hp')
  have hb := hb h1
  have numTot : ∃ r, bh a n' (ns.length : Int) r := aiy _ _ _ hp' (by omega)
  refine aE numTot ?_
  rintro ⟨mm, a3, n4⟩ ⟨-, mm1, mm2, rfl, mm3⟩
  dsimp only at mm1 mm2 mm3 ⊢
  refine vck ?_
  refine aE (cu _) ?_
  rintro _ ⟨-, rfl⟩
  exact aG ⟨_, _, _, _, _, _, _, _, _, rfl, rfl, cR _ _ _ (acI hns _), rfl, mm3, hns, by simp only; omega⟩
 have zero : ∀ (k n' : Int), 0 ≤ k → (8 ≤ k → deep ≤ 3) → l9 a n' → Tot (jF 1 (deep, k, a, n', ns, 0, 0, [], [], [])) (fun z => ∃ (y0 y1 : Int) (y2 : List UInt8) (y3 : List aA) (y4 : List (List UInt8)) (y5 : List UInt8) (y6 : Int) (y7 : List (List UInt8)) (rest : List aI), z.1.dimR = .agg [.int .i64 y0, .int .i64 y1, .str y2, .sl .jnode (.may false) y3, .sl .str (.may false) y4] ∧ z.2 = some [.sl .u8 (.may false) y5, .int .i64 y6] :: some [.sl .str .own y7] :: rest ∧ dv a n ns deep (y0, y1, y2, y3, y4, y5, y6, y7)) := by
  intro k n' hk hk2 hp'
  unfold jF iS
  dsimp only
  refine aD (fun h1 => ?_) (fun h1 => ?_)
  ·have h1 := of_decide_eq_true h1
   refine vck ?_
   refine aE (cu _) ?_
   rintro _ ⟨-, rfl⟩
   exact aG ⟨_, _, _, _, _, _, _, _, _, rfl, rfl, cR _ _ _ (acI w8 _), rfl, hp', hns, by simp only; omega⟩
  have hd3 := hk2 (by have := of_decide_eq_false h1; omega)
  have hT := hT hd3
  rw [ed]
  have tab : ∀ (word w2 : List UInt8), word.length ≤ 100 → w2.length ≤ 100 → ∀ (nm : List UInt8), nm.length ≤ 100 → Tot (aF (bo word) (fun r3 => aF (cd a n' ns (deep + 1)) (fun r4 =>
     aF (dm true ([nm, w2] : List (List UInt8)) true ([⟨r3.1, r3.2.1, r3.2.2.1, r3.2.2.2.1, r3.2.2.2.2⟩, ⟨r4.1, r4.2.1, r4.2.2.1, r4.2.2.2.1, r4.2.2.2.2.1⟩] : List aA)) (fun r5 =>
      some (V.agg [.int .i64 r5.1, .int .i64 r5.2.1, .str r5.2.2.1, .sl .jnode (.may r5.2.2.2.1) r5.2.2.2.2.1, .sl .str (.may r5.2.2.2.2.2.1) r5.2.2.2.2.2.2], ([some [.sl .u8 (.may false) r4.2.2.2.2.2.1, .int .i64 r4.2.2.2.2.2.2.1], some [.sl .str .own r4.2.2.2.2.2.2.2], some [.int .i64 r5.1, .int .i64 r5.2.1, .str r5.2.2.1, .sl .jnode (.may r5.2.2.2.1) r5.2.2.2.2.1, .sl .str (.may r5.2.2.2.2.2.1) r5.2.2.2.2.2.2]] : List aI)))))) (fun z => ∃ (y0 y1 : Int) (y2 : List UInt8) (y3 : List aA) (y4 : List (List UInt8)) (y5 : List UInt8) (y6 : Int) (y7 : List (List UInt8)) (rest : List aI), z.1.dimR = .agg [.int .i64 y0, .int .i64 y1, .str y2, .sl .jnode (.may false) y3, .sl .str (.may false) y4] ∧ z.2 = some [.sl .u8 (.may false) y5, .int .i64 y6] :: some [.sl .str .own y7] :: rest ∧ dv a n ns deep (y0, y1, y2, y3, y4, y5, y6, y7)) := by
   intro word w2 hw hw2 nm hnm
   refine aE (cu _) ?_
   rintro _ ⟨-, rfl⟩
   refine aE (hT _ _ _ hp' hns (by omega)) ?_
   rintro ⟨t0, t1, t2, t3, t4, a'', n3, ns'⟩ ⟨-, h1, rfl, h3, h4, h5⟩
   dsimp only at h1 h3 h4 h5 ⊢
   refine aE (tO _ _ _ _) ?_
   rintro _ ⟨-, rfl⟩
   dsimp only
   refine aG ⟨_, _, _, _, _, _, _, _, _, rfl, rfl, z6 _ _ _ _ (by simp) (by simp) ?_ ?_, rfl, h3, h4, by simp only; omega⟩
   ·intro x hx
    simp only [List.mem_cons, List.not_mem_nil, or_false] at hx
    rcases hx with rfl | rfl <;> assumption
   ·intro c hc
    simp only [List.mem_cons, List.not_mem_nil, or_false] at hc
    rcases hc with rfl | rfl
    ·exact cR _ _ _ hw
    ·exact h1
  refine aD (fun _ => ?_) (fun _ => aD (fun _ => ?_) (fun _ => aD (fun _ => ?_) (fun _ => aD (fun _ => one _ _ _ hd3 hp' fun hb => ?_) (fun _ => one _ _ _ hd3 hp' fun hb => by cases hb))))
  ·exact tab _ _ (by simp) (by simp) _ (by simp)
  ·exact tab _ _ (by simp) (by simp) _ (by simp)
  ·refine aE (aku deep (by omega) hT _ _ _ hp' hns hl) ?_
   rintro ⟨t0, t1, t2, t3, t4, a'', n3, ns'⟩ ⟨-, h1, rfl, h3, h4, h5⟩
   exact aG ⟨_, _, _, _, _, _, _, _, _, rfl, rfl, h1, rfl, h3, h4, h5⟩
  ·have := of_decide_eq_true hb
   omega
 refine aE (pz _ _ _ hp (by omega) (by omega)) ?_
 rintro ⟨m, a', n'⟩ ⟨-, m1, m2, rfl, m3⟩
 dsimp only at m1 m2 m3 ⊢
 have t8 : 0 ≤ Int.tmod m 8 ∧ Int.tmod m 8 < 8 := ⟨Int.tmod_nonneg _ m1, Int.tmod_lt_of_pos _ (by omega)⟩
 refine aD (fun h1 => zero _ _ t8.1 (fun h => by omega) m3) (fun h1 => ?_)
 have h1 := of_decide_eq_false h1
 refine aE (alG _ _) ?_
 rintro ⟨b, a2, n2⟩ ⟨-, rfl, rfl⟩
 dsimp only
 exact aD (fun _ => zero _ _ t8.1 (fun h => by omega) m3) (fun _ => zero _ _ m1 (fun _ => by omega) m3)
theorem agt : ∀ (k : Nat) (deep : Int), deep + k = 4 → 0 ≤ deep → ae1 deep
 | 0, deep, h, h1 => ae2 deep (by omega) (fun h' => by omega)
 | k + 1, deep, h, h1 => ae2 deep (by omega) (fun _ => agt k (deep + 1) (by omega) (by omega))
theorem akv (a : List UInt8) (n : Int) (hp : l9 a n) : ∃ r, f5 a n r := by
 apply yd 1
 unfold mf rV
 refine aE (adl 0 (by omega) (agt 3 1 (by omega) (by omega)) _ _ _ _ hp (by simp [bK]) (by simp) (by simp [om])) ?_
 rintro ⟨t0, t1, t2, t3, t4, a'', n3, ns'⟩ ⟨-, ⟨h1, rfl, h3, h4, h5⟩, h6⟩
 exact aG ⟨_, _, _, _, _, _, _, _, rfl, rfl, h1, rfl, h3⟩
end Go.Proofs.Ytdpajabhmmmjoaa
end
noncomputable section
namespace Go.Proofs.Ytdpajabhmmmjoaa
open Go.AM
set_option autoImplicit false
set_option linter.unusedVariables false
set_option linter.unusedSimpArgs false
set_option maxRecDepth 100000
theorem amh (s : List UInt8) (hs : s.length ≤ 1000) : ∃ r, p8 s r := by
 apply ahp 2000
 unfold vW pb
 refine bd (fun x => x.1.length + x.2.length ≤ s.length) (fun x => x.1.length) ?_ _ _ (by simp) (by simp; omega)
 rintro again ⟨a, out⟩ h ih
 dsimp only at h ih
 unfold qM
 dsimp only
 refine aD (fun h1 => ?_) (fun _ => aG ⟨_, _, _, rfl, rfl⟩)
 have h1 := of_decide_eq_true h1
 refine aE (ak9 _ (by omega)) ?_
 rintro ⟨c, n⟩ ⟨-, hp⟩
 obtain ⟨p1, p2⟩ := ago a
 rw [← (show (c, n) = pX a from hp)] at p1 p2
 dsimp only at p1 p2 ⊢
 repeat' (first | (with_reducible refine aD ?_ ?_ <;> (intro hb; (try simp only [bnl] at hb); (try revert hb; intro _))) | with_reducible refine aN ?_ ?_ | with_reducible refine aG ?_ | fail)
 all_goals first | exact ⟨_, _, _, rfl, rfl⟩ | (first | (simp only [bnl, lnl]; done) | (simp only [bnl, lnl]; omega)) | skip
 rename_i h2 h3
 have hn : 0 < n := by omega
 refine ih _ ?_ ?_
 ·simp only [List.length_append, List.length_cons, List.length_nil, List.length_drop, List.length_take]; omega
 ·simp only [List.length_append, List.length_cons, List.length_nil, List.length_drop, List.length_take]; omega
def acC (ts : List ak) (deep : Int) : Prop := ∀ (all t c0 c1 : Int) (c2 : List UInt8) (c3 : List aA) (c4 : List (List UInt8)), 0 ≤ t → t < ts.length → aV (.mk c0 c1 c2 c3 c4) → ∃ r, bG ts all t c0 c1 c2 c3 c4 deep r
theorem ali (ts : List ak) (deep : Int) (hd : 1 ≤ deep ∧ deep ≤ 20) (hV : acC ts (deep + 1)) (all k0 : Int) (k1 : List UInt8) (k2 : List (List UInt8)) (k3 : Int) (k4 : List (List UInt8)) (k5 : Bool) (k6 : List UInt8) (k7 : Int) (k8 : List aQ) (k9 : List Int)
  (c0 c1 : Int) (c2 : List UInt8) (c3 : List aA) (c4 : List (List UInt8)) (hk : 0 ≤ k3 ∧ k3 < ts.length) (hn : aV (.mk c0 c1 c2 c3 c4)) (hm : k0 ≠ 12 → c4.length = c3.length) : ∃ r, eX ts all k0 k1 k2 k3 k4 k5 k6 k7 k8 k9 c0 c1 c2 c3 c4 deep r := by
 obtain ⟨n1, n2, n3, n4, n5, n6⟩ := hn.kids
 have ed : IntKind.i64.wrap (deep + 1) = deep + 1 := aJ (deep + 1) (by omega)
 apply xn 1000
 unfold lv eB
 refine bd (fun x => match x with
  | .inl (dp, v0, v1, v2, v3, v4, v5, v6, v7, v8, v9, d0, d1, d2, l, ks, i, ts', al, p0, p1, p2, p3, p4, q0, q1, q2, q3, q4) => dp = deep ∧ v0 = k0 ∧ v3 = k3 ∧ l = c3 ∧ ks = c4 ∧ 0 ≤ i ∧ i ≤ (c3.length : Int) ∧ ts' = ts ∧ q3 = [] ∧ (q2.length : Int) = i ∧ (k0 ≠ 12 → q2 = [])
  | .inr (dp, v0, v1, v2, v3, v4, v5, v6, v7, v8, v9, d0, d1, d2, l, ks, i, ts', al, p0, p1, p2, p3, p4, q0, q1, q2, q3, q4) => dp = deep ∧ v0 = k0 ∧ v3 = k3 ∧ l = c3 ∧ ks = c4 ∧ 0 ≤ i ∧ i ≤ (c3.length : Int) ∧ ts' = ts ∧ k0 ≠ 12 ∧ q3.length = q2.length ∧ (q2.length : Int) ≤ i)
  (fun x => match x with
  | .inl x => ((c3.length : Int) - x.2.2.2.2.2.2.2.2.2.2.2.2.2.2.2.2.1).toNat
  | .inr x => ((c3.length : Int) - x.2.2.2.2.2.2.2.2.2.2.2.2.2.2.2.2.1).toNat) ?_ _ _
  ⟨rfl, rfl, rfl, rfl, rfl, by simp, by simp, rfl, rfl, rfl, fun _ => rfl⟩ (by simp; omega)
 rintro again (⟨dp, v0, v1, v2, v3, v4, v5, v6, v7, v8, v9, d0, d1, d2, l, ks, i, ts', al, p0, p1, p2, p3, p4, q0, q1, q2, q3, q4⟩ | ⟨dp, v0, v1, v2, v3, v4, v5, v6, v7, v8, v9, d0, d1, d2, l, ks, i, ts', al, p0, p1, p2, p3, p4, q0, q1, q2, q3, q4⟩)
 ·rintro ⟨rfl, rfl, rfl, rfl, rfl, i1, i2, rfl, rfl, i3, i4⟩ ih
  dsimp only at ih
  have ei : i < l.length → IntKind.i64.wrap (i + 1) = i + 1 := fun h => aJ (i + 1) (by omega)
  unfold dP
  dsimp only
  rw [ed]
  refine aD (fun h0 => ?_) (fun _ => aG ⟨_, _, _, _, _, _, _, _, _, rfl, rfl, rfl⟩)
  have h := of_decide_eq_true h0
  clear h0
  refine vck ?_
  refine aE (hV _ _ _ _ _ _ _ hk.1 hk.2 (aV.eta.2 (aV.getD n6 i.toNat))) ?_
  rintro ⟨w0, w1, w2, w3, w4, e, ts2, al2⟩ ⟨-, rfl⟩
  dsimp only
  refine aD (fun _ => aG ⟨_, _, _, _, _, _, _, _, _, rfl, rfl, rfl⟩) (fun _ => aD (fun h12 => ?_) (fun h12 => ?_))
  ·simp only [bnl] at h12
   refine vck ?_
   refine ih (.inl (dp, v0, v1, v2, v3, v4, v5, v6, v7, v8, v9, d0, d1, d2, l, ks, _, ts2, al2, p0, p1, p2, p3, p4, q0, q1, _, [], q4)) ?_ ?_
   ·simp only [ei h, List.length_append, List.length_cons, List.length_nil]
    exact ⟨trivial, trivial, trivial, trivial, trivial, by omega, by omega, trivial, trivial, by omega, fun hh => absurd h12 hh⟩
   ·simp only [ei h]; omega
  ·simp only [bnl] at h12
   have hks := hm h12
   have hq := i4 h12
   subst hq
   refine vck ?_
   refine aE (ajP _ _ _ _ _ _ _ _ _ _ _ rfl (by simp)) ?_
   rintro ⟨x0, x1, x2, x3, x4⟩ ⟨-, y1, y2⟩
   dsimp only at y1 y2 ⊢
   refine ih (.inr (dp, v0, v1, v2, v3, v4, v5, v6, v7, v8, v9, d0, d1, d2, l, ks, _, ts2, al2, p0, p1, p2, p3, p4, x0, x1, x2, x3, x4)) ?_ ?_
   ·simp only [ei h]
    simp only [List.length_nil] at y2
    exact ⟨trivial, trivial, trivial, trivial, trivial, by omega, by omega, trivial, h12, y1, by omega⟩
   ·simp only [ei h]; omega
 ·rintro ⟨rfl, rfl, rfl, rfl, rfl, i1, i2, rfl, i3, i4, i5⟩ ih
  dsimp only at ih
  have ei : i < l.length → IntKind.i64.wrap (i + 1) = i + 1 := fun h => aJ (i + 1) (by omega)
  have hks := hm i3
  unfold dP
  dsimp only
  rw [ed]
  refine aD (fun h0 => ?_) (fun _ => aG ⟨_, _, _, _, _, _, _, _, _, rfl, rfl, rfl⟩)
  have h := of_decide_eq_true h0
  clear h0
  refine vck ?_
  refine aE (hV _ _ _ _ _ _ _ hk.1 hk.2 (aV.eta.2 (aV.getD n6 i.toNat))) ?_
  rintro ⟨w0, w1, w2, w3, w4, e, ts2, al2⟩ ⟨-, rfl⟩
  dsimp only
  refine aD (fun _ => aG ⟨_, _, _, _, _, _, _, _, _, rfl, rfl, rfl⟩) (fun _ => aD (fun h12 => ?_) (fun h12 => ?_))
  ·simp only [bnl] at h12
   exact absurd h12 i3
  ·refine vck ?_
   refine aE (ajP _ _ _ _ _ _ _ _ _ _ _ i4 (by omega)) ?_
   rintro ⟨x0, x1, x2, x3, x4⟩ ⟨-, y1, y2⟩
   dsimp only at y1 y2 ⊢
   refine ih (.inr (dp, v0, v1, v2, v3, v4, v5, v6, v7, v8, v9, d0, d1, d2, l, ks, _, ts2, al2, p0, p1, p2, p3, p4, x0, x1, x2, x3, x4)) ?_ ?_
   ·simp only [ei h]
    exact ⟨trivial, trivial, trivial, trivial, trivial, by omega, by omega, trivial, i3, y1, by omega⟩
   ·simp only [ei h]; omega
theorem ajz (ts : List ak) (deep : Int) (hd : 1 ≤ deep ∧ deep ≤ 20) (hV : acC ts (deep + 1)) (all k0 : Int) (k1 : List UInt8) (k2 : List (List UInt8)) (k3 : Int) (k4 : List (List UInt8)) (k5 : Bool) (k6 : List UInt8) (k7 : Int) (k8 : List aQ) (k9 : List Int)
  (c0 c1 : Int) (c2 : List UInt8) (c3 : List aA) (c4 : List (List UInt8)) (hk : qV ts.length k8) (hn : aV (.mk c0 c1 c2 c3 c4)) : ∃ r, ey ts all k0 k1 k2 k3 k4 k5 k6 k7 k8 k9 c0 c1 c2 c3 c4 deep r := by
 obtain ⟨n1, n2, n3, n4, n5, n6⟩ := hn.kids
 obtain ⟨hk1, hk2⟩ := hk
 have ed : IntKind.i64.wrap (deep + 1) = deep + 1 := aJ (deep + 1) (by omega)
 apply we 1000
 unfold ko dQ
 refine bd (fun x => match x with
  | (dp, v0, v1, v2, v3, v4, v5, v6, v7, v8, v9, d0, d1, d2, l, ks, i, ts', al, p0, p1, p2, p3, p4, q0, q1, q2, q3, q4) => dp = deep ∧ v8 = k8 ∧ aV (.mk d0 d1 d2 l ks) ∧ 0 ≤ i ∧ i ≤ (k8.length : Int) ∧ ts' = ts ∧ (q2.length : Int) = i)
  (fun x => ((k8.length : Int) - x.2.2.2.2.2.2.2.2.2.2.2.2.2.2.2.2.1).toNat) ?_ _ _
  ⟨rfl, rfl, hn, by simp, by simp, rfl, rfl⟩ (by simp; omega)
 rintro again ⟨dp, v0, v1, v2, v3, v4, v5, v6, v7, v8, v9, d0, d1, d2, l, ks, i, ts', al, p0, p1, p2, p3, p4, q0, q1, q2, q3, q4⟩ ⟨rfl, rfl, hn', i1, i2, rfl, i3⟩ ih
 dsimp only at ih
 have ei : i < v8.length → IntKind.i64.wrap (i + 1) = i + 1 := fun h => aJ (i + 1) (by omega)
 obtain ⟨m1, m2, m3, m4, m5, m6⟩ := hn'.kids
 unfold fI
 dsimp only
 rw [ed]
 refine aD (fun h => ?_) (fun _ => aG ⟨_, _, _, _, _, _, _, _, _, rfl, rfl, rfl⟩)
 have h := of_decide_eq_true h
 have hl : i.toNat < v8.length := by omega
 have hf := hk2 v8[i.toNat] (List.getElem_mem hl)
 have hg : v8.getD i.toNat (aC .afield) = v8[i.toNat] := lR (List.getElem?_eq_getElem hl)
 refine vck ?_
 refine aE (lr _ _ _ _ _ _ (by omega)) ?_
 rintro r ⟨-, hr⟩
 have hgo := pA (k := d0) (names := ks) (name := (v8.getD i.toNat (aC .afield)).name) m6
 simp only [bQ] at hr
 rw [← hr] at hgo
 clear hr
 have next : ∀ (al2 : Int) (w : aB), Tot (again (dp, v0, v1, v2, v3, v4, v5, v6, v7, v8, v9, d0, d1, d2, l, ks, IntKind.i64.wrap (i + 1), ts', al2, p0, p1, p2, p3, p4, q0, q1, q2 ++ [w], q3, q4)) _ := fun al2 w => ih (dp, v0, v1, v2, v3, v4, v5, v6, v7, v8, v9, d0, d1, d2, l, ks, IntKind.i64.wrap (i + 1), ts', al2, p0, p1, p2, p3, p4, q0, q1, q2 ++ [w], q3, q4)
  (by
   simp only [ei h, List.length_append, List.length_cons, List.length_nil]
   exact ⟨trivial, trivial, hn', by omega, by omega, trivial, by omega⟩) (by simp only [ei h]; omega)
 refine aD (fun _ => aD (fun _ => aG ⟨_, _, _, _, _, _, _, _, _, rfl, rfl, rfl⟩) (fun _ => ?_)) (fun _ => ?_)
 ·refine aE (hV _ _ _ _ _ _ _ (by rw [hg]; exact hf.1) (by rw [hg]; exact hf.2.1) (by rw [hg]; exact aV.eta.2 hf.2.2)) ?_
  rintro ⟨w0, w1, w2, w3, w4, e, ts2, al2⟩ ⟨-, rfl⟩
  dsimp only
  refine aD (fun _ => aG ⟨_, _, _, _, _, _, _, _, _, rfl, rfl, rfl⟩) (fun _ => ?_)
  refine vck ?_
  exact next _ _
 ·refine aE (hV _ _ _ _ _ _ _ (by rw [hg]; exact hf.1) (by rw [hg]; exact hf.2.1) hgo) ?_
  rintro ⟨w0, w1, w2, w3, w4, e, ts2, al2⟩ ⟨-, rfl⟩
  dsimp only
  refine aD (fun _ => aG ⟨_, _, _, _, _, _, _, _, _, rfl, rfl, rfl⟩) (fun _ => ?_)
  refine vck ?_
  exact next _ _
theorem ae3 (ts : List ak) (hs : eU ts) (deep : Int) (hd : 1 ≤ deep ∧ deep ≤ 21) (hV : deep ≤ 20 → acC ts (deep + 1)) : acC ts deep := by
 intro all t c0 c1 c2 c3 c4 ht ht2 hn
 obtain ⟨n1, n2, n3, n4, n5, n6⟩ := hn.kids
 have ed : IntKind.i64.wrap (deep + 1) = deep + 1 := aJ (deep + 1) (by omega)
 apply xr 1000
 unfold lz eD
 dsimp only
 refine aD (fun _ => aG ⟨_, _, _, _, _, _, _, _, _, rfl, rfl, rfl⟩) (fun h20 => aD (fun _ => aG ⟨_, _, _, _, _, _, _, _, _, rfl, rfl, rfl⟩) (fun _ => vck ?_))
 have h20 := of_decide_eq_false h20
 have hV := hV (by omega)
 have hl : t.toNat < ts.length := by omega
 have hT := hs.2 ts[t.toNat] (List.getElem_mem hl)
 rw [lR (List.getElem?_eq_getElem hl)]
 generalize ts[t.toNat] = k at hT
 obtain ⟨k0, k1, k2, k3, k4, k5, k6, k7, k8, k9⟩ := k
 dsimp only
 have three : ∀ (b : List UInt8) (f : Bool) (al x0 : Int) (x1 : List UInt8) (x2 : List aB) (x3 : List (List UInt8)) (x4 : Int), Tot (dU 1000 (b, f, ts, al, x0, x1, x2, x3, x4)) (fun z => ∃ (y0 : Int) (y1 : List UInt8) (y2 : List aB) (y3 : List (List UInt8)) (y4 y5 : Int) (y6 : List ak) (y7 : Int) (rest : List aI), z.1.dimR = .tup [.agg [.int .u64 y0, .str y1, .sl .aval (.may false) y2, .sl .str (.may false) y3, .int .i64 y4], .int .i64 y5] ∧ z.2 = some [.sl .atype (.may false) y6, .int .i64 y7] :: rest ∧ bS ts all t c0 c1 c2 c3 c4 deep (y0, y1, y2, y3, y4, y5, y6, y7)) := by
  intro b f al x0 x1 x2 x3 x4
  unfold dU
  dsimp only
  repeat' (first | (with_reducible refine aD ?_ ?_ <;> (intro hb; (try simp only [bnl] at hb); (try revert hb; intro _))) | with_reducible refine aN ?_ ?_ | with_reducible refine aG ?_ | fail)
  all_goals exact ⟨_, _, _, _, _, _, _, _, _, rfl, rfl, rfl⟩
 have four : ∀ (al x0 : Int) (x1 : List UInt8) (x2 : List aB) (x3 : List (List UInt8)) (x4 : Int), Tot (aW 1000 (cV 1000) (c0, c1, c2, c3, c4, k0, k1, k2, k3, k4, k5, k6, k7, k8, k9, 0, ts, al, x0, x1, x2, x3, x4)) (fun z => ∃ (y0 : Int) (y1 : List UInt8) (y2 : List aB) (y3 : List (List UInt8)) (y4 y5 : Int) (y6 : List ak) (y7 : Int) (rest : List aI), z.1.dimR = .tup [.agg [.int .u64 y0, .str y1, .sl .aval (.may false) y2, .sl .str (.may false) y3, .int .i64 y4], .int .i64 y5] ∧ z.2 = some [.sl .atype (.may false) y6, .int .i64 y7] :: rest ∧ bS ts all t c0 c1 c2 c3 c4 deep (y0, y1, y2, y3, y4, y5, y6, y7)) := by
  intro al x0 x1 x2 x3 x4
  have hns : k4.length ≤ 100 := hT.ns
  refine bd (fun x => match x with
   | (d0, d1, d2, d3, d4, v0, v1, v2, v3, v4, v5, v6, v7, v8, v9, i, ts', al, p0, p1, p2, p3, p4) => v4 = k4 ∧ 0 ≤ i ∧ i ≤ (k4.length : Int) ∧ ts' = ts)
   (fun x => ((k4.length : Int) - x.2.2.2.2.2.2.2.2.2.2.2.2.2.2.2.1).toNat) ?_ _ _ ⟨rfl, by simp, by simp, rfl⟩ (by simp; omega)
  rintro again ⟨d0, d1, d2, d3, d4, v0, v1, v2, v3, v4, v5, v6, v7, v8, v9, i, ts', al, p0, p1, p2, p3, p4⟩ ⟨rfl, i1, i2, rfl⟩ ih
  dsimp only at ih
  unfold cV
  dsimp only
  repeat' (first | (with_reducible refine aD ?_ ?_ <;> (intro hb; (try simp only [bnl] at hb); (try revert hb; intro _))) | with_reducible refine aN ?_ ?_ | with_reducible refine aG ?_ | fail)
  all_goals first | (first | (simp only [bnl, lnl]; done) | (simp only [bnl, lnl]; omega)) | exact ⟨_, _, _, _, _, _, _, _, _, rfl, rfl, rfl⟩ | skip
  have ei : IntKind.i64.wrap (i + 1) = i + 1 := aJ (i + 1) (by omega)
  refine ih (d0, d1, d2, d3, d4, v0, v1, v2, v3, v4, v5, v6, v7, v8, v9, _, ts', al, p0, p1, p2, p3, p4) ?_ ?_
  ·simp only [ei]; exact ⟨trivial, by omega, by omega, trivial⟩
  ·simp only [ei]; omega
 have five : ∀ (f : Bool) (al x0 : Int) (x1 : List UInt8) (x2 : List aB) (x3 : List (List UInt8)) (x4 : Int), (f = true → k0 = 12 ∨ c0 = 6) → Tot (dW 1000 (deep, c0, c1, c2, c3, c4, k0, k1, k2, k3, k4, k5, k6, k7, k8, k9, f, ts, al, x0, x1, x2, x3, x4)) (fun z => ∃ (y0 : Int) (y1 : List UInt8) (y2 : List aB) (y3 : List (List UInt8)) (y4 y5 : Int) (y6 : List ak) (y7 : Int) (rest : List aI), z.1.dimR = .tup [.agg [.int .u64 y0, .str y1, .sl .aval (.may false) y2, .sl .str (.may false) y3, .int .i64 y4], .int .i64 y5] ∧ z.2 = some [.sl .atype (.may false) y6, .int .i64 y7] :: rest ∧ bS ts all t c0 c1 c2 c3 c4 deep (y0, y1, y2, y3, y4, y5, y6, y7)) := by
  intro f al x0 x1 x2 x3 x4 hf
  unfold dW
  dsimp only
  rw [ed]
  have un : k0 = 14 → 0 < k9.length ∧ 0 ≤ k9.getD 0 (aC (.num .i64)) ∧ k9.getD 0 (aC (.num .i64)) < ts.length := by
   intro h
   have hne : k9 ≠ [] := hT.done h
   have hpos : 0 < k9.length := List.length_pos_iff.2 hne
   have := hT.branches k9[0] (List.getElem_mem hpos)
   rw [lR (List.getElem?_eq_getElem hpos)]
   exact ⟨hpos, this⟩
  repeat' (first | (with_reducible refine aD ?_ ?_ <;> (intro hb; (try simp only [bnl] at hb); (try revert hb; intro _))) | with_reducible refine aN ?_ ?_ | with_reducible refine aG ?_ | (refine aE (ali ts deep (by omega) hV _ _ _ _ _ _ _ _ _ _ _ _ _ _ _ _ hT.items hn ?_) ?_; rotate_left; rintro ⟨w0, w1, w2, w3, w4, e, ts2, al2⟩ ⟨-, rfl⟩; dsimp only) | (refine aE (ajz ts deep (by omega) hV _ _ _ _ _ _ _ _ _ _ _ _ _ _ _ _ ⟨hT.nf, hT.fields⟩ hn) ?_; rintro ⟨w0, w1, w2, w3, w4, e, ts2, al2⟩ ⟨-, rfl⟩; dsimp only) | (refine aE (hV _ _ _ _ _ _ _ (un (by assumption)).2.1 (un (by assumption)).2.2 hn) ?_; rintro ⟨w0, w1, w2, w3, w4, e, ts2, al2⟩ ⟨-, rfl⟩; dsimp only) | fail)
  all_goals first | exact ⟨_, _, _, _, _, _, _, _, _, rfl, rfl, rfl⟩ | (have := (un (by assumption)).1; first | (simp only [bnl, lnl]; done) | (simp only [bnl, lnl]; omega)) | skip
  ·rename_i h
   intro h12
   rcases hf h with h' | h'
   ·exact absurd h' h12
   ·exact n5 h'
 have two : ∀ (f : Bool) (al x0 : Int) (x1 : List UInt8) (x2 : List aB) (x3 : List (List UInt8)) (x4 : Int), Tot (dX 1000 (deep, c0, c1, c2, c3, c4, k0, k1, k2, k3, k4, k5, k6, k7, k8, k9, f, ts, al, x0, x1, x2, x3, x4)) (fun z => ∃ (y0 : Int) (y1 : List UInt8) (y2 : List aB) (y3 : List (List UInt8)) (y4 y5 : Int) (y6 : List ak) (y7 : Int) (rest : List aI), z.1.dimR = .tup [.agg [.int .u64 y0, .str y1, .sl .aval (.may false) y2, .sl .str (.may false) y3, .int .i64 y4], .int .i64 y5] ∧ z.2 = some [.sl .atype (.may false) y6, .int .i64 y7] :: rest ∧ bS ts all t c0 c1 c2 c3 c4 deep (y0, y1, y2, y3, y4, y5, y6, y7)) := by
  intro f al x0 x1 x2 x3 x4
  unfold dX fM
  dsimp only
  repeat' (first | (with_reducible refine aD ?_ ?_ <;> (intro hb; (try simp only [bnl] at hb); (try revert hb; intro _))) | with_reducible refine aN ?_ ?_ | with_reducible refine aG ?_ | (refine aE (amh _ (by omega)) ?_; intro _ _) | fail)
  all_goals first | exact three _ _ _ _ _ _ _ _ | exact four _ _ _ _ _ _ | (refine five _ _ _ _ _ _ _ ?_) | skip
  all_goals (intro hh; first | exact .inl (by assumption) | (simp at hh; done) | (right; simp at hh; exact hh))
 have one : ∀ (f g : Bool) (al x0 : Int) (x1 : List UInt8) (x2 : List aB) (x3 : List (List UInt8)) (x4 : Int), Tot (dY 1000 (deep, c0, c1, c2, c3, c4, k0, k1, k2, k3, k4, k5, k6, k7, k8, k9, f, g, ts, al, x0, x1, x2, x3, x4)) (fun z => ∃ (y0 : Int) (y1 : List UInt8) (y2 : List aB) (y3 : List (List UInt8)) (y4 y5 : Int) (y6 : List ak) (y7 : Int) (rest : List aI), z.1.dimR = .tup [.agg [.int .u64 y0, .str y1, .sl .aval (.may false) y2, .sl .str (.may false) y3, .int .i64 y4], .int .i64 y5] ∧ z.2 = some [.sl .atype (.may false) y6, .int .i64 y7] :: rest ∧ bS ts all t c0 c1 c2 c3 c4 deep (y0, y1, y2, y3, y4, y5, y6, y7)) := by
  intro f g al x0 x1 x2 x3 x4
  unfold dY fN
  dsimp only
  repeat' (first | (with_reducible refine aD ?_ ?_ <;> (intro hb; (try simp only [bnl] at hb); (try revert hb; intro _))) | with_reducible refine aN ?_ ?_ | with_reducible refine aG ?_ | (refine aE (ak7 _) ?_; intro _ _) | (refine aE (akr _) ?_; intro _ _) | fail)
  all_goals first | exact two _ _ _ _ _ _ _ | exact ⟨_, _, _, _, _, _, _, _, _, rfl, rfl, rfl⟩
 have zero : ∀ (f g : Bool) (al x0 : Int) (x1 : List UInt8) (x2 : List aB) (x3 : List (List UInt8)) (x4 : Int), Tot (gF 1000 (deep, c0, c1, c2, c3, c4, k0, k1, k2, k3, k4, k5, k6, k7, k8, k9, f, g, ts, al, x0, x1, x2, x3, x4)) (fun z => ∃ (y0 : Int) (y1 : List UInt8) (y2 : List aB) (y3 : List (List UInt8)) (y4 y5 : Int) (y6 : List ak) (y7 : Int) (rest : List aI), z.1.dimR = .tup [.agg [.int .u64 y0, .str y1, .sl .aval (.may false) y2, .sl .str (.may false) y3, .int .i64 y4], .int .i64 y5] ∧ z.2 = some [.sl .atype (.may false) y6, .int .i64 y7] :: rest ∧ bS ts all t c0 c1 c2 c3 c4 deep (y0, y1, y2, y3, y4, y5, y6, y7)) := by
  intro f g al x0 x1 x2 x3 x4
  unfold gF fO
  dsimp only
  repeat' (first | (with_reducible refine aD ?_ ?_ <;> (intro hb; (try simp only [bnl] at hb); (try revert hb; intro _))) | with_reducible refine aN ?_ ?_ | with_reducible refine aG ?_ | fail)
  all_goals exact one _ _ _ _ _ _ _ _
 repeat' (first | (with_reducible refine aD ?_ ?_ <;> (intro hb; (try simp only [bnl] at hb); (try revert hb; intro _))) | with_reducible refine aN ?_ ?_ | with_reducible refine aG ?_ | fail)
 all_goals first | exact zero _ _ _ _ _ _ _ _ | exact ⟨_, _, _, _, _, _, _, _, _, rfl, rfl, rfl⟩
theorem agu (ts : List ak) (hs : eU ts) : ∀ (n : Nat) (deep : Int), deep + n = 21 → 1 ≤ deep → acC ts deep
 | 0, deep, h, h1 => ae3 ts hs deep (by omega) (fun h' => by omega)
 | n + 1, deep, h, h1 => ae3 ts hs deep (by omega) (fun _ => agu ts hs n (deep + 1) (by omega) (by omega))
theorem alj (ts : List ak) (hs : eU ts) (t c0 c1 : Int) (c2 : List UInt8) (c3 : List aA) (c4 : List (List UInt8)) (ht : 0 ≤ t ∧ t < ts.length) (hn : aV (.mk c0 c1 c2 c3 c4)) : ∃ r, mI ts t c0 c1 c2 c3 c4 r := by
 apply aeW 1
 unfold tb yz
 refine aE (akZ _ _) ?_
 intro b _
 refine aD (fun _ => aG ⟨_, _, _, _, _, _, _, rfl, rfl⟩) (fun _ => ?_)
 refine aE (agu ts hs 20 1 (by omega) (by omega) _ _ _ _ _ _ _ ht.1 ht.2 hn) ?_
 rintro r _
 repeat' (first | (with_reducible refine aD ?_ ?_ <;> (intro hb; (try simp only [bnl] at hb); (try revert hb; intro _))) | with_reducible refine aN ?_ ?_ | with_reducible refine aG ?_ | fail)
 all_goals exact ⟨_, _, _, _, _, _, _, rfl, rfl⟩
theorem alk (ts : List ak) (hs : eU ts) : ∃ r, mG ts r := by
 have h60 := hs.1
 apply aeZ 1000
 unfold td lB
 refine bd (fun x => match x with | (ts', i) => ts' = ts ∧ 0 ≤ i ∧ i ≤ (ts.length : Int)) (fun x => ((ts.length : Int) - x.2).toNat) ?_ _ _ ⟨rfl, by simp, by simp⟩ (by simp; omega)
 rintro again ⟨ts', i⟩ ⟨rfl, i1, i2⟩ ih
 dsimp only at i1 i2 ih
 have ei : i < ts'.length → IntKind.i64.wrap (i + 1) = i + 1 := fun h => aJ (i + 1) (by omega)
 unfold nZ ml
 dsimp only
 refine aD (fun h => ?_) (fun _ => aG ⟨_, _, _, _, rfl, rfl⟩)
 have h := of_decide_eq_true h
 have hl : i.toNat < ts'.length := by omega
 have hT := hs.2 ts'[i.toNat] (List.getElem_mem hl)
 have hg : ts'.getD i.toNat (aC .atype) = ts'[i.toNat] := lR (List.getElem?_eq_getElem hl)
 generalize hk : ts'[i.toNat] = k at hT hg
 have hnf := hT.nf
 refine bd (fun x => match x with | (ts2, i', j) => ts2 = ts' ∧ i' = i ∧ 0 ≤ j ∧ j ≤ (k.fields.length : Int)) (fun x => ((k.fields.length : Int) - x.2.2).toNat) ?_ _ _ ⟨rfl, rfl, by simp, by simp⟩ (by simp; omega)
 rintro again1 ⟨ts2, i', j⟩ ⟨rfl, rfl, j1, j2⟩ ih1
 dsimp only at j1 j2 ih1
 have ej : j < k.fields.length → IntKind.i64.wrap (j + 1) = j + 1 := fun h => aJ (j + 1) (by omega)
 have next : j < k.fields.length → Tot (again1 (ts2, i', IntKind.i64.wrap (j + 1))) _ := fun hj => ih1 (ts2, i', IntKind.i64.wrap (j + 1)) (by simp only [ej hj]; exact ⟨trivial, trivial, by omega, by omega⟩) (by simp only [ej hj]; omega)
 unfold kd
 dsimp only
 rw [hg]
 refine vck (aD (fun hj => ?_) (fun hj => ?_))
 ·have hj := of_decide_eq_true hj
  have hjl : j.toNat < k.fields.length := by omega
  have hf := hT.fields k.fields[j.toNat] (List.getElem_mem hjl)
  refine vck (vck ?_)
  rw [lR (List.getElem?_eq_getElem hjl)]
  refine aD (fun _ => next hj) (fun _ => ?_)
  refine aE (alj ts2 hs _ _ _ _ _ _ ⟨hf.1, hf.2.1⟩ (aV.eta.2 hf.2.2)) ?_
  intro r _
  exact aD (fun _ => aG ⟨_, _, _, _, rfl, rfl⟩) (fun _ => next hj)
 ·exact ih (ts2, _) (by simp only [ei h]; exact ⟨trivial, by omega, by omega⟩) (by simp only [ei h]; omega)
theorem alV (a : List UInt8) (n : Int) (hp : l9 a n) : ∃ r, iD a n r := by
 apply aa9 1
 unfold pe tT
 refine aE (akv a n hp) ?_
 rintro ⟨t0, t1, t2, t3, t4, a', n'⟩ ⟨-, h1, rfl, h3⟩
 dsimp only at h1 h3 ⊢
 refine aE (alU _ _ _ _ _ h1) ?_
 rintro ⟨ts, e⟩ ⟨-, hs⟩
 dsimp only [rA] at hs ⊢
 refine aD (fun _ => aG ⟨_, _, _, _, _, rfl, rfl, (fun h => by cases h), rfl, h3⟩) (fun he => ?_)
 simp only [bnl] at he
 refine aE (alk ts (hs he)) ?_
 intro r _
 exact aG ⟨_, _, _, _, _, rfl, rfl, fun _ => hs he, rfl, h3⟩
end Go.Proofs.Ytdpajabhmmmjoaa
end
noncomputable section
namespace Go.Proofs.Ytdpajabhmmmjoaa
open Go.AM
set_option autoImplicit false
set_option linter.unusedVariables false
set_option linter.unusedSimpArgs false
set_option maxRecDepth 100000
theorem ae4 {ts : List ak} (hs : eU ts) : nF ts (rkB ts) := (acG (zx ts hs)).2
theorem aiW (ts : List ak) (hs : eU ts) : ∃ l, md ts l := by
 apply aio 1000
 unfold xf qd
 have hR := (ae4 hs).1
 have hn := hs.1
 refine ajQ (zx ts hs) (fun _ => ?_)
 change Tot (aW 1000 (oJ 1000) (([] : List Bool), rkB ts, ((rkB ts).length : Int), 0)) _
 have hl := hR.len
 refine bd (fun x => match x with | (l, r, n, i) => r = rkB ts ∧ n = ((rkB ts).length : Int) ∧ 0 ≤ i ∧ i ≤ ((rkB ts).length : Int) ∧ l = ((rkB ts).take i.toNat).map fun q => decide (0 ≤ q))
  (fun x => (((rkB ts).length : Int) - x.2.2.2).toNat) ?_ _ _ ⟨rfl, rfl, by simp, by simp, by simp⟩ (by simp; omega)
 rintro again ⟨l, r, n, i⟩ ⟨rfl, rfl, i1, i2, rfl⟩ ih
 dsimp only at ih
 unfold oJ
 dsimp only
 refine aD (fun h => ?_) (fun h => ?_)
 ·have h := of_decide_eq_true h
  have ei : IntKind.i64.wrap (i + 1) = i + 1 := aJ (i + 1) (by omega)
  have eit : (i + 1).toNat = i.toNat + 1 := by omega
  have ht := tG (rkB ts) i.toNat 0 (by omega)
  refine vck (aN (decide_eq_true (by simp only [List.length_map, List.length_take, List.length_singleton]; omega)) ?_)
  refine ih (_, rkB ts, _, _) ?_ (by simp only [ei]; omega)
  simp only [ei]
  rw [eit, ht, List.map_append]
  exact ⟨trivial, trivial, by omega, by omega, rfl⟩
 ·have h := of_decide_eq_false h
  refine aG ⟨_, _, rfl, rfl, ?_⟩
  rw [List.take_of_length_le (by omega)]
  rfl
theorem alm (ts : List ak) (r : List Int) (n : Nat) (h : n = ts.length) : qa ts r (List.replicate n 0) := by
 have e : ∀ i, (List.replicate n (0 : Int)).getD i 0 = 0 := fun i => by
  rw [List.getD_eq_getElem?_getD, List.getElem?_replicate]
  split <;> rfl
 exact ⟨by simp [h], fun i _ => by rw [e]; omega, fun i _ hne => absurd (e i) hne⟩
theorem z7 (ts : List ak) (hs : eU ts) (t : Int) : ∃ x, eZ ts t x := by
 apply afv 1000
 unfold uh aam
 have hR := (ae4 hs).1
 have hn := hs.1
 have hl := hR.len
 refine ajQ (zx ts hs) (fun _ => ?_)
 have hpost : ∀ x, rN ts t x = ((x.2 = true → isT ts t = true ∧ 0 ≤ rk (rkB ts) t ∧ alE ts t x.1 12000000) ∧ (x.2 = false → x.1.l = []) ∧ (x.2 = true → x.1.n = 0) ∧
  (isT ts t = true → 0 ≤ rk (rkB ts) t → (ts.getD t.toNat (aC .atype)).kind ≠ 9 → (ts.getD t.toNat (aC .atype)).kind ≠ 14 → x.2 = true)) := fun _ => rfl
 simp only [hpost]
 change Tot (cond (decide (t < 0)) _ (cond (decide (((rkB ts).length : Int) ≤ t)) _ (chk (decide (0 ≤ t) && decide (t < ((rkB ts).length : Int))) (cond (decide (rk (rkB ts) t < 0)) _ (chk (decide (0 < ((rkB ts).length : Int)) && decide (((rkB ts).length : Int) * 8 ≤ 140737488355328))
  (zk (cp (List.replicate ((rkB ts).length : Int).toNat 0) ts t (rkB ts)) (Nat.beq ((rkB ts).length : Int).toNat (List.replicate ((rkB ts).length : Int).toNat (0 : Int)).length) _)))))) _
 have no : ∀ (hp : List aI), (isT ts t = true → 0 ≤ rk (rkB ts) t → (ts.getD t.toNat (aC .atype)).kind ≠ 9 → (ts.getD t.toNat (aC .atype)).kind ≠ 14 → False) →
   Tot (some (V.tup [.agg [.int .u64 0, .str ([] : Bs), .sl .aval (.may true) ([] : List aB), .sl .str (.may true) ([] : Bss), .int .i64 0], .bool false], hp)) (fun z => ∃ (y0 : aB) (y1 : Bool) (rest : List aI), z.1.dimR = .tup [.agg (enc .aval y0), .bool y1] ∧ z.2 = rest ∧
    ((((y0, y1) : aB × Bool).2 = true → isT ts t = true ∧ 0 ≤ rk (rkB ts) t ∧ alE ts t ((y0, y1) : aB × Bool).1 12000000) ∧ (((y0, y1) : aB × Bool).2 = false → ((y0, y1) : aB × Bool).1.l = []) ∧ (((y0, y1) : aB × Bool).2 = true → ((y0, y1) : aB × Bool).1.n = 0) ∧
      (isT ts t = true → 0 ≤ rk (rkB ts) t → (ts.getD t.toNat (aC .atype)).kind ≠ 9 → (ts.getD t.toNat (aC .atype)).kind ≠ 14 → ((y0, y1) : aB × Bool).2 = true))) := fun hp hno =>
  aG ⟨.mk 0 [] [] [] 0, false, _, rfl, rfl, by simp, by simp [aB.l], by simp, fun a b c d => absurd (hno a b c d) (by simp)⟩
 have hTt : isT ts t = true → 0 ≤ t ∧ t < ts.length := fun h => by
  simp only [isT, Bool.and_eq_true, decide_eq_true_eq] at h; exact h
 refine aD (fun h => no _ fun hT _ _ _ => by have := of_decide_eq_true h; have := hTt hT; omega) (fun h => aD (fun h1 => no _ fun hT _ _ _ => by have := of_decide_eq_true h1; have := hTt hT; omega) (fun h1 => ?_))
 have h := of_decide_eq_false h
 have h1 := of_decide_eq_false h1
 have ht : 0 ≤ t ∧ t < ts.length := by omega
 have hT := ak3 ht
 refine vck (aD (fun h2 => no _ fun _ h0 _ _ => by have := of_decide_eq_true h2; omega) (fun h2 => ?_))
 have h2 := of_decide_eq_false h2
 have htop := hR.top t.toNat (by omega)
 have ert : (rkB ts).getD t.toNat 0 = rk (rkB ts) t := rfl
 refine vck (ae9 (by simp) (aey ts hs (rkB ts) hR 1000 _ t (alm ts _ _ (by omega)) ht (by omega) (by omega)) ?_)
 rintro ⟨x, w⟩ ⟨-, q1, q2, q3, q4, q5⟩
 dsimp only at q1 q3 q4 ⊢
 refine aD (fun h3 => no _ fun _ _ h9 h14 => ?_) (fun h3 => ?_)
 ·have h3 := of_decide_eq_true h3
  obtain ⟨a1, l, a2, a3, a4⟩ := q1.ok t.toNat (by omega) (by rw [q3] at q4; exact q4)
  unfold fH at a2
  rw [if_neg h14, (hs.at (by omega)).only h9] at a2
  have a2 : l = [] := a2
  subst a2
  have e1 : rk w t = 1 := a4
  omega
 ·have h3 := of_decide_eq_false h3
  refine aE (aeF ts hs (rkB ts) hR 1000 t ht (by omega) (by omega)) ?_
  rintro (v : aB) ⟨-, p1, p2, p3⟩
  have hw := p3 w q1 (by omega) (by omega)
  have ev : (aB.mk v.n v.s v.l v.keys v.branch) = v := ah9 v
  refine aG ⟨v, true, _, rfl, rfl, fun _ => ⟨hT, by omega, p1, by omega⟩, (fun h => by cases h), fun _ => p2, fun _ _ _ _ => rfl⟩
end Go.Proofs.Ytdpajabhmmmjoaa
end
noncomputable section
namespace Go.Proofs.Ytdpajabhmmmjoaa
open Go.AM
set_option autoImplicit false
set_option linter.unusedVariables false
set_option linter.unusedSimpArgs false
set_option maxRecDepth 100000
def kH : ak := ⟨9, ([82] : Bs), ([] : Bss), 0, ([] : Bss), false, ([] : Bs), 0, ([⟨([97] : Bs), ([] : Bss), 0, false, ⟨0, 0, ([] : Bs), ([] : List aA), ([] : Bss)⟩⟩] : List aQ), ([] : List Int)⟩
def lS : ak := ⟨3, ([] : Bs), ([] : Bss), 0, ([] : Bss), false, ([] : Bs), 0, ([] : List aQ), ([] : List Int)⟩
theorem akw : eU [kH, lS] := by
 refine ⟨by simp, fun t ht => ?_⟩
 simp only [List.mem_cons, List.not_mem_nil, or_false] at ht
 rcases ht with rfl | rfl
 ·refine ⟨by simp [kH], fun f hf => ?_, by simp [kH], by simp [kH], by simp [kH], by simp [kH], by simp [kH], by simp [kH], by simp [kH], by simp [kH], by simp [kH]⟩
  simp only [kH, List.mem_singleton] at hf
  subst hf
  exact ⟨by simp, by simp, by first | exact aV.zero | simp [aV] | (constructor <;> simp)⟩
 ·exact ⟨by simp [lS], by simp [lS], by simp [lS], by simp [lS], by simp [lS], by simp [lS], by simp [lS], by simp [lS], by simp [lS], by simp [lS], by simp [lS]⟩
theorem amT : ∃ a b : Int, rkB [kH, lS] = [a, b] ∧ a < 0 ∧ 0 ≤ b := by
 obtain ⟨hR, hd⟩ := ae4 akw
 have hl := hR.len
 generalize rkB [kH, lS] = r at *
 match r, hl with
 | [a, b], _ =>
   refine ⟨a, b, rfl, ?_, ?_⟩
   ·rcases Int.lt_or_le a 0 with h | h
    ·exact h
    ·have h1 := hR.ok 0 (by simp) h
     have h2 := h1.rcd rfl ⟨([97] : Bs), ([] : Bss), 0, false, ⟨0, 0, ([] : Bs), ([] : List aA), ([] : Bss)⟩⟩ (by simp [kH])
     have e : rk [a, b] 0 = a := rfl
     have e2 : [a, b].getD 0 0 = a := rfl
     have h3 : rk [a, b] 0 < [a, b].getD 0 0 := h2.2
     omega
   ·rcases Int.lt_or_le b 0 with h | h
    ·have h1 := hd 1 (by simp) h
     rcases h1 with h1 | h1 <;> exact absurd h1 (by decide)
    ·exact h
theorem akx : ∃ r, mP r := by
 apply aeH 1
 unfold sZ yg
 have hb : ∀ r, qQ r = (r = true) := fun _ => rfl
 simp only [hb]
 obtain ⟨a, b, e, ha, hb0⟩ := amT
 change Tot (aF (md [kH, lS]) (fun r1 => aF (eZ [kH, lS] 0) (fun r2 => aF (eZ [kH, lS] 1) (fun r3 => _)))) _
 refine aE (aiW _ akw) ?_
 rintro (l : List Bool) ⟨-, hl⟩
 refine aE (z7 _ akw 0) ?_
 rintro ⟨v0, i0⟩ ⟨-, p1, p2, p3, p4⟩
 refine aE (z7 _ akw 1) ?_
 rintro ⟨v1, i1⟩ ⟨-, q1, q2, q3, q4⟩
 dsimp only at p1 p2 p3 p4 q1 q2 q3 q4 ⊢
 have hl : l = (rkB [kH, lS]).map fun q => decide (0 ≤ q) := hl
 rw [e] at hl
 have e0 : rk (rkB [kH, lS]) 0 = a := by rw [e]; rfl
 have e1 : rk (rkB [kH, lS]) 1 = b := by rw [e]; rfl
 have hi0 : i0 = false := by
  cases i0 with
  | false => rfl
  | true => have := (p1 rfl).2.1; omega
 have hi1 : i1 = true := q4 (by decide) (by omega) (by decide) (by decide)
 have hn := q3 hi1
 subst hi0 hi1
 have hl : l = [false, true] := by
  rw [hl]
  simp only [List.map_cons, List.map_nil, decide_eq_false (show ¬ 0 ≤ a by omega), decide_eq_true hb0]
 subst hl
 refine aD (fun _ => ?_) (fun h => absurd h (by decide))
 refine aN (by decide) (aD (fun _ => ?_) (fun h => absurd h (by decide)))
 refine aN (by decide) (aD (fun _ => ?_) (fun h => absurd h (by decide)))
 refine aD (fun _ => ?_) (fun h => absurd h (by decide))
 refine aD (fun _ => ?_) (fun h => absurd h (by decide))
 exact aG ⟨_, _, rfl, rfl, by rw [hn]; rfl⟩
theorem aiX (l : List UInt8) : ∃ r, vy l r := by
 apply acl 1000
 unfold pP iG
 have hb : ∀ r, nj l r = (r = true) := fun _ => rfl
 simp only [hb]
 refine aE akx ?_
 rintro (r1 : Bool) ⟨-, hr1⟩
 have hr1 : r1 = true := hr1
 subst hr1
 refine aD (fun h => absurd h (by decide)) (fun _ => ?_)
 refine aD (fun _ => aG ⟨_, _, rfl, rfl, rfl⟩) (fun hlen => ?_)
 have hlen := of_decide_eq_false hlen
 refine aE (alH _) ?_
 rintro _ ⟨-, rfl⟩
 refine aE (alV _ _ ⟨by simp, by simp, by dsimp only; omega⟩) ?_
 rintro ⟨ts, is, a', n'⟩ ⟨-, g1, g2, g3⟩
 dsimp only at g1 g2 g3 ⊢
 refine aD (fun _ => aG ⟨_, _, rfl, rfl, rfl⟩) (fun his => ?_)
 simp only [bnl] at his
 have hs := g1 his
 have hR := (ae4 hs).1
 have hrl := hR.len
 have hn := hs.1
 refine aE (aiW ts hs) ?_
 rintro (has : List Bool) ⟨-, hh⟩
 have hh : has = (rkB ts).map fun q => decide (0 ≤ q) := hh
 have hhl : has.length = ts.length := by rw [hh, List.length_map, hrl]
 refine aD (fun h => ?_) (fun _ => ?_)
 ·rw [hhl] at h
  simp at h
 refine bd (fun x => match x with | (ts', has', i, o0, o1) => ts' = ts ∧ has' = has ∧ 0 ≤ i ∧ i ≤ (ts.length : Int))
  (fun x => ((ts.length : Int) - x.2.2.1).toNat) ?_ _ _ ⟨rfl, rfl, by simp, by omega⟩ (by simp; omega)
 rintro again ⟨ts', has', i, o0, o1⟩ ⟨rfl, rfl, i1, i2⟩ ih
 dsimp only at ih
 unfold jX
 dsimp only
 refine aD (fun h => ?_) (fun h => aG ⟨_, _, rfl, rfl, rfl⟩)
 have h := of_decide_eq_true h
 have ei : IntKind.i64.wrap (i + 1) = i + 1 := aJ (i + 1) (by omega)
 have nx : Tot (again (ts', has', IntKind.i64.wrap (i + 1), o0, o1)) _ := ih (ts', has', IntKind.i64.wrap (i + 1), o0, o1) (by
  simp only [ei]
  exact ⟨trivial, trivial, by omega, by omega⟩) (by simp only [ei]; omega)
 refine aE (z7 ts' hs i) ?_
 rintro ⟨v, is2⟩ ⟨-, p1, p2, p3, p4⟩
 dsimp only at p1 p2 p3 p4 ⊢
 cases is2 with
 | true =>
   obtain ⟨a1, a2, a3⟩ := p1 rfl
   have hd : has'.getD i.toNat (aC .bool) = true := by
    have : has'.getD i.toNat false = decide (0 ≤ (rkB ts').getD i.toNat 0) := by
     rw [hh]
     simp only [List.getD_eq_getElem?_getD, List.getElem?_map]
     rw [List.getElem?_eq_getElem (show i.toNat < (rkB ts').length by omega)]
     rfl
    have e : has'.getD i.toNat (aC .bool) = has'.getD i.toNat false := rfl
    rw [e, this]
    exact decide_eq_true a2
   refine aD (fun _ => ?_) (fun h => by cases h)
   refine vck ?_
   rw [hd]
   refine aD (fun h => by cases h) (fun _ => ?_)
   refine aE (alf ts' hs _ _ _ _ _ _) ?_
   rintro _ ⟨-, rfl⟩
   have hf : cO ts' i (.mk v.n v.s v.l v.keys v.branch) = true := by
    have : (aB.mk v.n v.s v.l v.keys v.branch) = v := ah9 v
    rw [this]; exact a3.1
   refine aD (fun h => ?_) (fun _ => aD (fun h => by cases h) (fun _ => nx))
   rw [hf] at h
   cases h
 | false =>
   refine aD (fun h => by cases h) (fun _ => aD (fun _ => ?_) (fun h => by cases h))
   rw [p2 rfl]
   exact aD (fun h => absurd (of_decide_eq_true h) (by simp)) (fun _ => nx)
theorem aht (l : List UInt8) : aO Try.prog qR [.sl .u8 (.may false) l] (.bool true) := by
 obtain ⟨r, h, hr⟩ := aiX l
 have hr : r = true := hr
 subst hr
 exact h
end Go.Proofs.Ytdpajabhmmmjoaa
end
noncomputable section
namespace Go.Proofs.Ytdpajabhmmmjoaa
open Go.ChangeShapes Go.WideShapes Go.AM
set_option autoImplicit false
set_option linter.unusedVariables false
set_option maxRecDepth 100000
theorem ajS {α : Type} {p : Nat → α → Prop} : ∀ n, (∀ i, i < n → ∃ x, p i x) → ∃ l : List α, l.length = n ∧ ∀ i x, l[i]? = some x → p i x
 | 0, _ => ⟨[], rfl, by simp⟩
 | n + 1, h => by
   obtain ⟨l, h1, h2⟩ := ajS n fun i hi => h i (by omega)
   obtain ⟨x, hx⟩ := h n (by omega)
   refine ⟨l ++ [x], by simp [h1], fun i y hy => ?_⟩
   rcases Nat.lt_or_ge i l.length with hi | hi
   ·rw [List.getElem?_append_left hi] at hy
    exact h2 i y hy
   ·rw [List.getElem?_append_right hi] at hy
    have h3 : i = n := by
     have := (List.getElem?_eq_some_iff.1 hy).1
     simp at this
     omega
    subst h3
    have : x = y := by simpa [h1] using hy
    exact this ▸ hx
section
variable {H : Type} {enc : TypeId × Value → H} {w : World} {base : Nat} {held : Bool}
theorem ami (k : EK) {t e : TypeId} (ht : Try.prog.underlying t = some (.slice e)) (hc : Try.prog.cellsOf e = k.sz) {n : Nat} {cs : List Value} {x : DataW H × List MemPlace}
  (elem : ∀ m, m + 1 = n → ∀ es y, DataW.trod enc Try.prog w base (fun _ => true) held m e es = some y → ∃ x : Ty k, ∀ (j : Nat) v u, (AM.enc k x)[j]? = some v → es[j]? = some u → VRel (pk w).I id 0 w v u)
  (h : DataW.trod enc Try.prog w base (fun _ => true) held n t cs = some x) : ∃ (xs : List (Ty k)) (cv : Value), cs = [cv] ∧ VRel (pk w).I id 0 w (.sl k (.may false) xs) cv := by
 have hk0 : 0 < k.sz := by cases k <;> simp [EK.sz]
 rcases DataW.trod_slice ht h with ⟨rfl, -⟩ | ⟨a, len, cap, elems, rest, m, rfl, rfl, -, hb, hl, hm, hlen, hel, hsp, -⟩
 ·exact ⟨[], _, rfl, .sln _ _⟩
 obtain ⟨hrl, hr⟩ := hsp rfl
 rw [hc] at hel hr
 by_cases h0 : cap = 0
 ·subst h0
  obtain rfl : len = 0 := by omega
  exact ⟨[], _, rfl, .sle _ _ a (by simp)⟩
 have first : ∃ es y, w.cells? base (a.add (0 * k.sz)) k.sz = some es ∧ DataW.trod enc Try.prog w base (fun _ => true) held m e es = some y := by
  by_cases hl0 : len = 0
  ·have h1 := hr 0 (by omega)
   rw [hl0] at h1
   have h2 : 0 < rest.length := by omega
   rw [List.getElem?_eq_getElem h2, Option.bind_eq_some_iff] at h1
   obtain ⟨es, h3, h4⟩ := h1
   exact ⟨es, _, h3, h4⟩
  ·have h1 := hel 0 (by omega)
   have h2 : 0 < elems.length := by omega
   rw [List.getElem?_eq_getElem h2, Option.bind_eq_some_iff] at h1
   obtain ⟨es, h3, h4⟩ := h1
   exact ⟨es, _, h3, h4⟩
 have hspot : a.spot = none := by
  obtain ⟨es, y, h1, -⟩ := first
  obtain ⟨h2, h3, h4⟩ := World.cells?_some h1
  have h5 := h4 0 hk0
  rw [List.getElem?_eq_getElem (by omega)] at h5
  simp only [Nat.zero_mul, Addr.add, if_true, World.cell?] at h5
  split at h5
  ·cases hs : a.spot with
   | none => rfl
   | some s => simp [hs] at h5
  ·cases h5
 obtain ⟨b, off, spot⟩ := a
 simp only at hspot
 subst hspot
 obtain ⟨xs, hxl, hxs⟩ := ajS (α := Ty k) (p := fun i x => ∀ j v, (AM.enc k x)[j]? = some v → ∃ u, w.cell? ⟨b, off + i * k.sz + j, none⟩ = some u ∧ VRel (pk w).I id 0 w v u) len (by
  intro i hi
  have h1 := hel i hi
  rw [List.getElem?_eq_getElem (by omega), Option.bind_eq_some_iff] at h1
  obtain ⟨es, h2, h3⟩ := h1
  obtain ⟨x, hx⟩ := elem m rfl es _ h3
  obtain ⟨h4, h5, h6⟩ := World.cells?_some h2
  refine ⟨x, fun j v hv => ?_⟩
  have hj : j < k.sz := by
   have := (List.getElem?_eq_some_iff.1 hv).1
   rwa [bI] at this
  have h7 := h6 j hj
  rw [List.getElem?_eq_getElem (by omega), add_plain, add_plain] at h7
  exact ⟨_, h7, hx j v _ hv (List.getElem?_eq_getElem (by omega))⟩)
 refine ⟨xs, _, rfl, .sl k (.may false) xs b off len cap hxl (by omega) (by unfold maxLen at hm; unfold cL; exact hm) (by simp) (fun i j => (w.cell? ⟨b, off + i * k.sz + j, none⟩).getD undef) ?_ ?_ ?_⟩
 ·intro i x j h1 h2
  obtain ⟨u, h3, -⟩ := hxs i x h1 j _ (List.getElem?_eq_getElem h2)
  show (w.cell? _).isSome = true
  rw [h3]; rfl
 ·intro i x j h1 h2
  obtain ⟨u, h3, -⟩ := hxs i x h1 j _ (List.getElem?_eq_getElem h2)
  rw [h3]; rfl
 ·intro i x j v h1 h2
  obtain ⟨u, h3, h4⟩ := hxs i x h1 j v h2
  rw [h3]; exact h4
theorem aky {n : Nat} {cs : List Value} {x : DataW H × List MemPlace} (h : DataW.trod enc Try.prog w base (fun _ => true) held n 22 cs = some x) :
  ∃ (xs : List UInt8) (cv : Value), cs = [cv] ∧ VRel (pk w).I id 0 w (.sl .u8 (.may false) xs) cv :=
 ami .u8 Try.underlying22 (by kernel_rfl) (fun m hm es y hy => by
  obtain ⟨c, rfl, -, hw⟩ := DataW.trod_int Try.underlying5 hy
  have hr : 0 ≤ c ∧ c ≤ 255 := by simpa [Lit.wf, IntKind.min, IntKind.max, IntKind.signed, IntKind.bits] using hw
  refine ⟨UInt8.ofNat c.toNat, fun j v u h1 h2 => ?_⟩
  obtain rfl : j = 0 := by
   have := (List.getElem?_eq_some_iff.1 h2).1
   simpa using this
  simp only [AM.enc, List.getElem?_cons_zero, Option.some.injEq] at h1 h2
  subst h1 h2
  have : ((UInt8.ofNat c.toNat).toNat : Int) = c := by
   rw [UInt8.toNat_ofNat']
   omega
  rw [this]
  exact .int _ _ (by simpa [Lit.wf] using hw)) h
theorem akz {r : Reach} {b0 : Nat} {v : Value} {d : DataW H} {p : List MemPlace} (hv : Value.okWide Try.prog w r b0 22 v) (h : DataW.Trod enc Try.prog w base (fun _ => true) held 22 v d p) :
  ∃ xs : List UInt8, VRel (pk w).I id 0 w (.sl .u8 (.may false) xs) v := by
 obtain ⟨a, len, cap, rfl⟩ := okWide_slice Try.underlying22 hv
 obtain ⟨fuel, hf⟩ := h
 obtain ⟨xs, cv, e, hr⟩ := aky hf
 have e : [Value.slice a len cap] = [cv] := e
 cases e
 exact ⟨xs, hr⟩
end
end Go.Proofs.Ytdpajabhmmmjoaa
end
