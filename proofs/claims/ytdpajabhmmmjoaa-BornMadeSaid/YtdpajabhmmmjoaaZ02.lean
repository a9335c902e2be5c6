import Derived.Below
import Derived.KernelRfl
import Derived.Test.YtdpajabhmmmjoaaChecked
import Derived.Test.YtdpajabhmmmjoaaZ00
import Derived.Test.YtdpajabhmmmjoaaZ01
noncomputable section
namespace Go.AM
set_option autoImplicit false
set_option linter.unusedSimpArgs false
set_option linter.unusedVariables false
def acF (P : Program) : RV → ResultVar → Bool
 | .t n, .tmp m => n == m
 | .cell n size agg, .cell m t => (n == m) && ((jB P t == some size) && ((tr P t == some agg) && (agg || size == 1)))
 | _, _ => false
def rv (P : Program) : List RV → List ResultVar → Bool
 | [], [] => true
 | x :: xs, y :: ys => acF P x y && rv P xs ys
 | _, _ => false
section
variable {w : World} {g : Gh} {s s' : St} {a : Act} {P : Program} {Γ : aM}
def aj7 (g : Gh) (w : World) (x : RV) (v : V) (cv : Value) : Prop := match x with | .t n => aP g w (.slot n) v cv | .cell .. => v.bare = true
def zf (tmps : Array Value) : ResultVar → Sem Value
 | .tmp t => pure (tmps.getD t undef)
 | .cell a t => do loadVar t (← asAddr (tmps.getD a undef))
theorem amM (h : SR g s w a) {x : RV} {y : ResultVar} (hc : acF P x y = true) {v : V} (hv : x.ev s = some v) :
  ∃ cv, (zf a.tmps y).run P w = .ok cv w ∧ VRel g.I g.ρ s.hp.length w v cv ∧ aj7 g w x v cv := by
 cases x with
 | t n =>
   cases y with
   | tmp m =>
     obtain rfl : n = m := by simpa [acF] using hc
     simp only [RV.ev, Option.some.injEq] at hv
     subst hv
     exact ⟨_, by simp [zf], h.er.get n, h.er.getOwn n⟩
   | cell m t => simp [acF] at hc
 | cell n size agg =>
   cases y with
   | tmp m => simp [acF] at hc
   | cell m t =>
     simp only [acF, Bool.and_eq_true, beq_iff_eq, Bool.or_eq_true] at hc
     obtain ⟨rfl, h1, h2, h3⟩ := hc
     have r1 := h.er.get n
     simp only [RV.ev] at hv
     have fin : ∀ b o (vs : List Value), a.tmps.getD n undef = .pointer (some ⟨b, o, none⟩) → vs.length = size → (∀ (j : Nat) v, vs[j]? = some v → w.cell? ⟨b, o + j, none⟩ = some v) →
       (zf a.tmps (.cell n t)).run P w = .ok (if agg then .agg vs.toArray else vs.headD undef) w := by
      intro b o vs hp hl hw
      have := oi (P := P) (w := w) (b := b) (o := o) (vs := vs) h1 h2 h3 hl hw
      simp only [Instr.loadAt, Instr.sureAddr] at this
      simp [zf, hp, asAddr]
      simpa using this
     split at hv
     ·rename_i id o hx
      rw [hx] at r1
      generalize hcv : a.tmps.getD n undef = cv at r1 fin
      cases r1 with
      | ptr _ _ hid =>
      split at hv
      ·rename_i cs ho
       split at hv
       ·rename_i hle
        obtain rfl := Option.some.inj hv
        obtain ⟨arr, e, hb, hok⟩ := qX h.hr ho
        have hlen := hok.len
        have hrel := rm (agg := agg) (cs := (cs.drop o).take size) (vs := (arr.toList.drop o).take size) (w := w) (I := g.I) (ρ := g.ρ) (N := s.hp.length)
         (fun c hcm => hok.one c (List.mem_of_mem_drop (List.mem_of_mem_take hcm))) (by simp; omega) (by
          rcases h3 with h3 | h3
          ·exact .inl h3
          ·right; simp; omega)
         (fun i c cv hc hcv => by
          simp only [List.getElem?_take, List.getElem?_drop] at hc hcv
          split at hc
          ·rename_i hi
           simp only [hi, if_true] at hcv
           exact hok.rel _ _ _ hc (by simpa using hcv)
          ·simp at hc)
        refine ⟨_, fin _ _ ((arr.toList.drop o).take size) rfl (by simp; omega) (fun j v hj => ?_), hrel.disown, dK _⟩
        rw [bg hb]
        simp only [List.getElem?_take, List.getElem?_drop] at hj
        split at hj
        ·simpa using hj
        ·simp at hj
       ·simp at hv
      ·simp at hv
     ·rename_i cs hx
      rw [hx] at r1
      generalize hcv : a.tmps.getD n undef = cv at r1 fin
      cases r1 with
      | ea _ b o f e1 hI hw hv' =>
      split at hv
      ·rename_i hle
       obtain rfl := Option.some.inj hv
       have hrel := rm (agg := agg) (cs := cs.take size) (vs := (List.range size).map f) (w := w) (I := g.I) (ρ := g.ρ) (N := s.hp.length)
        (fun c hcm => e1 c (List.mem_of_mem_take hcm)) (by simp; omega) (by
         rcases h3 with h3 | h3
         ·exact .inl h3
         ·right; simp; omega)
        (fun i c cv hc hcv => by
         simp only [List.getElem?_take] at hc
         split at hc
         ·rename_i hi
          simp [hi] at hcv
          subst hcv
          exact hv' _ _ hc
         ·simp at hc)
       refine ⟨_, fin _ _ ((List.range size).map f) rfl (by simp) (fun j v hj => ?_), hrel.disown, dK _⟩
       rw [List.getElem?_map, Option.map_eq_some_iff] at hj
       obtain ⟨j', hj', rfl⟩ := hj
       obtain ⟨hlt, rfl⟩ := List.getElem?_eq_some_iff.1 hj'
       simp only [List.length_range] at hlt
       simpa using hw j (by omega)
      ·simp at hv
     ·simp at hv
theorem ajF (h : SR g s w a) : ∀ {xs : List RV} {ys : List ResultVar} {vs : List V}, rv P xs ys = true → rvs s xs = some vs →
  ∃ cvs : List Value, cvs.length = vs.length ∧ xs.length = vs.length ∧ ys.length = vs.length ∧ (∀ (i : Nat) y, ys[i]? = some y → ∃ cv, cvs[i]? = some cv ∧ (zf a.tmps y).run P w = .ok cv w) ∧
    (∀ (i : Nat) v cv, vs[i]? = some v → cvs[i]? = some cv → VRel g.I g.ρ s.hp.length w v cv) ∧
    (∀ (i : Nat) x v cv, xs[i]? = some x → vs[i]? = some v → cvs[i]? = some cv → aj7 g w x v cv)
 | [], [], vs, _, hv => by
   simp only [rvs, Option.some.injEq] at hv
   subst hv
   exact ⟨[], rfl, rfl, rfl, by simp, by simp, by simp⟩
 | x :: xs, y :: ys, vs, hc, hv => by
   simp only [rv, Bool.and_eq_true] at hc
   simp only [rvs] at hv
   split at hv
   ·rename_i v vs' h1 h2
    obtain rfl := Option.some.inj hv
    obtain ⟨cv, k1, k2, k3⟩ := amM h hc.1 h1
    obtain ⟨cvs, l1, l2, l3, l4, l5, l6⟩ := ajF h hc.2 h2
    refine ⟨cv :: cvs, by simp [l1], by simp [l2], by simp [l3], ?_, ?_, ?_⟩
    ·intro i y' hy
     cases i with
     | zero => simp at hy; subst hy; exact ⟨cv, rfl, k1⟩
     | succ i => simpa using l4 i y' (by simpa using hy)
    ·intro i v' cv' hv' hcv'
     cases i with
     | zero => simp at hv' hcv'; subst hv' hcv'; exact k2
     | succ i => exact l5 i v' cv' (by simpa using hv') (by simpa using hcv')
    ·intro i x' v' cv' hx' hv' hcv'
     cases i with
     | zero => simp at hx' hv' hcv'; subst hx' hv' hcv'; exact k3
     | succ i => exact l6 i x' v' cv' (by simpa using hx') (by simpa using hv') (by simpa using hcv')
   ·simp at hv
 | [], _ :: _, _, hc, _ => by simp [rv] at hc
 | _ :: _, [], _, hc, _ => by simp [rv] at hc
def Gh.hand (g : Gh) (r : Option Nat) : Gh := { g with O := fun b => match g.O b with | some (.slot m) => (if some m = r then some .res else none) | some .res => none | o => o }
theorem HR.hand {hp : List aI} (h : HR g hp w) (r : Option Nat) : HR (g.hand r) hp w := by
 refine ⟨?_, h.apart, h.notI, ?_, h.exI, ?_⟩
 ·intro id cs hid
  obtain ⟨arr, e, fz, h1, h2⟩ := h.obj id cs hid
  refine ⟨arr, e, fz, h1, h2.len, h2.plain, h2.typed, h2.cold, h2.one, h2.rel, ?_, h2.bn⟩
  intro j c cv hc hcv
  refine da (h2.own j c cv hc hcv) rfl (fun b j hi => ⟨hi, rfl⟩) ?_
  intro b hb
  exact ⟨by simp [Gh.hand, hb], rfl, fun j hj => hj⟩
 ·intro id cs hid
  simp [Gh.hand, h.notO id cs hid]
 ·intro b o hb
  cases hO : g.O b with
  | none => simp [Gh.hand, hO] at hb
  | some o' => exact h.oLt b o' hO
theorem FR.hand {g₀ : Gh} {hp₀ hp : List aI} {w₀ : World} (h : FR g₀ hp₀ w₀ g hp w) (r : Option Nat) : FR g₀ hp₀ w₀ (g.hand r) hp w :=
 ⟨h.beta, h.os, h.tape, h.output, h.size, h.block, h.up, h.iSame, fun b hb ho hO => by simp [Gh.hand, h.oSame b hb ho hO], h.live⟩
def zg : List Value → Value
 | [v] => v
 | vs => .tuple vs.toArray
theorem ai4 {fn : Func} {l : List ResultVar} {cvs : List Value} (hl : fn.results.toList = l) (hlen : l.length = cvs.length) (h5 : l.length ≤ 5)
  (h : ∀ (i : Nat) y, l[i]? = some y → ∃ cv, cvs[i]? = some cv ∧ (zf a.tmps y).run P w = .ok cv w) :
  (results fn a.tmps).run P w = .ok (zg cvs) w := by
 have e : fn.results = l.toArray := by rw [← hl]
 have hr : results fn a.tmps = (do let vs ← fn.results.mapM (zf a.tmps); pure (if h : vs.size = 1 then vs[0] else .tuple vs)) := rfl
 rw [hr, e]
 match l, cvs, hlen, h5, h with
 | [], [], _, _, _ => simp [zg]
 | [y0], [c0], _, _, h =>
   obtain ⟨_, q0, r0⟩ := h 0 y0 rfl
   simp at q0; subst q0
   simp [r0, zg]
 | [y0, y1], [c0, c1], _, _, h =>
   obtain ⟨_, q0, r0⟩ := h 0 y0 rfl
   obtain ⟨_, q1, r1⟩ := h 1 y1 rfl
   simp at q0 q1; subst q0 q1
   simp [r0, r1, zg]
 | [y0, y1, y2], [c0, c1, c2], _, _, h =>
   obtain ⟨_, q0, r0⟩ := h 0 y0 rfl
   obtain ⟨_, q1, r1⟩ := h 1 y1 rfl
   obtain ⟨_, q2, r2⟩ := h 2 y2 rfl
   simp at q0 q1 q2; subst q0 q1 q2
   simp [r0, r1, r2, zg]
 | [y0, y1, y2, y3], [c0, c1, c2, c3], _, _, h =>
   obtain ⟨_, q0, r0⟩ := h 0 y0 rfl
   obtain ⟨_, q1, r1⟩ := h 1 y1 rfl
   obtain ⟨_, q2, r2⟩ := h 2 y2 rfl
   obtain ⟨_, q3, r3⟩ := h 3 y3 rfl
   simp at q0 q1 q2 q3; subst q0 q1 q2 q3
   simp [r0, r1, r2, r3, zg]
 | [y0, y1, y2, y3, y4], [c0, c1, c2, c3, c4], _, _, h =>
   obtain ⟨_, q0, r0⟩ := h 0 y0 rfl
   obtain ⟨_, q1, r1⟩ := h 1 y1 rfl
   obtain ⟨_, q2, r2⟩ := h 2 y2 rfl
   obtain ⟨_, q3, r3⟩ := h 3 y3 rfl
   obtain ⟨_, q4, r4⟩ := h 4 y4 rfl
   simp at q0 q1 q2 q3 q4; subst q0 q1 q2 q3 q4
   simp [r0, r1, r2, r3, r4, zg]
theorem ajG (hΓ : cC P Γ) {imp : List Nat} (hP : cM Γ imp) {f : FuncId} {fn : Func} {code : Code} {ir : IR} {rs : List RV} {n : Nat} {vs : List V} {hp hp' : List aI} {v : V}
  (hf : P.funcs[f]? = some fn) (hb : fn.body = some code) (hc : bY P imp hp.length ir code = true) (hrs : rv P rs fn.results.toList = true) (h5 : fn.results.toList.length ≤ 5)
  (hrun : bb Γ n fn.ntmps rs ir vs hp = some (v, hp')) : iJ P f vs hp v hp' := by
 intro w g cargs hβ hhr hlen hbare hrel
 refine calls_of_wp hf hb ?_
 let act : Act := { tmps := cargs ++ Array.replicate (fn.ntmps - cargs.size) undef, defers := [] }
 have hsr : SR g (start fn.ntmps vs hp) w act := by
  refine ⟨hhr, ⟨by simp [start, act, hlen], ?_, ?_⟩⟩
  ·intro n v cv hv hcv
   simp only [start, act] at hv hcv
   rcases Nat.lt_or_ge n vs.length with hn | hn
   ·rw [List.getElem?_append_left hn] at hv
    rw [Array.getElem?_append_left (by omega)] at hcv
    exact hrel n v cv hv hcv
   ·rw [List.getElem?_append_right hn, List.getElem?_replicate] at hv
    split at hv
    ·obtain rfl := Option.some.inj hv
     exact .undef _
    ·simp at hv
  ·intro n v cv hv hcv
   simp only [start] at hv
   rcases Nat.lt_or_ge n vs.length with hn | hn
   ·rw [List.getElem?_append_left hn] at hv
    exact lY (hbare v (List.mem_of_getElem? hv)) _ _ _ _
   ·rw [List.getElem?_append_right hn, List.getElem?_replicate] at hv
    split at hv
    ·obtain rfl := Option.some.inj hv
     simp [aP]
    ·simp at hv
 have hend := je (df := []) hΓ hβ hP n (Nat.le_refl _) ir code hc (fin rs) (start fn.ntmps vs hp) act w g hrun ⟨hsr, FR.refl _ _ _, rfl⟩
 refine wp_mono hend ?_
 rintro e a' w' ⟨ex, s', g', he, hk, hi⟩
 have main : ∀ v hp', (y8 s' rs).map (fun v => (v, s'.hp)) = some (v, hp') → a'.defers = [] ∧ ∃ cv, (results fn a'.tmps).run P w' = .ok cv w' ∧
   (∃ cv' g'', Ending.returned cv = .returned cv' ∧ HR g'' hp' w' ∧ FR g hp w g'' hp' w' ∧ VRel g''.I g''.ρ hp'.length w' v cv' ∧ aP g'' w' .res v cv') := by
  intro v hp' hres
  refine ⟨hi.df, ?_⟩
  obtain ⟨v', hv', hpe⟩ := Option.map_eq_some_iff.1 hres
  simp only [Prod.mk.injEq] at hpe
  obtain ⟨rfl, rfl⟩ := hpe
  have hex : ∃ vs', rvs s' rs = some vs' := by
   unfold y8 at hv'
   cases hh : rvs s' rs with
   | none => rw [hh] at hv'; simp at hv'
   | some vs' => exact ⟨vs', rfl⟩
  obtain ⟨vs', hvs⟩ := hex
  obtain ⟨cvs, l1, l2, l3, l4, l5, l6⟩ := ajF hi.sr hrs hvs
  have hr := ai4 (fn := fn) (a := a') (P := P) (w := w') rfl (by rw [l3, l1]) h5 l4
  unfold y8 at hv'
  rw [hvs] at hv'
  clear hvs l3 l4 hres
  match rs, vs', cvs, l1, l2, l5, l6, hr, hv' with
  | [x], [v0], [c0], _, _, l5, l6, hr, hv' =>
    simp only [Option.some.injEq] at hv'
    subst hv'
    have ho := l6 0 x v0 c0 rfl rfl rfl
    have hvr := l5 0 v0 c0 rfl rfl
    cases x with
    | t n =>
      simp only [aj7] at ho
      refine ⟨c0, hr, c0, g'.hand (some n), rfl, hi.sr.hr.hand _, hi.fr.hand _, hvr, ?_⟩
      unfold aP at ho ⊢
      split
      ·rename_i k xs ad len cap
       obtain ⟨o1, o2, o3⟩ := ho
       exact ⟨by simp [Gh.hand, o1], o2, o3⟩
      ·obtain ⟨o1, o2, o3⟩ := ho
       exact ⟨by simp [Gh.hand, o1], o2, o3⟩
      ·rcases ho with ho | ⟨b, cap, arr, e, fz, m0, m1, m2, m3, m4, m5⟩
       ·exact .inl ho
       ·exact .inr ⟨b, cap, arr, e, fz, m0, m1, m2, m3, by simp [Gh.hand, m4], m5⟩
      ·trivial
    | cell n size agg =>
      exact ⟨c0, hr, c0, g'.hand none, rfl, hi.sr.hr.hand _, hi.fr.hand _, hvr, lY ho _ _ _ _⟩
  | [], [], [], _, _, l5, l6, hr, hv' =>
    simp only [Option.some.injEq] at hv'
    subst hv'
    exact ⟨_, hr, _, g'.hand none, rfl, hi.sr.hr.hand _, hi.fr.hand _, .tup [] #[] rfl (by simp), by simp [aP]⟩
  | x :: y :: rs, v0 :: v1 :: vs', c0 :: c1 :: cvs, l1, _, l5, l6, hr, hv' =>
    simp only [Option.some.injEq] at hv'
    subst hv'
    refine ⟨_, hr, _, g'.hand none, rfl, hi.sr.hr.hand _, hi.fr.hand _, .tup _ _ (by simpa using l1.symm) ?_, by simp [aP]⟩
    intro i c cv hc hcv
    rw [List.getElem?_map, Option.map_eq_some_iff] at hc
    obtain ⟨c', hc', rfl⟩ := hc
    exact (l5 i c' cv hc' (by simpa using hcv)).disown
 cases ex with
 | normal =>
   cases e <;> simp only [tX] at he
   exact main _ _ hk
 | exit i => simp [fin] at hk
 | ret =>
   cases e <;> simp only [tX] at he
   exact main _ _ hk
end
end Go.AM
end
noncomputable section
namespace Go.AM
set_option autoImplicit false
set_option linter.unusedSimpArgs false
set_option linter.unusedVariables false
def V.flatE : V → Bool
 | .ea cs => cs.all V.flat1
 | v => v.flat1
def V.flat2 : V → Bool
 | .agg cs => cs.all V.flat1
 | .ea cs => cs.all V.flat1
 | .fn _ cs => cs.all V.flatE
 | v => v.flat1
def V.flat : V → Bool
 | .tup cs => cs.all V.flat2
 | v => v.flat2
section
variable {I : Nat → Nat → Prop} {ρ ρ' : Nat → Nat} {N N' : Nat} {w : World} {P : Program}
theorem VRel.flatE {v : V} {cv : Value} (h : VRel I ρ N w v cv) (hf : v.flatE = true) : VRel I ρ' N' w v cv := by
 cases h with
 | ea cs b off f h1 hI hw hv =>
   simp only [V.flatE, List.all_eq_true] at hf
   exact .ea cs b off f h1 hI hw (fun j c hc => (hv j c hc).flat1 (hf c (List.mem_of_getElem? hc)))
 | bool b => exact .bool b
 | int k n h => exact .int k n h
 | str l s hl h => exact .str l s hl h
 | sln k o => exact .sln k o
 | sle k o ad ho => exact .sle k o ad ho
 | sl k o xs b off len cap hl hc hm hfl f hI hw hv => exact (VRel.sl k o xs b off len cap hl hc hm hfl f hI hw hv).flat1 rfl
 | nilp => exact .nilp
 | nilif => exact .nilif
 | fn f cs vs hl hv =>
   cases cs with
   | nil => exact .fn f [] vs hl (by simp)
   | cons c cs => simp [V.flatE, V.flat1] at hf
 | _ => simp [V.flatE, V.flat1] at hf
theorem VRel.flat2 {v : V} {cv : Value} (h : VRel I ρ N w v cv) (hf : v.flat2 = true) : VRel I ρ' N' w v cv := by
 cases h with
 | ea cs b off f h1 hI hw hv => exact (VRel.ea cs b off f h1 hI hw hv).flatE hf
 | agg cs vs hl h1 hb hv =>
   simp only [V.flat2, List.all_eq_true] at hf
   exact .agg cs vs hl h1 hb (fun i c cv hc hcv => (hv i c cv hc hcv).flat1 (hf c (List.mem_of_getElem? hc)))
 | bool b => exact .bool b
 | int k n h => exact .int k n h
 | str l s hl h => exact .str l s hl h
 | sln k o => exact .sln k o
 | sle k o ad ho => exact .sle k o ad ho
 | sl k o xs b off len cap hl hc hm hfl f hI hw hv => exact (VRel.sl k o xs b off len cap hl hc hm hfl f hI hw hv).flat1 rfl
 | nilp => exact .nilp
 | nilif => exact .nilif
 | fn f cs vs hl hv =>
   simp only [V.flat2, List.all_eq_true] at hf
   exact .fn f cs vs hl (fun i c cv hc hcv => (hv i c cv hc hcv).flatE (hf c (List.mem_of_getElem? hc)))
 | _ => simp [V.flat2, V.flat1] at hf
theorem VRel.flat {v : V} {cv : Value} (h : VRel I ρ N w v cv) (hf : v.flat = true) : VRel I ρ' N' w v cv := by
 cases h with
 | tup cs vs hl hv =>
   simp only [V.flat, List.all_eq_true] at hf
   exact .tup cs vs hl (fun i c cv hc hcv => (hv i c cv hc hcv).flat2 (hf c (List.mem_of_getElem? hc)))
 | agg cs vs hl h1 hb hv => exact (VRel.agg cs vs hl h1 hb hv).flat2 hf
 | bool b => exact .bool b
 | int k n h => exact .int k n h
 | str l s hl h => exact .str l s hl h
 | sln k o => exact .sln k o
 | sle k o ad ho => exact .sle k o ad ho
 | sl k o xs b off len cap hl hc hm hfl f hI hw hv => exact (VRel.sl k o xs b off len cap hl hc hm hfl f hI hw hv).flat1 rfl
 | nilp => exact .nilp
 | nilif => exact .nilif
 | fn f cs vs hl hv => exact (VRel.fn f cs vs hl hv).flat2 hf
 | ea cs b off f h1 hI hw hv => exact (VRel.ea cs b off f h1 hI hw hv).flat2 hf
 | _ => simp [V.flat, V.flat2, V.flat1] at hf
def aO (P : Program) (f : FuncId) (vs : List V) (v : V) : Prop := ∃ hp', iJ P f vs [] v hp'
theorem aO.frame {f : FuncId} {vs : List V} {v : V} (h : aO P f vs v) (hf : vs.all V.flat = true) (hv : v.flat = true) (hp : List aI) : iJ P f vs hp v hp := by
 obtain ⟨hp', h⟩ := h
 intro w g cargs hβ hhr hlen hbare hrel
 let g₀ : Gh := { I := g.I, ρ := g.ρ, O := fun _ => none, β := g.β }
 have h0 : HR g₀ [] w := ⟨by simp, by simp, by simp, by simp, hhr.exI, by simp [g₀]⟩
 refine (h w g₀ cargs hβ h0 hlen hbare (fun i x cv hx hcv => (hrel i x cv hx hcv).flat (List.all_eq_true.1 hf x (List.mem_of_getElem? hx)))).mono ?_
 rintro e w' ⟨cv, g₁, rfl, q1, q2, q3, q4⟩
 have blk : ∀ b, b < w.heap.size → w'.heap[b]? = w.heap[b]? := fun b hb => q2.block b hb (by simp) rfl
 have isame : ∀ b j, b < w.heap.size → g₁.I b j → g.I b j := fun b j hb hi => q2.iSame b j hb (by simp) rfl hi
 have osame : ∀ b, b < w.heap.size → g₁.O b = none := fun b hb => q2.oSame b hb (by simp) rfl
 let g₂ : Gh := { I := g₁.I, ρ := g.ρ, O := fun b => if b < w.heap.size then g.O b else (if g₁.O b = some .res then some .res else none), β := g.β }
 have up : Up g.I g.ρ hp.length w g₂.I g₂.ρ hp.length w' := ⟨q2.up.mono, q2.up.cell, fun _ _ => rfl, Nat.le_refl _⟩
 have olt : ∀ (id : Nat) cs, hp[id]? = some (some cs) → g.ρ id < w.heap.size := by
  intro id cs hid
  obtain ⟨arr, e, fz, h1, _⟩ := hhr.obj id cs hid
  rcases Nat.lt_or_ge (g.ρ id) w.heap.size with hl | hl
  ·exact hl
  ·simp [Array.getElem?_eq_none hl] at h1
 have okeep : ∀ occ v cv, aP g w occ v cv → aP g₂ w' occ v cv := by
  intro occ v cv ho
  refine da ho rfl (fun b j hi => ⟨up.mono b j hi, up.cell b j hi⟩) ?_
  intro b hb
  have hlt := hhr.oLt b occ hb
  exact ⟨by simp [g₂, hlt, hb], blk b hlt, fun j hj => isame b j hlt hj⟩
 refine ⟨cv, g₂, rfl, ⟨?_, hhr.apart, ?_, ?_, q1.exI, ?_⟩, ⟨rfl, q2.os, q2.tape, q2.output, q2.size, fun b hb _ _ => blk b hb, up, fun b j hb _ _ hi => isame b j hb hi, ?_, fun _ cs h => .inl ⟨cs, h⟩⟩, ?_, ?_⟩
 ·intro id cs hid
  obtain ⟨arr, e, fz, h1, h2⟩ := hhr.obj id cs hid
  exact ⟨arr, e, fz, (blk _ (olt id cs hid)).trans h1, h2.len, h2.plain, h2.typedUp rfl up.rho up.num rfl, h2.cold, h2.one, fun j c cv hc hcv => (h2.rel j c cv hc hcv).up up, fun j c cv hc hcv => okeep _ _ _ (h2.own j c cv hc hcv), h2.bn⟩
 ·intro id cs hid j hi
  exact hhr.notI id cs hid j (isame _ j (olt id cs hid) hi)
 ·intro id cs hid
  have := olt id cs hid
  simp [g₂, this, hhr.notO id cs hid]
 ·intro b o hb
  simp only [g₂] at hb
  split at hb
  ·rename_i hlt
   exact Nat.lt_of_lt_of_le hlt q2.size
  ·split at hb
   ·rename_i hres
    exact q1.oLt b _ hres
   ·simp at hb
 ·intro b hb _ hO
  simp [g₂, hb, hO]
 ·exact q3.flat hv
 ·unfold aP at q4 ⊢
  split
  ·rename_i k xs ad len cap
   obtain ⟨o1, o2, o3⟩ := q4
   refine ⟨?_, (by obtain ⟨arr, e, fz, a1, a2, a3⟩ := o2; exact ⟨arr, e, fz, a1, a2, fun hk => (a3 hk).trans q2.beta⟩), o3⟩
   have : ¬ ad.block < w.heap.size := by
    intro hlt
    rw [osame _ hlt] at o1
    simp at o1
   simp [g₂, this, o1]
  ·simp [V.flat, V.flat2, V.flat1] at hv
  ·simp [V.flat, V.flat2, V.flat1] at hv
  ·trivial
def V.fits : V → Prop
 | .int k n => k.min ≤ n ∧ n ≤ k.max
 | .str l => l.length ≤ cL
 | .sl _ _ xs => xs.length ≤ cL
 | .agg cs => ∀ c ∈ cs, match c with
   | .int k n => k.min ≤ n ∧ n ≤ k.max
   | .str l => l.length ≤ cL
   | .sl _ _ xs => xs.length ≤ cL
   | _ => True
 | _ => True
theorem VRel.fits {v : V} {cv : Value} (h : VRel I ρ N w v cv) : v.fits := by
 cases h with
 | int k n h => exact h
 | str l s hl h => subst hl; simpa [V.fits, lT] using h
 | sln => simp [V.fits]
 | sle => simp [V.fits]
 | sl k o xs b off len cap hl hc hm hf f hI hw hv => simp only [V.fits]; omega
 | agg cs vs hl h1 hb hv =>
   intro c hc
   obtain ⟨i, hi, rfl⟩ := List.mem_iff_getElem.1 hc
   have hr := hv i _ _ (List.getElem?_eq_getElem hi) (Array.getElem?_eq_getElem (by omega))
   generalize cs[i] = c at hr
   generalize vs[i]'(by omega) = cv at hr
   cases hr with
   | int k n h => exact h
   | str l s hl h => subst hl; simpa [lT] using h
   | sln => simp
   | sle => simp
   | sl k o xs b off len cap hl hc hm hf f hI hw hv => simp only; omega
   | _ => trivial
 | _ => trivial
theorem aO.fits {f : FuncId} {vs : List V} {v : V} (h : (∀ x ∈ vs, x.fits) → aO P f vs v) : aO P f vs v := by
 by_cases hf : ∀ x ∈ vs, x.fits
 ·exact h hf
 ·refine ⟨[], ?_⟩
  intro w g cargs hβ hhr hlen hbare hrel
  refine absurd ?_ hf
  intro x hx
  obtain ⟨i, hi, rfl⟩ := List.mem_iff_getElem.1 hx
  exact (hrel i _ _ (List.getElem?_eq_getElem hi) (Array.getElem?_eq_getElem (by omega))).fits
end
end Go.AM
end
noncomputable section
namespace Go.AM
set_option autoImplicit false
set_option linter.unusedSimpArgs false
set_option linter.unusedVariables false
def V.flatO : V → Bool
 | .bn _ _ => true
 | .ul _ _ => true
 | v => v.flat1
section
variable {I : Nat → Nat → Prop} {ρ ρ' : Nat → Nat} {N N' : Nat} {w : World} {P : Program}
theorem VRel.flatO {v : V} {cv : Value} (h : VRel I ρ N w v cv) (hf : v.flatO = true) : VRel I ρ' N' w v cv := by
 cases h with
 | bn E n p => exact .bn E n p
 | ul k xs ad cap hm => exact .ul k xs ad cap hm
 | bool b => exact .bool b
 | int k n h => exact .int k n h
 | str l s hl h => exact .str l s hl h
 | sln k o => exact .sln k o
 | sle k o ad ho => exact .sle k o ad ho
 | sl k o xs b off len cap hl hc hm hfl f hI hw hv => exact (VRel.sl k o xs b off len cap hl hc hm hfl f hI hw hv).flat1 rfl
 | nilp => exact .nilp
 | nilif => exact .nilif
 | fn f cs vs hl hv =>
   cases cs with
   | nil => exact .fn f [] vs hl (by simp)
   | cons c cs => simp [V.flatO, V.flat1] at hf
 | _ => simp [V.flatO, V.flat1] at hf
theorem abp {cs : List V} (h : cs.all V.flatO = true) : dF cs = false := by
 unfold dF
 split
 ·simp [V.flatO, V.flat1] at h
 ·simp [V.flatO, V.flat1] at h
 ·rfl
theorem aP.reloc {g g' : Gh} {w : World} {occ occ' : Occ} {v : V} {cv : Value} (h : aP g w occ v cv) (hβ : g'.β = g.β) (hI : g'.I = g.I)
  (hO : ∀ b, g.O b = some occ → g'.O b = some occ') : aP g' w occ' v cv := by
 unfold aP at h ⊢
 split
 ·rename_i k xs a len cap
  obtain ⟨o1, ⟨arr2, e2, fz, b1, b2, b3⟩, o3⟩ := h
  exact ⟨hO _ o1, ⟨arr2, e2, fz, b1, b2, fun hk => (b3 hk).trans hβ.symm⟩, by rw [hI]; exact o3⟩
 ·obtain ⟨o1, o2, o3⟩ := h
  exact ⟨hO _ o1, o2, by rw [hI]; exact o3⟩
 ·rcases h with h | ⟨b, cap, arr, e, fz, h0, h1, h2, h3, h4, h5, h6, h7, h8, h9⟩
  ·exact .inl h
  ·exact .inr ⟨b, cap, arr, e, fz, h0, h1, h2, h3, hO _ h4, h5, h6, fun hk => (h7 hk).trans hβ.symm, by rw [hI]; exact h8, by rw [hI]; exact h9⟩
 ·trivial
def V.ren (σ : Nat → Nat) : V → V
 | .ptr i o => .ptr (σ i) o
 | v => v
def V.flatP (n : Nat) : V → Bool
 | .ptr i 0 => decide (i < n)
 | v => v.flat
theorem V.ren_flat {σ : Nat → Nat} {v : V} (h : v.flat = true) : v.ren σ = v := by
 cases v <;> simp [V.flat, V.flat2, V.flat1] at h <;> rfl
theorem V.ren_bare {σ : Nat → Nat} {v : V} : (v.ren σ).bare = v.bare := by
 cases v <;> rfl
def aY (P : Program) (f : FuncId) (avs : List V) (css : List (List V)) (v : V) (css' : List (List V)) : Prop :=
 css'.length = css.length ∧ ∃ rest, iJ P f avs (css.map some) v (css'.map some ++ rest)
theorem aY.frame {f : FuncId} {avs : List V} {css css' : List (List V)} {v : V} (h : aY P f avs css v css') (ha : avs.all (V.flatP css.length) = true) (hv : v.flat = true)
  (hc : css.all (fun cs => cs.all V.flatO) = true) (hc' : css'.all (fun cs => cs.all V.flatO) = true) {hp hp' : List aI} {σ : Nat → Nat}
  (hσ : ∀ k k', k < css.length → k' < css.length → σ k = σ k' → k = k')
  (h1 : ∀ (k : Nat) cs, css[k]? = some cs → hp[σ k]? = some (some cs)) (h2 : hp'.length = hp.length)
  (h3 : ∀ (k : Nat) cs, css'[k]? = some cs → hp'[σ k]? = some (some cs))
  (h4 : ∀ id, (∀ k, k < css.length → σ k ≠ id) → hp'[id]? = hp[id]?) : iJ P f (avs.map (V.ren σ)) hp v hp' := by
 obtain ⟨hlen', rest, h⟩ := h
 intro w g cargs hβ hhr hlen hbare hrel
 have hcs : ∀ (k : Nat) cs, css[k]? = some cs → cs.all V.flatO = true := fun k cs hk => List.all_eq_true.1 hc cs (List.mem_of_getElem? hk)
 have hcs' : ∀ (k : Nat) cs, css'[k]? = some cs → cs.all V.flatO = true := fun k cs hk => List.all_eq_true.1 hc' cs (List.mem_of_getElem? hk)
 have lt_of : ∀ (k : Nat) cs, css[k]? = some cs → k < css.length := fun k cs hk => (List.getElem?_eq_some_iff.1 hk).1
 have map_of : ∀ (k : Nat) cs, (css.map some)[k]? = some (some cs) → css[k]? = some cs := by
  intro k cs hk
  rw [List.getElem?_map] at hk
  cases hq : css[k]? with
  | none => rw [hq] at hk; simp at hk
  | some x => rw [hq] at hk; simpa using hk
 have sub : ∀ k, k < css.length → ∃ cs, css[k]? = some cs ∧ hp[σ k]? = some (some cs) := fun k hk => ⟨css[k], List.getElem?_eq_getElem hk, h1 k _ (List.getElem?_eq_getElem hk)⟩
 let inv : Nat → Option Nat := fun i => (List.range css.length).find? fun k => σ k == i
 have inv_some : ∀ i k, inv i = some k → k < css.length ∧ σ k = i := by
  intro i k hk
  have m1 := List.mem_of_find?_eq_some hk
  have m2 := List.find?_some hk
  exact ⟨List.mem_range.1 m1, by simpa using m2⟩
 have inv_of : ∀ k, k < css.length → inv (σ k) = some k := by
  intro k hk
  cases hq : inv (σ k) with
  | none =>
    have := List.find?_eq_none.1 hq k (List.mem_range.2 hk)
    simp at this
  | some k' =>
    obtain ⟨m1, m2⟩ := inv_some _ _ hq
    rw [hσ k' k m1 hk m2]
 let g₀ : Gh := { I := g.I, ρ := fun k => g.ρ (σ k), O := fun b => match g.O b with | some (.cell i j) => (inv i).map fun k => .cell k j | _ => none, β := g.β }
 have gO : ∀ b o, g₀.O b = some o → ∃ k j, k < css.length ∧ o = .cell k j ∧ g.O b = some (.cell (σ k) j) := by
  intro b o hb
  simp only [g₀] at hb
  split at hb
  ·rename_i i j hg
   cases hq : inv i with
   | none => rw [hq] at hb; simp at hb
   | some k =>
     rw [hq] at hb
     obtain ⟨m1, m2⟩ := inv_some _ _ hq
     exact ⟨k, j, m1, by simpa using hb.symm, by rw [m2]; exact hg⟩
  ·simp at hb
 have gN : ∀ b, (∀ k j, k < css.length → g.O b ≠ some (.cell (σ k) j)) → g₀.O b = none := by
  intro b hb
  cases hq : g₀.O b with
  | none => rfl
  | some o =>
    obtain ⟨k, j, hk, _, hj⟩ := gO b o hq
    exact absurd hj (hb k j hk)
 have gC : ∀ b k j, k < css.length → g.O b = some (.cell (σ k) j) → g₀.O b = some (.cell k j) := by
  intro b k j hk hb
  simp [g₀, hb, inv_of k hk]
 have hO0 : ∀ k, k < css.length → g₀.O (g.ρ (σ k)) = none := by
  intro k hk
  obtain ⟨cs, _, hid⟩ := sub k hk
  exact gN _ (by intro k' j _ hj; rw [hhr.notO _ cs hid] at hj; cases hj)
 have h0 : HR g₀ (css.map some) w := by
  refine ⟨?_, ?_, ?_, ?_, hhr.exI, ?_⟩
  ·intro k c hk
   have hk := map_of k c hk
   obtain ⟨arr, e, fz, a1, a2⟩ := hhr.obj _ c (h1 k c hk)
   have hr := abp (hcs k c hk)
   refine ⟨arr, e, fz, a1, a2.len, a2.plain, by rintro k xs rfl; simp [dF] at hr, a2.cold, a2.one, ?_, ?_, a2.bn⟩
   ·intro j c' cv hj hcv
    exact (a2.rel j c' cv hj hcv).flatO (List.all_eq_true.1 (hcs k c hk) c' (List.mem_of_getElem? (by rw [lX hr] at hj; exact hj)))
   ·intro j c' cv hj hcv
    exact (a2.own j c' cv hj hcv).reloc rfl rfl fun b hb => gC b k j (lt_of k c hk) hb
  ·intro k k' c c' hk hk' hne
   have hk := map_of k c hk
   have hk' := map_of k' c' hk'
   exact hhr.apart _ _ _ _ (h1 k c hk) (h1 k' c' hk') fun e => hne (hσ k k' (lt_of k c hk) (lt_of k' c' hk') e)
  ·intro k c hk
   exact hhr.notI _ c (h1 k c (map_of k c hk))
  ·intro k c hk
   exact hO0 k (lt_of k c (map_of k c hk))
  ·intro b o hb
   obtain ⟨k, j, _, _, hj⟩ := gO b o hb
   exact hhr.oLt b _ hj
 have hargs : ∀ (i : Nat) x cv, avs[i]? = some x → cargs[i]? = some cv → VRel g₀.I g₀.ρ (css.map some).length w x cv := by
  intro i x cv hx hcv
  have hr := hrel i (x.ren σ) cv (by rw [List.getElem?_map, hx]; rfl) hcv
  have hx' := List.all_eq_true.1 ha x (List.mem_of_getElem? hx)
  unfold V.flatP at hx'
  split at hx'
  ·rename_i k
   have hk : k < css.length := by simpa using hx'
   simp only [V.ren] at hr
   cases hr with
   | ptr _ _ _ => exact .ptr k 0 (by simpa using hk)
  ·rw [V.ren_flat hx'] at hr
   exact hr.flat hx'
 refine (h w g₀ cargs hβ h0 (by rw [← hlen, List.length_map]) (by
  intro x hx
  have := hbare (x.ren σ) (List.mem_map_of_mem hx)
  rw [V.ren_bare] at this
  exact this) hargs).mono ?_
 rintro ex w' ⟨cv, g₁, rfl, q1, q2, q3, q4⟩
 have r0 : ∀ k, k < css.length → g₁.ρ k = g.ρ (σ k) := fun k hk => q2.up.rho k (by simpa using hk)
 have noO : ∀ b, (∀ k, k < css.length → g.ρ (σ k) ≠ b) → ∀ (k : Nat) cs, (css.map some)[k]? = some (some cs) → g₀.ρ k ≠ b := fun b hb k cs hk => hb k (lt_of k cs (map_of k cs hk))
 have blk : ∀ b, b < w.heap.size → (∀ k, k < css.length → g.ρ (σ k) ≠ b) → g₀.O b = none → w'.heap[b]? = w.heap[b]? := fun b hb hne hO => q2.block b hb (noO b hne) hO
 let g₂ : Gh := { I := g₁.I, ρ := g.ρ, O := fun b => match g₁.O b with
  | some .res => some .res
  | some (.cell k j) => cond (Nat.blt k css.length) (some (.cell (σ k) j)) none
  | some (.slot _) => none
  | none => if b < w.heap.size ∧ g₀.O b = none then g.O b else none, β := g.β }
 have up : Up g.I g.ρ hp.length w g₂.I g₂.ρ hp'.length w' := ⟨q2.up.mono, q2.up.cell, fun _ _ => rfl, by rw [h2]; exact Nat.le_refl _⟩
 have olt : ∀ (i : Nat) c, hp[i]? = some (some c) → g.ρ i < w.heap.size := by
  intro i c hi
  obtain ⟨arr, e, fz, h1, _⟩ := hhr.obj i c hi
  exact (Array.getElem?_eq_some_iff.1 h1).1
 have fst : ∀ (k : Nat) cs, css'[k]? = some cs → (css'.map some ++ rest)[k]? = some (some cs) := by
  intro k cs hk
  rw [List.getElem?_append_left (by simpa using (List.getElem?_eq_some_iff.1 hk).1), List.getElem?_map, hk]; rfl
 have key : ∀ (i : Nat) c, hp'[i]? = some (some c) → (∃ k c₀, k < css.length ∧ i = σ k ∧ css'[k]? = some c ∧ hp[i]? = some (some c₀)) ∨ ((∀ k, k < css.length → σ k ≠ i) ∧ hp[i]? = some (some c)) := by
  intro i c hi
  by_cases hk : ∃ k, k < css.length ∧ σ k = i
  ·obtain ⟨k, hk, rfl⟩ := hk
   obtain ⟨c₀, _, hc₀⟩ := sub k hk
   have hk' : k < css'.length := by omega
   have := h3 k _ (List.getElem?_eq_getElem hk')
   rw [this] at hi
   exact .inl ⟨k, c₀, hk, rfl, by rw [List.getElem?_eq_getElem hk']; simpa using hi, hc₀⟩
  ·have hn : ∀ k, k < css.length → σ k ≠ i := fun k hk' e => hk ⟨k, hk', e⟩
   exact .inr ⟨hn, (h4 i hn).symm.trans hi⟩
 have live₀ : ∀ (i : Nat) c, hp'[i]? = some (some c) → ∃ c₀, hp[i]? = some (some c₀) := by
  intro i c hi
  rcases key i c hi with ⟨_, c₀, _, _, _, h⟩ | ⟨_, h⟩
  ·exact ⟨c₀, h⟩
  ·exact ⟨c, h⟩
 have apartσ : ∀ (i : Nat) c, (∀ k, k < css.length → σ k ≠ i) → hp[i]? = some (some c) → ∀ k, k < css.length → g.ρ (σ k) ≠ g.ρ i := by
  intro i c hn hi k hk
  obtain ⟨c₀, _, hc₀⟩ := sub k hk
  exact hhr.apart _ _ _ _ hc₀ hi (hn k hk)
 have g2same : ∀ b, b < w.heap.size → (∀ k, k < css.length → g.ρ (σ k) ≠ b) → g₀.O b = none → g₂.O b = g.O b := by
  intro b hb hne hO
  have := q2.oSame b hb (noO b hne) hO
  simp only [g₂, this]
  rw [if_pos ⟨hb, hO⟩]
 have ownBlk : ∀ b o, g.O b = some o → ∀ k, k < css.length → g.ρ (σ k) ≠ b := by
  intro b o hb k hk e
  obtain ⟨c₀, _, hc₀⟩ := sub k hk
  rw [← e, hhr.notO _ c₀ hc₀] at hb
  cases hb
 refine ⟨cv, g₂, rfl, ⟨?_, ?_, ?_, ?_, q1.exI, ?_⟩, ⟨rfl, q2.os, q2.tape, q2.output, q2.size, ?_, up, ?_, ?_, ?_⟩, ?_, ?_⟩
 ·intro i c hi
  rcases key i c hi with ⟨k, c₀, hk, rfl, hk', hid⟩ | ⟨hne, hi⟩
  ·obtain ⟨arr', e', fz, a1, a2⟩ := q1.obj k c (fst k c hk')
   rw [r0 k hk] at a1
   have hr := abp (hcs' k c hk')
   refine ⟨arr', e', fz, a1, a2.len, a2.plain, by rintro k xs rfl; simp [dF] at hr, a2.cold, a2.one, ?_, ?_, ?_⟩
   ·intro j c' cv hj hcv
    exact (a2.rel j c' cv hj hcv).flatO (List.all_eq_true.1 (hcs' k c hk') c' (List.mem_of_getElem? (by rw [lX hr] at hj; exact hj)))
   ·intro j c' cv hj hcv
    refine (a2.own j c' cv hj hcv).reloc q2.beta.symm rfl fun b hb => ?_
    have hb' : Nat.blt k css.length = true := by rw [Nat.blt_eq]; exact hk
    simp [g₂, hb, hb']
   ·intro j E n hj
    have := a2.bn j E n hj
    rw [r0 k hk] at this
    exact this
  ·obtain ⟨arr', e', fz, a1, a2⟩ := hhr.obj i c hi
   have hnO : g₀.O (g.ρ i) = none := gN _ (by intro k j _ hj; rw [hhr.notO i c hi] at hj; cases hj)
   refine ⟨arr', e', fz, (blk _ (olt i c hi) (apartσ i c hne hi) hnO).trans a1, a2.len, a2.plain, a2.typedUp rfl (fun _ _ => rfl) up.num rfl, a2.cold, a2.one, fun j c cv hj hcv => (a2.rel j c cv hj hcv).up up, ?_, a2.bn⟩
   intro j c' cv hj hcv
   refine da (a2.own j c' cv hj hcv) rfl (fun b j hi => ⟨up.mono b j hi, up.cell b j hi⟩) ?_
   intro b hb
   have hlt := hhr.oLt b _ hb
   have hO : g₀.O b = none := gN _ (by intro k j' hk hj'; rw [hb] at hj'; cases hj'; exact hne k hk rfl)
   have hbne := ownBlk b _ hb
   exact ⟨(g2same b hlt hbne hO).trans hb, blk b hlt hbne hO, fun j hj => q2.iSame b j hlt (noO b hbne) hO hj⟩
 ·intro i i' c c' hi hi' hne
  obtain ⟨c₀, m1⟩ := live₀ i c hi
  obtain ⟨c₁, m2⟩ := live₀ i' c' hi'
  exact hhr.apart _ _ _ _ m1 m2 hne
 ·intro i c hi j hj
  rcases key i c hi with ⟨k, c₀, hk, rfl, hk', hid⟩ | ⟨hne, hi⟩
  ·have := q1.notI k c (fst k c hk') j
   rw [r0 k hk] at this
   exact this hj
  ·have hnO : g₀.O (g.ρ i) = none := gN _ (by intro k j _ hj; rw [hhr.notO i c hi] at hj; cases hj)
   exact hhr.notI i c hi j (q2.iSame _ j (olt i c hi) (noO _ (apartσ i c hne hi)) hnO hj)
 ·intro i c hi
  rcases key i c hi with ⟨k, c₀, hk, rfl, hk', hid⟩ | ⟨hne, hi⟩
  ·have := q1.notO k c (fst k c hk')
   rw [r0 k hk] at this
   simp only [g₂, this]
   split
   ·exact hhr.notO _ c₀ hid
   ·rfl
  ·have hnO : g₀.O (g.ρ i) = none := gN _ (by intro k j _ hj; rw [hhr.notO i c hi] at hj; cases hj)
   exact (g2same _ (olt i c hi) (apartσ i c hne hi) hnO).trans (hhr.notO i c hi)
 ·intro b o hb
  simp only [g₂] at hb
  split at hb
  ·rename_i hq; exact q1.oLt b _ hq
  ·rename_i hq; exact q1.oLt b _ hq
  ·simp at hb
  ·split at hb
   ·rename_i hq; exact Nat.lt_of_lt_of_le hq.1 q2.size
   ·simp at hb
 ·intro b hb ho hO
  exact blk b hb (fun k hk e => by obtain ⟨c₀, _, hc₀⟩ := sub k hk; exact ho _ c₀ hc₀ e) (gN _ (by intro k j _ hj; rw [hO] at hj; cases hj))
 ·intro b j hb ho hO hi
  exact q2.iSame b j hb (noO b fun k hk e => by obtain ⟨c₀, _, hc₀⟩ := sub k hk; exact ho _ c₀ hc₀ e) (gN _ (by intro k j _ hj; rw [hO] at hj; cases hj)) hi
 ·intro b hb ho hO
  exact (g2same b hb (fun k hk e => by obtain ⟨c₀, _, hc₀⟩ := sub k hk; exact ho _ c₀ hc₀ e) (gN _ (by intro k j _ hj; rw [hO] at hj; cases hj))).trans hO
 ·intro i c hi
  exact .inl (live₀ i c hi)
 ·exact q3.flat hv
 ·exact q4.reloc q2.beta.symm rfl fun b hb => by simp [g₂, hb]
def alY (P : Program) (f : FuncId) (vs cs : List V) (v : V) (cs' : List V) : Prop := ∃ rest, iJ P f (.ptr 0 0 :: vs) [some cs] v (some cs' :: rest)
theorem V.flatP_flat {n : Nat} {v : V} (h : v.flat = true) : v.flatP n = true := by
 unfold V.flatP
 split
 ·simp [V.flat, V.flat2, V.flat1] at h
 ·exact h
theorem agf {σ : Nat → Nat} : ∀ {vs : List V}, vs.all V.flat = true → vs.map (V.ren σ) = vs
 | [], _ => rfl
 | v :: vs, h => by
   simp only [List.all_cons, Bool.and_eq_true] at h
   rw [List.map_cons, V.ren_flat h.1, agf h.2]
theorem alY.frame {f : FuncId} {vs cs cs' : List V} {v : V} (h : alY P f vs cs v cs') (hf : vs.all V.flat = true) (hv : v.flat = true) (hc : cs.all V.flatO = true) (hc' : cs'.all V.flatO = true)
  {hp : List aI} {id : Nat} (hid : hp[id]? = some (some cs)) : iJ P f (.ptr id 0 :: vs) hp v (hp.set id (some cs')) := by
 obtain ⟨rest, h⟩ := h
 have hidl : id < hp.length := (List.getElem?_eq_some_iff.1 hid).1
 have := aY.frame (P := P) (f := f) (avs := .ptr 0 0 :: vs) (css := [cs]) (css' := [cs']) (v := v) ⟨rfl, rest, h⟩ (hp := hp) (hp' := hp.set id (some cs')) (σ := fun _ => id)
  (by simp only [List.all_cons, Bool.and_eq_true]; exact ⟨rfl, List.all_eq_true.2 fun x hx => V.flatP_flat (List.all_eq_true.1 hf x hx)⟩) hv (by simpa using hc) (by simpa using hc')
  (by intro k k' hk hk' _; simp at hk hk'; omega) (by intro k cs₁ hk; cases k <;> simp at hk; rw [← hk]; exact hid) (by simp)
  (by intro k cs₁ hk; cases k <;> simp at hk; rw [← hk]; simp [hidl])
  (by intro i hi; rw [List.getElem?_set_ne (hi 0 (by simp))])
 rw [List.map_cons, agf hf] at this
 exact this
theorem cM.mono {Γ : aM} {imp imp' : List Nat} (h : cM Γ imp) (hs : imp.all (fun x => imp'.contains x) = true) (hm : imp'.all (fun x => Nat.blt x 2000000 || imp.contains x) = true) : cM Γ imp' := by
 refine ⟨?_, fun f vs hp c v hp' hf => h.loc f vs hp c v hp' ?_⟩
 rotate_left
 ·have := List.all_eq_true.1 hm (f + 2000000) (by simpa using hf)
  simp only [Bool.or_eq_true, Nat.blt_eq] at this
  rcases this with h1 | h1
  ·omega
  ·exact h1
 intro f vs hp hf
 refine h.pure f vs hp ?_
 cases hc : imp.contains f with
 | false => rfl
 | true =>
   have := List.all_eq_true.1 hs f (by simpa using hc)
   rw [this] at hf
   simp at hf
def pj : Nat → List V → List V
 | _, [] => []
 | k, .ptr _ 0 :: vs => .ptr k 0 :: pj (k + 1) vs
 | k, v :: vs => v :: pj k vs
def kO (hp : List aI) : List Nat → Option (List (List V))
 | [] => some []
 | i :: is => match hp.getD i none with
   | some cs => match kO hp is with
     | some css => some (cs :: css)
     | none => none
   | none => none
def mF : List aI → List Nat → List (List V) → List aI
 | hp, i :: is, c :: cs => mF (hp.set i (some c)) is cs
 | hp, _, _ => hp
def xN : List Nat → Bool
 | [] => true
 | i :: is => !(is.any (Nat.beq i)) && xN is
abbrev ad8 := Nat → List V → List (List V) → Option (Bool × V × List (List V))
def pV (G : ad8) (Γ : aM) : aM := fun f vs hp =>
 match kO hp (dj vs) with
 | some css => match G f (pj 0 vs) css with
   | some (c, v, css') => cond (xN (dj vs) && Nat.beq css'.length css.length && (pj 0 vs).all (V.flatP css.length) && v.flat && css.all (fun cs => cs.all V.flatO) && css'.all (fun cs => cs.all V.flatO))
     (some (c, v, mF hp (dj vs) css')) none
   | none => Γ f vs hp
 | none => Γ f vs hp
theorem abq : ∀ {l : List Nat}, xN l = true → l.Nodup
 | [], _ => List.nodup_nil
 | i :: is, h => by
   simp only [xN, Bool.and_eq_true, Bool.not_eq_true', List.any_eq_false] at h
   refine List.nodup_cons.2 ⟨fun hm => ?_, abq h.2⟩
   exact h.1 i hm (by simp)
theorem acW {hp : List aI} : ∀ {is : List Nat} {css : List (List V)}, kO hp is = some css → css.length = is.length ∧ ∀ (k : Nat) cs, css[k]? = some cs → hp[is.getD k 0]? = some (some cs)
 | [], css, h => by
   simp only [kO, Option.some.injEq] at h
   subst h
   simp
 | i :: is, css, h => by
   simp only [kO] at h
   split at h
   ·rename_i cs hcs
    split at h
    ·rename_i css₁ hs
     simp only [Option.some.injEq] at h
     subst h
     obtain ⟨h1, h2⟩ := acW hs
     refine ⟨by simp [h1], fun k c hk => ?_⟩
     cases k with
     | zero =>
       simp only [List.getElem?_cons_zero, Option.some.injEq] at hk
       subst hk
       rw [List.getD_eq_getElem?_getD] at hcs
       simp only [List.getD_cons_zero]
       cases hq : hp[i]? with
       | none => rw [hq] at hcs; simp at hcs
       | some x => rw [hq] at hcs; simpa using hcs
     | succ k =>
       simp only [List.getElem?_cons_succ] at hk
       simpa using h2 k c hk
    ·simp at h
   ·simp at h
theorem z8 : ∀ {is : List Nat} {hp : List aI} {css : List (List V)}, (mF hp is css).length = hp.length
 | [], hp, css => by cases css <;> rfl
 | i :: is, hp, [] => rfl
 | i :: is, hp, c :: cs => by simp [mF, z8]
theorem zh : ∀ {is : List Nat} {hp : List aI} {css : List (List V)} {id : Nat}, id ∉ is → (mF hp is css)[id]? = hp[id]?
 | [], hp, css, id, _ => by cases css <;> rfl
 | i :: is, hp, [], id, _ => rfl
 | i :: is, hp, c :: cs, id, h => by
   simp only [List.mem_cons, not_or] at h
   rw [mF, zh h.2, List.getElem?_set_ne (fun e => h.1 e.symm)]
theorem agh : ∀ {is : List Nat} {hp : List aI} {css : List (List V)}, is.Nodup → (∀ i ∈ is, i < hp.length) → ∀ (k : Nat) cs, k < is.length → css[k]? = some cs → (mF hp is css)[is.getD k 0]? = some (some cs)
 | [], _, _, _, _, k, _, hk, _ => by simp at hk
 | i :: is, hp, [], _, _, k, _, _, h => by simp at h
 | i :: is, hp, c :: cs, hn, hl, k, c', hk, h => by
   obtain ⟨hn1, hn2⟩ := List.nodup_cons.1 hn
   cases k with
   | zero =>
     simp only [List.getElem?_cons_zero, Option.some.injEq] at h
     subst h
     simp only [List.getD_cons_zero, mF]
     rw [zh hn1]
     simp [hl i List.mem_cons_self]
   | succ k =>
     simp only [List.getElem?_cons_succ] at h
     simp only [List.getD_cons_succ, mF]
     exact agh hn2 (fun j hj => by simpa using hl j (List.mem_cons_of_mem _ hj)) k c' (by simpa using hk) h
theorem abr {σ : Nat → Nat} {n : Nat} : ∀ {vs : List V} {k : Nat}, (∀ i, i < (dj vs).length → σ (k + i) = (dj vs).getD i 0) → (pj k vs).all (V.flatP n) = true → (pj k vs).map (V.ren σ) = vs
 | [], _, _, _ => rfl
 | v :: vs, k, hσ, hf => by
   by_cases hv : ∃ i, v = .ptr i 0
   ·obtain ⟨i, rfl⟩ := hv
    simp only [pj, List.map_cons, V.ren]
    simp only [dj] at hσ
    simp only [pj, List.all_cons, Bool.and_eq_true] at hf
    have h0 := hσ 0 (by simp)
    simp only [Nat.add_zero, List.getD_cons_zero] at h0
    rw [h0, abr (fun j hj => by have := hσ (j + 1) (by simp; omega); rw [List.getD_cons_succ] at this; rw [← this]; congr 1; omega) hf.2]
   ·have e1 : pj k (v :: vs) = v :: pj k vs := by
     cases v <;> try rfl
     rename_i i o
     cases o with
     | zero => exact absurd ⟨i, rfl⟩ hv
     | succ o => rfl
    have e2 : dj (v :: vs) = dj vs := by
     cases v <;> try rfl
     rename_i i o
     cases o with
     | zero => exact absurd ⟨i, rfl⟩ hv
     | succ o => rfl
    rw [e2] at hσ
    rw [e1] at hf ⊢
    simp only [List.all_cons, Bool.and_eq_true] at hf
    have hfl : v.flat = true := by
     have := hf.1
     unfold V.flatP at this
     split at this
     ·rename_i i
      exact absurd ⟨i, rfl⟩ hv
     ·exact this
    rw [List.map_cons, V.ren_flat hfl, abr hσ hf.2]
theorem akQ {G : ad8} {Γ : aM} (hG : ∀ f avs css v css', G f avs css = some (true, v, css') → aY P f avs css v css') (hΓ : cC P Γ) : cC P (pV G Γ) := by
 intro f vs hp v hp' h
 unfold pV at h
 split at h
 ·rename_i css hcss
  split at h
  ·rename_i c v' css' hg
   cases hst : (xN (dj vs) && Nat.beq css'.length css.length && (pj 0 vs).all (V.flatP css.length) && v'.flat && css.all (fun cs => cs.all V.flatO) && css'.all (fun cs => cs.all V.flatO)) with
   | false => rw [hst] at h; simp at h
   | true =>
     rw [hst] at h
     simp only [cond_true, Option.some.injEq, Prod.mk.injEq] at h
     obtain ⟨rfl, rfl, rfl⟩ := h
     simp only [Bool.and_eq_true] at hst
     obtain ⟨⟨⟨⟨⟨n1, n2⟩, n3⟩, n4⟩, n5⟩, n6⟩ := hst
     obtain ⟨c1, c2⟩ := acW hcss
     have hnd := abq n1
     have hle : css'.length = css.length := by simpa using n2
     have := aY.frame (hG f _ css _ css' hg) n3 n4 n5 n6 (hp := hp) (hp' := mF hp (dj vs) css') (σ := fun k => (dj vs).getD k 0)
      (by
       intro k k' hk hk' e
       rw [c1] at hk hk'
       simp only [List.getD_eq_getElem?_getD, List.getElem?_eq_getElem hk, List.getElem?_eq_getElem hk', Option.getD_some] at e
       exact (List.getElem_inj hnd).1 e)
      c2 z8
      (by
       intro k cs hk
       have hkl : k < css'.length := (List.getElem?_eq_some_iff.1 hk).1
       refine agh hnd ?_ k cs (by omega) hk
       intro i hi
       obtain ⟨j, hj, rfl⟩ := List.mem_iff_getElem.1 hi
       have hj' : j < css.length := by omega
       have := c2 j _ (List.getElem?_eq_getElem hj')
       rw [List.getD_eq_getElem?_getD, List.getElem?_eq_getElem hj, Option.getD_some] at this
       exact (List.getElem?_eq_some_iff.1 this).1)
      (by
       intro id hn
       refine zh fun hm => ?_
       obtain ⟨j, hj, rfl⟩ := List.mem_iff_getElem.1 hm
       exact hn j (by omega) (by rw [List.getD_eq_getElem?_getD, List.getElem?_eq_getElem hj, Option.getD_some]))
     rw [abr (n := css.length) (fun i _ => by rw [Nat.zero_add]) n3] at this
     exact this
  ·exact hΓ _ _ _ _ _ h
 ·exact hΓ _ _ _ _ _ h
theorem abt {hp hp2 : List aI} : ∀ {is : List Nat}, (∀ i ∈ is, hp2[i]? = hp[i]?) → kO hp2 is = kO hp is
 | [], _ => rfl
 | i :: is, h => by
   simp only [kO]
   rw [wG (h i (List.mem_cons_self ..)), abt fun j hj => h j (List.mem_cons_of_mem _ hj)]
theorem zi : ∀ (is : List Nat) (hp : List aI) (css : List (List V)), mF hp is css = abl hp (is.zip (css.map some))
 | [], hp, css => by cases css <;> rfl
 | i :: is, hp, [] => rfl
 | i :: is, hp, c :: css => by
   simp only [mF, List.map_cons, List.zip_cons_cons]
   rw [zi is]
   rfl
theorem ai5 {G : ad8} {Γ : aM} {imp : List Nat} (hG : ∀ f avs css, imp.contains f = false → G f avs css = none) (hΓ : cM Γ imp) : cM (pV G Γ) imp := by
 refine ⟨?_, ?_⟩
 ·intro f vs hp hf
  have e : ∀ hp, pV G Γ f vs hp = Γ f vs hp := by
   intro hp
   unfold pV
   split
   ·rw [hG f _ _ hf]
   ·rfl
  rw [e, e]
  exact hΓ.pure f vs hp hf
 ·intro f vs hp c v hp' hf h
  have same : ∀ hp2 : List aI, (∀ i ∈ oe vs, hp2[i]? = hp[i]?) → kO hp2 (dj vs) = kO hp (dj vs) := fun hp2 hh => abt fun i hi => hh i (ze hi)
  unfold pV at h
  cases hcs : kO hp (dj vs) with
  | none =>
    rw [hcs] at h
    obtain ⟨q, q1, q2, q3⟩ := hΓ.loc f _ _ _ _ _ hf h
    refine ⟨q, q1, q2, fun hp2 hl hh => ?_⟩
    simp only [pV, same hp2 hh, hcs]
    exact q3 hp2 hl hh
  | some css =>
    rw [hcs] at h
    simp only at h
    cases hg : G f (pj 0 vs) css with
    | none =>
      rw [hg] at h
      obtain ⟨q, q1, q2, q3⟩ := hΓ.loc f _ _ _ _ _ hf h
      refine ⟨q, q1, q2, fun hp2 hl hh => ?_⟩
      simp only [pV, same hp2 hh, hcs, hg]
      exact q3 hp2 hl hh
    | some x =>
      obtain ⟨c', v', css'⟩ := x
      rw [hg] at h
      simp only at h
      cases hst : (xN (dj vs) && Nat.beq css'.length css.length && (pj 0 vs).all (V.flatP css.length) && v'.flat && css.all (fun cs => cs.all V.flatO) && css'.all (fun cs => cs.all V.flatO)) with
      | false => rw [hst] at h; simp at h
      | true =>
        rw [hst] at h
        simp only [cond_true, Option.some.injEq, Prod.mk.injEq] at h
        obtain ⟨rfl, rfl, rfl⟩ := h
        refine ⟨(dj vs).zip (css'.map some), ?_, zi _ _ _, fun hp2 hl hh => ?_⟩
        ·intro p hp
         obtain ⟨a, b⟩ := p
         exact (List.of_mem_zip hp).1
        ·simp only [pV, same hp2 hh, hcs, hg, hst, cond_true]
         rw [zi]
end
end Go.AM
end
noncomputable section
namespace Go.AM
set_option autoImplicit false
set_option linter.unusedSimpArgs false
set_option linter.unusedVariables false
def V.lend1 (hp : List aI) : V → V
 | .sw _ id n => match hp.getD id none with
   | some [.rw k xs] => .sl k (.may false) xs
   | _ => .undef
 | v => v
def V.lend (hp : List aI) : V → V
 | .agg cs => .agg (cs.map (V.lend1 hp))
 | v => v.lend1 hp
def V.lendT (hp : List aI) : V → Bool
 | .sw _ id n => match hp.getD id none with
   | some [.rw _ xs] => Nat.beq n xs.length
   | _ => false
 | _ => true
def V.isSw : V → Bool
 | .sw _ _ _ => true
 | _ => false
def rx (hp : List aI) : List V → Bool → Bool
 | [], b => b
 | v :: r, b => cond v.isSw (v.lendT hp && rx hp r b) (rx hp r b)
def tv (hp : List aI) : List V → Bool
 | [] => true
 | v :: r => rx hp v.cellsA (tv hp r)
def V.scal1 : V → Bool
 | .bool _ | .int _ _ | .str _ | .nilif => true
 | _ => false
def V.scal : V → Bool
 | .tup cs => cs.all V.scal1
 | v => v.scal1
def ry (ls : List Nat) (G : Nat → List V → Option (Bool × V)) (Γ : aM) : aM := fun f vs hp =>
 cond (ls.elem f) (match Γ f vs hp with
  | some r => some r
  | none => match G f (vs.map (V.lend hp)) with
    | some (c, v) => cond (v.scal && (vs.map (V.lend hp)).all V.flat) (some (c && tv hp vs, v, hp)) none
    | none => none) (Γ f vs hp)
section
variable {I I' : Nat → Nat → Prop} {ρ ρ' : Nat → Nat} {N N' : Nat} {w w' : World} {P : Program}
theorem VRel.scal1 {v : V} {cv : Value} (h : VRel I ρ N w v cv) (hs : v.scal1 = true) : VRel I' ρ' N' w' v cv := by
 cases h <;> simp [V.scal1] at hs
 ·exact .bool _
 ·exact .int _ _ (by assumption)
 ·exact .str _ _ (by assumption) (by assumption)
 ·exact .nilif
theorem VRel.scal {v : V} {cv : Value} (h : VRel I ρ N w v cv) (hs : v.scal = true) : VRel I' ρ' N' w' v cv := by
 by_cases ht : ∃ cs, v = .tup cs
 ·obtain ⟨cs, rfl⟩ := ht
  cases h with
  | tup cs vs hl hv =>
    simp only [V.scal, List.all_eq_true] at hs
    exact .tup cs vs hl fun i c cv hc hcv => (hv i c cv hc hcv).scal1 (hs c (List.mem_of_getElem? hc))
 ·refine h.scal1 ?_
  cases v <;> first | exact hs | exact absurd ⟨_, rfl⟩ ht
theorem alv {v : V} (hs : v.scal = true) (g : Gh) (occ : Occ) (cv : Value) : aP g w occ v cv := by
 cases v <;> simp [V.scal, V.scal1] at hs <;> simp [aP]
theorem akR {hp : List aI} {v : V} (h : (v.lend1 hp).flat1 = true) (h1 : v.one = true) : (v.lend1 hp).one = true := by
 generalize v.lend1 hp = u at h
 cases u <;> simp [V.flat1] at h <;> rfl
theorem ad9 {hp : List aI} : ∀ {cs : List V} {b : Bool}, rx hp cs b = true → b = true ∧ ∀ c ∈ cs, c.lendT hp = true
 | [], b, h => ⟨h, by simp⟩
 | v :: r, b, h => by
   simp only [rx] at h
   have hv : v.lendT hp = true ∧ rx hp r b = true := by
    cases hs : v.isSw with
    | true => rw [hs] at h; simpa using h
    | false =>
      rw [hs] at h
      refine ⟨?_, by simpa using h⟩
      cases v <;> first | rfl | simp [V.isSw] at hs
   obtain ⟨h1, h2⟩ := ad9 hv.2
   exact ⟨h1, fun c hc => by
    rcases List.mem_cons.1 hc with rfl | hc
    ·exact hv.1
    ·exact h2 c hc⟩
theorem aea {hp : List aI} : ∀ {vs : List V}, tv hp vs = true → ∀ v ∈ vs, ∀ c ∈ v.cellsA, c.lendT hp = true
 | [], _ => by simp
 | v :: r, h => by
   obtain ⟨h1, h2⟩ := ad9 (b := tv hp r) h
   intro u hu
   rcases List.mem_cons.1 hu with rfl | hu
   ·exact h2
   ·exact aea h1 u hu
theorem alw {f : FuncId} {vs : List V} {hp : List aI} {v : V} (h : aO P f (vs.map (V.lend hp)) v) (hT : tv hp vs = true) (hs : v.scal = true) (hf : (vs.map (V.lend hp)).all V.flat = true) : iJ P f vs hp v hp := by
 obtain ⟨hp', h⟩ := h
 intro w g cargs hβ hhr hlen hbare hrel
 let J : Nat → Nat → Prop := fun b j => g.I b j ∨ ∃ (id : Nat) (k : EK) (xs : List (Ty k)), hp[id]? = some (some [.rw k xs]) ∧ b = g.ρ id ∧ j < xs.length * k.sz
 let g₀ : Gh := { I := J, ρ := g.ρ, O := fun _ => none, β := g.β }
 have h0 : HR g₀ [] w := by
  refine ⟨by simp, by simp, by simp, by simp, ?_, by simp [g₀]⟩
  intro b j hj
  rcases hj with hj | ⟨id, k, xs, hid, rfl, hj⟩
  ·exact hhr.exI b j hj
  ·obtain ⟨arr, e, fz, a1, a2⟩ := hhr.obj id _ hid
   have hl := a2.len
   simp only [cellsOf] at hl
   rw [db] at hl
   rw [bg a1, Array.getElem?_eq_getElem (by omega)]
   rfl
 have upJ : ∀ N, Up g.I g.ρ N w J g.ρ N w := fun N => ⟨fun b j hj => .inl hj, fun _ _ _ => rfl, fun _ _ => rfl, Nat.le_refl _⟩
 have rel1 : ∀ (x : V) (cv : Value), VRel g.I g.ρ hp.length w x cv → x.lendT hp = true → (x.lend1 hp).flat1 = true → VRel J g.ρ 0 w (x.lend1 hp) cv := by
  intro x cv hr hb hfl
  by_cases hx : ∃ k id n, x = .sw k id n
  ·obtain ⟨k0, id, n, rfl⟩ := hx
   simp only [V.lend1] at hfl ⊢
   simp only [V.lendT] at hb
   split at hfl
   ·rename_i k xs hid
    have hid' : hp[id]? = some (some [.rw k xs]) := by
     rw [List.getD_eq_getElem?_getD] at hid
     cases hq : hp[id]? with
     | none => rw [hq] at hid; simp at hid
     | some y => rw [hq] at hid; simpa using hid
    rw [hid] at hb
    ·obtain rfl := Nat.eq_of_beq_eq_true hb
     cases hr with
     | sw _ _ _ h1 h2 h3 =>
       obtain ⟨arr, e, fz, a1, a2⟩ := hhr.obj id _ hid'
       have hl := a2.len
       simp only [cellsOf] at hl
       rw [db] at hl
       have inr : ∀ (i : Nat) x (j : Nat), xs[i]? = some x → j < (enc k x).length → i * k.sz + j < xs.length * k.sz := by
        intro i x j hx hj
        rw [bI] at hj
        exact rp (List.getElem?_eq_some_iff.1 hx).1 hj
       refine .sl k (.may false) xs (g.ρ id) 0 xs.length _ rfl h2 h3 (by simp) (fun i j => arr.getD (i * k.sz + j) undef) ?_ ?_ ?_
       ·intro i x j hx hj
        exact .inr ⟨id, k, xs, hid', rfl, by rw [Nat.zero_add]; exact inr i x j hx hj⟩
       ·intro i x j hx hj
        have := inr i x j hx hj
        rw [Nat.zero_add, bg a1, Array.getElem?_eq_getElem (by omega)]
        simp [Array.getD, show i * k.sz + j < arr.size by omega]
       ·intro i x j v hx hv
        have hj := (List.getElem?_eq_some_iff.1 hv).1
        have := inr i x j hx hj
        have hrow := a2.rel (i * k.sz + j) v (arr.getD (i * k.sz + j) undef) (by simp only [cellsOf]; exact zc xs i j x v hx hv) (by
         rw [Array.getElem?_eq_getElem (by omega)]
         simp [Array.getD, show i * k.sz + j < arr.size by omega])
        exact (sM (ρ' := g.ρ) (N' := 0) hv hrow).up (upJ 0)
   ·simp [V.flat1] at hfl
  ·have e : x.lend1 hp = x := by
    cases x <;> first | rfl | exact absurd ⟨_, _, _, rfl⟩ hx
   rw [e] at hfl ⊢
   exact (hr.flat1 (N' := 0) hfl).up (upJ 0)
 have rel : ∀ (x : V) (cv : Value), VRel g.I g.ρ hp.length w x cv → (∀ c ∈ x.cellsA, c.lendT hp = true) → (x.lend hp).flat = true → VRel J g.ρ 0 w (x.lend hp) cv := by
  intro x cv hr hb' hfl
  by_cases hx : ∃ cs, x = .agg cs
  ·obtain ⟨cs, rfl⟩ := hx
   simp only [V.cellsA] at hb'
   simp only [V.lend] at hfl ⊢
   simp only [V.flat, V.flat2, List.all_map, List.all_eq_true, Function.comp] at hfl
   cases hr with
   | agg cs us hl h1 hb hv =>
     refine .agg _ us (by simpa using hl) ?_ ?_ ?_
     ·intro c hc
      obtain ⟨c', hc', rfl⟩ := List.mem_map.1 hc
      exact akR (hfl c' hc') (h1 c' hc')
     ·intro i c cv hc hcv
      rw [List.getElem?_map] at hc
      cases hq : cs[i]? with
      | none => rw [hq] at hc; simp at hc
      | some c' =>
        rw [hq] at hc
        simp only [Option.map_some, Option.some.injEq] at hc
        subst hc
        have := hb i c' cv hq hcv
        unfold V.lend1
        split
        ·split
         ·simp [dJ]
         ·simp [dJ]
        ·exact this
     ·intro i c cv hc hcv
      rw [List.getElem?_map] at hc
      cases hq : cs[i]? with
      | none => rw [hq] at hc; simp at hc
      | some c' =>
        rw [hq] at hc
        simp only [Option.map_some, Option.some.injEq] at hc
        subst hc
        exact rel1 c' cv (hv i c' cv hq hcv) (hb' c' (List.mem_of_getElem? hq)) (hfl c' (List.mem_of_getElem? hq))
  ·have e : x.lend hp = x.lend1 hp := by
    cases x <;> first | rfl | exact absurd ⟨_, rfl⟩ hx
   rw [e] at hfl ⊢
   by_cases hy : ∃ k id n, x = .sw k id n
   ·refine rel1 x cv hr ?_ ?_
    ·obtain ⟨k, id, n, rfl⟩ := hy
     exact hb' _ (by simp [V.cellsA])
    obtain ⟨k, id, n, rfl⟩ := hy
    simp only [V.lend1] at hfl ⊢
    split at hfl
    ·simp [V.flat1]
    ·simp [V.flat, V.flat2, V.flat1] at hfl
   ·have e : x.lend1 hp = x := by
     cases x <;> first | rfl | exact absurd ⟨_, _, _, rfl⟩ hy
    rw [e] at hfl ⊢
    exact (hr.flat (ρ' := g.ρ) (N' := 0) hfl).up (upJ 0)
 have hargs : ∀ (i : Nat) x cv, (vs.map (V.lend hp))[i]? = some x → cargs[i]? = some cv → VRel g₀.I g₀.ρ ([] : List aI).length w x cv := by
  intro i x cv hx hcv
  have hfx := List.all_eq_true.1 hf x (List.mem_of_getElem? hx)
  rw [List.getElem?_map] at hx
  cases hq : vs[i]? with
  | none => rw [hq] at hx; simp at hx
  | some y =>
    rw [hq] at hx
    simp only [Option.map_some, Option.some.injEq] at hx
    subst hx
    exact rel y cv (hrel i y cv hq hcv) (aea hT y (List.mem_of_getElem? hq)) hfx
 refine (h w g₀ cargs hβ h0 (by simpa using hlen) (by
  intro x hx
  have hfx := List.all_eq_true.1 hf x hx
  cases x <;> first | rfl | (simp [V.flat, V.flat2, V.flat1] at hfx; done) | skip
  rename_i k o xs
  obtain ⟨y, hy, e⟩ := List.mem_map.1 hx
  by_cases hsw : ∃ k id n, y = .sw k id n
  ·obtain ⟨k', id, n, rfl⟩ := hsw
   simp only [V.lend, V.lend1] at e
   split at e
   ·simp at e
    obtain ⟨rfl, rfl, -⟩ := e
    rfl
   ·simp at e
  ·have e' : y.lend hp = y ∨ ∃ cs, y = .agg cs := by
    cases y <;> first | exact .inl rfl | exact .inr ⟨_, rfl⟩ | exact absurd ⟨_, _, _, rfl⟩ hsw
   rcases e' with e' | ⟨cs, rfl⟩
   ·rw [← e, e']; exact hbare y hy
   ·simp [V.lend] at e) hargs).mono ?_
 rintro ex w' ⟨cv, g₁, rfl, q1, q2, q3, q4⟩
 have blk : ∀ b, b < w.heap.size → w'.heap[b]? = w.heap[b]? := fun b hb => q2.block b hb (by simp) rfl
 have cellI : ∀ b j, g.I b j → w'.cell? ⟨b, j, none⟩ = w.cell? ⟨b, j, none⟩ := fun b j hj => q2.up.cell b j (.inl hj)
 have up : Up g.I g.ρ hp.length w g.I g.ρ hp.length w' := ⟨fun _ _ h => h, cellI, fun _ _ => rfl, Nat.le_refl _⟩
 have olt : ∀ (id : Nat) cs, hp[id]? = some (some cs) → g.ρ id < w.heap.size := by
  intro id cs hid
  obtain ⟨arr, e, fz, h1, _⟩ := hhr.obj id cs hid
  exact (Array.getElem?_eq_some_iff.1 h1).1
 refine ⟨cv, g, rfl, ⟨?_, hhr.apart, hhr.notI, hhr.notO, ?_, fun b o hb => Nat.lt_of_lt_of_le (hhr.oLt b o hb) q2.size⟩, ⟨rfl, q2.os, q2.tape, q2.output, q2.size, fun b hb _ _ => blk b hb, up, fun _ _ _ _ _ h => h, fun _ _ _ h => h, fun _ cs h => .inl ⟨cs, h⟩⟩, q3.scal hs, alv hs _ _ _⟩
 ·intro id cs hid
  obtain ⟨arr, e, fz, h1, h2⟩ := hhr.obj id cs hid
  refine ⟨arr, e, fz, (blk _ (olt id cs hid)).trans h1, h2.len, h2.plain, h2.typed, h2.cold, h2.one, fun j c cv hc hcv => (h2.rel j c cv hc hcv).up up, fun j c cv hc hcv => ?_, h2.bn⟩
  exact da (h2.own j c cv hc hcv) rfl (fun b j hi => ⟨hi, cellI b j hi⟩) fun b hb => ⟨hb, blk b (hhr.oLt b _ hb), fun j hj => hj⟩
 ·intro b j hj
  rw [cellI b j hj]
  exact hhr.exI b j hj
theorem alx {ls : List Nat} {G : Nat → List V → Option (Bool × V)} {Γ : aM} (hG : ∀ f vs v, G f vs = some (true, v) → aO P f vs v) (hΓ : cC P Γ) : cC P (ry ls G Γ) := by
 intro f vs hp v hp' h
 unfold ry at h
 cases hl : ls.elem f with
 | false => rw [hl] at h; exact hΓ _ _ _ _ _ h
 | true =>
   rw [hl] at h
   simp only [cond_true] at h
   split at h
   ·rename_i r hr
    rw [Option.some.inj h] at hr
    exact hΓ _ _ _ _ _ hr
   ·split at h
    ·rename_i c v' hg
     cases hst : (v'.scal && (vs.map (V.lend hp)).all V.flat) with
     | false => rw [hst] at h; simp at h
     | true =>
       rw [hst] at h
       simp only [cond_true, Option.some.injEq, Prod.mk.injEq] at h
       obtain ⟨hc, rfl, rfl⟩ := h
       simp only [Bool.and_eq_true] at hst hc
       obtain ⟨rfl, hT⟩ := hc
       exact alw (hG f _ _ hg) hT hst.1 hst.2
    ·simp at h
theorem zj {hp hp2 : List aI} {v : V} (h : ∀ i ∈ v.id1, hp2[i]? = hp[i]?) : v.lend1 hp2 = v.lend1 hp ∧ v.lendT hp2 = v.lendT hp := by
 cases v with
 | sw k id n =>
   have e := wG (h id (by simp [V.id1]))
   simp only [V.lend1, V.lendT, e, and_self]
 | _ => exact ⟨rfl, rfl⟩
theorem akS {hp hp2 : List aI} {v : V} (h : ∀ i ∈ v.cellsA.flatMap V.id1, hp2[i]? = hp[i]?) : v.lend hp2 = v.lend hp := by
 cases v with
 | agg cs =>
   simp only [V.lend, V.agg.injEq]
   refine List.map_congr_left fun c hc => (zj fun i hi => h i ?_).1
   simp only [V.cellsA, List.mem_flatMap]
   exact ⟨c, hc, hi⟩
 | _ => exact (zj fun i hi => h i (by simpa [V.cellsA] using hi)).1
theorem acX {hp hp2 : List aI} : ∀ {cs : List V} {b b' : Bool}, (∀ i ∈ cs.flatMap V.id1, hp2[i]? = hp[i]?) → b' = b → rx hp2 cs b' = rx hp cs b
 | [], b, b', _, e => e
 | v :: r, b, b', h, e => by
   simp only [rx]
   rw [(zj (v := v) fun i hi => h i (by simp [hi])).2, acX (cs := r) (fun i hi => h i (by
    simp only [List.flatMap_cons, List.mem_append]; exact .inr hi)) e]
theorem acY {hp hp2 : List aI} : ∀ {vs : List V}, (∀ i ∈ oe vs, hp2[i]? = hp[i]?) → tv hp2 vs = tv hp vs
 | [], _ => rfl
 | v :: r, h => by
   simp only [tv]
   exact acX (fun i hi => h i (by simp only [oe, List.flatMap_cons, List.mem_append]; exact .inl hi)) (acY fun i hi => h i (by simp only [oe, List.flatMap_cons, List.mem_append] at hi ⊢; exact .inr hi))
theorem aj8 {ls : List Nat} {G : Nat → List V → Option (Bool × V)} {Γ : aM} {imp imp' : List Nat} (hΓ : cM Γ imp) (hs : (ls ++ imp).all (fun x => imp'.contains x) = true)
  (hm : imp'.all (fun x => Nat.blt x 2000000 || imp.contains x) = true) : cM (ry ls G Γ) imp' := by
 simp only [List.all_append, Bool.and_eq_true] at hs
 refine ⟨?_, ?_⟩
 ·intro f vs hp hf
  have hl : ls.elem f = false := by
   cases hc : ls.elem f with
   | false => rfl
   | true =>
     have := List.all_eq_true.1 hs.1 f (by simpa using hc)
     rw [this] at hf
     simp at hf
  have e : ∀ hp, ry ls G Γ f vs hp = Γ f vs hp := by
   intro hp
   unfold ry
   rw [hl]; rfl
  rw [e, e]
  exact (hΓ.mono hs.2 hm).pure f vs hp hf
 ·intro f vs hp c v hp' hf h
  have hloc := (hΓ.mono hs.2 hm).loc f vs
  cases hl : ls.elem f with
  | false =>
    have e : ∀ hp, ry ls G Γ f vs hp = Γ f vs hp := by
     intro hp
     unfold ry
     rw [hl]; rfl
    rw [e] at h
    obtain ⟨q, q1, q2, q3⟩ := hloc _ _ _ _ hf h
    exact ⟨q, q1, q2, fun hp2 hl2 hh => by rw [e]; exact q3 hp2 hl2 hh⟩
  | true =>
    unfold ry at h
    rw [hl] at h
    simp only [cond_true] at h
    cases hg : Γ f vs hp with
    | some r =>
      rw [hg] at h
      simp only [Option.some.injEq] at h
      subst h
      obtain ⟨q, q1, q2, q3⟩ := hloc _ _ _ _ hf hg
      refine ⟨q, q1, q2, fun hp2 hl2 hh => ?_⟩
      unfold ry
      rw [hl, q3 hp2 hl2 hh]
      rfl
    | none =>
      rw [hg] at h
      simp only at h
      split at h
      ·rename_i c' v' hG
       cases hst : (v'.scal && (vs.map (V.lend hp)).all V.flat) with
       | false => rw [hst] at h; simp at h
       | true =>
         rw [hst] at h
         simp only [cond_true, Option.some.injEq, Prod.mk.injEq] at h
         obtain ⟨rfl, rfl, rfl⟩ := h
         refine ⟨[], by simp, rfl, fun hp2 hl2 hh => ?_⟩
         have hn : Γ f vs hp2 = none := by
          cases hq : Γ f vs hp2 with
          | none => rfl
          | some r =>
            obtain ⟨c2, v2, hp2'⟩ := r
            obtain ⟨q, q1, q2, q3⟩ := hloc _ _ _ _ hf hq
            have := q3 hp hl2.symm (fun i hi => (hh i hi).symm)
            rw [this] at hg
            cases hg
         have em : vs.map (V.lend hp2) = vs.map (V.lend hp) := List.map_congr_left fun v hv => akS fun i hi => hh i (by
          simp only [oe, List.mem_flatMap] at hi ⊢
          exact ⟨v, hv, hi⟩)
         unfold ry
         rw [hl, hn]
         simp only [cond_true, em, hG, hst, acY hh]
         rfl
      ·simp at h
end
end Go.AM
end
noncomputable section
namespace Go.AM
set_option autoImplicit false
set_option linter.unusedSimpArgs false
set_option linter.unusedVariables false
section
variable {I I' : Nat → Nat → Prop} {ρ ρ' : Nat → Nat} {N N' : Nat} {w w' : World} {P : Program}
def V.dim1 : V → V
 | .sl k _ xs => .sl k (.may false) xs
 | v => v
def V.dim : V → V
 | .agg cs => .agg (cs.map V.dim1)
 | v => v.dim1
theorem VRel.dim1 {v : V} {cv : Value} (h : VRel I ρ N w v cv) : VRel I ρ N w v.dim1 cv := by
 cases v <;> simp only [V.dim1] <;> first | exact h.own (by simp) (by simp) | exact h
theorem VRel.dim {v : V} {cv : Value} (h : VRel I ρ N w v cv) : VRel I ρ N w v.dim cv := by
 by_cases hv : ∃ cs, v = .agg cs
 ·obtain ⟨cs, rfl⟩ := hv
  cases h with
  | agg cs vs hl h1 hb hv =>
    refine .agg _ vs (by simpa using hl) ?_ ?_ ?_
    ·intro c hc
     obtain ⟨c', hc', rfl⟩ := List.mem_map.1 hc
     have := h1 c' hc'
     cases c' <;> exact this
    ·intro i c cv hc hcv
     rw [List.getElem?_map, Option.map_eq_some_iff] at hc
     obtain ⟨c', hc', rfl⟩ := hc
     have := hb i c' cv hc' hcv
     cases c' <;> first | exact this | simp [V.dim1, dJ]
    ·intro i c cv hc hcv
     rw [List.getElem?_map, Option.map_eq_some_iff] at hc
     obtain ⟨c', hc', rfl⟩ := hc
     exact (hv i c' cv hc' hcv).dim1
 ·have e : v.dim = v.dim1 := by cases v <;> first | rfl | exact absurd ⟨_, rfl⟩ hv
  rw [e]; exact h.dim1
theorem aly {v : V} (h : v.bare = true) : v.dim.bare = true := by
 cases v <;> first | exact h | rfl
theorem iJ.dim {f : FuncId} {vs us : List V} {hp hp' : List aI} {v : V} (h : iJ P f us hp v hp') (e : vs.map V.dim = us) : iJ P f vs hp v hp' := by
 subst e
 intro w g cargs hβ hhr hlen hbare hrel
 refine h w g cargs hβ hhr (by simpa using hlen) (by
  intro x hx
  obtain ⟨y, hy, rfl⟩ := List.mem_map.1 hx
  exact aly (hbare y hy)) ?_
 intro i x cv hx hcv
 rw [List.getElem?_map, Option.map_eq_some_iff] at hx
 obtain ⟨y, hy, rfl⟩ := hx
 exact (hrel i y cv hy hcv).dim
theorem aO.dim {f : FuncId} {vs us : List V} {v : V} (h : aO P f us v) (e : vs.map V.dim = us) : aO P f vs v := by
 obtain ⟨hp', h⟩ := h
 exact ⟨hp', h.dim e⟩
def qu (P : Program) (f : FuncId) (vs cs : List V) : Prop := iJ P f vs [] (.ptr 0 0) [some cs]
theorem qu.frame {f : FuncId} {vs cs : List V} (h : qu P f vs cs) (hf : vs.all V.flat = true) (hc : cs.all V.flatO = true) (hp : List aI) : iJ P f vs hp (.ptr hp.length 0) (hp ++ [some cs]) := by
 intro w g cargs hβ hhr hlen hbare hrel
 let g₀ : Gh := { I := g.I, ρ := g.ρ, O := fun _ => none, β := g.β }
 have h0 : HR g₀ [] w := ⟨by simp, by simp, by simp, by simp, hhr.exI, by simp [g₀]⟩
 refine (h w g₀ cargs hβ h0 hlen hbare (fun i x cv hx hcv => (hrel i x cv hx hcv).flat (List.all_eq_true.1 hf x (List.mem_of_getElem? hx)))).mono ?_
 rintro e w' ⟨cv, g₁, rfl, q1, q2, q3, q4⟩
 have blk : ∀ b, b < w.heap.size → w'.heap[b]? = w.heap[b]? := fun b hb => q2.block b hb (by simp) rfl
 have isame : ∀ b j, b < w.heap.size → g₁.I b j → g.I b j := fun b j hb hi => q2.iSame b j hb (by simp) rfl hi
 have osame : ∀ b, b < w.heap.size → g₁.O b = none := fun b hb => q2.oSame b hb (by simp) rfl
 have hnew : w.heap.size ≤ g₁.ρ 0 := by
  rcases q2.live 0 cs rfl with ⟨_, h⟩ | ⟨_, h | h | ⟨_, _, h, _⟩⟩
  ·simp at h
  ·exact h
  ·simp [g₀] at h
  ·simp at h
 let g₂ : Gh := { I := g₁.I, ρ := fun i => if i = hp.length then g₁.ρ 0 else g.ρ i, β := g.β, O := fun b => if b < w.heap.size then g.O b else (match g₁.O b with
  | some (.cell i j) => if i = 0 then some (.cell hp.length j) else none
  | some .res => some .res
  | _ => none) }
 have rold : ∀ i, i < hp.length → g₂.ρ i = g.ρ i := by
  intro i hi
  simp only [g₂]
  rw [if_neg (by omega)]
 have rnew : g₂.ρ hp.length = g₁.ρ 0 := by simp [g₂]
 have up : Up g.I g.ρ hp.length w g₂.I g₂.ρ (hp ++ [some cs]).length w' := ⟨q2.up.mono, q2.up.cell, rold, by simp⟩
 have olt : ∀ (id : Nat) cs, hp[id]? = some (some cs) → g.ρ id < w.heap.size := by
  intro id cs hid
  obtain ⟨arr, e, fz, h1, _⟩ := hhr.obj id cs hid
  exact (Array.getElem?_eq_some_iff.1 h1).1
 have lt_of : ∀ (id : Nat) cs, hp[id]? = some (some cs) → id < hp.length := fun id cs hid => (List.getElem?_eq_some_iff.1 hid).1
 have key : ∀ (id : Nat) c, (hp ++ [some cs])[id]? = some (some c) → (id = hp.length ∧ c = cs) ∨ hp[id]? = some (some c) := by
  intro id c hid
  rcases Nat.lt_or_ge id hp.length with hl | hl
  ·rw [List.getElem?_append_left hl] at hid
   exact .inr hid
  ·rw [List.getElem?_append_right hl] at hid
   have : id - hp.length = 0 := by
    have := (List.getElem?_eq_some_iff.1 hid).1
    simp at this; omega
   rw [this] at hid
   exact .inl ⟨by omega, by simpa using hid.symm⟩
 have okeep : ∀ id j v cv, id < hp.length → aP g w (.cell id j) v cv → aP g₂ w' (.cell id j) v cv := by
  intro id j v cv hid ho
  refine da ho rfl (fun b j hi => ⟨q2.up.mono b j hi, q2.up.cell b j hi⟩) ?_
  intro b hb
  have hlt := hhr.oLt b _ hb
  exact ⟨by simp [g₂, hlt, hb], blk b hlt, fun j hj => isame b j hlt hj⟩
 refine ⟨cv, g₂, rfl, ⟨?_, ?_, ?_, ?_, q1.exI, ?_⟩, ⟨rfl, q2.os, q2.tape, q2.output, q2.size, fun b hb _ _ => blk b hb, up, fun b j hb _ _ hi => isame b j hb hi, ?_, ?_⟩, ?_, ?_⟩
 ·intro id c hid
  rcases key id c hid with ⟨rfl, rfl⟩ | hid
  ·obtain ⟨arr, e, fz, a1, a2⟩ := q1.obj 0 c rfl
   have hr := abp hc
   refine ⟨arr, e, fz, by rw [rnew]; exact a1, a2.len, a2.plain, by rintro k xs rfl; simp [dF] at hr, a2.cold, a2.one, ?_, ?_, ?_⟩
   ·intro j c' cv hj hcv
    exact (a2.rel j c' cv hj hcv).flatO (List.all_eq_true.1 hc c' (List.mem_of_getElem? (by rw [lX hr] at hj; exact hj)))
   ·intro j c' cv hj hcv
    refine (a2.own j c' cv hj hcv).reloc q2.beta.symm rfl fun b hb => ?_
    have hb' : ¬ b < w.heap.size := by
     intro hlt
     rw [osame b hlt] at hb
     cases hb
    simp [g₂, hb, hb']
   ·intro j E n hj
    rw [rnew]
    exact a2.bn j E n hj
  ·obtain ⟨arr, e, fz, h1, h2⟩ := hhr.obj id c hid
   have hl := lt_of id c hid
   exact ⟨arr, e, fz, by rw [rold id hl]; exact (blk _ (olt id c hid)).trans h1, h2.len, h2.plain, h2.typedUp rfl rold (by simp) rfl, h2.cold, h2.one, fun j c cv hc hcv => (h2.rel j c cv hc hcv).up up, fun j c cv hc hcv => okeep _ _ _ _ hl (h2.own j c cv hc hcv), fun j E n hj => by rw [rold id hl]; exact h2.bn j E n hj⟩
 ·intro id id' c c' hid hid' hne
  rcases key id c hid with ⟨rfl, rfl⟩ | h1
  ·rcases key id' c' hid' with ⟨rfl, rfl⟩ | h2
   ·exact absurd rfl hne
   ·rw [rnew, rold id' (lt_of id' c' h2)]
    have := olt id' c' h2
    omega
  ·rcases key id' c' hid' with ⟨rfl, rfl⟩ | h2
   ·rw [rnew, rold id (lt_of id c h1)]
    have := olt id c h1
    omega
   ·rw [rold id (lt_of id c h1), rold id' (lt_of id' c' h2)]
    exact hhr.apart _ _ _ _ h1 h2 hne
 ·intro id c hid j hj
  rcases key id c hid with ⟨rfl, rfl⟩ | hid
  ·rw [rnew] at hj
   exact q1.notI 0 c rfl j hj
  ·rw [rold id (lt_of id c hid)] at hj
   exact hhr.notI id c hid j (isame _ j (olt id c hid) hj)
 ·intro id c hid
  rcases key id c hid with ⟨rfl, rfl⟩ | hid
  ·rw [rnew]
   have h1 := q1.notO 0 c rfl
   have h2 : ¬ g₁.ρ 0 < w.heap.size := by omega
   simp [g₂, h1, h2]
  ·rw [rold id (lt_of id c hid)]
   have := olt id c hid
   simp [g₂, this, hhr.notO id c hid]
 ·intro b o hb
  simp only [g₂] at hb
  split at hb
  ·rename_i hlt
   exact Nat.lt_of_lt_of_le hlt q2.size
  ·split at hb
   ·rename_i hres
    exact q1.oLt b _ hres
   ·rename_i hres
    exact q1.oLt b _ hres
   ·simp at hb
 ·intro b hb _ hO
  simp [g₂, hb, hO]
 ·intro id c hid
  rcases key id c hid with ⟨rfl, rfl⟩ | hid
  ·exact .inr ⟨Nat.le_refl _, .inl (by rw [rnew]; exact hnew)⟩
  ·exact .inl ⟨c, hid⟩
 ·cases q3 with
  | ptr _ _ _ =>
    rw [← rnew]
    exact .ptr _ _ (by simp)
 ·simp [aP]
theorem qu.dim {f : FuncId} {vs us cs : List V} (h : qu P f us cs) (e : vs.map V.dim = us) : qu P f vs cs := iJ.dim h e
theorem aY.dim {f : FuncId} {vs us : List V} {css css' : List (List V)} {v : V} (h : aY P f us css v css') (e : vs.map V.dim = us) : aY P f vs css v css' := by
 obtain ⟨h1, rest, h2⟩ := h
 exact ⟨h1, rest, h2.dim e⟩
def V.dimR : V → V
 | .tup vs => .tup (vs.map V.dim)
 | v => v.dim
theorem VRel.dimR {v : V} {cv : Value} (h : VRel I ρ N w v cv) : VRel I ρ N w v.dimR cv := by
 by_cases hv : ∃ cs, v = .tup cs
 ·obtain ⟨cs, rfl⟩ := hv
  cases h with
  | tup cs vs hl hv =>
    refine .tup _ vs (by simpa using hl) ?_
    intro i c cv hc hcv
    rw [List.getElem?_map, Option.map_eq_some_iff] at hc
    obtain ⟨c', hc', rfl⟩ := hc
    exact (hv i c' cv hc' hcv).dim
 ·have e : v.dimR = v.dim := by cases v <;> first | rfl | exact absurd ⟨_, rfl⟩ hv
  rw [e]; exact h.dim
theorem aP.dimR {g : Gh} {occ : Occ} {v : V} {cv : Value} (h : aP g w occ v cv) : aP g w occ v.dimR cv := by
 cases v <;> first | exact h | simp [V.dimR, V.dim, V.dim1, aP]
theorem iJ.dimR {f : FuncId} {vs : List V} {hp hp' : List aI} {v : V} (h : iJ P f vs hp v hp') : iJ P f vs hp v.dimR hp' := by
 intro w g cargs hβ hhr hlen hbare hrel
 refine (h w g cargs hβ hhr hlen hbare hrel).mono ?_
 rintro e w' ⟨cv, g', rfl, q1, q2, q3, q4⟩
 exact ⟨cv, g', rfl, q1, q2, q3.dimR, q4.dimR⟩
theorem aO.dimR {f : FuncId} {vs : List V} {v u : V} (h : aO P f vs v) (e : v.dimR = u) : aO P f vs u := by
 subst e
 obtain ⟨hp', h⟩ := h
 exact ⟨hp', h.dimR⟩
theorem aY.dimR {f : FuncId} {vs : List V} {css css' : List (List V)} {v u : V} (h : aY P f vs css v css') (e : v.dimR = u) : aY P f vs css u css' := by
 subst e
 obtain ⟨h1, rest, h2⟩ := h
 exact ⟨h1, rest, h2.dimR⟩
abbrev ahx := Nat → List V → Option (Bool × List V)
def wI (G : ahx) (Γ : aM) : aM := fun f vs hp =>
 match G f vs with
 | some (c, cs) => cond (vs.all V.flat && cs.all V.flatO) (some (c, .ptr hp.length 0, hp ++ [some cs])) none
 | none => Γ f vs hp
theorem alz {G : ahx} {Γ : aM} (hG : ∀ f vs cs, G f vs = some (true, cs) → qu P f vs cs) (hΓ : cC P Γ) : cC P (wI G Γ) := by
 intro f vs hp v hp' h
 unfold wI at h
 split at h
 ·rename_i c cs hg
  cases hst : (vs.all V.flat && cs.all V.flatO) with
  | false => rw [hst] at h; simp at h
  | true =>
    rw [hst] at h
    simp only [cond_true, Option.some.injEq, Prod.mk.injEq] at h
    obtain ⟨rfl, rfl, rfl⟩ := h
    simp only [Bool.and_eq_true] at hst
    exact (hG f vs cs hg).frame hst.1 hst.2 hp
 ·exact hΓ _ _ _ _ _ h
theorem aj9 {G : ahx} {Γ : aM} {imp : List Nat} (hG : ∀ f vs, imp.contains f = false → G f vs = none) (hG' : ∀ f vs, imp.contains (f + 2000000) = true → G f vs = none) (hΓ : cM Γ imp) : cM (wI G Γ) imp := by
 refine ⟨?_, ?_⟩
 ·intro f vs hp hf
  have e : ∀ hp, wI G Γ f vs hp = Γ f vs hp := by
   intro hp
   unfold wI
   rw [hG f vs hf]
  rw [e, e]
  exact hΓ.pure f vs hp hf
 ·intro f vs hp c v hp' hf h
  have e : ∀ hp, wI G Γ f vs hp = Γ f vs hp := by
   intro hp
   unfold wI
   rw [hG' f vs hf]
  rw [e] at h
  obtain ⟨q, q1, q2, q3⟩ := hΓ.loc _ _ _ _ _ _ hf h
  exact ⟨q, q1, q2, fun hp2 hl hh => by rw [e]; exact q3 hp2 hl hh⟩
def pick {R : Type} [Inhabited R] (C : R → Prop) : R := @Classical.epsilon R ⟨default⟩ C
def can {R : Type} [Inhabited R] (C : R → Prop) : Bool := @decide (C (pick C)) (Classical.propDecidable _)
theorem aeb {R : Type} [Inhabited R] {C : R → Prop} (h : ∃ r, C r) : can C = true := @decide_eq_true _ (Classical.propDecidable _) (Classical.epsilon_spec h)
theorem xO {R : Type} [Inhabited R] {C : R → Prop} (h : can C = true) : C (pick C) := @of_decide_eq_true _ (Classical.propDecidable _) h
def aF {R R' : Type} [Inhabited R'] (C : R' → Prop) (K : R' → Option R) : Option R := chk (can C) (K (pick C))
def zk {R R' : Type} [Inhabited R'] (C : R' → Prop) (T : Bool) (K : R' → Option R) : Option R := chk (can C && T) (K (pick C))
end
end Go.AM
end
noncomputable section
namespace Go.AM
set_option autoImplicit false
set_option linter.unusedSimpArgs false
theorem alZ {R : Type} (x : Option R) : chk true x = x := rfl
theorem ahO (n : Int) : IntKind.u64.wrap n = n % 18446744073709551616 := by simp [IntKind.wrap, IntKind.bits, IntKind.signed]
theorem ahP (n : Int) : IntKind.u32.wrap n = n % 4294967296 := by simp [IntKind.wrap, IntKind.bits, IntKind.signed]
theorem amb (n : Int) : IntKind.u8.wrap n = n % 256 := by simp [IntKind.wrap, IntKind.bits, IntKind.signed]
theorem adv (n : Int) : IntKind.i64.wrap n = (n + 9223372036854775808) % 18446744073709551616 - 9223372036854775808 := by
 simp [IntKind.wrap, IntKind.bits, IntKind.signed]; omega
theorem ahQ (n : Int) : IntKind.i32.wrap n = (n + 2147483648) % 4294967296 - 2147483648 := by
 simp [IntKind.wrap, IntKind.bits, IntKind.signed]; omega
theorem aJ (n : Int) (h : -9223372036854775808 ≤ n ∧ n ≤ 9223372036854775807) : IntKind.i64.wrap n = n := by rw [adv]; omega
theorem xa (n : Int) (h : 0 ≤ n ∧ n ≤ 18446744073709551615) : IntKind.u64.wrap n = n := by rw [ahO]; omega
theorem acZ (n : Int) (h : 0 ≤ n ∧ n ≤ 4294967295) : IntKind.u32.wrap n = n := by rw [ahP]; omega
theorem aec (n : Int) (h : 0 ≤ n ∧ n ≤ 255) : IntKind.u8.wrap n = n := by rw [amb]; omega
end Go.AM
end
noncomputable section
namespace Go.AM
set_option autoImplicit false
def pk (w : World) : Gh := { I := fun b j => (w.cell? ⟨b, j, none⟩).isSome = true, ρ := id, O := fun _ => none, β := 0 }
theorem akT {P : Program} {f : FuncId} {vs : List V} (h : aO P f vs (.bool true)) {cargs : Array Value} {w : World} (hl : vs.length = cargs.size) (hb : ∀ x ∈ vs, x.bare = true)
  (hr : ∀ (i : Nat) x cv, vs[i]? = some x → cargs[i]? = some cv → VRel (pk w).I id 0 w x cv) :
  Calls P f cargs w fun e w' => e = .returned (.bool true) ∧ RowKit.Below w.heap.size w w' := by
 obtain ⟨hp', h⟩ := h
 refine (h w { pk w with β := hU P } cargs rfl ⟨by simp, by simp, by simp, by simp, fun b j hi => hi, by simp [pk]⟩ hl hb hr).mono ?_
 rintro e w' ⟨cv, g', rfl, _, q2, q3, _⟩
 cases q3
 exact ⟨rfl, q2.os, q2.tape, q2.output, q2.size, fun b hb => q2.block b hb (by simp) rfl⟩
end Go.AM
end
noncomputable section
namespace Go.AM
set_option autoImplicit false
theorem dt {p : Prop} [Decidable p] (h : p) : decide p = true := decide_eq_true h
theorem df {p : Prop} [Decidable p] (h : ¬p) : decide p = false := decide_eq_false h
theorem bt {a b : Int} (h : a = b) : (a == b) = true := by simp [h]
theorem bf {a b : Int} (h : a ≠ b) : (a == b) = false := by simp [h]
theorem it {α : Type} {p : Prop} [Decidable p] {a b : α} (h : p) : (if p then a else b) = a := if_pos h
theorem iF {α : Type} {p : Prop} [Decidable p] {a b : α} (h : ¬p) : (if p then a else b) = b := if_neg h
theorem ajH {a b : Int} (h : 0 ≤ a) : Int.tdiv a b = a / b := Int.tdiv_eq_ediv_of_nonneg h
theorem ajI {a b : Int} (h : 0 ≤ a) : Int.tmod a b = a % b := Int.tmod_eq_emod_of_nonneg h
theorem agi {α β : Type} (f : α → β) (x : α) : Option.map f (some x) = some (f x) := rfl
theorem ac0 (n : Int) (h : -2147483648 ≤ n ∧ n ≤ 2147483647) : IntKind.i32.wrap n = n := by rw [ahQ]; omega
theorem ahR {cs : List V} (h : (V.agg cs).fits) (n : Int) (hm : V.int .u64 n ∈ cs) : 0 ≤ n ∧ n ≤ 18446744073709551615 := by
 have := h _ hm
 simpa [IntKind.min, IntKind.max, IntKind.signed, IntKind.bits] using this
theorem fG : type_of% @dt ∧ type_of% @df ∧ type_of% @it ∧ type_of% @iF ∧ type_of% @bt ∧ type_of% @bf ∧ type_of% @cond_true.{1} ∧ type_of% @cond_false.{1} ∧ type_of% @agi ∧ type_of% @alZ ∧ type_of% @Bool.and_true ∧ type_of% @Bool.true_and ∧ type_of% @Bool.and_false ∧ type_of% @Bool.false_and ∧ type_of% @Bool.or_true ∧ type_of% @Bool.true_or ∧ type_of% @Bool.or_false ∧ type_of% @Bool.false_or ∧ type_of% @Bool.not_true ∧ type_of% @Bool.not_false ∧ type_of% @if_true.{1} ∧ type_of% @if_false.{1} ∧ type_of% @beq_self_eq_true.{0} ∧ type_of% @aJ ∧ type_of% @xa ∧ type_of% @ac0 ∧ type_of% @acZ ∧ type_of% @aec ∧ type_of% @ajH ∧ type_of% @ajI ∧ type_of% @Int.toNat_natCast ∧ type_of% @List.take_length.{0} ∧ type_of% @List.drop_zero.{0} ∧ type_of% @or_true ∧ type_of% @true_or ∧ type_of% @or_false ∧ type_of% @false_or ∧ type_of% @or_self := ⟨@dt, @df, @it, @iF, @bt, @bf, @cond_true.{1}, @cond_false.{1}, @agi, @alZ, @Bool.and_true, @Bool.true_and, @Bool.and_false, @Bool.false_and, @Bool.or_true, @Bool.true_or, @Bool.or_false, @Bool.false_or, @Bool.not_true, @Bool.not_false, @if_true.{1}, @if_false.{1}, @beq_self_eq_true.{0}, @aJ, @xa, @ac0, @acZ, @aec, @ajH, @ajI, @Int.toNat_natCast, @List.take_length.{0}, @List.drop_zero.{0}, @or_true, @true_or, @or_false, @false_or, @or_self⟩
theorem bnl : type_of% @decide_eq_true_eq ∧ type_of% @decide_eq_false_iff_not ∧ type_of% @Bool.and_eq_true ∧ type_of% @Bool.and_eq_false_iff ∧ type_of% @Bool.or_eq_true ∧ type_of% @Bool.or_eq_false_iff ∧ type_of% @Bool.not_eq_true' ∧ type_of% @Bool.not_eq_false' ∧ type_of% @beq_iff_eq.{0} ∧ type_of% @beq_eq_false_iff_ne.{0} ∧ type_of% @Int.not_lt ∧ type_of% @Int.not_le ∧ type_of% @Nat.not_lt ∧ type_of% @Nat.not_le ∧ type_of% @ne_eq.{1} ∧ type_of% @Nat.beq_eq ∧ type_of% @true_and ∧ type_of% @and_true ∧ type_of% @Bool.not_not := ⟨@decide_eq_true_eq, @decide_eq_false_iff_not, @Bool.and_eq_true, @Bool.and_eq_false_iff, @Bool.or_eq_true, @Bool.or_eq_false_iff, @Bool.not_eq_true', @Bool.not_eq_false', @beq_iff_eq.{0}, @beq_eq_false_iff_ne.{0}, @Int.not_lt, @Int.not_le, @Nat.not_lt, @Nat.not_le, @ne_eq.{1}, @Nat.beq_eq, @true_and, @and_true, @Bool.not_not⟩
theorem lnl : type_of% @List.length_append.{0} ∧ type_of% @List.length_cons.{0} ∧ type_of% @List.length_nil.{0} ∧ type_of% @List.length_drop.{0} ∧ type_of% @List.length_take.{0} ∧ type_of% @List.length_set.{0} ∧ type_of% @List.length_replicate.{0} := ⟨@List.length_append.{0}, @List.length_cons.{0}, @List.length_nil.{0}, @List.length_drop.{0}, @List.length_take.{0}, @List.length_set.{0}, @List.length_replicate.{0}⟩
end Go.AM
end
noncomputable section
namespace Go.AM
set_option autoImplicit false
set_option linter.unusedVariables false
def Tot {R : Type} (x : Option R) (Q : R → Prop) : Prop := ∃ r, x = some r ∧ Q r
section
variable {R : Type} {Q : R → Prop}
theorem alA {x : Option R} {Q' : R → Prop} (h : Tot x Q) (hq : ∀ r, Q r → Q' r) : Tot x Q' := by
 obtain ⟨r, e, h⟩ := h
 exact ⟨r, e, hq r h⟩
theorem bd {α : Type} {B : (α → Option R) → α → Option R} (Inv : α → Prop) (μ : α → Nat)
  (step : ∀ (again : α → Option R) x, Inv x → (∀ y, Inv y → μ y < μ x → Tot (again y) Q) → Tot (B again x) Q) : ∀ n x, Inv x → μ x < n → Tot (aW n B x) Q
 | 0, _, _, h => by omega
 | n + 1, x, hi, hm => step (aW n B) x hi fun y hy hlt => bd Inv μ step n y hy (by omega)
theorem aG {r : R} (h : Q r) : Tot (some r) Q := ⟨r, rfl, h⟩
theorem aN {c : Bool} {x : Option R} (hc : c = true) (h : Tot x Q) : Tot (chk c x) Q := by subst hc; exact h
theorem vck {c : Bool} {x : Option R} (h : Tot x Q) (hc : c = true := by first | (simp only [bnl, lnl]; done) | (simp only [bnl, lnl]; omega)) : Tot (chk c x) Q := aN hc h
theorem aD {b : Bool} {x y : Option R} (h1 : b = true → Tot x Q) (h2 : b = false → Tot y Q) : Tot (cond b x y) Q := by
 cases b with
 | true => exact h1 rfl
 | false => exact h2 rfl
theorem acG {R : Type} [Inhabited R] {C : R → Prop} (h : ∃ r, C r) : C (pick C) := xO (aeb h)
theorem aE {R' : Type} [Inhabited R'] {C : R' → Prop} {K : R' → Option R} (h : ∃ r, C r) (hK : ∀ r, C r → Tot (K r) Q) : Tot (aF C K) Q :=
 aN (aeb h) (hK _ (acG h))
theorem ae9 {R' : Type} [Inhabited R'] {C : R' → Prop} {T : Bool} {K : R' → Option R} (hT : T = true) (h : ∃ r, C r) (hK : ∀ r, C r → Tot (K r) Q) : Tot (zk C T K) Q :=
 aN (by rw [aeb h, hT]; rfl) (hK _ (acG h))
end
end Go.AM
end
noncomputable section
namespace Go.AM
set_option autoImplicit false
set_option linter.unusedVariables false
def bL {R : Type} (C : Nat → St → Option R) (Γ : aM) (n : Nat) : IR → (Ex → St → Option R) → St → Option R
 | .skip, K, s => K .normal s
 | .bad, _, _ => none
 | .reg ops _, K, s => dk Γ ops (K .normal) s
 | .seq a b, K, s => bL C Γ n a (bv (bL C Γ n b) K) s
 | .cond c a b, K, s => match c.ev s with
   | .bool t => cond t (bL C Γ n a K (c.fix s true)) (bL C Γ n b K (c.fix s false))
   | _ => none
 | .block id a, K, s => bL C Γ n a (aT id K) s
 | .loop live m a, K, s => C (live.getLastD 0) (s.keep live m)
 | .cut live m a, K, s => C (live.getLastD 0) (s.keep live m)
 | .gh g a, K, s => match g.step s with
   | some (c, s') => chk c (bL C Γ n a K s')
   | none => none
 | .ghp g a, K, s => bL C Γ n a (ahv g K) s
 | .exit id, K, s => K (.exit id) s
 | .ret, K, s => K .ret s
def ba {R : Type} (Γ : aM) (n : Nat) : IR → (Ex → St → Option R) → List (Nat × (St → Option R))
 | .seq a b, K => ba Γ n a (bv (run Γ n b) K) ++ ba Γ n b K
 | .cond _ a b, K => ba Γ n a K ++ ba Γ n b K
 | .block id a, K => ba Γ n a (aT id K)
 | .loop live m a, K => [(live.getLastD 0, fun s => bi n (fun again s => run Γ n a (bD again live m K) s) s)]
 | .cut live m a, K => [(live.getLastD 0, fun s => run Γ n a K s)]
 | .gh g a, K => ba Γ n a K
 | .ghp g a, K => ba Γ n a (ahv g K)
 | _, _ => []
theorem afa {R : Type} {C : Nat → St → Option R} {Γ : aM} {n : Nat} : ∀ (ir : IR) (K : Ex → St → Option R), (∀ p ∈ ba Γ n ir K, C p.1 = p.2) → ∀ s, bL C Γ n ir K s = run Γ n ir K s := by
 intro ir
 induction ir with
 | seq a b iha ihb =>
   intro K h s
   have e : bv (bL C Γ n b) K = bv (run Γ n b) K := by
    funext e s
    cases e with
    | normal => exact ihb K (fun p hp => h p (List.mem_append_right _ hp)) s
    | _ => rfl
   show bL C Γ n a (bv (bL C Γ n b) K) s = run Γ n a (bv (run Γ n b) K) s
   rw [e]
   exact iha _ (fun p hp => h p (List.mem_append_left _ hp)) s
 | cond c a b iha ihb =>
   intro K h s
   simp only [bL, run, iha K (fun p hp => h p (List.mem_append_left _ hp)), ihb K (fun p hp => h p (List.mem_append_right _ hp))]
   cases c.ev s <;> rfl
 | block id a iha => intro K h s; exact iha _ h s
 | loop live m a iha =>
   intro K h s
   have := h (live.getLastD 0, _) (List.mem_singleton.2 rfl)
   simp only [bL, run]
   rw [this]
 | cut live m a iha =>
   intro K h s
   have := h (live.getLastD 0, _) (List.mem_singleton.2 rfl)
   simp only [bL, run]
   rw [this]
 | gh g a iha =>
   intro K h s
   simp only [bL, run, iha K h]
   cases g.step s <;> rfl
 | ghp g a iha => intro K h s; exact iha _ h s
 | _ => intro K h s; rfl
def eQ {R : Type} : List (Nat × (St → Option R)) → Nat → St → Option R
 | [], _ => fun _ => none
 | (j, f) :: l, i => cond (Nat.beq j i) f (eQ l i)
def zl : List Nat → Bool
 | [] => true
 | i :: l => !(l.any (Nat.beq i)) && zl l
theorem be {R : Type} : ∀ {l : List (Nat × (St → Option R))}, zl (l.map Prod.fst) = true → ∀ p ∈ l, eQ l p.1 = p.2
 | [], _, p, hp => by simp at hp
 | (j, f) :: l, h, p, hp => by
   simp only [List.map_cons, zl, Bool.and_eq_true, Bool.not_eq_true', List.any_eq_false] at h
   rcases List.mem_cons.1 hp with rfl | hp
   ·simp [eQ]
   ·have hne : Nat.beq j p.1 = false := by
     cases hb : Nat.beq j p.1 with
     | false => rfl
     | true =>
       have := h.1 p.1 (List.mem_map.2 ⟨p, hp, rfl⟩)
       exact absurd hb this
    simp only [eQ, hne, cond_false]
    exact be h.2 p hp
theorem gu {R : Type} {C : Nat → St → Option R} {Γ : aM} {n : Nat} {b : IR} {K K' : Ex → St → Option R} (h : ∀ p ∈ ba Γ n b K, C p.1 = p.2) (e : K' = K) : bv (bL C Γ n b) K' = bv (run Γ n b) K := by
 subst e
 funext e s
 cases e with
 | normal => exact afa b K' h s
 | _ => rfl
theorem cT {R : Type} {i : Nat} {K K' : Ex → St → Option R} (e : K' = K) : aT i K' = aT i K := by rw [e]
theorem pW {R : Type} {again : St → Option R} {live : List Nat} {m : Nat} {K K' : Ex → St → Option R} (e : K' = K) : bD again live m K' = bD again live m K := by rw [e]
theorem bU {R : Type} {C : Nat → St → Option R} {l l' : List (Nat × (St → Option R))} (h : ∀ p ∈ l ++ l', C p.1 = p.2) : ∀ p ∈ l, C p.1 = p.2 := fun p hp => h p (List.mem_append_left _ hp)
theorem du {R : Type} {C : Nat → St → Option R} {l l' : List (Nat × (St → Option R))} (h : ∀ p ∈ l ++ l', C p.1 = p.2) : ∀ p ∈ l', C p.1 = p.2 := fun p hp => h p (List.mem_append_right _ hp)
theorem cN {R : Type} {C : Nat → St → Option R} {Γ : aM} {n : Nat} {ir : IR} {K K' : Ex → St → Option R} (h : ∀ p ∈ ba Γ n ir K, C p.1 = p.2) (e : K' = K) (s : St) : run Γ n ir K s = bL C Γ n ir K' s := by
 subst e
 exact (afa ir K' h s).symm
abbrev Ro := Option (V × List aI)
abbrev Bs := List UInt8
abbrev Bss := List (List UInt8)
def U (n : Nat) (l : List V) : List V := List.replicate n .undef ++ l
def Pp (o : IOp) : GOp := ⟨none, o, none⟩
def Mv (d x : Nat) : GOp := ⟨none, .mov d (.t x), none⟩
def Fa (d o x : Nat) : GOp := ⟨none, .fad d o (.t x), none⟩
def Ld (d n : Nat) (a : Bool) (x : Nat) : GOp := ⟨none, .lde d n a (.t x), none⟩
def Pa (d c x : Nat) : GOp := ⟨none, .pick d (.t c) (.t x) (.c (.bool false)), none⟩
def Po (d c x : Nat) : GOp := ⟨none, .pick d (.t c) (.c (.bool true)) (.t x), none⟩
def Bi (d : Nat) (o : BinOp) (x y : Nat) : GOp := ⟨none, .bin d o (.t x) (.t y), none⟩
def Bc (d : Nat) (o : BinOp) (x : Nat) (n : Int) : GOp := ⟨none, .bin d o (.t x) (.c (.int .i64 n)), none⟩
def Ex_ (d i x : Nat) : GOp := ⟨none, .ext d i (.t x), none⟩
def Nk (d x : Nat) : GOp := ⟨none, .nck (some d) (.t x), none⟩
instance (n : Nat) : OfNat aL n := ⟨.t n⟩
instance (n : Nat) : OfNat (Option Nat) n := ⟨some n⟩
def Rg (l : List GOp) : IR := .reg l []
def Rs (l : List GOp) (a : IR) : IR := .seq (.reg l []) a
def Sq (a b : IR) : IR := .seq a b
def Cn (c : Nat) (a b : IR) : IR := .cond (.t c) a b
def Gt (g : Nat) (o : IOp) : GOp := ⟨some (g, true), o, none⟩
def Gf (g : Nat) (o : IOp) : GOp := ⟨some (g, false), o, none⟩
def Fo (r w : List Nat) (o : IOp) : GOp := ⟨none, o, some (r, w)⟩
def Mi (d : Nat) (n : Int) : GOp := ⟨none, .mov d (.c (.int .i64 n)), none⟩
def Ms (d : Nat) (s : List UInt8) : GOp := ⟨none, .mov d (.c (.str s)), none⟩
def Mb (d : Nat) (b : Bool) : GOp := ⟨none, .mov d (.c (.bool b)), none⟩
def Lq (d x : Nat) : GOp := ⟨none, .lde d 1 false (.t x), none⟩
def Lo (d x : Nat) : GOp := ⟨none, .ld d 1 false false (.t x), none⟩
def Ca (d f : Nat) (l : List aL) : GOp := ⟨none, .call (some d) f l, none⟩
def Ix (d : Nat) (k : EK) (x i : Nat) : GOp := ⟨none, .ixa d k (.t x) (.t i), none⟩
def Ll (d x : Nat) : GOp := ⟨none, .lenl d (.t x), none⟩
def Un (d x : Nat) : GOp := ⟨none, .un d .not (.t x), none⟩
def Bx (d x : Nat) : GOp := ⟨none, .boxe d (.t x), none⟩
def Fz (r n v : Nat) : GOp := ⟨none, .frz none r n (.t v), none⟩
def Sv (n x v : Nat) : GOp := ⟨none, .st none n (.t x) (.t v), none⟩
def Sk (n x v : Nat) : GOp := ⟨none, .st none n (.t x) (.tk v), none⟩
def kI (n : Int) : aL := .c (.int .i64 n)
def kU (n : Int) : aL := .c (.int .u64 n)
def kS (s : List UInt8) : aL := .c (.str s)
def kB (b : Bool) : aL := .c (.bool b)
def vI (n : Int) : V := .int .i64 n
def vU (n : Int) : V := .int .u64 n
def vS : V := .str []
def nl (k : EK) : V := .sl k .own []
def fu (k : EK) (b : Bool) : V := .sl k (.may b) []
def rg (a b : Nat) : List Nat := List.range' a (b + 1 - a)
theorem bH {Γ : aM} {N n : Nat} {rs : List RV} {ir : IR} {vs : List V} {hp : List aI} (l : List (Nat × (St → Ro))) (hl : zl (l.map Prod.fst) = true) (e : l = ba Γ N ir (fin rs) ++ [])
  (S : (Nat → St → Ro) → Ro) (hS : ∀ C, bL C Γ N ir (fin rs) (AM.start n vs hp) = S C) : bb Γ N n rs ir vs hp = S (eQ l) := by
 refine Eq.trans ?_ (hS _)
 exact (afa ir (fin rs) (fun p hp => be hl p (by rw [e]; exact List.mem_append_left _ hp)) _).symm
structure cn (P : Program) where
 id : Nat
 t : List V → Option (Bool × V)
 ok : ∀ vs v, t vs = some (true, v) → aO P id vs v ∧ vs.all V.flat = true ∧ v.flat = true
structure eo (P : Program) where
 id : Nat
 t : List V → List (List V) → Option (Bool × V × List (List V))
 ok : ∀ us css v css', t us css = some (true, v, css') → aY P id us css v css'
structure zm (P : Program) where
 id : Nat
 t : List V → Option (Bool × List V)
 ok : ∀ us cs, t us = some (true, cs) → qu P id us cs
section
variable {P : Program}
def xb : List (cn P) → Nat → List V → Option (Bool × V)
 | [], _, _ => none
 | r :: l, f, vs => cond (Nat.beq r.id f) (r.t vs) (xb l f vs)
def adw : List (eo P) → ad8
 | [], _, _, _ => none
 | r :: l, f, us, css => cond (Nat.beq r.id f) (r.t us css) (adw l f us css)
def adx : List (zm P) → ahx
 | [], _, _ => none
 | r :: l, f, us => cond (Nat.beq r.id f) (r.t us) (adx l f us)
theorem afb : ∀ (l : List (cn P)) f vs v, xb l f vs = some (true, v) → aO P f vs v ∧ vs.all V.flat = true ∧ v.flat = true
 | [], _, _, _, h => by simp [xb] at h
 | r :: l, f, vs, v, h => by
   unfold xb at h
   cases hb : Nat.beq r.id f with
   | true =>
     rw [hb] at h
     have e : r.id = f := Nat.eq_of_beq_eq_true hb
     subst e
     exact r.ok vs v h
   | false => rw [hb] at h; exact afb l f vs v h
theorem ajJ : ∀ (l : List (eo P)) f us css v css', adw l f us css = some (true, v, css') → aY P f us css v css'
 | [], _, _, _, _, _, h => by simp [adw] at h
 | r :: l, f, us, css, v, css', h => by
   unfold adw at h
   cases hb : Nat.beq r.id f with
   | true =>
     rw [hb] at h
     have e : r.id = f := Nat.eq_of_beq_eq_true hb
     subst e
     exact r.ok _ _ _ _ h
   | false => rw [hb] at h; exact ajJ l f us css v css' h
theorem ajK : ∀ (l : List (zm P)) f us cs, adx l f us = some (true, cs) → qu P f us cs
 | [], _, _, _, h => by simp [adx] at h
 | r :: l, f, us, cs, h => by
   unfold adx at h
   cases hb : Nat.beq r.id f with
   | true =>
     rw [hb] at h
     have e : r.id = f := Nat.eq_of_beq_eq_true hb
     subst e
     exact r.ok _ _ h
   | false => rw [hb] at h; exact ajK l f us cs h
theorem agj : ∀ (l : List (eo P)) f us css, (∀ r ∈ l, r.id ≠ f) → adw l f us css = none
 | [], _, _, _, _ => rfl
 | r :: l, f, us, css, h => by
   unfold adw
   have hb : Nat.beq r.id f = false := by
    cases hb : Nat.beq r.id f with
    | true => exact absurd (Nat.eq_of_beq_eq_true hb) (h r (by simp))
    | false => rfl
   rw [hb]
   exact agj l f us css fun r hr => h r (by simp [hr])
theorem abu : ∀ (l : List (zm P)) f us, (∀ r ∈ l, r.id ≠ f) → adx l f us = none
 | [], _, _, _ => rfl
 | r :: l, f, us, h => by
   unfold adx
   have hb : Nat.beq r.id f = false := by
    cases hb : Nat.beq r.id f with
    | true => exact absurd (Nat.eq_of_beq_eq_true hb) (h r (by simp))
    | false => rfl
   rw [hb]
   exact abu l f us fun r hr => h r (by simp [hr])
theorem zn (l : List (cn P)) : cC P (rq (xb l)) := by
 intro f vs hp v hp' h0
 obtain ⟨h, e⟩ := agc h0
 subst e
 obtain ⟨h1, h2, h3⟩ := afb l f vs v h
 exact h1.frame h2 h3 _
def tab (N : List (zm P)) (O : List (eo P)) (ls : List Nat) (G : List (cn P)) : aM := wI (adx N) (pV (adw O) (ry ls (xb G) (rq (xb G))))
theorem amN (N : List (zm P)) (O : List (eo P)) (ls : List Nat) (G : List (cn P)) : cC P (tab N O ls G) :=
 alz (ajK N) (akQ (ajJ O) (alx (fun f vs v h => (afb G f vs v h).1) (zn G)))
def alB (N : List (zm P)) (O : List (eo P)) (ls imp : List Nat) : Bool :=
 N.all (fun r => imp.contains r.id && !imp.contains (r.id + 2000000)) && O.all (fun r => imp.contains r.id) && (ls ++ imp.filter (fun x => !Nat.blt x 2000000)).all (fun x => imp.contains x)
theorem alC {N : List (zm P)} {O : List (eo P)} {ls : List Nat} {G : List (cn P)} {imp : List Nat} (h : alB N O ls imp = true) : cM (tab N O ls G) imp := by
 simp only [alB, Bool.and_eq_true, List.all_eq_true, Bool.not_eq_true'] at h
 obtain ⟨⟨h1, h2⟩, h3⟩ := h
 refine aj9 (fun f us hf => abu N f us ?_) (fun f us hf => abu N f us ?_) (ai5 (fun f us css hf => agj O f us css ?_) (aj8 (rt _ _) (List.all_eq_true.2 h3) ?_))
 ·rintro r hr rfl
  rw [(h1 r hr).1] at hf
  cases hf
 ·rintro r hr rfl
  rw [(h1 r hr).2] at hf
  cases hf
 ·rintro r hr rfl
  rw [h2 r hr] at hf
  cases hf
 ·refine List.all_eq_true.2 fun x hx => ?_
  cases hb : Nat.blt x 2000000 with
  | true => rfl
  | false =>
    simp only [Bool.false_or]
    rw [List.contains_iff_mem]
    exact List.mem_filter.2 ⟨hx, by simp [hb]⟩
theorem bB {f : FuncId} {vs : List V} {a v : V} {R : Type} [Inhabited R] {C : R → Prop} (h : some (can C, a) = some (true, v)) (k : C (pick C) → aO P f vs a) (hf : vs.all V.flat = true) (hv : a.flat = true) :
  aO P f vs v ∧ vs.all V.flat = true ∧ v.flat = true := by
 simp only [Option.some.injEq, Prod.mk.injEq] at h
 obtain ⟨hc, rfl⟩ := h
 exact ⟨k (xO hc), hf, hv⟩
theorem cr {f : FuncId} {vs : List V} {a v : V} {css cs cs' : List (List V)} {R : Type} [Inhabited R] {C : R → Prop} (h : some (can C, a, cs) = some (true, v, cs')) (k : C (pick C) → aY P f vs css a cs) : aY P f vs css v cs' := by
 simp only [Option.some.injEq, Prod.mk.injEq] at h
 obtain ⟨hc, rfl, rfl⟩ := h
 exact k (xO hc)
theorem amc {f : FuncId} {vs cs cs' : List V} {R : Type} [Inhabited R] {C : R → Prop} (h : some (can C, cs) = some (true, cs')) (k : C (pick C) → qu P f vs cs) : qu P f vs cs' := by
 simp only [Option.some.injEq, Prod.mk.injEq] at h
 obtain ⟨hc, rfl⟩ := h
 exact k (xO hc)
end
structure FnC (P : Program) (Γ : aM) (imp : List Nat) (k : Nat) (f : FuncId) (fn : Func) (ir : IR) (rs : List RV) : Prop where
 spec : cC P Γ
 imps : cM Γ imp
 func : P.funcs[f]? = some fn
 body : fn.body = some (fn.body.getD .skip)
 chk : (bY P imp k ir (fn.body.getD .skip) && rv P rs fn.results.toList) = true
 small : fn.results.toList.length ≤ 5
section
variable {P : Program} {Γ : aM} {imp : List Nat} {k n : Nat} {f : FuncId} {fn : Func} {ir : IR} {rs : List RV} {vs : List V} {x : Ro}
theorem FnC.fnOK (h : FnC P Γ imp k f fn ir rs) {hp hp' : List aI} {v : V} (hk : hp.length = k) (hr : bb Γ n fn.ntmps rs ir vs hp = some (v, hp')) : iJ P f vs hp v hp' := by
 subst hk
 have hc := h.chk
 simp only [Bool.and_eq_true] at hc
 exact ajG h.spec h.imps h.func h.body hc.1 hc.2 h.small hr
theorem FnC.pure (h : FnC P Γ imp 0 f fn ir rs) (hr : bb Γ n fn.ntmps rs ir vs [] = x) {v : V} {hp' : List aI} (hz : x = some (v, hp')) : aO P f vs v := ⟨hp', h.fnOK rfl (hr.trans hz)⟩
theorem FnC.newFn (h : FnC P Γ imp 0 f fn ir rs) (hr : bb Γ n fn.ntmps rs ir vs [] = x) {cs : List V} (hz : x = some (.ptr 0 0, [some cs])) : qu P f vs cs := h.fnOK rfl (hr.trans hz)
theorem FnC.objs {css css' : List (List V)} {rest : List aI} (h : FnC P Γ imp css.length f fn ir rs) (hr : bb Γ n fn.ntmps rs ir vs (css.map some) = x) {v : V} (hz : x = some (v, css'.map some ++ rest)) (hl : css'.length = css.length) :
  aY P f vs css v css' := ⟨hl, rest, h.fnOK (by simp) (hr.trans hz)⟩
theorem fnC {N : List (zm P)} {O : List (eo P)} {ls : List Nat} {G : List (cn P)} (h : alB N O ls imp = true) (func : P.funcs[f]? = some fn) (body : fn.body = some (fn.body.getD .skip))
  (chk : (bY P imp k ir (fn.body.getD .skip) && rv P rs fn.results.toList) = true) (small : fn.results.toList.length ≤ 5) : FnC P (tab N O ls G) imp k f fn ir rs := ⟨amN N O ls G, alC h, func, body, chk, small⟩
end
end Go.AM
end
noncomputable section
namespace Go.Proofs.Ytdpajabhmmmjoaa
open Go.AM
set_option autoImplicit false
set_option linter.unusedVariables false
def gly (r : Nat) : List UInt8 :=
 if r < 128 then [UInt8.ofNat r]
 else if r < 2048 then [UInt8.ofNat (192 + r / 64), UInt8.ofNat (128 + r % 64)]
 else if (55296 ≤ r ∧ r < 57344) ∨ 1114111 < r then [239, 191, 189]
 else if r < 65536 then [UInt8.ofNat (224 + r / 4096), UInt8.ofNat (128 + r / 64 % 64), UInt8.ofNat (128 + r % 64)]
 else [UInt8.ofNat (240 + r / 262144), UInt8.ofNat (128 + r / 4096 % 64), UInt8.ofNat (128 + r / 64 % 64), UInt8.ofNat (128 + r % 64)]
def hZ (n v : Nat) (s : List UInt8) : Nat × Nat :=
 if s.length < n then (0, 0)
 else
  let r := (s.take n).tail.foldl (fun a b => a * 64 + b.toNat % 64) v
  if gly r = s.take n then (r, n) else (0, 0)
def gZ (s : List UInt8) : Nat × Nat :=
 match s with
 | [] => (0, 0)
 | c :: _ =>
   if c.toNat < 128 then (c.toNat, 1)
   else if c.toNat / 32 = 6 then hZ 2 (c.toNat % 32) s
   else if c.toNat / 16 = 14 then hZ 3 (c.toNat % 16) s
   else if c.toNat / 8 = 30 then hZ 4 (c.toNat % 8) s
   else (0, 0)
def pX (s : List UInt8) : Int × Int := (((gZ s).1 : Int), ((gZ s).2 : Int))
def vi : Nat → List UInt8 → Bool
 | _, [] => true
 | 0, _ :: _ => false
 | k + 1, c :: s => if (gZ (c :: s)).2 = 0 then false else vi k ((c :: s).drop (gZ (c :: s)).2)
def jk (s : List UInt8) : Bool := vi s.length s
end Go.Proofs.Ytdpajabhmmmjoaa
end
noncomputable section
namespace Go.Proofs.Ytdpajabhmmmjoaa
open Go.AM
set_option autoImplicit false
set_option linter.unusedVariables false
def isT (ts : List ak) (t : Int) : Bool := decide (0 ≤ t) && decide (t < (ts.length : Int))
def iK (n : Int) (s : List UInt8) (l : List aB) (ks : List (List UInt8)) (b : Int) : Bool :=
 (n == 0) && (decide (s = ([] : List UInt8)) && (((l.length : Int) == 0) && (((ks.length : Int) == 0) && (b == 0))))
def aka (kind : Int) (syms : List (List UInt8)) (n : Int) : Bool :=
 cond (kind == 2) (decide (n ≤ 1)) (
  cond (kind == 3) (n == IntKind.wrap .u64 (IntKind.wrap .i64 (IntKind.wrap .i32 (IntKind.wrap .u32 n)))) (
   cond (kind == 5) (od .u64 n 32 == 0) (
    cond (kind == 10) (decide (n < IntKind.wrap .u64 (syms.length : Int))) true)))
def amS (kind size : Int) (s : List UInt8) : Bool :=
 cond (kind == 8) (jk s) (cond (kind == 11) ((s.length : Int) == size) true)
def l8 (p : List UInt8) : List (List UInt8) → Bool
 | [] => true
 | k :: l => jk k && (Op.bytesLess p k && l8 k l)
def jQ : List (List UInt8) → Bool
 | [] => true
 | k :: l => jk k && l8 k l
mutual
def szV : aB → Nat
 | .mk _ _ l _ _ => szL l + 1
def szL : List aB → Nat
 | [] => 0
 | v :: l => szV v + szL l
end
mutual
def cO (ts : List ak) (t : Int) : aB → Bool
 | .mk n s l ks b => isT ts t && (
   let k := ts.getD t.toNat (aC .atype)
   cond (k.kind == 1) (iK n s l ks b) (
   cond (k.kind == 2 || (k.kind == 3 || (k.kind == 4 || (k.kind == 5 || (k.kind == 6 || k.kind == 10))))) (aka k.kind k.syms n && iK 0 s l ks b) (
   cond (k.kind == 7 || (k.kind == 8 || k.kind == 11)) (amS k.kind k.size s && iK n [] l ks b) (
   cond (k.kind == 12) (cS ts k.items l && iK n s [] ks b) (
   cond (k.kind == 13) ((((ks.length : Int) == (l.length : Int)) && (jQ ks && cS ts k.items l)) && iK n s [] [] b) (
   cond (k.kind == 9) ((decide (l.length = k.fields.length) && vj ts k.fields l) && iK n s [] ks b) (
   cond (k.kind == 14) ((decide (0 ≤ b) && (decide (b < (k.branches.length : Int)) && (((l.length : Int) == 1) && cS ts (k.branches.getD b.toNat 0) l))) && iK n s [] ks 0)
   false)))))))
def cS (ts : List ak) (t : Int) : List aB → Bool
 | [] => true
 | v :: l => cO ts t v && cS ts t l
def vj (ts : List ak) (fs : List aQ) : List aB → Bool
 | [] => true
 | v :: l => cO ts ((fs.headD (aC .afield)).typ) v && vj ts fs.tail l
end
def vk : List (List UInt8) → Nat
 | [] => 0
 | k :: l => k.length + 10 + vk l
mutual
def wV : aB → Nat
 | .mk _ s l ks _ => 40 + s.length + vk ks + wL l
def wL : List aB → Nat
 | [] => 0
 | v :: l => wV v + wL l
end
end Go.Proofs.Ytdpajabhmmmjoaa
end
noncomputable section
namespace Go.Proofs.Ytdpajabhmmmjoaa
open Go.AM
set_option autoImplicit false
set_option linter.unusedVariables false
inductive aV : aA → Prop where
 | mk (k n : Int) (s : List UInt8) (l : List aA) (names : List (List UInt8)) (h1 : s.length ≤ 100) (h2 : l.length ≤ 8) (h3 : names.length ≤ l.length)
   (h4 : ∀ x ∈ names, x.length ≤ 100) (h5 : k = 6 → names.length = l.length) (h6 : ∀ c ∈ l, aV c) : aV (.mk k n s l names)
structure fZ (m : Nat) (t : ak) : Prop where
 items : 0 ≤ t.items ∧ t.items < m
 fields : ∀ f ∈ t.fields, 0 ≤ f.typ ∧ f.typ < m ∧ aV f.df
 nf : t.fields.length ≤ 8
 branches : ∀ b ∈ t.branches, 0 ≤ b ∧ b < (m : Int)
 nb : t.branches.length ≤ 100
 ns : t.syms.length ≤ 100
 size : 0 ≤ t.size ∧ t.size ≤ 5000
 done : t.kind = 14 → t.branches ≠ []
 kind : 1 ≤ t.kind ∧ t.kind ≤ 14
 enum : t.kind = 10 → t.syms ≠ []
 only : t.kind ≠ 9 → t.fields = []
def eU (ts : List ak) : Prop := (0 < ts.length ∧ ts.length ≤ 60) ∧ ∀ t ∈ ts, fZ ts.length t
structure bp (ts : List ak) (e : Int) (ts' : List ak) (e' : Int) : Prop where
 len : ts.length ≤ ts'.length
 cap : ts'.length ≤ 60
 err : e' = 0 → e = 0
 old : e' = 0 → ∀ i, i < ts.length → ts'[i]? = ts[i]?
 new : e' = 0 → ∀ (i : Nat) t, ts.length ≤ i → ts'[i]? = some t → fZ ts'.length t
def l9 (l : List UInt8) (n : Int) : Prop := 0 ≤ n ∧ n ≤ l.length ∧ l.length ≤ 1000
def kg : List (List UInt8) → List aA → List UInt8 → Option aA
 | x :: ns, c :: l, name => if x = name then some c else kg ns l name
 | _, _, _ => none
def om : Nat → Nat
 | 0 => 1
 | k + 1 => 1 + 4 * om k
def bK (l : List (List UInt8)) : Prop := ∀ x ∈ l, x.length ≤ 100
def sj (l : List UInt8) (n m : Int) (r : Int × List UInt8 × Int) : Prop := 0 ≤ r.1 ∧ r.1 < m ∧ r.2.1 = l ∧ l9 l r.2.2
def rz (l : List UInt8) (n : Int) (r : Bool × List UInt8 × Int) : Prop := r.2.1 = l ∧ r.2.2 = n
def xP (l : List UInt8) (r : List UInt8 × Int) : Prop := r = (l, 0)
def xQ (s : List UInt8) (r : Int × Int × List UInt8 × List aA × List (List UInt8)) : Prop := r = (4, 0, s, [], [])
def wJ (f0 : Bool) (names : List (List UInt8)) (f1 : Bool) (l : List aA) (r : Int × Int × List UInt8 × Bool × List aA × Bool × List (List UInt8)) : Prop := r = (6, 0, [], f1, l, f0, names)
def tY (o : Option aA) : Int × Int × List UInt8 × List aA × List (List UInt8) × Bool := match o with
 | some c => (c.kind, c.n, c.s, c.l, c.names, true)
 | none => (0, 0, [], [], [], false)
def qv (k n : Int) (s : List UInt8) (l : List aA) (names : List (List UInt8)) (name : List UInt8) (r : Int × Int × List UInt8 × List aA × List (List UInt8) × Bool) : Prop := r = tY (kg names l name)
def bQ (k n : Int) (s : List UInt8) (l : List aA) (names : List (List UInt8)) (name : List UInt8) (r : Int × Int × List UInt8 × List aA × List (List UInt8) × Bool) : Prop := r = tY (if k = 6 then kg names l name else none)
def al0 (a : List UInt8) (r : Int × Int × List UInt8 × List aA × List (List UInt8) × List UInt8 × Int) : Prop :=
 aV (.mk r.1 r.2.1 r.2.2.1 r.2.2.2.1 r.2.2.2.2.1) ∧ r.2.2.2.2.2.1 = a ∧ l9 a r.2.2.2.2.2.2
def akb (k : Nat) (a : List UInt8) (ns : List (List UInt8)) (r : Int × Int × List UInt8 × List aA × List (List UInt8) × List UInt8 × Int × List (List UInt8)) : Prop :=
 aV (.mk r.1 r.2.1 r.2.2.1 r.2.2.2.1 r.2.2.2.2.1) ∧ r.2.2.2.2.2.1 = a ∧ l9 a r.2.2.2.2.2.2.1 ∧ bK r.2.2.2.2.2.2.2 ∧ r.2.2.2.2.2.2.2.length ≤ ns.length + om k
def dv (a : List UInt8) (n : Int) (ns : List (List UInt8)) (deep : Int) (r : Int × Int × List UInt8 × List aA × List (List UInt8) × List UInt8 × Int × List (List UInt8)) : Prop := akb (5 - deep.toNat) a ns r
def qZ (a : List UInt8) (n : Int) (ns : List (List UInt8)) (deep : Int) (r : Int × Int × List UInt8 × List aA × List (List UInt8) × List UInt8 × Int × List (List UInt8)) : Prop := akb (5 - deep.toNat) a ns r
def pY (a : List UInt8) (n : Int) (ns : List (List UInt8)) (name : List UInt8) (deep : Int) (r : Int × Int × List UInt8 × List aA × List (List UInt8) × List UInt8 × Int × List (List UInt8)) : Prop :=
 akb (5 - deep.toNat) a ns r ∧ r.2.2.2.2.2.2.2.length + 1 ≤ ns.length + om (5 - deep.toNat)
def dx (a : List UInt8) (n c0 c1 : Int) (c2 : List UInt8) (c3 : List aA) (c4 : List (List UInt8)) (r : Int × Int × List UInt8 × List aA × List (List UInt8) × List UInt8 × Int) : Prop := al0 a r
def pZ (a : List UInt8) (n : Int) (r : Int × Int × List UInt8 × List aA × List (List UInt8) × List UInt8 × Int) : Prop := al0 a r
def ia (ts : List ak) (e c : Int) (r : Int × List ak × Int) : Prop := r = (0, ts, if e = 0 then c else e)
def iL (ts : List ak) (e a0 : Int) (a1 : List UInt8) (a2 : List (List UInt8)) (a3 : Int) (a4 : List (List UInt8)) (a5 : Bool) (a6 : List UInt8) (a7 : Int) (a8 : List aQ) (a9 : List Int) (r : Int × List ak × Int) : Prop :=
 r = if 60 ≤ ts.length then (0, ts, if e = 0 then 3 else e) else ((ts.length : Int), ts ++ [⟨a0, a1, a2, a3, a4, a5, a6, a7, a8, a9⟩], e)
def q8 (ts : List ak) (e : Int) (s : List UInt8) (r : Int × Bool × List ak × Int) : Prop := r.2.2 = (ts, e) ∧ (r.2.1 = true → 0 ≤ r.1 ∧ r.1 < ts.length)
def kP (ts : List ak) (e : Int) (s space : List UInt8) (r : Int × List ak × Int) : Prop := bp ts e r.2.1 r.2.2 ∧ (r.2.2 = 0 → 0 ≤ r.1 ∧ r.1 < r.2.1.length)
def dd (ts : List ak) (e c0 c1 : Int) (c2 : List UInt8) (c3 : List aA) (c4 : List (List UInt8)) (space : List UInt8) (deep : Int) (r : Int × List ak × Int) : Prop := bp ts e r.2.1 r.2.2 ∧ (r.2.2 = 0 → 0 ≤ r.1 ∧ r.1 < r.2.1.length)
def p5 (ts : List ak) (e c0 c1 : Int) (c2 : List UInt8) (c3 : List aA) (c4 : List (List UInt8)) (space : List UInt8) (deep : Int) (r : Int × List ak × Int) : Prop := bp ts e r.2.1 r.2.2 ∧ (r.2.2 = 0 → 0 ≤ r.1 ∧ r.1 < r.2.1.length)
def dM (ts : List ak) (e c0 c1 : Int) (c2 : List UInt8) (c3 : List aA) (c4 : List (List UInt8)) (k : Int) (space : List UInt8) (deep : Int) (r : Int × List ak × Int) : Prop := bp ts e r.2.1 r.2.2 ∧ (r.2.2 = 0 → 0 ≤ r.1 ∧ r.1 < r.2.1.length)
def q9 (ts : List ak) (e c0 c1 : Int) (c2 : List UInt8) (c3 : List aA) (c4 : List (List UInt8)) (name : List UInt8) (must : Bool) (r : List UInt8 × List ak × Int) : Prop := r.1.length ≤ 100 ∧ r.2.1 = ts ∧ (r.2.2 = 0 → e = 0)
def p6 (ts : List ak) (e : Int) (name space : List UInt8) (r : List UInt8 × List ak × Int) : Prop := r.1.length ≤ name.length + space.length + 1 ∧ r.2.1 = ts ∧ (r.2.2 = 0 → e = 0)
def kh (ts : List ak) (e c0 c1 : Int) (c2 : List UInt8) (c3 : List aA) (c4 : List (List UInt8)) (name : List UInt8) (r : List (List UInt8) × Bool × List ak × Int) : Prop := r.1.length ≤ 100 ∧ bK r.1 ∧ r.2.2.1 = ts ∧ (r.2.2.2 = 0 → e = 0)
def ct (ts : List ak) (e c0 c1 : Int) (c2 : List UInt8) (c3 : List aA) (c4 : List (List UInt8)) (at_ : Int) (r : List ak × Int) : Prop :=
 (r.2 = 0 → e = 0) ∧ (r.2 ≠ 0 → r.1 = ts) ∧ (r.2 = 0 → ∃ l h d, l ≠ [] ∧ l.length ≤ 100 ∧ ∃ t, ts[at_.toNat]? = some t ∧ r.1 = ts.set at_.toNat { t with syms := l, hasdef := h, df := d })
def cE (ts : List ak) (e c0 c1 : Int) (c2 : List UInt8) (c3 : List aA) (c4 : List (List UInt8)) (at_ : Int) (space : List UInt8) (deep : Int) (r : List ak × Int) : Prop :=
 ∃ ts2, bp ts e ts2 r.2 ∧ (r.1 = ts2 ∨ ∃ l : List aQ, l.length ≤ 8 ∧ (∀ f ∈ l, 0 ≤ f.typ ∧ f.typ < ts2.length ∧ aV f.df) ∧ ∃ t, ts2[at_.toNat]? = some t ∧ r.1 = ts2.set at_.toNat { t with fields := l })
def aed : List (List UInt8) := [[110, 117, 108, 108], [98, 111, 111, 108, 101, 97, 110], [105, 110, 116], [108, 111, 110, 103], [102, 108, 111, 97, 116], [100, 111, 117, 98, 108, 101], [98, 121, 116, 101, 115], [115, 116, 114, 105, 110, 103], [114, 101, 99, 111, 114, 100], [101, 110, 117, 109], [102, 105, 120, 101, 100], [97, 114, 114, 97, 121], [109, 97, 112], [117, 110, 105, 111, 110]]
def wK (s : List UInt8) (r : Int) : Prop := 0 ≤ r ∧ r ≤ 14 ∧ (r = 14 → s = [117, 110, 105, 111, 110]) ∧ (r = 0 → ∀ i < 14, aed.getD i [] ≠ s) ∧ (r = 10 → s = [101, 110, 117, 109])
def iC (s r : List UInt8) : Prop := r.length ≤ s.length
def pl (a b r : List UInt8) : Prop := r.length ≤ a.length + b.length + 1
def rA (c0 c1 : Int) (c2 : List UInt8) (c3 : List aA) (c4 : List (List UInt8)) (r : List ak × Int) : Prop := r.2 = 0 → eU r.1
def rB (a : List UInt8) (n : Int) (r : List ak × Bool × List UInt8 × Int) : Prop := (r.2.1 = true → eU r.1) ∧ r.2.2.1 = a ∧ l9 a r.2.2.2
def vl (ts : List ak) (kind items : Int) (fields : List aQ) (branches : List Int) (l : List aB) (ks : List (List UInt8)) (b : Int) : Bool :=
 cond (kind == 9) (decide (l.length = fields.length) && vj ts fields l) (
 cond (kind == 13) (((ks.length : Int) == (l.length : Int)) && (jQ ks && cS ts items l)) (
 cond (kind == 14) (decide (0 ≤ b) && (decide (b < (branches.length : Int)) && (((l.length : Int) == 1) && cS ts (branches.getD b.toNat 0) l))) (
 cS ts items l)))
def nE (ts : List ak) (t n : Int) (s : List UInt8) (l : List aB) (ks : List (List UInt8)) (b : Int) (r : Bool) : Prop := r = cO ts t (.mk n s l ks b)
def ch (ts : List ak) (k0 : Int) (k1 : List UInt8) (k2 : List (List UInt8)) (k3 : Int) (k4 : List (List UInt8)) (k5 : Bool) (k6 : List UInt8) (k7 : Int) (k8 : List aQ) (k9 : List Int) (n : Int) (s : List UInt8) (l : List aB) (ks : List (List UInt8)) (b : Int) (r : Bool) : Prop := r = vl ts k0 k3 k8 k9 l ks b
def rC (s : List UInt8) (r : Bool) : Prop := r = jk s
def qw (ts : List ak) (t : Int) (r : Bool) : Prop := r = isT ts t
def alD (n : Int) (s : List UInt8) (l : List aB) (ks : List (List UInt8)) (b : Int) (key : List UInt8) (w : aB) (r : Int × List UInt8 × List aB × List (List UInt8) × Int) : Prop :=
 r.1 = n ∧ r.2.1 = s ∧ r.2.2.2.2 = b ∧ wL r.2.2.1 ≤ wL l + wV w ∧ vk r.2.2.2.1 ≤ vk ks + (key.length + 10) ∧ (jQ ks = true → jk key = true → jQ r.2.2.2.1 = true) ∧
 ∀ ts t, cS ts t l = true → cO ts t w = true → cS ts t r.2.2.1 = true
def wM (s : List UInt8) (r : Int × Int) : Prop := r = pX s
def wN (s : List UInt8) (r : Int × Int) : Prop := r = pX s
def xR (n : Int) (s : List UInt8) (l : List aB) (ks : List (List UInt8)) (b : Int) (key : List UInt8) (w0 : Int) (w1 : List UInt8) (w2 : List aB) (w3 : List (List UInt8)) (w4 : Int) (r : Int × List UInt8 × List aB × List (List UInt8) × Int) : Prop :=
 r.2.2.2.1.length = r.2.2.1.length ∧ r.2.2.1.length ≤ l.length + 1 ∧ alD n s l ks b key (.mk w0 w1 w2 w3 w4) r
def bS (ts : List ak) (all t c0 c1 : Int) (c2 : List UInt8) (c3 : List aA) (c4 : List (List UInt8)) (deep : Int) (r : Int × List UInt8 × List aB × List (List UInt8) × Int × Int × List ak × Int) : Prop := r.2.2.2.2.2.2.1 = ts
def pE (ts : List ak) (all k0 : Int) (k1 : List UInt8) (k2 : List (List UInt8)) (k3 : Int) (k4 : List (List UInt8)) (k5 : Bool) (k6 : List UInt8) (k7 : Int) (k8 : List aQ) (k9 : List Int) (c0 c1 : Int) (c2 : List UInt8) (c3 : List aA) (c4 : List (List UInt8)) (deep : Int) (r : Int × List UInt8 × List aB × List (List UInt8) × Int × Int × List ak × Int) : Prop := r.2.2.2.2.2.2.1 = ts
def oo (ts : List ak) (all k0 : Int) (k1 : List UInt8) (k2 : List (List UInt8)) (k3 : Int) (k4 : List (List UInt8)) (k5 : Bool) (k6 : List UInt8) (k7 : Int) (k8 : List aQ) (k9 : List Int) (c0 c1 : Int) (c2 : List UInt8) (c3 : List aA) (c4 : List (List UInt8)) (deep : Int) (r : Int × List UInt8 × List aB × List (List UInt8) × Int × Int × List ak × Int) : Prop := r.2.2.2.2.2.2.1 = ts
end Go.Proofs.Ytdpajabhmmmjoaa
end
noncomputable section
namespace Go.Proofs.Ytdpajabhmmmjoaa
open Go.AM
set_option autoImplicit false
set_option linter.unusedVariables false
set_option maxRecDepth 100000
abbrev uJ : FuncId := 15
abbrev rD : FuncId := 119
abbrev vm : FuncId := 60
abbrev uK : FuncId := 59
abbrev sk : FuncId := 40
abbrev uL : FuncId := 117
abbrev sm : FuncId := 73
abbrev tw : FuncId := 146
abbrev uM : FuncId := 116
abbrev tx : FuncId := 110
abbrev rE : FuncId := 144
abbrev tz : FuncId := 138
abbrev sn : FuncId := 114
abbrev ra : FuncId := 145
abbrev tA : FuncId := 111
abbrev sq : FuncId := 143
abbrev tB : FuncId := 72
abbrev ss : FuncId := 112
abbrev su : FuncId := 141
abbrev tC : FuncId := 140
abbrev rF : FuncId := 148
abbrev rc : FuncId := 149
abbrev rG : FuncId := 120
abbrev ac1 : FuncId := 14
abbrev aee : FuncId := 87
abbrev abv : FuncId := 118
abbrev ac2 : FuncId := 86
abbrev z9 : FuncId := 133
abbrev abw : FuncId := 132
abbrev abx : FuncId := 162
abbrev aby : FuncId := 46
abbrev ac3 : FuncId := 154
abbrev abz : FuncId := 79
abbrev aaa : FuncId := 41
abbrev abA : FuncId := 39
abbrev aef : FuncId := 45
abbrev ac4 : FuncId := 61
abbrev ac5 : FuncId := 139
abbrev aab : FuncId := 74
abbrev abB : FuncId := 158
abbrev xS : FuncId := 142
abbrev abC : FuncId := 115
abbrev ac6 : FuncId := 147
abbrev abD : FuncId := 18
abbrev aac : FuncId := 47
abbrev aeg : FuncId := 113
abbrev ac7 : FuncId := 161
abbrev abE : FuncId := 165
abbrev aad : FuncId := 164
abbrev ac8 : FuncId := 159
abbrev abF : FuncId := 160
abbrev ai6 := Bs × Int
noncomputable def p7 (a : Bs) (r : ai6) : Prop := qu Try.prog ac1 [.sl .u8 (.may false) a] [.sl .u8 (.may false) r.1, .int .i64 r.2] ∧ xP a r
noncomputable def ai7 : zm Try.prog := ⟨14, fun us => match us with
 | [.sl .u8 (.may _) a] => let r := pick (p7 a); some (can (p7 a), [.sl .u8 (.may false) r.1, .int .i64 r.2])
 | _ => none, by
 intro _ _ h; split at h; exact amc h fun h => h.1.dim rfl; cases h⟩
abbrev acJ := List ak × Bool × Bs × Int
noncomputable def iD (a : Bs) (b : Int) (r : acJ) : Prop := aY Try.prog uJ [.ptr 0 0] [[.sl .u8 (.may false) a, .int .i64 b]] (.tup [.agg [.sl .atype (.may false) r.1], .bool r.2.1]) [[.sl .u8 (.may false) r.2.2.1, .int .i64 r.2.2.2]] ∧ rB a b r
noncomputable def acK : eo Try.prog := ⟨15, fun us css => match us, css with
 | [.ptr 0 0], [[.sl .u8 (.may false) a, .int .i64 b]] => let r := pick (iD a b); some (can (iD a b), .tup [.agg [.sl .atype (.may false) r.1], .bool r.2.1], [[.sl .u8 (.may false) r.2.2.1, .int .i64 r.2.2.2]])
 | _, _ => none, by
 intro _ _ _ _ h; split at h; exact cr h fun h => h.1.dim rfl; cases h⟩
abbrev ahS := Bool
noncomputable def dl (a : List ak) (g b : Int) (c : Bs) (d : List aB) (e : Bss) (f : Int) (r : ahS) : Prop := aO Try.prog abD [.agg [.sl .atype (.may false) a], .int .i64 g, .agg [.int .u64 b, .str c, .sl .aval (.may false) d, .sl .str (.may false) e, .int .i64 f]] (.bool r) ∧ nE a g b c d e f r
noncomputable def abG : cn Try.prog := ⟨18, fun us => match us with
 | [.agg [.sl .atype (.may _) a], .int .i64 g, .agg [.int .u64 b, .str c, .sl .aval (.may _) d, .sl .str (.may _) e, .int .i64 f]] => let r := pick (dl a g b c d e f); some (can (dl a g b c d e f), .bool r)
 | _ => none, by
 intro _ _ h; split at h; exact bB h (fun h => h.1.dim rfl) rfl rfl; cases h⟩
abbrev ahT := List ak × Int
noncomputable def oq (a b : Int) (c : Bs) (d : List aA) (e : Bss) (r : ahT) : Prop := aO Try.prog abA [.agg [.int .i64 a, .int .i64 b, .str c, .sl .jnode (.may false) d, .sl .str (.may false) e]] (.tup [.agg [.sl .atype (.may false) r.1], .int .i64 r.2]) ∧ rA a b c d e r
noncomputable def ahU : cn Try.prog := ⟨39, fun us => match us with
 | [.agg [.int .i64 a, .int .i64 b, .str c, .sl .jnode (.may _) d, .sl .str (.may _) e]] => let r := pick (oq a b c d e); some (can (oq a b c d e), .tup [.agg [.sl .atype (.may false) r.1], .int .i64 r.2])
 | _ => none, by
 intro _ _ h; split at h; exact bB h (fun h => h.1.dim rfl) rfl rfl; cases h⟩
abbrev aaN := Int × Int × Bs × List aA × Bss × Bs × Int
noncomputable def f5 (a : Bs) (b : Int) (r : aaN) : Prop := aY Try.prog sk [.ptr 0 0] [[.sl .u8 (.may false) a, .int .i64 b]] (.agg [.int .i64 r.1, .int .i64 r.2.1, .str r.2.2.1, .sl .jnode (.may false) r.2.2.2.1, .sl .str (.may false) r.2.2.2.2.1]) [[.sl .u8 (.may false) r.2.2.2.2.2.1, .int .i64 r.2.2.2.2.2.2]] ∧ pZ a b r
noncomputable def aaO : eo Try.prog := ⟨40, fun us css => match us, css with
 | [.ptr 0 0], [[.sl .u8 (.may false) a, .int .i64 b]] => let r := pick (f5 a b); some (can (f5 a b), .agg [.int .i64 r.1, .int .i64 r.2.1, .str r.2.2.1, .sl .jnode (.may false) r.2.2.2.1, .sl .str (.may false) r.2.2.2.2.1], [[.sl .u8 (.may false) r.2.2.2.2.2.1, .int .i64 r.2.2.2.2.2.2]])
 | _, _ => none, by
 intro _ _ _ _ h; split at h; exact cr h fun h => h.1.dim rfl; cases h⟩
abbrev agv := Int × Int × Int
noncomputable def mG (a : List ak) (r : agv) : Prop := aO Try.prog aaa [.agg [.sl .atype (.may false) a]] (.tup [.int .i64 r.1, .int .i64 r.2.1, .int .i64 r.2.2])
noncomputable def agw : cn Try.prog := ⟨41, fun us => match us with
 | [.agg [.sl .atype (.may _) a]] => let r := pick (mG a); some (can (mG a), .tup [.int .i64 r.1, .int .i64 r.2.1, .int .i64 r.2.2])
 | _ => none, by
 intro _ _ h; split at h; exact bB h (fun h => h.dim rfl) rfl rfl; cases h⟩
abbrev akc := Bool
noncomputable def pm (a : List ak) (b : Int) (r : akc) : Prop := aO Try.prog aef [.agg [.sl .atype (.may false) a], .int .i64 b] (.bool r) ∧ qw a b r
noncomputable def aeh : cn Try.prog := ⟨45, fun us => match us with
 | [.agg [.sl .atype (.may _) a], .int .i64 b] => let r := pick (pm a b); some (can (pm a b), .bool r)
 | _ => none, by
 intro _ _ h; split at h; exact bB h (fun h => h.1.dim rfl) rfl rfl; cases h⟩
abbrev ahV := Bool
noncomputable def kQ (a : Bs) (r : ahV) : Prop := aO Try.prog aby [.str a] (.bool r) ∧ rC a r
noncomputable def abH : cn Try.prog := ⟨46, fun us => match us with
 | [.str a] => let r := pick (kQ a); some (can (kQ a), .bool r)
 | _ => none, by
 intro _ _ h; split at h; exact bB h (fun h => h.1.dim rfl) rfl rfl; cases h⟩
abbrev agx := Bool
noncomputable def mH (a : List ak) (b : Int) (c : Bs) (d : Bss) (e : Int) (f : Bss) (g : Bool) (h : Bs) (i : Int) (j : List aQ) (k : List Int) (l : Int) (m : Bs) (n : List aB) (o : Bss) (p : Int) (r : agx) : Prop := aO Try.prog aac [.agg [.sl .atype (.may false) a], .agg [.int .i64 b, .str c, .sl .str (.may false) d, .int .i64 e, .sl .str (.may false) f, .bool g, .str h, .int .i64 i, .sl .afield (.may false) j, .sl (.num .i64) (.may false) k], .agg [.int .u64 l, .str m, .sl .aval (.may false) n, .sl .str (.may false) o, .int .i64 p]] (.bool r) ∧ ch a b c d e f g h i j k l m n o p r
noncomputable def agy : cn Try.prog := ⟨47, fun us => match us with
 | [.agg [.sl .atype (.may _) a], .agg [.int .i64 b, .str c, .sl .str (.may _) d, .int .i64 e, .sl .str (.may _) f, .bool g, .str i, .int .i64 j, .sl .afield (.may _) k, .sl (.num .i64) (.may _) l], .agg [.int .u64 m, .str n, .sl .aval (.may _) o, .sl .str (.may _) p, .int .i64 q]] => let r := pick (mH a b c d e f g i j k l m n o p q); some (can (mH a b c d e f g i j k l m n o p q), .bool r)
 | _ => none, by
 intro _ _ h; split at h; exact bB h (fun h => h.1.dim rfl) rfl rfl; cases h⟩
abbrev acL := Bool × Bs × Int
noncomputable def iE (a : Bs) (b : Int) (r : acL) : Prop := aY Try.prog uK [.ptr 0 0] [[.sl .u8 (.may false) a, .int .i64 b]] (.bool r.1) [[.sl .u8 (.may false) r.2.1, .int .i64 r.2.2]] ∧ rz a b r
noncomputable def acM : eo Try.prog := ⟨59, fun us css => match us, css with
 | [.ptr 0 0], [[.sl .u8 (.may false) a, .int .i64 b]] => let r := pick (iE a b); some (can (iE a b), .bool r.1, [[.sl .u8 (.may false) r.2.1, .int .i64 r.2.2]])
 | _, _ => none, by
 intro _ _ _ _ h; split at h; exact cr h fun h => h.1.dim rfl; cases h⟩
abbrev ady := Int × Bs × Int
noncomputable def bh (a : Bs) (b c : Int) (r : ady) : Prop := aY Try.prog vm [.ptr 0 0, .int .i64 c] [[.sl .u8 (.may false) a, .int .i64 b]] (.int .i64 r.1) [[.sl .u8 (.may false) r.2.1, .int .i64 r.2.2]] ∧ sj a b c r
noncomputable def ma : eo Try.prog := ⟨60, fun us css => match us, css with
 | [.ptr 0 0, .int .i64 c], [[.sl .u8 (.may false) a, .int .i64 b]] => let r := pick (bh a b c); some (can (bh a b c), .int .i64 r.1, [[.sl .u8 (.may false) r.2.1, .int .i64 r.2.2]])
 | _, _ => none, by
 intro _ _ _ _ h; split at h; exact cr h fun h => h.1.dim rfl; cases h⟩
abbrev ai8 := Int × Bs × List aB × Bss × Int
noncomputable def ne (a : Int) (b : Bs) (c : List aB) (d : Bss) (e : Int) (k : Bs) (f : Int) (g : Bs) (h : List aB) (i : Bss) (j : Int) (r : ai8) : Prop := aO Try.prog ac4 [.agg [.int .u64 a, .str b, .sl .aval (.may false) c, .sl .str (.may false) d, .int .i64 e], .str k, .agg [.int .u64 f, .str g, .sl .aval (.may false) h, .sl .str (.may false) i, .int .i64 j]] (.agg [.int .u64 r.1, .str r.2.1, .sl .aval (.may false) r.2.2.1, .sl .str (.may false) r.2.2.2.1, .int .i64 r.2.2.2.2]) ∧ xR a b c d e k f g h i j r
noncomputable def ai9 : cn Try.prog := ⟨61, fun us => match us with
 | [.agg [.int .u64 a, .str b, .sl .aval (.may _) c, .sl .str (.may _) d, .int .i64 e], .str l, .agg [.int .u64 f, .str g, .sl .aval (.may _) i, .sl .str (.may _) j, .int .i64 k]] => let r := pick (ne a b c d e l f g i j k); some (can (ne a b c d e l f g i j k), .agg [.int .u64 r.1, .str r.2.1, .sl .aval (.may false) r.2.2.1, .sl .str (.may false) r.2.2.2.1, .int .i64 r.2.2.2.2])
 | _ => none, by
 intro _ _ h; split at h; exact bB h (fun h => h.1.dim rfl) rfl rfl; cases h⟩
abbrev abI := Int × List ak × Int
noncomputable def bM (a : List ak) (b c d : Int) (e : Bs) (f : List aA) (g : Bss) (h : Bs) (i : Int) (r : abI) : Prop := aY Try.prog tB [.ptr 0 0, .agg [.int .i64 c, .int .i64 d, .str e, .sl .jnode (.may false) f, .sl .str (.may false) g], .str h, .int .i64 i] [[.ul .atype a, .int .i64 b]] (.int .i64 r.1) [[.ul .atype r.2.1, .int .i64 r.2.2]] ∧ dd a b c d e f g h i r
noncomputable def jR : eo Try.prog := ⟨72, fun us css => match us, css with
 | [.ptr 0 0, .agg [.int .i64 a, .int .i64 b, .str c, .sl .jnode (.may _) d, .sl .str (.may _) e], .str i, .int .i64 j], [[.ul .atype f, .int .i64 g]] => let r := pick (bM f g a b c d e i j); some (can (bM f g a b c d e i j), .int .i64 r.1, [[.ul .atype r.2.1, .int .i64 r.2.2]])
 | _, _ => none, by
 intro _ _ _ _ h; split at h; exact cr h fun h => h.1.dim rfl; cases h⟩
abbrev aaP := Int × Int × Bs × List aA × Bss × Bs × Int × Bss
noncomputable def dH (a : Bs) (b : Int) (c : Bss) (d : Bs) (e : Int) (r : aaP) : Prop := aY Try.prog sm [.ptr 0 0, .str d, .int .i64 e, .ptr 1 0] [[.sl .u8 (.may false) a, .int .i64 b], [.sl .str .own c]] (.agg [.int .i64 r.1, .int .i64 r.2.1, .str r.2.2.1, .sl .jnode (.may false) r.2.2.2.1, .sl .str (.may false) r.2.2.2.2.1]) [[.sl .u8 (.may false) r.2.2.2.2.2.1, .int .i64 r.2.2.2.2.2.2.1], [.sl .str .own r.2.2.2.2.2.2.2]] ∧ pY a b c d e r
noncomputable def sv : eo Try.prog := ⟨73, fun us css => match us, css with
 | [.ptr 0 0, .str d, .int .i64 e, .ptr 1 0], [[.sl .u8 (.may false) a, .int .i64 b], [.sl .str .own c]] => let r := pick (dH a b c d e); some (can (dH a b c d e), .agg [.int .i64 r.1, .int .i64 r.2.1, .str r.2.2.1, .sl .jnode (.may false) r.2.2.2.1, .sl .str (.may false) r.2.2.2.2.1], [[.sl .u8 (.may false) r.2.2.2.2.2.1, .int .i64 r.2.2.2.2.2.2.1], [.sl .str .own r.2.2.2.2.2.2.2]])
 | _, _ => none, by
 intro _ _ _ _ h; split at h; exact cr h fun h => h.1.dim rfl; cases h⟩
abbrev agz := Int × Bs × List aB × Bss × Int × Int
noncomputable def mI (a : List ak) (g b c : Int) (d : Bs) (e : List aA) (f : Bss) (r : agz) : Prop := aO Try.prog aab [.agg [.sl .atype (.may false) a], .int .i64 g, .agg [.int .i64 b, .int .i64 c, .str d, .sl .jnode (.may false) e, .sl .str (.may false) f]] (.tup [.agg [.int .u64 r.1, .str r.2.1, .sl .aval (.may false) r.2.2.1, .sl .str (.may false) r.2.2.2.1, .int .i64 r.2.2.2.2.1], .int .i64 r.2.2.2.2.2])
noncomputable def agA : cn Try.prog := ⟨74, fun us => match us with
 | [.agg [.sl .atype (.may _) a], .int .i64 g, .agg [.int .i64 b, .int .i64 c, .str d, .sl .jnode (.may _) e, .sl .str (.may _) f]] => let r := pick (mI a g b c d e f); some (can (mI a g b c d e f), .tup [.agg [.int .u64 r.1, .str r.2.1, .sl .aval (.may false) r.2.2.1, .sl .str (.may false) r.2.2.2.1, .int .i64 r.2.2.2.2.1], .int .i64 r.2.2.2.2.2])
 | _ => none, by
 intro _ _ h; split at h; exact bB h (fun h => h.dim rfl) rfl rfl; cases h⟩
abbrev ahW := Int × Int
noncomputable def jl (a : Bs) (r : ahW) : Prop := aO Try.prog abz [.str a] (.tup [.int .u32 r.1, .int .i64 r.2]) ∧ wN a r
noncomputable def abJ : cn Try.prog := ⟨79, fun us => match us with
 | [.str a] => let r := pick (jl a); some (can (jl a), .tup [.int .u32 r.1, .int .i64 r.2])
 | _ => none, by
 intro _ _ h; split at h; exact bB h (fun h => h.1.dim rfl) rfl rfl; cases h⟩
abbrev aja := Int × Int × Bs × List aA × Bss
noncomputable def bo (a : Bs) (r : aja) : Prop := aO Try.prog ac2 [.str a] (.agg [.int .i64 r.1, .int .i64 r.2.1, .str r.2.2.1, .sl .jnode (.may false) r.2.2.2.1, .sl .str (.may false) r.2.2.2.2]) ∧ xQ a r
noncomputable def ti : cn Try.prog := ⟨86, fun us => match us with
 | [.str a] => let r := pick (bo a); some (can (bo a), .agg [.int .i64 r.1, .int .i64 r.2.1, .str r.2.2.1, .sl .jnode (.may false) r.2.2.2.1, .sl .str (.may false) r.2.2.2.2])
 | _ => none, by
 intro _ _ h; split at h; exact bB h (fun h => h.1.dim rfl) rfl rfl; cases h⟩
abbrev akd := Int × Int × Bs × List aA × Bss × Bool
noncomputable def pn (a b : Int) (c : Bs) (d : List aA) (e : Bss) (f : Bs) (r : akd) : Prop := aO Try.prog aee [.agg [.int .i64 a, .int .i64 b, .str c, .sl .jnode (.may false) d, .sl .str (.may false) e], .str f] (.tup [.agg [.int .i64 r.1, .int .i64 r.2.1, .str r.2.2.1, .sl .jnode (.may false) r.2.2.2.1, .sl .str (.may false) r.2.2.2.2.1], .bool r.2.2.2.2.2]) ∧ qv a b c d e f r
noncomputable def ake : cn Try.prog := ⟨87, fun us => match us with
 | [.agg [.int .i64 a, .int .i64 b, .str c, .sl .jnode (.may _) d, .sl .str (.may _) e], .str f] => let r := pick (pn a b c d e f); some (can (pn a b c d e f), .tup [.agg [.int .i64 r.1, .int .i64 r.2.1, .str r.2.2.1, .sl .jnode (.may false) r.2.2.2.1, .sl .str (.may false) r.2.2.2.2.1], .bool r.2.2.2.2.2])
 | _ => none, by
 intro _ _ h; split at h; exact bB h (fun h => h.1.dim rfl) rfl rfl; cases h⟩
abbrev abK := Int × List ak × Int
noncomputable def aH (a : List ak) (b c : Int) (r : abK) : Prop := aY Try.prog tx [.ptr 0 0, .int .i64 c] [[.ul .atype a, .int .i64 b]] (.int .i64 r.1) [[.ul .atype r.2.1, .int .i64 r.2.2]] ∧ ia a b c r
noncomputable def bW : eo Try.prog := ⟨110, fun us css => match us, css with
 | [.ptr 0 0, .int .i64 c], [[.ul .atype a, .int .i64 b]] => let r := pick (aH a b c); some (can (aH a b c), .int .i64 r.1, [[.ul .atype r.2.1, .int .i64 r.2.2]])
 | _, _ => none, by
 intro _ _ _ _ h; split at h; exact cr h fun h => h.1.dim rfl; cases h⟩
abbrev abL := Int × List ak × Int
noncomputable def eq (a : List ak) (b : Int) (c d : Bs) (r : abL) : Prop := aY Try.prog tA [.ptr 0 0, .str c, .str d] [[.ul .atype a, .int .i64 b]] (.int .i64 r.1) [[.ul .atype r.2.1, .int .i64 r.2.2]] ∧ kP a b c d r
noncomputable def abM : eo Try.prog := ⟨111, fun us css => match us, css with
 | [.ptr 0 0, .str c, .str d], [[.ul .atype a, .int .i64 b]] => let r := pick (eq a b c d); some (can (eq a b c d), .int .i64 r.1, [[.ul .atype r.2.1, .int .i64 r.2.2]])
 | _, _ => none, by
 intro _ _ _ _ h; split at h; exact cr h fun h => h.1.dim rfl; cases h⟩
abbrev aaQ := Int × List ak × Int
noncomputable def f6 (a : List ak) (b c d : Int) (e : Bs) (f : List aA) (g : Bss) (h : Bs) (i : Int) (r : aaQ) : Prop := aY Try.prog ss [.ptr 0 0, .agg [.int .i64 c, .int .i64 d, .str e, .sl .jnode (.may false) f, .sl .str (.may false) g], .str h, .int .i64 i] [[.ul .atype a, .int .i64 b]] (.int .i64 r.1) [[.ul .atype r.2.1, .int .i64 r.2.2]] ∧ p5 a b c d e f g h i r
noncomputable def aaR : eo Try.prog := ⟨112, fun us css => match us, css with
 | [.ptr 0 0, .agg [.int .i64 a, .int .i64 b, .str c, .sl .jnode (.may _) d, .sl .str (.may _) e], .str i, .int .i64 j], [[.ul .atype f, .int .i64 g]] => let r := pick (f6 f g a b c d e i j); some (can (f6 f g a b c d e i j), .int .i64 r.1, [[.ul .atype r.2.1, .int .i64 r.2.2]])
 | _, _ => none, by
 intro _ _ _ _ h; split at h; exact cr h fun h => h.1.dim rfl; cases h⟩
abbrev akf := Int × Int × Bs × List aA × Bss × Bool
noncomputable def b7 (a b : Int) (c : Bs) (d : List aA) (e : Bss) (f : Bs) (r : akf) : Prop := aO Try.prog aeg [.agg [.int .i64 a, .int .i64 b, .str c, .sl .jnode (.may false) d, .sl .str (.may false) e], .str f] (.tup [.agg [.int .i64 r.1, .int .i64 r.2.1, .str r.2.2.1, .sl .jnode (.may false) r.2.2.2.1, .sl .str (.may false) r.2.2.2.2.1], .bool r.2.2.2.2.2]) ∧ bQ a b c d e f r
noncomputable def mb : cn Try.prog := ⟨113, fun us => match us with
 | [.agg [.int .i64 a, .int .i64 b, .str c, .sl .jnode (.may _) d, .sl .str (.may _) e], .str f] => let r := pick (b7 a b c d e f); some (can (b7 a b c d e f), .tup [.agg [.int .i64 r.1, .int .i64 r.2.1, .str r.2.2.1, .sl .jnode (.may false) r.2.2.2.1, .sl .str (.may false) r.2.2.2.2.1], .bool r.2.2.2.2.2])
 | _ => none, by
 intro _ _ h; split at h; exact bB h (fun h => h.1.dim rfl) rfl rfl; cases h⟩
abbrev aaS := Int × List ak × Int
noncomputable def f7 (a : List ak) (b c d : Int) (e : Bs) (f : List aA) (g : Bss) (h : Int) (i : Bs) (j : Int) (r : aaS) : Prop := aY Try.prog sn [.ptr 0 0, .agg [.int .i64 c, .int .i64 d, .str e, .sl .jnode (.may false) f, .sl .str (.may false) g], .int .i64 h, .str i, .int .i64 j] [[.ul .atype a, .int .i64 b]] (.int .i64 r.1) [[.ul .atype r.2.1, .int .i64 r.2.2]] ∧ dM a b c d e f g h i j r
noncomputable def aaT : eo Try.prog := ⟨114, fun us css => match us, css with
 | [.ptr 0 0, .agg [.int .i64 a, .int .i64 b, .str c, .sl .jnode (.may _) d, .sl .str (.may _) e], .int .i64 i, .str j, .int .i64 k], [[.ul .atype f, .int .i64 g]] => let r := pick (f7 f g a b c d e i j k); some (can (f7 f g a b c d e i j k), .int .i64 r.1, [[.ul .atype r.2.1, .int .i64 r.2.2]])
 | _, _ => none, by
 intro _ _ _ _ h; split at h; exact cr h fun h => h.1.dim rfl; cases h⟩
abbrev ahX := Int
noncomputable def jm (a : Bs) (r : ahX) : Prop := aO Try.prog abC [.str a] (.int .i64 r) ∧ wK a r
noncomputable def abN : cn Try.prog := ⟨115, fun us => match us with
 | [.str a] => let r := pick (jm a); some (can (jm a), .int .i64 r)
 | _ => none, by
 intro _ _ h; split at h; exact bB h (fun h => h.1.dim rfl) rfl rfl; cases h⟩
abbrev acN := Int × List ak × Int
noncomputable def cZ (a : List ak) (b c : Int) (d : Bs) (e : Bss) (f : Int) (g : Bss) (h : Bool) (i : Bs) (j : Int) (k : List aQ) (l : List Int) (r : acN) : Prop := aY Try.prog uM [.ptr 0 0, .agg [.int .i64 c, .str d, .sl .str (.may false) e, .int .i64 f, .sl .str (.may false) g, .bool h, .str i, .int .i64 j, .sl .afield (.may false) k, .sl (.num .i64) (.may false) l]] [[.ul .atype a, .int .i64 b]] (.int .i64 r.1) [[.ul .atype r.2.1, .int .i64 r.2.2]] ∧ iL a b c d e f g h i j k l r
noncomputable def kJ : eo Try.prog := ⟨116, fun us css => match us, css with
 | [.ptr 0 0, .agg [.int .i64 a, .str b, .sl .str (.may _) c, .int .i64 d, .sl .str (.may _) e, .bool f, .str g, .int .i64 i, .sl .afield (.may _) j, .sl (.num .i64) (.may _) k]], [[.ul .atype l, .int .i64 m]] => let r := pick (cZ l m a b c d e f g i j k); some (can (cZ l m a b c d e f g i j k), .int .i64 r.1, [[.ul .atype r.2.1, .int .i64 r.2.2]])
 | _, _ => none, by
 intro _ _ _ _ h; split at h; exact cr h fun h => h.1.dim rfl; cases h⟩
abbrev acO := Int × Int × Bs × List aA × Bss × Bs × Int × Bss
noncomputable def cd (a : Bs) (b : Int) (c : Bss) (d : Int) (r : acO) : Prop := aY Try.prog uL [.ptr 0 0, .int .i64 d, .ptr 1 0] [[.sl .u8 (.may false) a, .int .i64 b], [.sl .str .own c]] (.agg [.int .i64 r.1, .int .i64 r.2.1, .str r.2.2.1, .sl .jnode (.may false) r.2.2.2.1, .sl .str (.may false) r.2.2.2.2.1]) [[.sl .u8 (.may false) r.2.2.2.2.2.1, .int .i64 r.2.2.2.2.2.2.1], [.sl .str .own r.2.2.2.2.2.2.2]] ∧ dv a b c d r
noncomputable def pM : eo Try.prog := ⟨117, fun us css => match us, css with
 | [.ptr 0 0, .int .i64 d, .ptr 1 0], [[.sl .u8 (.may false) a, .int .i64 b], [.sl .str .own c]] => let r := pick (cd a b c d); some (can (cd a b c d), .agg [.int .i64 r.1, .int .i64 r.2.1, .str r.2.2.1, .sl .jnode (.may false) r.2.2.2.1, .sl .str (.may false) r.2.2.2.2.1], [[.sl .u8 (.may false) r.2.2.2.2.2.1, .int .i64 r.2.2.2.2.2.2.1], [.sl .str .own r.2.2.2.2.2.2.2]])
 | _, _ => none, by
 intro _ _ _ _ h; split at h; exact cr h fun h => h.1.dim rfl; cases h⟩
abbrev ahY := Int × Int × Bs × Bool × List aA × Bool × Bss
noncomputable def dm (a : Bool) (c : Bss) (b : Bool) (d : List aA) (r : ahY) : Prop := aO Try.prog abv [.sl .str (.may a) c, .sl .jnode (.may b) d] (.agg [.int .i64 r.1, .int .i64 r.2.1, .str r.2.2.1, .sl .jnode (.may r.2.2.2.1) r.2.2.2.2.1, .sl .str (.may r.2.2.2.2.2.1) r.2.2.2.2.2.2]) ∧ wJ a c b d r
noncomputable def abO : cn Try.prog := ⟨118, fun us => match us with
 | [.sl .str (.may a) c, .sl .jnode (.may b) d] => let r := pick (dm a c b d); some (can (dm a c b d), .agg [.int .i64 r.1, .int .i64 r.2.1, .str r.2.2.1, .sl .jnode (.may r.2.2.2.1) r.2.2.2.2.1, .sl .str (.may r.2.2.2.2.2.1) r.2.2.2.2.2.2])
 | _ => none, by
 intro _ _ h; split at h; exact bB h (fun h => h.1) rfl rfl; cases h⟩
abbrev zo := Int × Int × Bs × List aA × Bss × Bs × Int
noncomputable def eV (a : Bs) (b c d : Int) (e : Bs) (f : List aA) (g : Bss) (r : zo) : Prop := aY Try.prog rD [.ptr 0 0, .agg [.int .i64 c, .int .i64 d, .str e, .sl .jnode (.may false) f, .sl .str (.may false) g]] [[.sl .u8 (.may false) a, .int .i64 b]] (.agg [.int .i64 r.1, .int .i64 r.2.1, .str r.2.2.1, .sl .jnode (.may false) r.2.2.2.1, .sl .str (.may false) r.2.2.2.2.1]) [[.sl .u8 (.may false) r.2.2.2.2.2.1, .int .i64 r.2.2.2.2.2.2]] ∧ dx a b c d e f g r
noncomputable def zp : eo Try.prog := ⟨119, fun us css => match us, css with
 | [.ptr 0 0, .agg [.int .i64 a, .int .i64 b, .str c, .sl .jnode (.may _) d, .sl .str (.may _) e]], [[.sl .u8 (.may false) f, .int .i64 g]] => let r := pick (eV f g a b c d e); some (can (eV f g a b c d e), .agg [.int .i64 r.1, .int .i64 r.2.1, .str r.2.2.1, .sl .jnode (.may false) r.2.2.2.1, .sl .str (.may false) r.2.2.2.2.1], [[.sl .u8 (.may false) r.2.2.2.2.2.1, .int .i64 r.2.2.2.2.2.2]])
 | _, _ => none, by
 intro _ _ _ _ h; split at h; exact cr h fun h => h.1.dim rfl; cases h⟩
abbrev zq := Int × Bs × List aB × Bss × Int × Int × List ak × Int
noncomputable def bG (a : List ak) (b h c d : Int) (e : Bs) (f : List aA) (g : Bss) (i : Int) (r : zq) : Prop := aY Try.prog rG [.ptr 0 0, .int .i64 h, .agg [.int .i64 c, .int .i64 d, .str e, .sl .jnode (.may false) f, .sl .str (.may false) g], .int .i64 i] [[.sl .atype (.may false) a, .int .i64 b]] (.tup [.agg [.int .u64 r.1, .str r.2.1, .sl .aval (.may false) r.2.2.1, .sl .str (.may false) r.2.2.2.1, .int .i64 r.2.2.2.2.1], .int .i64 r.2.2.2.2.2.1]) [[.sl .atype (.may false) r.2.2.2.2.2.2.1, .int .i64 r.2.2.2.2.2.2.2]] ∧ bS a b h c d e f g i r
noncomputable def iM : eo Try.prog := ⟨120, fun us css => match us, css with
 | [.ptr 0 0, .int .i64 i, .agg [.int .i64 a, .int .i64 b, .str c, .sl .jnode (.may _) d, .sl .str (.may _) e], .int .i64 j], [[.sl .atype (.may false) f, .int .i64 g]] => let r := pick (bG f g i a b c d e j); some (can (bG f g i a b c d e j), .tup [.agg [.int .u64 r.1, .str r.2.1, .sl .aval (.may false) r.2.2.1, .sl .str (.may false) r.2.2.2.1, .int .i64 r.2.2.2.2.1], .int .i64 r.2.2.2.2.2.1], [[.sl .atype (.may false) r.2.2.2.2.2.2.1, .int .i64 r.2.2.2.2.2.2.2]])
 | _, _ => none, by
 intro _ _ _ _ h; split at h; exact cr h fun h => h.1.dim rfl; cases h⟩
abbrev ahZ := Int
noncomputable def ot (a : Int) (r : ahZ) : Prop := aO Try.prog abw [.int .i64 a] (.int .u32 r)
noncomputable def ah0 : cn Try.prog := ⟨132, fun us => match us with
 | [.int .i64 a] => let r := pick (ot a); some (can (ot a), .int .u32 r)
 | _ => none, by
 intro _ _ h; split at h; exact bB h (fun h => h.dim rfl) rfl rfl; cases h⟩
abbrev agB := Int
noncomputable def jO (a : Int) (r : agB) : Prop := aO Try.prog z9 [.int .i64 a] (.int .u64 r)
noncomputable def agC : cn Try.prog := ⟨133, fun us => match us with
 | [.int .i64 a] => let r := pick (jO a); some (can (jO a), .int .u64 r)
 | _ => none, by
 intro _ _ h; split at h; exact bB h (fun h => h.dim rfl) rfl rfl; cases h⟩
abbrev abP := Int × Bool × List ak × Int
noncomputable def bX (a : List ak) (b : Int) (c : Bs) (r : abP) : Prop := aY Try.prog tz [.ptr 0 0, .str c] [[.ul .atype a, .int .i64 b]] (.tup [.int .i64 r.1, .bool r.2.1]) [[.ul .atype r.2.2.1, .int .i64 r.2.2.2]] ∧ q8 a b c r
noncomputable def tD : eo Try.prog := ⟨138, fun us css => match us, css with
 | [.ptr 0 0, .str c], [[.ul .atype a, .int .i64 b]] => let r := pick (bX a b c); some (can (bX a b c), .tup [.int .i64 r.1, .bool r.2.1], [[.ul .atype r.2.2.1, .int .i64 r.2.2.2]])
 | _, _ => none, by
 intro _ _ _ _ h; split at h; exact cr h fun h => h.1.dim rfl; cases h⟩
abbrev ajb := Bs
noncomputable def ng (a : List ak) (b : Int) (r : ajb) : Prop := aO Try.prog ac5 [.agg [.sl .atype (.may false) a], .int .i64 b] (.str r)
noncomputable def ajc : cn Try.prog := ⟨139, fun us => match us with
 | [.agg [.sl .atype (.may _) a], .int .i64 b] => let r := pick (ng a b); some (can (ng a b), .str r)
 | _ => none, by
 intro _ _ h; split at h; exact bB h (fun h => h.dim rfl) rfl rfl; cases h⟩
abbrev abQ := Bs × List ak × Int
noncomputable def cD (a : List ak) (b c d : Int) (e : Bs) (f : List aA) (g : Bss) (h : Bs) (i : Bool) (r : abQ) : Prop := aY Try.prog tC [.ptr 0 0, .agg [.int .i64 c, .int .i64 d, .str e, .sl .jnode (.may false) f, .sl .str (.may false) g], .str h, .bool i] [[.ul .atype a, .int .i64 b]] (.str r.1) [[.ul .atype r.2.1, .int .i64 r.2.2]] ∧ q9 a b c d e f g h i r
noncomputable def ou : eo Try.prog := ⟨140, fun us css => match us, css with
 | [.ptr 0 0, .agg [.int .i64 a, .int .i64 b, .str c, .sl .jnode (.may _) d, .sl .str (.may _) e], .str i, .bool j], [[.ul .atype f, .int .i64 g]] => let r := pick (cD f g a b c d e i j); some (can (cD f g a b c d e i j), .str r.1, [[.ul .atype r.2.1, .int .i64 r.2.2]])
 | _, _ => none, by
 intro _ _ _ _ h; split at h; exact cr h fun h => h.1.dim rfl; cases h⟩
abbrev aaU := Bs × List ak × Int
noncomputable def dI (a : List ak) (b : Int) (c d : Bs) (r : aaU) : Prop := aY Try.prog su [.ptr 0 0, .str c, .str d] [[.ul .atype a, .int .i64 b]] (.str r.1) [[.ul .atype r.2.1, .int .i64 r.2.2]] ∧ p6 a b c d r
noncomputable def aaV : eo Try.prog := ⟨141, fun us css => match us, css with
 | [.ptr 0 0, .str c, .str d], [[.ul .atype a, .int .i64 b]] => let r := pick (dI a b c d); some (can (dI a b c d), .str r.1, [[.ul .atype r.2.1, .int .i64 r.2.2]])
 | _, _ => none, by
 intro _ _ _ _ h; split at h; exact cr h fun h => h.1.dim rfl; cases h⟩
abbrev afc := Bs
noncomputable def kR (a : Bs) (r : afc) : Prop := aO Try.prog xS [.str a] (.str r) ∧ iC a r
noncomputable def afd : cn Try.prog := ⟨142, fun us => match us with
 | [.str a] => let r := pick (kR a); some (can (kR a), .str r)
 | _ => none, by
 intro _ _ h; split at h; exact bB h (fun h => h.1.dim rfl) rfl rfl; cases h⟩
abbrev aaW := Bss × Bool × List ak × Int
noncomputable def b8 (a : List ak) (b c d : Int) (e : Bs) (f : List aA) (g : Bss) (h : Bs) (r : aaW) : Prop := aY Try.prog sq [.ptr 0 0, .agg [.int .i64 c, .int .i64 d, .str e, .sl .jnode (.may false) f, .sl .str (.may false) g], .str h] [[.ul .atype a, .int .i64 b]] (.tup [.sl .str (.may false) r.1, .bool r.2.1]) [[.ul .atype r.2.2.1, .int .i64 r.2.2.2]] ∧ kh a b c d e f g h r
noncomputable def ni : eo Try.prog := ⟨143, fun us css => match us, css with
 | [.ptr 0 0, .agg [.int .i64 a, .int .i64 b, .str c, .sl .jnode (.may _) d, .sl .str (.may _) e], .str i], [[.ul .atype f, .int .i64 g]] => let r := pick (b8 f g a b c d e i); some (can (b8 f g a b c d e i), .tup [.sl .str (.may false) r.1, .bool r.2.1], [[.ul .atype r.2.2.1, .int .i64 r.2.2.2]])
 | _, _ => none, by
 intro _ _ _ _ h; split at h; exact cr h fun h => h.1.dim rfl; cases h⟩
abbrev zr := List ak × Int
noncomputable def eW (a : List ak) (b c d : Int) (e : Bs) (f : List aA) (g : Bss) (h : Int) (i : Bs) (j : Int) (r : zr) : Prop := aY Try.prog rE [.ptr 0 0, .agg [.int .i64 c, .int .i64 d, .str e, .sl .jnode (.may false) f, .sl .str (.may false) g], .int .i64 h, .str i, .int .i64 j] [[.ul .atype a, .int .i64 b]] (.tup []) [[.ul .atype r.1, .int .i64 r.2]] ∧ cE a b c d e f g h i j r
noncomputable def zt : eo Try.prog := ⟨144, fun us css => match us, css with
 | [.ptr 0 0, .agg [.int .i64 a, .int .i64 b, .str c, .sl .jnode (.may _) d, .sl .str (.may _) e], .int .i64 i, .str j, .int .i64 k], [[.ul .atype f, .int .i64 g]] => let r := pick (eW f g a b c d e i j k); some (can (eW f g a b c d e i j k), .tup [], [[.ul .atype r.1, .int .i64 r.2]])
 | _, _ => none, by
 intro _ _ _ _ h; split at h; exact cr h fun h => h.1.dim rfl; cases h⟩
abbrev xT := List ak × Int
noncomputable def eu (a : List ak) (b c d : Int) (e : Bs) (f : List aA) (g : Bss) (h : Int) (r : xT) : Prop := aY Try.prog ra [.ptr 0 0, .agg [.int .i64 c, .int .i64 d, .str e, .sl .jnode (.may false) f, .sl .str (.may false) g], .int .i64 h] [[.ul .atype a, .int .i64 b]] (.tup []) [[.ul .atype r.1, .int .i64 r.2]] ∧ ct a b c d e f g h r
noncomputable def xU : eo Try.prog := ⟨145, fun us css => match us, css with
 | [.ptr 0 0, .agg [.int .i64 a, .int .i64 b, .str c, .sl .jnode (.may _) d, .sl .str (.may _) e], .int .i64 i], [[.ul .atype f, .int .i64 g]] => let r := pick (eu f g a b c d e i); some (can (eu f g a b c d e i), .tup [], [[.ul .atype r.1, .int .i64 r.2]])
 | _, _ => none, by
 intro _ _ _ _ h; split at h; exact cr h fun h => h.1.dim rfl; cases h⟩
abbrev abR := Int × Int × Bs × List aA × Bss × Bs × Int × Bss
noncomputable def g8 (a : Bs) (b : Int) (c : Bss) (d : Int) (r : abR) : Prop := aY Try.prog tw [.ptr 0 0, .int .i64 d, .ptr 1 0] [[.sl .u8 (.may false) a, .int .i64 b], [.sl .str .own c]] (.agg [.int .i64 r.1, .int .i64 r.2.1, .str r.2.2.1, .sl .jnode (.may false) r.2.2.2.1, .sl .str (.may false) r.2.2.2.2.1]) [[.sl .u8 (.may false) r.2.2.2.2.2.1, .int .i64 r.2.2.2.2.2.2.1], [.sl .str .own r.2.2.2.2.2.2.2]] ∧ qZ a b c d r
noncomputable def abS : eo Try.prog := ⟨146, fun us css => match us, css with
 | [.ptr 0 0, .int .i64 d, .ptr 1 0], [[.sl .u8 (.may false) a, .int .i64 b], [.sl .str .own c]] => let r := pick (g8 a b c d); some (can (g8 a b c d), .agg [.int .i64 r.1, .int .i64 r.2.1, .str r.2.2.1, .sl .jnode (.may false) r.2.2.2.1, .sl .str (.may false) r.2.2.2.2.1], [[.sl .u8 (.may false) r.2.2.2.2.2.1, .int .i64 r.2.2.2.2.2.2.1], [.sl .str .own r.2.2.2.2.2.2.2]])
 | _, _ => none, by
 intro _ _ _ _ h; split at h; exact cr h fun h => h.1.dim rfl; cases h⟩
abbrev ajd := Bs × Bool
noncomputable def p8 (a : Bs) (r : ajd) : Prop := aO Try.prog ac6 [.str a] (.tup [.str r.1, .bool r.2])
noncomputable def aje : cn Try.prog := ⟨147, fun us => match us with
 | [.str a] => let r := pick (p8 a); some (can (p8 a), .tup [.str r.1, .bool r.2])
 | _ => none, by
 intro _ _ h; split at h; exact bB h (fun h => h.dim rfl) rfl rfl; cases h⟩
abbrev zu := Int × Bs × List aB × Bss × Int × Int × List ak × Int
noncomputable def eX (a : List ak) (b c : Int) (d : Bs) (e : Bss) (f : Int) (g : Bss) (h : Bool) (i : Bs) (j : Int) (k : List aQ) (l : List Int) (m n : Int) (o : Bs) (p : List aA) (q : Bss) (s : Int) (r : zu) : Prop := aY Try.prog rF [.ptr 0 0, .agg [.int .i64 c, .str d, .sl .str (.may false) e, .int .i64 f, .sl .str (.may false) g, .bool h, .str i, .int .i64 j, .sl .afield (.may false) k, .sl (.num .i64) (.may false) l], .agg [.int .i64 m, .int .i64 n, .str o, .sl .jnode (.may false) p, .sl .str (.may false) q], .int .i64 s] [[.sl .atype (.may false) a, .int .i64 b]] (.tup [.agg [.int .u64 r.1, .str r.2.1, .sl .aval (.may false) r.2.2.1, .sl .str (.may false) r.2.2.2.1, .int .i64 r.2.2.2.2.1], .int .i64 r.2.2.2.2.2.1]) [[.sl .atype (.may false) r.2.2.2.2.2.2.1, .int .i64 r.2.2.2.2.2.2.2]] ∧ pE a b c d e f g h i j k l m n o p q s r
noncomputable def zv : eo Try.prog := ⟨148, fun us css => match us, css with
 | [.ptr 0 0, .agg [.int .i64 a, .str b, .sl .str (.may _) c, .int .i64 d, .sl .str (.may _) e, .bool f, .str g, .int .i64 i, .sl .afield (.may _) j, .sl (.num .i64) (.may _) k], .agg [.int .i64 l, .int .i64 m, .str n, .sl .jnode (.may _) o, .sl .str (.may _) p], .int .i64 t], [[.sl .atype (.may false) q, .int .i64 s]] => let r := pick (eX q s a b c d e f g i j k l m n o p t); some (can (eX q s a b c d e f g i j k l m n o p t), .tup [.agg [.int .u64 r.1, .str r.2.1, .sl .aval (.may false) r.2.2.1, .sl .str (.may false) r.2.2.2.1, .int .i64 r.2.2.2.2.1], .int .i64 r.2.2.2.2.2.1], [[.sl .atype (.may false) r.2.2.2.2.2.2.1, .int .i64 r.2.2.2.2.2.2.2]])
 | _, _ => none, by
 intro _ _ _ _ h; split at h; exact cr h fun h => h.1.dim rfl; cases h⟩
abbrev xV := Int × Bs × List aB × Bss × Int × Int × List ak × Int
noncomputable def ey (a : List ak) (b c : Int) (d : Bs) (e : Bss) (f : Int) (g : Bss) (h : Bool) (i : Bs) (j : Int) (k : List aQ) (l : List Int) (m n : Int) (o : Bs) (p : List aA) (q : Bss) (s : Int) (r : xV) : Prop := aY Try.prog rc [.ptr 0 0, .agg [.int .i64 c, .str d, .sl .str (.may false) e, .int .i64 f, .sl .str (.may false) g, .bool h, .str i, .int .i64 j, .sl .afield (.may false) k, .sl (.num .i64) (.may false) l], .agg [.int .i64 m, .int .i64 n, .str o, .sl .jnode (.may false) p, .sl .str (.may false) q], .int .i64 s] [[.sl .atype (.may false) a, .int .i64 b]] (.tup [.agg [.int .u64 r.1, .str r.2.1, .sl .aval (.may false) r.2.2.1, .sl .str (.may false) r.2.2.2.1, .int .i64 r.2.2.2.2.1], .int .i64 r.2.2.2.2.2.1]) [[.sl .atype (.may false) r.2.2.2.2.2.2.1, .int .i64 r.2.2.2.2.2.2.2]] ∧ oo a b c d e f g h i j k l m n o p q s r
noncomputable def xW : eo Try.prog := ⟨149, fun us css => match us, css with
 | [.ptr 0 0, .agg [.int .i64 a, .str b, .sl .str (.may _) c, .int .i64 d, .sl .str (.may _) e, .bool f, .str g, .int .i64 i, .sl .afield (.may _) j, .sl (.num .i64) (.may _) k], .agg [.int .i64 l, .int .i64 m, .str n, .sl .jnode (.may _) o, .sl .str (.may _) p], .int .i64 t], [[.sl .atype (.may false) q, .int .i64 s]] => let r := pick (ey q s a b c d e f g i j k l m n o p t); some (can (ey q s a b c d e f g i j k l m n o p t), .tup [.agg [.int .u64 r.1, .str r.2.1, .sl .aval (.may false) r.2.2.1, .sl .str (.may false) r.2.2.2.1, .int .i64 r.2.2.2.2.1], .int .i64 r.2.2.2.2.2.1], [[.sl .atype (.may false) r.2.2.2.2.2.2.1, .int .i64 r.2.2.2.2.2.2.2]])
 | _, _ => none, by
 intro _ _ _ _ h; split at h; exact cr h fun h => h.1.dim rfl; cases h⟩
abbrev ajf := Int
noncomputable def jf (a b c : Int) (r : ajf) : Prop := aO Try.prog ac3 [.int .u64 a, .int .i64 b, .int .i64 c] (.int .u64 r)
noncomputable def ac9 : cn Try.prog := ⟨154, fun us => match us with
 | [.int .u64 a, .int .i64 b, .int .i64 c] => let r := pick (jf a b c); some (can (jf a b c), .int .u64 r)
 | _ => none, by
 intro _ _ h; split at h; exact bB h (fun h => h.dim rfl) rfl rfl; cases h⟩
abbrev ah1 := Bs
noncomputable def ov (a : Int) (r : ah1) : Prop := aO Try.prog abB [.int .i64 a] (.str r)
noncomputable def ah2 : cn Try.prog := ⟨158, fun us => match us with
 | [.int .i64 a] => let r := pick (ov a); some (can (ov a), .str r)
 | _ => none, by
 intro _ _ h; split at h; exact bB h (fun h => h.dim rfl) rfl rfl; cases h⟩
abbrev ajg := Bs
noncomputable def p9 (a b : Bs) (r : ajg) : Prop := aO Try.prog ac8 [.str a, .str b] (.str r) ∧ pl a b r
noncomputable def ajh : cn Try.prog := ⟨159, fun us => match us with
 | [.str a, .str b] => let r := pick (p9 a b); some (can (p9 a b), .str r)
 | _ => none, by
 intro _ _ h; split at h; exact bB h (fun h => h.1.dim rfl) rfl rfl; cases h⟩
abbrev ah3 := Bool
noncomputable def oz (a : Bs) (r : ah3) : Prop := aO Try.prog abF [.str a] (.bool r)
noncomputable def ah4 : cn Try.prog := ⟨160, fun us => match us with
 | [.str a] => let r := pick (oz a); some (can (oz a), .bool r)
 | _ => none, by
 intro _ _ h; split at h; exact bB h (fun h => h.dim rfl) rfl rfl; cases h⟩
abbrev aji := Bool
noncomputable def gv (a : Bs) (r : aji) : Prop := aO Try.prog ac7 [.str a] (.bool r)
noncomputable def xc : cn Try.prog := ⟨161, fun us => match us with
 | [.str a] => let r := pick (gv a); some (can (gv a), .bool r)
 | _ => none, by
 intro _ _ h; split at h; exact bB h (fun h => h.dim rfl) rfl rfl; cases h⟩
abbrev ah5 := Int × Int
noncomputable def oA (a : Bs) (r : ah5) : Prop := aO Try.prog abx [.str a] (.tup [.int .u32 r.1, .int .i64 r.2]) ∧ wM a r
noncomputable def ah6 : cn Try.prog := ⟨162, fun us => match us with
 | [.str a] => let r := pick (oA a); some (can (oA a), .tup [.int .u32 r.1, .int .i64 r.2])
 | _ => none, by
 intro _ _ h; split at h; exact bB h (fun h => h.1.dim rfl) rfl rfl; cases h⟩
abbrev agD := Bool
noncomputable def mJ (a : Int) (r : agD) : Prop := aO Try.prog aad [.int .u8 a] (.bool r)
noncomputable def agE : cn Try.prog := ⟨164, fun us => match us with
 | [.int .u8 a] => let r := pick (mJ a); some (can (mJ a), .bool r)
 | _ => none, by
 intro _ _ h; split at h; exact bB h (fun h => h.dim rfl) rfl rfl; cases h⟩
abbrev ah7 := Bool
noncomputable def oB (a : Int) (r : ah7) : Prop := aO Try.prog abE [.int .u8 a] (.bool r)
noncomputable def ah8 : cn Try.prog := ⟨165, fun us => match us with
 | [.int .u8 a] => let r := pick (oB a); some (can (oB a), .bool r)
 | _ => none, by
 intro _ _ h; split at h; exact bB h (fun h => h.dim rfl) rfl rfl; cases h⟩
end Go.Proofs.Ytdpajabhmmmjoaa
end
noncomputable section
namespace Go.AM
set_option autoImplicit false
def reA (x : aB) : aB := .mk x.n x.s x.l x.keys x.branch
instance : Inhabited aB := ⟨.mk 0 [] [] [] 0⟩
instance : Inhabited aA := ⟨.mk 0 0 [] [] []⟩
instance : Inhabited aQ := ⟨⟨[], [], 0, false, .mk 0 0 [] [] []⟩⟩
instance : Inhabited ak := ⟨⟨0, [], [], 0, [], false, [], 0, [], []⟩⟩
theorem ah9 : ∀ x, reA x = x
 | .mk _ _ _ _ _ => rfl
end Go.AM
end
noncomputable section
namespace Go.Proofs.Ytdpajabhmmmjoaa
open Go.AM
set_option autoImplicit false
set_option linter.unusedVariables false
def rk (r : List Int) (t : Int) : Int := r.getD t.toNat 0
structure xX (k : ak) (r : List Int) (m : Int) : Prop where
 pos : 1 ≤ m
 uni : k.kind = 14 → ∃ b ∈ k.branches, 0 ≤ rk r b ∧ rk r b < m
 rcd : k.kind ≠ 14 → ∀ f ∈ k.fields, 0 ≤ rk r f.typ ∧ rk r f.typ < m
 pre : 2 ≤ m → ∃ j : Nat, j < r.length ∧ r.getD j 0 + 1 = m
structure nh (ts : List ak) (r : List Int) (m : Int) : Prop where
 len : r.length = ts.length
 low : ∀ i, i < r.length → -1 ≤ r.getD i 0
 top : ∀ i, i < r.length → r.getD i 0 ≤ m
 ok : ∀ i, i < r.length → 1 ≤ r.getD i 0 → xX (ts.getD i (aC .atype)) r (r.getD i 0)
 nul : ∀ i, i < r.length → r.getD i 0 = 0 → (ts.getD i (aC .atype)).kind ≠ 9 ∧ (ts.getD i (aC .atype)).kind ≠ 14
def brT (k : ak) (j : Nat) : Int := k.branches.getD j 0
structure vn (k : ak) (r : List Int) (b : Int) : Prop where
 nn : 0 ≤ b
 lt : b < k.branches.length
 least : ∀ j, j < k.branches.length → 0 ≤ rk r (brT k j) → 0 ≤ rk r (brT k b.toNat) ∧ rk r (brT k b.toNat) ≤ rk r (brT k j)
 first : ∀ j, j < b.toNat → 0 ≤ rk r (brT k j) → rk r (brT k b.toNat) < rk r (brT k j)
def aia (w : List Int) : List aQ → Int
 | [] => 0
 | f :: l => rk w f.typ + aia w l
structure adz (k : ak) (r w : List Int) (m : Int) : Prop where
 pos : 1 ≤ m
 top : m ≤ 1000000
 rcd : k.kind = 9 → 1 + aia w k.fields ≤ m ∨ m = 1000000
 uni : k.kind = 14 → ∀ b, vn k r b → 1 + rk w (brT k b.toNat) ≤ m ∨ m = 1000000
end Go.Proofs.Ytdpajabhmmmjoaa
end
noncomputable section
namespace Go.Proofs.Ytdpajabhmmmjoaa
open Go.AM
set_option autoImplicit false
set_option linter.unusedVariables false
set_option maxRecDepth 100000
end Go.Proofs.Ytdpajabhmmmjoaa
end
noncomputable section
namespace Go.Proofs.Ytdpajabhmmmjoaa
open Go.AM
set_option autoImplicit false
set_option linter.unusedVariables false
def alE (ts : List ak) (t : Int) (v : aB) (m : Nat) : Prop := cO ts t v = true ∧ wV v ≤ m
end Go.Proofs.Ytdpajabhmmmjoaa
end
noncomputable section
namespace Go.Proofs.Ytdpajabhmmmjoaa
open Go.AM
set_option autoImplicit false
set_option linter.unusedVariables false
def jn (k : ak) (r : List Int) (b : Int) : Prop :=
 (b = -1 ∧ ∀ j, j < k.branches.length → rk r (brT k j) < 0) ∨ (vn k r b ∧ 0 ≤ rk r (brT k b.toNat))
structure wO (k : ak) (r : List Int) (m : Int) : Prop where
 low : 0 ≤ m
 pos : (k.kind = 9 ∨ k.kind = 14) → 1 ≤ m
 uni : k.kind = 14 → ∃ b ∈ k.branches, 0 ≤ rk r b ∧ rk r b < m
 rcd : k.kind = 9 → ∀ f ∈ k.fields, 0 ≤ rk r f.typ ∧ rk r f.typ < m
 pre : 2 ≤ m → ∃ j : Nat, j < r.length ∧ r.getD j 0 + 1 = m
def sN (k : ak) (r : List Int) (m : Int) : Prop := (m = -1 ∧ (k.kind = 9 ∨ k.kind = 14)) ∨ wO k r m
structure oC (ts : List ak) (r : List Int) (m : Int) : Prop where
 len : r.length = ts.length
 low : ∀ i, i < r.length → -1 ≤ r.getD i 0
 top : ∀ i, i < r.length → r.getD i 0 ≤ m
 ok : ∀ i, i < r.length → 0 ≤ r.getD i 0 → wO (ts.getD i (aC .atype)) r (r.getD i 0)
def nF (ts : List ak) (r : List Int) : Prop := oC ts r ts.length ∧ ∀ i, i < ts.length → r.getD i 0 < 0 → (ts.getD i (aC .atype)).kind = 9 ∨ (ts.getD i (aC .atype)).kind = 14
def fH (k : ak) (r l : List Int) : Prop :=
 if k.kind = 14 then ∃ b, jn k r b ∧ 0 ≤ b ∧ l = k.fields.map (·.typ) ++ [brT k b.toNat] else l = k.fields.map (·.typ)
def nG (k : ak) (r l : List Int) : Prop := fH k r l
def ep (w : List Int) : List Int → Int
 | [] => 0
 | t :: l => rk w t + ep w l
def afe (x : Int) : Int := if 1000000 < x then 1000000 else x
structure qa (ts : List ak) (r w : List Int) : Prop where
 len : w.length = ts.length
 low : ∀ i, i < ts.length → 0 ≤ w.getD i 0 ∧ w.getD i 0 ≤ 1000000
 ok : ∀ i, i < ts.length → w.getD i 0 ≠ 0 → 0 ≤ r.getD i 0 ∧ ∃ l, fH (ts.getD i (aC .atype)) r l ∧ (∀ t ∈ l, rk w t ≠ 0) ∧ w.getD i 0 = afe (1 + ep w l)
def vo (w : List Int) (ts : List ak) (t : Int) (r : List Int) (x : Int × List Int) : Prop :=
 qa ts r x.2 ∧ (∀ i, w.getD i 0 ≠ 0 → x.2.getD i 0 = w.getD i 0) ∧ x.1 = rk x.2 t ∧ x.1 ≠ 0 ∧ ∀ j, j < ts.length → rk r t < r.getD j 0 → x.2.getD j 0 = w.getD j 0
def rH (ts : List ak) (t : Int) (r : List Int) (v : aB) : Prop :=
 cO ts t v = true ∧ v.n = 0 ∧ ∀ w, qa ts r w → rk w t ≠ 0 → rk w t ≤ 2000 → (wV v : Int) ≤ 6000 * rk w t
end Go.Proofs.Ytdpajabhmmmjoaa
end
noncomputable section
namespace Go.AM
set_option autoImplicit false
set_option linter.unusedSimpArgs false
set_option linter.unusedVariables false
section
variable {P : Program}
def tj : Option (List V × List V) → V → V
 | none, h => h
 | some (p, q), h => .tup (p ++ h :: q)
def aei : Option (List V × List V) → Bool
 | none => true
 | some (p, q) => p.all V.flat && q.all V.flat
def u4 (P : Program) (f : FuncId) (vs : List V) (o : Option (List V × List V)) (k : EK) (xs : List (Ty k)) : Prop :=
 iJ P f vs [] (tj o (.sw k 0 xs.length)) [some [.rw k xs], none]
theorem u4.dim {f : FuncId} {vs us : List V} {o : Option (List V × List V)} {k : EK} {xs : List (Ty k)} (h : u4 P f us o k xs) (e : vs.map V.dim = us) : u4 P f vs o k xs := iJ.dim h e
theorem akU {I I' : Nat → Nat → Prop} {ρ ρ' : Nat → Nat} {N N' : Nat} {w : World} {o : Option (List V × List V)} {h h' : V} {cv : Value} (ho : aei o = true) (hr : VRel I ρ N w (tj o h) cv)
  (hh : ∀ cv, VRel I ρ N w h cv → VRel I' ρ' N' w h' cv) (hf : ∀ v cv, v.flat = true → VRel I ρ N w v cv → VRel I' ρ' N' w v cv) : VRel I' ρ' N' w (tj o h') cv := by
 cases o with
 | none => exact hh cv hr
 | some pq =>
   obtain ⟨p, q⟩ := pq
   simp only [aei, Bool.and_eq_true] at ho
   simp only [tj] at hr ⊢
   cases hr with
   | tup _ vs hl hv =>
   refine .tup _ vs (by simpa using hl) ?_
   intro i c cv hc hcv
   rcases Nat.lt_trichotomy i p.length with hi | hi | hi
   ·rw [List.getElem?_append_left hi] at hc
    exact hf c cv (List.all_eq_true.1 ho.1 c (List.mem_of_getElem? hc)) (hv i c cv (by rw [List.getElem?_append_left hi]; exact hc) hcv)
   ·subst hi
    rw [List.getElem?_append_right (Nat.le_refl _), Nat.sub_self] at hc
    simp only [List.getElem?_cons_zero, Option.some.injEq] at hc
    subst hc
    exact hh cv (hv _ h cv (by rw [List.getElem?_append_right (Nat.le_refl _), Nat.sub_self]; rfl) hcv)
   ·rw [List.getElem?_append_right (by omega), show i - p.length = (i - p.length - 1) + 1 by omega, List.getElem?_cons_succ] at hc
    exact hf c cv (List.all_eq_true.1 ho.2 c (List.mem_of_getElem? hc)) (hv i c cv (by rw [List.getElem?_append_right (by omega), show i - p.length = (i - p.length - 1) + 1 by omega, List.getElem?_cons_succ]; exact hc) hcv)
theorem akV {g : Gh} {w : World} {occ : Occ} {o : Option (List V × List V)} {k : EK} {id n : Nat} {cv : Value} : aP g w occ (tj o (.sw k id n)) cv := by
 cases o with
 | none => simp [tj, aP]
 | some pq => simp [tj, aP]
theorem u4.frame {f : FuncId} {vs : List V} {o : Option (List V × List V)} {k : EK} {xs : List (Ty k)} (h : u4 P f vs o k xs) (hf : vs.all V.flat = true) (ho : aei o = true) (hp : List aI) :
  iJ P f vs hp (tj o (.sw k hp.length xs.length)) (hp ++ [some [.rw k xs], none]) := by
 intro w g cargs hβ hhr hlen hbare hrel
 let g₀ : Gh := { I := g.I, ρ := g.ρ, O := fun _ => none, β := g.β }
 have h0 : HR g₀ [] w := ⟨by simp, by simp, by simp, by simp, hhr.exI, by simp [g₀]⟩
 refine (h w g₀ cargs hβ h0 hlen hbare (fun i x cv hx hcv => (hrel i x cv hx hcv).flat (List.all_eq_true.1 hf x (List.mem_of_getElem? hx)))).mono ?_
 rintro e w' ⟨cv, g₁, rfl, q1, q2, q3, q4⟩
 have blk : ∀ b, b < w.heap.size → w'.heap[b]? = w.heap[b]? := fun b hb => q2.block b hb (by simp) rfl
 have isame : ∀ b j, b < w.heap.size → g₁.I b j → g.I b j := fun b j hb hi => q2.iSame b j hb (by simp) rfl hi
 have osame : ∀ b, b < w.heap.size → g₁.O b = none := fun b hb => q2.oSame b hb (by simp) rfl
 have hnew : w.heap.size ≤ g₁.ρ 0 := by
  rcases q2.live 0 [.rw k xs] rfl with ⟨_, h⟩ | ⟨_, h | h | ⟨_, _, h, _⟩⟩
  ·simp at h
  ·exact h
  ·simp [g₀] at h
  ·simp at h
 let g₂ : Gh := { I := g₁.I, ρ := fun i => if i = hp.length then g₁.ρ 0 else if i = hp.length + 1 then g₁.ρ 1 else g.ρ i, β := g.β, O := fun b => if b < w.heap.size then g.O b else (match g₁.O b with
  | some .res => some .res
  | _ => none) }
 have rold : ∀ i, i < hp.length → g₂.ρ i = g.ρ i := by
  intro i hi
  simp only [g₂]
  rw [if_neg (by omega), if_neg (by omega)]
 have rnew : g₂.ρ hp.length = g₁.ρ 0 := by simp [g₂]
 have rcap : g₂.ρ (hp.length + 1) = g₁.ρ 1 := by simp [g₂]
 have up : Up g.I g.ρ hp.length w g₂.I g₂.ρ (hp ++ [some [V.rw k xs], none]).length w' := ⟨q2.up.mono, q2.up.cell, rold, by simp⟩
 have olt : ∀ (id : Nat) cs, hp[id]? = some (some cs) → g.ρ id < w.heap.size := by
  intro id cs hid
  obtain ⟨arr, e, fz, h1, _⟩ := hhr.obj id cs hid
  exact (Array.getElem?_eq_some_iff.1 h1).1
 have lt_of : ∀ (id : Nat) cs, hp[id]? = some (some cs) → id < hp.length := fun id cs hid => (List.getElem?_eq_some_iff.1 hid).1
 have key : ∀ (id : Nat) c, (hp ++ [some [V.rw k xs], none])[id]? = some (some c) → (id = hp.length ∧ c = [V.rw k xs]) ∨ hp[id]? = some (some c) := by
  intro id c hid
  rcases Nat.lt_or_ge id hp.length with hl | hl
  ·rw [List.getElem?_append_left hl] at hid
   exact .inr hid
  ·rw [List.getElem?_append_right hl] at hid
   match hq : id - hp.length, hid with
   | 0, hid => simp at hid; exact .inl ⟨by omega, hid.symm⟩
   | 1, hid => simp at hid
   | n + 2, hid => simp at hid
 have okeep : ∀ id j v cv, id < hp.length → aP g w (.cell id j) v cv → aP g₂ w' (.cell id j) v cv := by
  intro id j v cv hid ho
  refine da ho rfl (fun b j hi => ⟨q2.up.mono b j hi, q2.up.cell b j hi⟩) ?_
  intro b hb
  have hlt := hhr.oLt b _ hb
  exact ⟨by simp [g₂, hlt, hb], blk b hlt, fun j hj => isame b j hlt hj⟩
 refine ⟨cv, g₂, rfl, ⟨?_, ?_, ?_, ?_, q1.exI, ?_⟩, ⟨rfl, q2.os, q2.tape, q2.output, q2.size, fun b hb _ _ => blk b hb, up, fun b j hb _ _ hi => isame b j hb hi, ?_, ?_⟩, ?_, akV⟩
 ·intro id c hid
  rcases key id c hid with ⟨rfl, rfl⟩ | hid
  ·obtain ⟨arr, e, fz, a1, a2⟩ := q1.obj 0 _ rfl
   refine ⟨arr, e, fz, by rw [rnew]; exact a1, a2.len, a2.plain, ?_, a2.cold, a2.one, ?_, ?_, ?_⟩
   ·intro k2 ys hz
    obtain ⟨t1, t2, t3, t4⟩ := a2.typed k2 ys hz
    refine ⟨t1, ?_, by simp, fun hk => (t4 hk).trans q2.beta⟩
    rw [rcap]
    exact t2
   ·intro j c cv hc hcv
    have hc' := hc
    simp only [cellsOf] at hc'
    obtain ⟨y, hy, hc'⟩ := gY _ j _ hc'
    exact sM hc' (a2.rel j c cv hc hcv)
   ·intro j c cv hc hcv
    have hm := List.mem_of_getElem? hc
    simp only [cellsOf, List.mem_flatMap] at hm
    obtain ⟨y, _, hm⟩ := hm
    exact lY (vf k y c hm) _ _ _ _
   ·intro j E n hc
    simp only [cellsOf] at hc
    obtain ⟨y, _, hc⟩ := gY _ j _ hc
    exact absurd hc (zd k y _ E n)
  ·obtain ⟨arr, e, fz, h1, h2⟩ := hhr.obj id c hid
   have hl := lt_of id c hid
   exact ⟨arr, e, fz, by rw [rold id hl]; exact (blk _ (olt id c hid)).trans h1, h2.len, h2.plain, h2.typedUp rfl rold (by simp) rfl, h2.cold, h2.one, fun j c cv hc hcv => (h2.rel j c cv hc hcv).up up, fun j c cv hc hcv => okeep _ _ _ _ hl (h2.own j c cv hc hcv), fun j E n hj => by rw [rold id hl]; exact h2.bn j E n hj⟩
 ·intro id id' c c' hid hid' hne
  rcases key id c hid with ⟨rfl, rfl⟩ | h1
  ·rcases key id' c' hid' with ⟨rfl, rfl⟩ | h2
   ·exact absurd rfl hne
   ·rw [rnew, rold id' (lt_of id' c' h2)]
    have := olt id' c' h2
    omega
  ·rcases key id' c' hid' with ⟨rfl, rfl⟩ | h2
   ·rw [rnew, rold id (lt_of id c h1)]
    have := olt id c h1
    omega
   ·rw [rold id (lt_of id c h1), rold id' (lt_of id' c' h2)]
    exact hhr.apart _ _ _ _ h1 h2 hne
 ·intro id c hid j hj
  rcases key id c hid with ⟨rfl, rfl⟩ | hid
  ·rw [rnew] at hj
   exact q1.notI 0 _ rfl j hj
  ·rw [rold id (lt_of id c hid)] at hj
   exact hhr.notI id c hid j (isame _ j (olt id c hid) hj)
 ·intro id c hid
  rcases key id c hid with ⟨rfl, rfl⟩ | hid
  ·rw [rnew]
   have h1 := q1.notO 0 _ rfl
   have h2 : ¬ g₁.ρ 0 < w.heap.size := by omega
   simp [g₂, h1, h2]
  ·rw [rold id (lt_of id c hid)]
   have := olt id c hid
   simp [g₂, this, hhr.notO id c hid]
 ·intro b o hb
  simp only [g₂] at hb
  split at hb
  ·rename_i hlt
   exact Nat.lt_of_lt_of_le hlt q2.size
  ·split at hb
   ·rename_i hres
    exact q1.oLt b _ hres
   ·simp at hb
 ·intro b hb _ hO
  simp [g₂, hb, hO]
 ·intro id c hid
  rcases key id c hid with ⟨rfl, rfl⟩ | hid
  ·exact .inr ⟨Nat.le_refl _, .inl (by rw [rnew]; exact hnew)⟩
  ·exact .inl ⟨c, hid⟩
 ·refine akU ho q3 ?_ ?_
  ·intro cv hr
   cases hr with
   | sw _ _ _ hN hc hm =>
   rw [Nat.zero_add] at hc hm
   have := VRel.sw (I := g₂.I) (ρ := g₂.ρ) (N := (hp ++ [some [V.rw k xs], none]).length) (w := w') k hp.length xs.length (by simp) (by rw [rcap]; exact hc) (by rw [rcap]; exact hm)
   rw [rcap, rnew] at this
   exact this
  ·intro v cv hv hr
   exact (hr.up (I' := g₂.I) (ρ' := g₁.ρ) (N' := 2) ⟨fun _ _ hi => hi, fun _ _ _ => rfl, fun _ _ => rfl, Nat.le_refl _⟩).flat hv
abbrev ahy := Nat → List V → Option (Bool × Option (List V × List V) × ((k : EK) × List (Ty k)))
def wP (G : ahy) (Γ : aM) : aM := fun f vs hp =>
 match G f vs with
 | some (c, o, ⟨k, xs⟩) => cond (vs.all V.flat && aei o) (some (c, tj o (.sw k hp.length xs.length), hp ++ [some [.rw k xs], none])) none
 | none => Γ f vs hp
theorem alF {G : ahy} {Γ : aM} (hG : ∀ f vs o k xs, G f vs = some (true, o, ⟨k, xs⟩) → u4 P f vs o k xs) (hΓ : cC P Γ) : cC P (wP G Γ) := by
 intro f vs hp v hp' h
 unfold wP at h
 split at h
 ·rename_i c o k xs hg
  cases hst : (vs.all V.flat && aei o) with
  | false => rw [hst] at h; simp at h
  | true =>
    rw [hst] at h
    simp only [cond_true, Option.some.injEq, Prod.mk.injEq] at h
    obtain ⟨rfl, rfl, rfl⟩ := h
    simp only [Bool.and_eq_true] at hst
    exact (hG f vs o k xs hg).frame hst.1 hst.2 hp
 ·exact hΓ _ _ _ _ _ h
theorem akg {G : ahy} {Γ : aM} {imp : List Nat} (hG : ∀ f vs, imp.contains f = false → G f vs = none) (hG' : ∀ f vs, imp.contains (f + 2000000) = true → G f vs = none) (hΓ : cM Γ imp) : cM (wP G Γ) imp := by
 refine ⟨?_, ?_⟩
 ·intro f vs hp hf
  have e : ∀ hp, wP G Γ f vs hp = Γ f vs hp := by
   intro hp
   unfold wP
   rw [hG f vs hf]
  rw [e, e]
  exact hΓ.pure f vs hp hf
 ·intro f vs hp c v hp' hf h
  have e : ∀ hp, wP G Γ f vs hp = Γ f vs hp := by
   intro hp
   unfold wP
   rw [hG' f vs hf]
  rw [e] at h
  obtain ⟨q, q1, q2, q3⟩ := hΓ.loc _ _ _ _ _ _ hf h
  exact ⟨q, q1, q2, fun hp2 hl hh => by rw [e]; exact q3 hp2 hl hh⟩
def abT (P : Program) (f : FuncId) (p q : List V) (k : EK) (xs : List (Ty k)) (v : V) (ys : List (Ty k)) : Prop :=
 ∃ rest, iJ P f (p ++ .sw k 0 xs.length :: q) [some [.rw k xs], none] v (some [.rw k ys] :: none :: rest)
theorem te.rowTo {g g' : Gh} {N N' : Nat} {w : World} {id id' : Nat} {k : EK} {xs : List (Ty k)} {arr : Array Value} {e : TypeId} {fz : Nat × Nat} (h : te g N w id [.rw k xs] arr e fz)
  (hI : g'.I = g.I) (hβ : g'.β = g.β) (hr : g'.ρ (id' + 1) = g.ρ (id + 1)) (hn : id' + 1 < N') : te g' N' w id' [.rw k xs] arr e fz := by
 refine ⟨h.len, h.plain, ?_, h.cold, h.one, ?_, ?_, ?_⟩
 ·intro k2 ys hz
  obtain ⟨t1, t2, t3, t4⟩ := h.typed k2 ys hz
  exact ⟨t1, by rw [hr]; exact t2, hn, fun hk => (t4 hk).trans hβ.symm⟩
 ·intro j c cv hc hcv
  have hc' := hc
  simp only [cellsOf] at hc'
  obtain ⟨y, hy, hc'⟩ := gY _ j _ hc'
  rw [hI]
  exact sM hc' (h.rel j c cv hc hcv)
 ·intro j c cv hc hcv
  have hm := List.mem_of_getElem? hc
  simp only [cellsOf, List.mem_flatMap] at hm
  obtain ⟨y, _, hm⟩ := hm
  exact lY (vf k y c hm) _ _ _ _
 ·intro j E n hc
  simp only [cellsOf] at hc
  obtain ⟨y, _, hc⟩ := gY _ j _ hc
  exact absurd hc (zd k y _ E n)
theorem abT.frame {f : FuncId} {p q : List V} {k : EK} {xs ys : List (Ty k)} {v : V} (h : abT P f p q k xs v ys) (hp1 : p.all V.flat = true) (hq1 : q.all V.flat = true) (hv : v.flat = true)
  {hp : List aI} {id : Nat} (hid : hp[id]? = some (some [.rw k xs])) : iJ P f (p ++ .sw k id xs.length :: q) hp v (hp.set id (some [.rw k ys])) := by
 obtain ⟨rest, h⟩ := h
 have hidl : id < hp.length := (List.getElem?_eq_some_iff.1 hid).1
 intro w g cargs hβ hhr hlen hbare hrel
 obtain ⟨arr, e, fz, a1, a2⟩ := hhr.obj id _ hid
 obtain ⟨t1, t2, t3, t4⟩ := a2.typed k xs rfl
 let g₀ : Gh := { I := g.I, ρ := fun i => if i = 0 then g.ρ id else g.ρ (id + 1), O := fun _ => none, β := g.β }
 have z0 : ∀ (i : Nat) cs, ([some [V.rw k xs], none] : List aI)[i]? = some (some cs) → i = 0 ∧ cs = [.rw k xs] := by
  intro i cs hi
  match i, hi with
  | 0, hi => simp at hi; exact ⟨rfl, hi.symm⟩
  | 1, hi => simp at hi
  | n + 2, hi => simp at hi
 have h0 : HR g₀ [some [.rw k xs], none] w := by
  refine ⟨?_, ?_, ?_, ?_, hhr.exI, by simp [g₀]⟩
  ·intro i cs hi
   obtain ⟨rfl, rfl⟩ := z0 i cs hi
   exact ⟨arr, e, fz, a1, a2.rowTo rfl rfl rfl (by simp)⟩
  ·intro i i' cs cs' hi hi' hne
   obtain ⟨rfl, _⟩ := z0 i cs hi
   obtain ⟨rfl, _⟩ := z0 i' cs' hi'
   exact absurd rfl hne
  ·intro i cs hi
   obtain ⟨rfl, _⟩ := z0 i cs hi
   exact hhr.notI id _ hid
  ·intro i cs hi
   rfl
 have hargs : ∀ (i : Nat) x cv, (p ++ .sw k 0 xs.length :: q)[i]? = some x → cargs[i]? = some cv → VRel g₀.I g₀.ρ ([some [V.rw k xs], none] : List aI).length w x cv := by
  intro i x cv hx hcv
  rcases Nat.lt_trichotomy i p.length with hi | hi | hi
  ·rw [List.getElem?_append_left hi] at hx
   exact (hrel i x cv (by rw [List.getElem?_append_left hi]; exact hx) hcv).flat (List.all_eq_true.1 hp1 x (List.mem_of_getElem? hx))
  ·subst hi
   rw [List.getElem?_append_right (Nat.le_refl _), Nat.sub_self] at hx
   simp only [List.getElem?_cons_zero, Option.some.injEq] at hx
   subst hx
   have r := hrel p.length (.sw k id xs.length) cv (by rw [List.getElem?_append_right (Nat.le_refl _), Nat.sub_self]; rfl) hcv
   cases r with
   | sw _ _ _ hN hc hm => exact VRel.sw (I := g₀.I) (ρ := g₀.ρ) (N := ([some [V.rw k xs], none] : List aI).length) (w := w) k 0 xs.length (by simp) hc hm
  ·rw [List.getElem?_append_right (by omega), show i - p.length = (i - p.length - 1) + 1 by omega, List.getElem?_cons_succ] at hx
   exact (hrel i x cv (by rw [List.getElem?_append_right (by omega), show i - p.length = (i - p.length - 1) + 1 by omega, List.getElem?_cons_succ]; exact hx) hcv).flat (List.all_eq_true.1 hq1 x (List.mem_of_getElem? hx))
 refine (h w g₀ cargs hβ h0 (by simpa using hlen) (by
  intro x hx
  rcases List.mem_append.1 hx with hx | hx
  ·exact hbare x (List.mem_append_left _ hx)
  ·rcases List.mem_cons.1 hx with rfl | hx
   ·rfl
   ·exact hbare x (List.mem_append_right _ (List.mem_cons_of_mem _ hx))) hargs).mono ?_
 rintro ex w' ⟨cv, g₁, rfl, q1, q2, q3, q4⟩
 have r0 : g₁.ρ 0 = g.ρ id := q2.up.rho 0 (by simp)
 have r1 : g₁.ρ (0 + 1) = g.ρ (id + 1) := q2.up.rho 1 (by simp)
 have noO : ∀ b, g.ρ id ≠ b → ∀ (i : Nat) cs, ([some [V.rw k xs], none] : List aI)[i]? = some (some cs) → g₀.ρ i ≠ b := by
  intro b hb i cs hi
  obtain ⟨rfl, _⟩ := z0 i cs hi
  exact hb
 have blk : ∀ b, b < w.heap.size → g.ρ id ≠ b → w'.heap[b]? = w.heap[b]? := fun b hb hne => q2.block b hb (noO b hne) rfl
 have isame : ∀ b j, b < w.heap.size → g.ρ id ≠ b → g₁.I b j → g.I b j := fun b j hb hne hi => q2.iSame b j hb (noO b hne) rfl hi
 have osame : ∀ b, b < w.heap.size → g.ρ id ≠ b → g₁.O b = none := fun b hb hne => q2.oSame b hb (noO b hne) rfl
 have n0 := q1.notO 0 [.rw k ys] rfl
 rw [r0] at n0
 let g₂ : Gh := { I := g₁.I, ρ := g.ρ, O := fun b => match g₁.O b with
  | some .res => some .res
  | some _ => none
  | none => if b < w.heap.size then g.O b else none, β := g.β }
 have up : Up g.I g.ρ hp.length w g₂.I g₂.ρ (hp.set id (some [V.rw k ys])).length w' := ⟨q2.up.mono, q2.up.cell, fun _ _ => rfl, by simp⟩
 have olt : ∀ (i : Nat) c, hp[i]? = some (some c) → g.ρ i < w.heap.size := by
  intro i c hi
  obtain ⟨arr, e, fz, h1, _⟩ := hhr.obj i c hi
  exact (Array.getElem?_eq_some_iff.1 h1).1
 have key : ∀ (i : Nat) c, (hp.set id (some [V.rw k ys]))[i]? = some (some c) → (i = id ∧ c = [.rw k ys]) ∨ (i ≠ id ∧ hp[i]? = some (some c)) := by
  intro i c hi
  rw [List.getElem?_set] at hi
  split at hi
  ·rename_i e'
   simp [hidl] at hi
   exact .inl ⟨e'.symm, hi.symm⟩
  ·rename_i e'
   exact .inr ⟨fun h => e' h.symm, hi⟩
 have live₀ : ∀ (i : Nat) c, (hp.set id (some [V.rw k ys]))[i]? = some (some c) → ∃ c₀, hp[i]? = some (some c₀) := by
  intro i c hi
  rcases key i c hi with ⟨rfl, _⟩ | ⟨_, h⟩
  ·exact ⟨_, hid⟩
  ·exact ⟨c, h⟩
 have apartR : ∀ (i : Nat) c, i ≠ id → hp[i]? = some (some c) → g.ρ id ≠ g.ρ i := fun i c hne hi => hhr.apart _ _ _ _ hid hi hne.symm
 have ownBlk : ∀ b o, g.O b = some o → g.ρ id ≠ b := by
  intro b o hb e'
  rw [← e', hhr.notO _ _ hid] at hb
  cases hb
 have g2same : ∀ b, b < w.heap.size → g₂.O b = g.O b := by
  intro b hb
  by_cases hne : g.ρ id = b
  ·subst hne
   simp only [g₂, n0]
   rw [if_pos hb]
  ·simp only [g₂, osame b hb hne]
   rw [if_pos hb]
 refine ⟨cv, g₂, rfl, ⟨?_, ?_, ?_, ?_, q1.exI, ?_⟩, ⟨rfl, q2.os, q2.tape, q2.output, q2.size, ?_, up, ?_, ?_, ?_⟩, ?_, ?_⟩
 ·intro i c hi
  rcases key i c hi with ⟨rfl, rfl⟩ | ⟨hne, hi⟩
  ·obtain ⟨arr', e', fz', b1, b2⟩ := q1.obj 0 _ rfl
   rw [r0] at b1
   exact ⟨arr', e', fz', b1, b2.rowTo rfl q2.beta.symm r1.symm (by simpa using t3)⟩
  ·obtain ⟨arr', e', fz', b1, b2⟩ := hhr.obj i c hi
   refine ⟨arr', e', fz', (blk _ (olt i c hi) (apartR i c hne hi)).trans b1, b2.len, b2.plain, b2.typedUp rfl (fun _ _ => rfl) up.num rfl, b2.cold, b2.one, fun j c cv hj hcv => (b2.rel j c cv hj hcv).up up, ?_, b2.bn⟩
   intro j c' cv hj hcv
   refine da (b2.own j c' cv hj hcv) rfl (fun b j hi => ⟨up.mono b j hi, up.cell b j hi⟩) ?_
   intro b hb
   have hlt := hhr.oLt b _ hb
   have hbne := ownBlk b _ hb
   exact ⟨(g2same b hlt).trans hb, blk b hlt hbne, fun j hj => isame b j hlt hbne hj⟩
 ·intro i i' c c' hi hi' hne
  obtain ⟨c₀, m1⟩ := live₀ i c hi
  obtain ⟨c₁, m2⟩ := live₀ i' c' hi'
  exact hhr.apart _ _ _ _ m1 m2 hne
 ·intro i c hi j hj
  rcases key i c hi with ⟨rfl, rfl⟩ | ⟨hne, hi⟩
  ·have := q1.notI 0 _ rfl j
   rw [r0] at this
   exact this hj
  ·exact hhr.notI i c hi j (isame _ j (olt i c hi) (apartR i c hne hi) hj)
 ·intro i c hi
  obtain ⟨c₀, m1⟩ := live₀ i c hi
  exact (g2same _ (olt i c₀ m1)).trans (hhr.notO i c₀ m1)
 ·intro b o hb
  simp only [g₂] at hb
  split at hb
  ·rename_i hq; exact q1.oLt b _ hq
  ·simp at hb
  ·split at hb
   ·rename_i hq; exact Nat.lt_of_lt_of_le hq q2.size
   ·simp at hb
 ·intro b hb ho hO
  exact blk b hb (ho id _ hid)
 ·intro b j hb ho hO hi
  exact isame b j hb (ho id _ hid) hi
 ·intro b hb ho hO
  exact (g2same b hb).trans hO
 ·intro i c hi
  exact .inl (live₀ i c hi)
 ·exact q3.flat hv
 ·exact q4.reloc q2.beta.symm rfl fun b hb => by simp [g₂, hb]
def xY : List V → Option (List V × (EK × Nat × Nat) × List V)
 | [] => none
 | .sw k id n :: r => some ([], (k, id, n), r)
 | v :: r => match xY r with
   | some (p, x, q) => some (v :: p, x, q)
   | none => none
theorem aej : ∀ {vs p q : List V} {k : EK} {id n : Nat}, xY vs = some (p, (k, id, n), q) → vs = p ++ .sw k id n :: q
 | [], _, _, _, _, _, h => by simp [xY] at h
 | v :: r, p, q, k, id, n, h => by
   unfold xY at h
   split at h
   ·simp at h
   ·rename_i k' id' n' r' e
    simp only [List.cons.injEq] at e
    obtain ⟨rfl, rfl⟩ := e
    simp only [Option.some.injEq, Prod.mk.injEq] at h
    obtain ⟨rfl, ⟨rfl, rfl, rfl⟩, rfl⟩ := h
    rfl
   ·rename_i v' r' _ e
    simp only [List.cons.injEq] at e
    obtain ⟨rfl, rfl⟩ := e
    split at h
    ·rename_i p' x' q' hr
     obtain ⟨k', id', n'⟩ := x'
     simp only [Option.some.injEq, Prod.mk.injEq] at h
     obtain ⟨rfl, ⟨rfl, rfl, rfl⟩, rfl⟩ := h
     rw [aej hr]
     rfl
    ·simp at h
abbrev aek := Nat → List V → List V → (k : EK) → List (Ty k) → Option (Bool × V × List (Ty k))
def zw (G : aek) (Γ : aM) : aM := fun f vs hp =>
 match xY vs with
 | none => Γ f vs hp
 | some (p, (k, id, n), q) => match hp.getD id none with
   | some [.rw k' xs] => match G f p q k' xs with
     | some (c, v, ys) => cond (decide (k = k') && (p.all V.flat && q.all V.flat && v.flat)) (some (c && Nat.beq n xs.length, v, hp.set id (some [.rw k' ys]))) none
     | none => Γ f vs hp
   | _ => Γ f vs hp
theorem aib {G : aek} {Γ : aM} (hG : ∀ f p q k xs v ys, G f p q k xs = some (true, v, ys) → abT P f p q k xs v ys) (hΓ : cC P Γ) : cC P (zw G Γ) := by
 intro f vs hp v hp' h
 unfold zw at h
 split at h
 ·exact hΓ _ _ _ _ _ h
 ·rename_i p k id n q hs
  split at h
  ·rename_i k' xs ho
   split at h
   ·rename_i c v' ys hg
    cases hst : (decide (k = k') && (p.all V.flat && q.all V.flat && v'.flat)) with
    | false => rw [hst] at h; simp at h
    | true =>
      rw [hst] at h
      simp only [cond_true, Option.some.injEq, Prod.mk.injEq] at h
      obtain ⟨hcn, rfl, rfl⟩ := h
      simp only [Bool.and_eq_true, decide_eq_true_eq, Nat.beq_eq] at hst hcn
      obtain ⟨rfl, rfl⟩ := hcn
      obtain ⟨rfl, ⟨h1, h2⟩, h3⟩ := hst
      rw [aej hs]
      refine (hG f p q k xs _ ys hg).frame h1 h2 h3 ?_
      rw [List.getD_eq_getElem?_getD] at ho
      cases hq : hp[id]? with
      | none => rw [hq] at ho; simp at ho
      | some x => rw [hq] at ho; simpa using ho
   ·exact hΓ _ _ _ _ _ h
  ·exact hΓ _ _ _ _ _ h
theorem ael {G : aek} {Γ : aM} {imp : List Nat} (hG : ∀ f p q k xs, imp.contains f = false → G f p q k xs = none) (hG' : ∀ f p q k xs, imp.contains (f + 2000000) = true → G f p q k xs = none) (hΓ : cM Γ imp) : cM (zw G Γ) imp := by
 have e : ∀ f, (∀ p q k xs, G f p q k xs = none) → ∀ vs hp, zw G Γ f vs hp = Γ f vs hp := by
  intro f hf vs hp
  unfold zw
  split
  ·rfl
  ·split
   ·rw [hf]
   ·rfl
 refine ⟨?_, ?_⟩
 ·intro f vs hp hf
  rw [e f (fun p q k xs => hG f p q k xs hf), e f (fun p q k xs => hG f p q k xs hf)]
  exact hΓ.pure f vs hp hf
 ·intro f vs hp c v hp' hf h
  rw [e f (fun p q k xs => hG' f p q k xs hf)] at h
  obtain ⟨q, q1, q2, q3⟩ := hΓ.loc _ _ _ _ _ _ hf h
  exact ⟨q, q1, q2, fun hp2 hl hh => by rw [e f (fun p q k xs => hG' f p q k xs hf)]; exact q3 hp2 hl hh⟩
end
end Go.AM
end
noncomputable section
namespace Go.AM
set_option autoImplicit false
section
variable {P : Program} {Γ : aM} {imp : List Nat} {n : Nat} {f : FuncId} {fn : Func} {ir : IR} {rs : List RV} {x : Ro}
theorem abT.dim {p q p' q' : List V} {k : EK} {xs ys : List (Ty k)} {v : V} (h : abT P f p q k xs v ys) (e1 : p'.map V.dim = p) (e2 : q'.map V.dim = q) : abT P f p' q' k xs v ys := by
 obtain ⟨rest, h⟩ := h
 refine ⟨rest, h.dim ?_⟩
 rw [List.map_append, List.map_cons, e1, e2]
 rfl
theorem FnC.rwFn {p q : List V} {k : EK} {xs ys : List (Ty k)} {v : V} {rest : List aI} (h : FnC P Γ imp 2 f fn ir rs) (hr : bb Γ n fn.ntmps rs ir (p ++ .sw k 0 xs.length :: q) [some [.rw k xs], none] = x)
  (hz : x = some (v, some [.rw k ys] :: none :: rest)) : abT P f p q k xs v ys := ⟨rest, h.fnOK rfl (hr.trans hz)⟩
end
end Go.AM
end
noncomputable section
namespace Go.Proofs.Ytdpajabhmmmjoaa
open Go.AM
set_option autoImplicit false
set_option linter.unusedVariables false
set_option maxRecDepth 100000
abbrev kj : FuncId := 75
def oD : Nat → List V → Option (Bool × V) := fun _ _ => none
def eY : aM := (rq oD)
theorem sO : cM eY [] := (rt _ _)
theorem tE  : cC Try.prog eY := by
 intro f vs hp v hp' h
 obtain ⟨h, -⟩ := agc h
 simp [oD] at h
def nH : IR := Rs [Pp (.mov 2 (.c (.ul (.num .i64) ([] : List Int))))] (Sq (Rs [Mv 3 0, Pp (.snil 4 (.t 3))] (Cn 4 (Rs [Pp (.mov 2 (.c (.ul (.num .i64) ([] : List Int))))] .ret) .skip)) (Rs [Pp (.blu 5 (.num .i64)), Mv 6 0, Pp (.apu 7 (.num .i64) (.tk 5) 6), Pp (.mov 2 (.tk 7))] (.gh (.opn (.slot 2)) .ret)))
def nI : List RV := [.t 2]
theorem tZ : (bY Try.prog [] 0 nH (Try.f75.body.getD .skip) && rv Try.prog nI Try.f75.results.toList) = true := by kernel_rfl
theorem tF : Try.f75.body = some (Try.f75.body.getD .skip) := by kernel_rfl
def nJ (N : Nat) (p0 : List Int)  : Ro :=
 chk (decide (0 < List.length p0)) (
  chk (decide ((List.length ([] : List Int) + List.length p0) * 8 ≤ 140737488355328)) (
   chk (decide (0 < List.length (([] : List Int) ++ p0))) (
    some (.sw (.num .i64) 0 (List.length (([] : List Int) ++ p0)), [some [.rw (.num .i64) (([] : List Int) ++ p0)], none]))))
def iN (N : Nat) (p0 : List Int) : Ro := nJ N p0
theorem t6 (N : Nat) (p0 : List Int) : bb eY N 8 nI nH [.sl (.num .i64) (.may false) p0] [] = iN N p0 := by kernel_rfl
theorem u5 (hΓ : cC Try.prog eY) (N : Nat) (p0 : List Int) {o : Option (List V × List V)} {k : EK} {xs : List (Ty k)} (h : iN N p0 = some (tj o (.sw k 0 xs.length), [some [.rw k xs], none])) : u4 Try.prog kj [.sl (.num .i64) (.may false) p0] o k xs := by
 have hc := tZ
 simp only [Bool.and_eq_true] at hc
 exact ajG hΓ sO Try.func75 tF hc.1 hc.2 (by decide) ((t6 N p0).trans h)
theorem akW (xs : List Int) (h : decide (0 < List.length xs) = true) (hm : xs.length ≤ 1000) : u4 Try.prog kj [.sl (.num .i64) (.may false) xs] none (.num .i64) xs := by
 refine u5 tE 0 xs ?_
 have h1 := of_decide_eq_true h
 have e1 : decide (0 < (([] : List Int) ++ xs).length) = true := h
 have e2 : decide (((([] : List Int).length + xs.length) * 8) ≤ 140737488355328) = true := decide_eq_true (by simp; omega)
 unfold iN nJ
 rw [h, e1, e2]
 rfl
end Go.Proofs.Ytdpajabhmmmjoaa
end
noncomputable section
namespace Go.Proofs.Ytdpajabhmmmjoaa
open Go.AM
set_option autoImplicit false
set_option linter.unusedVariables false
set_option maxRecDepth 100000
abbrev aae : FuncId := 78
abbrev abU : FuncId := 44
abbrev abV : FuncId := 77
abbrev ada : FuncId := 76
abbrev abW : FuncId := 42
abbrev aaf : FuncId := 43
abbrev aic := List Int
noncomputable def jo (a0_0 : List ak) (r : aic) : Prop := aO Try.prog abW [.agg [.sl .atype (.may false) a0_0]] (.sl (.num .i64) (.may false) r) ∧ nF a0_0 r
noncomputable def abX : cn Try.prog := ⟨42, fun us => match us with
 | [.agg [.sl .atype (.may _) a0_0]] => let r := pick (jo a0_0); some (can (jo a0_0), .sl (.num .i64) (.may false) r)
 | _ => none, by
 intro _ _ h; split at h; exact bB h (fun h => h.1.dim rfl) rfl rfl; cases h⟩
abbrev agF := Int × List Int
noncomputable def cp (o0_0 : List Int) (a0_0 : List ak) (a1 : Int) (a2 : List Int) (r : agF) : Prop := abT Try.prog aaf [.agg [.sl .atype (.may false) a0_0], .int .i64 a1, .sl (.num .i64) (.may false) a2] [] (.num .i64) o0_0 (.int .i64 r.1) r.2 ∧ vo o0_0 a0_0 a1 a2 r
abbrev aid := aB
noncomputable def jp (a0_0 : List ak) (a1 : Int) (a2 : List Int) (r : aid) : Prop := aO Try.prog abU [.agg [.sl .atype (.may false) a0_0], .int .i64 a1, .sl (.num .i64) (.may false) a2] (.agg (enc .aval r)) ∧ rH a0_0 a1 a2 r
noncomputable def abY : cn Try.prog := ⟨44, fun us => match us with
 | [.agg [.sl .atype (.may _) a0_0], .int .i64 a1, .sl (.num .i64) (.may _) a2] => let r := pick (jp a0_0 a1 a2); some (can (jp a0_0 a1 a2), .agg (enc .aval r))
 | _ => none, by
 intro _ _ h; split at h; exact bB h (fun h => h.1.dim rfl) rfl rfl; cases h⟩
abbrev ajj := Int
noncomputable def qb (a0 : ak) (a1 : List Int) (r : ajj) : Prop := aO Try.prog ada [.agg (enc .atype a0), .sl (.num .i64) (.may false) a1] (.int .i64 r) ∧ sN a0 a1 r
noncomputable def ajk : cn Try.prog := ⟨76, fun us => match us with
 | [.agg [.int .i64 a0_0, .str a0_1, .sl .str (.may _) a0_2, .int .i64 a0_3, .sl .str (.may _) a0_4, .bool a0_5, .str a0_6, .int .i64 a0_7, .sl .afield (.may _) a0_8, .sl (.num .i64) (.may _) a0_9], .sl (.num .i64) (.may _) a1] => let r := pick (qb (⟨a0_0, a0_1, a0_2, a0_3, a0_4, a0_5, a0_6, a0_7, a0_8, a0_9⟩) a1); some (can (qb (⟨a0_0, a0_1, a0_2, a0_3, a0_4, a0_5, a0_6, a0_7, a0_8, a0_9⟩) a1), .int .i64 r)
 | _ => none, by
 intro _ _ h; split at h; exact bB h (fun h => h.1.dim rfl) rfl rfl; cases h⟩
abbrev aie := List Int
noncomputable def dN (a0 : ak) (a1 : List Int) (r : aie) : Prop := aO Try.prog abV [.agg (enc .atype a0), .sl (.num .i64) (.may false) a1] (.sl (.num .i64) (.may false) r) ∧ nG a0 a1 r
noncomputable def abZ : cn Try.prog := ⟨77, fun us => match us with
 | [.agg [.int .i64 a0_0, .str a0_1, .sl .str (.may _) a0_2, .int .i64 a0_3, .sl .str (.may _) a0_4, .bool a0_5, .str a0_6, .int .i64 a0_7, .sl .afield (.may _) a0_8, .sl (.num .i64) (.may _) a0_9], .sl (.num .i64) (.may _) a1] => let r := pick (dN (⟨a0_0, a0_1, a0_2, a0_3, a0_4, a0_5, a0_6, a0_7, a0_8, a0_9⟩) a1); some (can (dN (⟨a0_0, a0_1, a0_2, a0_3, a0_4, a0_5, a0_6, a0_7, a0_8, a0_9⟩) a1), .sl (.num .i64) (.may false) r)
 | _ => none, by
 intro _ _ h; split at h; exact bB h (fun h => h.1.dim rfl) rfl rfl; cases h⟩
abbrev agG := Int
noncomputable def fE (a0 : ak) (a1 : List Int) (r : agG) : Prop := aO Try.prog aae [.agg (enc .atype a0), .sl (.num .i64) (.may false) a1] (.int .i64 r) ∧ jn a0 a1 r
noncomputable def t7 : cn Try.prog := ⟨78, fun us => match us with
 | [.agg [.int .i64 a0_0, .str a0_1, .sl .str (.may _) a0_2, .int .i64 a0_3, .sl .str (.may _) a0_4, .bool a0_5, .str a0_6, .int .i64 a0_7, .sl .afield (.may _) a0_8, .sl (.num .i64) (.may _) a0_9], .sl (.num .i64) (.may _) a1] => let r := pick (fE (⟨a0_0, a0_1, a0_2, a0_3, a0_4, a0_5, a0_6, a0_7, a0_8, a0_9⟩) a1); some (can (fE (⟨a0_0, a0_1, a0_2, a0_3, a0_4, a0_5, a0_6, a0_7, a0_8, a0_9⟩) a1), .int .i64 r)
 | _ => none, by
 intro _ _ h; split at h; exact bB h (fun h => h.1.dim rfl) rfl rfl; cases h⟩
theorem akh (xs : List Int) (h : (decide (0 < List.length xs) && decide (List.length xs ≤ 1000)) = true) : u4 Try.prog kj [.sl (.num .i64) (.may false) xs] none (.num .i64) xs := by
 simp only [Bool.and_eq_true] at h
 exact akW xs h.1 (of_decide_eq_true h.2)
end Go.Proofs.Ytdpajabhmmmjoaa
end
