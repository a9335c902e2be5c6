/-
  A run that gives a value: its call gives that value, in every world.
-/
import Derived.Test.YtehknfijojlddaaGreatDmRun
namespace Go.DM
set_option autoImplicit false
set_option linter.unusedSimpArgs false
set_option linter.unusedVariables false
section
variable {B : Nat} {g₀ g : Gh} {H₀ : Nat → Option Obj} {w₀ w : World} {df : List Deferred} {cx : Cx} {a : Act} {P : Program} {Γ : Sp} {T : Nat → Bool}

theorem guard_same {E E2 : Nat → D} {x : GOp} (h : ∀ n ∈ x.rd, E2 n = E n) : guardB E2 x.g = guardB E x.g := by
  unfold guardB
  cases hg : x.g with
  | none => rfl
  | some p =>
    obtain ⟨g, w⟩ := p
    simp only
    rw [h g (by simp [GOp.rd, hg])]

/-- what was carried out, as it is kept -/
def AOp.of (x : GOp) (at_ : Nat) (r : Rec) : AOp := ⟨x, at_, r.M, r.cl, r.R, r.W, fun i => eqOb (r.hB.get i) (r.hA.get i) = true⟩

theorem gstep_A {at_ n0 : Nat} {mk : List Nat} {x : GOp} {s : St} {R : Type} {k : St → Option R} {r : R} (h : gstep Γ at_ s.hp.n n0 mk x s k = some r) :
    ∃ s', k s' = some r ∧ AStep Γ (AOp.of x at_ (recOf at_ n0 mk x s s')) s.fs s'.fs := by
  obtain ⟨s', n', hn', h1, h2⟩ := gstep_R (fun _ => rfl) (fun _ => .inl rfl) h
  obtain rfl : n' = s.hp.n := by rcases hn' with h | ⟨h, _⟩ <;> exact h
  refine ⟨s', h1, ?_⟩
  have h2 : RStep Γ at_ (mk.map (n0 + ·)) x s.fs s'.fs := h2
  unfold RStep at h2
  unfold recOf
  cases hg : guardB s.fs.E x.g with
  | none => rw [hg] at h2; exact h2.elim
  | some b =>
    rw [hg] at h2
    cases b with
    | false =>
      simp only at h2
      simp only [AStep, AOp.of]
      refine ⟨.tup [], [], h2, by simp, fun t h3 h4 => ?_⟩
      unfold RStep
      rw [guard_same h3, hg]
      rfl
    | true =>
      simp only at h2
      have rdo : ∀ t : FS, (∀ n ∈ x.rd, t.E n = s.fs.E n) → ∀ n ∈ x.o.rd, t.E n = s.fs.E n := fun t h3 n hn => h3 n (by simp [GOp.rd, hn])
      cases hcall : x.o.isCall with
      | false =>
        simp only [cond_false, AStep, AOp.of]
        have plain : ∃ v ws, eff at_ s.fs.E s.fs.H x.o = some (v, ws) ∧ s'.fs = ⟨putF s.fs.E x.d v, putsF s.fs.H ws, s.fs.n⟩ := by
          unfold RBody at h2
          split at h2
          · rename_i ho; rw [ho] at hcall; simp [IOp.isCall] at hcall
          · rename_i ho; rw [ho] at hcall; simp [IOp.isCall] at hcall
          · exact h2
        obtain ⟨v, ws, he, hs'⟩ := plain
        refine ⟨v, ws, hs', ?_, fun t h3 h4 => ?_⟩
        · intro p hp
          simp only [writes, he]
          exact List.mem_map_of_mem hp
        · unfold RStep
          rw [guard_same h3, hg]
          simp only
          have e2 : eff at_ t.E t.H x.o = some (v, ws) := by rw [eff_local (rdo t h3) h4]; exact he
          unfold RBody
          split
          · rename_i ho; rw [ho] at hcall; simp [IOp.isCall] at hcall
          · rename_i ho; rw [ho] at hcall; simp [IOp.isCall] at hcall
          · exact ⟨v, ws, e2, rfl⟩
      | true =>
        simp only [cond_true, AStep, AOp.of]
        have keepU : ∀ (H' : Nat → Option Obj), s'.fs.H = backF (mk.map (n0 + ·)) s.fs.H H' → ∀ id, eqOb (s.hp.t.get id) (s'.hp.t.get id) = true → id ∉ mk.map (n0 + ·) → H' id = s.fs.H id := by
          intro H' hH id hU hM
          have e1 : s'.fs.H id = s'.hp.t.get id := rfl
          have e2 : s.fs.H id = s.hp.t.get id := rfl
          rw [e2, eqOb_eq hU, ← e1, hH]
          simp only [backF]
          rw [if_neg hM]
        unfold RBody at h2
        split at h2
        · rename_i f as ho
          obtain ⟨hp, v, hp', q1, q2, q3, q4⟩ := h2
          refine ⟨v, hp'.t.get, hp'.n, q4, keepU _ (by rw [q4]), fun t h3 h4 h5 => ?_⟩
          unfold RStep
          rw [guard_same h3, hg]
          simp only
          unfold RBody
          rw [ho]
          simp only
          have hrd : ∀ n ∈ as.flatMap ASrc.slots, t.E n = s.fs.E n := by have := rdo t h3; rw [ho] at this; exact this
          have e : as.map (·.ev t.E) = as.map (·.ev s.fs.E) := List.map_congr_left fun y hy => ev_same fun n hn => hrd n (List.mem_flatMap.2 ⟨y, hy, hn⟩)
          exact ⟨hp, v, hp', q1.trans h5.symm, q2.trans h4.symm, by rw [e]; exact q3, rfl⟩
        · rename_i y as ho
          obtain ⟨f, cs, hy, hp, v, hp', q1, q2, q3, q4⟩ := h2
          refine ⟨v, hp'.t.get, hp'.n, q4, keepU _ (by rw [q4]), fun t h3 h4 h5 => ?_⟩
          unfold RStep
          rw [guard_same h3, hg]
          simp only
          unfold RBody
          rw [ho]
          simp only
          have hrd : ∀ n ∈ y.slots ++ as.flatMap ASrc.slots, t.E n = s.fs.E n := by have := rdo t h3; rw [ho] at this; exact this
          have e : as.map (·.ev t.E) = as.map (·.ev s.fs.E) := List.map_congr_left fun y hy => ev_same fun n hn => hrd n (List.mem_append_right _ (List.mem_flatMap.2 ⟨y, hy, hn⟩))
          have e0 : y.ev t.E = y.ev s.fs.E := ev_same fun n hn => hrd n (List.mem_append_left _ hn)
          exact ⟨f, cs, by rw [e0]; exact hy, hp, v, hp', q1.trans h5.symm, q2.trans h4.symm, by rw [e]; exact q3, rfl⟩
        · rename_i n1 n2
          exfalso
          cases ho : x.o <;> rw [ho] at hcall <;> simp [IOp.isCall] at hcall
          · exact n1 _ _ ho
          · exact n2 _ _ ho

theorem draw_chain {n0 : Nat} {mks : List (List Nat)} {R : Type} {K : List Rec → St → Option R} {r : R} : ∀ (l : List GOp) (i : Nat) (rs : List Rec) (s : St), drawK Γ n0 mks i l rs K s = some r →
    ∃ (ts : List Rec) (s' : St), ts.length = l.length ∧ K (rs ++ ts) s' = some r ∧ Chain Γ ((l.zip ts).zipIdx.map fun p => AOp.of p.1.1 (n0 + (i + p.2)) p.1.2) s.fs s'.fs
  | [], i, rs, s, h => ⟨[], s, rfl, by simpa [drawK] using h, rfl⟩
  | x :: l, i, rs, s, h => by
    simp only [drawK] at h
    obtain ⟨s1, h1, h2⟩ := gstep_A h
    obtain ⟨ts, s', k1, k2, k3⟩ := draw_chain l (Nat.succ i) _ s1 h1
    refine ⟨_ :: ts, s', by simp [k1], by simpa using k2, ?_⟩
    rw [List.zip_cons_cons, List.zipIdx_cons, List.map_cons]
    refine ⟨s1.fs, by simpa using h2, ?_⟩
    have e : ((l.zip ts).zipIdx 1).map (fun p => AOp.of p.1.1 (n0 + (i + p.2)) p.1.2) = ((l.zip ts).zipIdx).map (fun p => AOp.of p.1.1 (n0 + (Nat.succ i + p.2)) p.1.2) := by
      rw [List.zipIdx_succ, List.map_map]
      refine List.map_congr_left fun p _ => ?_
      simp only [Function.comp]
      congr 1
      omega
    rw [Nat.zero_add, e]
    exact k3

theorem okPair_of {a b : Rec} {x y : GOp} {i j : Nat} (h : okPair a b = true) : objsApart (AOp.of x i a) (AOp.of y j b) := by
  unfold okPair at h
  unfold objsApart
  simp only [AOp.of]
  cases ha : a.cl <;> cases hb : b.cl <;> rw [ha, hb] at h <;> simp only [Bool.and_eq_true, List.all_eq_true, Bool.not_eq_true', memN_not, memN_iff, Bool.or_eq_true] at h
  · exact h
  · exact h
  · exact h
  · simp at h

theorem range_filterMap {α : Type} : ∀ (l : List α), ((List.range l.length).filterMap fun i => l[i]?) = l
  | [] => rfl
  | x :: l => by
    rw [List.length_cons, List.range_succ_eq_map, List.filterMap_cons_some (b := x) (by simp), List.filterMap_map]
    have := range_filterMap l
    simp only [Function.comp_def, Nat.succ_eq_add_one, List.getElem?_cons_succ]
    rw [this]

theorem Inv.drew {s : FS} (h : Inv B g₀ H₀ w₀ df cx g s w a) : Inv B g₀ H₀ w₀ df cx g s w.drew a := by
  refine ⟨⟨⟨?_, ?_, h.sg.hr.apart, h.sg.hr.made, h.sg.hr.lt⟩, h.sg.er, h.sg.gl⟩, ⟨h.fr.os, h.fr.tape, h.fr.output, h.fr.size, h.fr.block, h.fr.up, h.fr.fresh, h.fr.live⟩, h.le, h.df⟩
  · exact h.sg.hr.obj
  · exact h.sg.hr.map

theorem draw_sound (hΓ : SpecOK P cx.G Γ) {R : Type} {K : St → Option R} {r : R} {id : Nat} {ops : Array Oper} {l : List GOp} {pre mks : List (List Nat)} (hc : chkDraw P cx T ops l pre = true) {Q : Exit → Act → World → Prop}
    (hQ : ∀ s g w a, K s = some r → Inv B g₀ H₀ w₀ df cx g s.fs w a → Q .normal a w) {s : St} (hr : run Γ 0 (.drw l pre mks) (fun _ s => K s) s = some r) (h : Inv B g₀ H₀ w₀ df cx g s.fs w a) : (Code.region id ops true).wp P Q a w := by
  simp only [chkDraw, Bool.and_eq_true] at hc
  obtain ⟨⟨hmix, hgs⟩, hall⟩ := hc
  obtain ⟨hsize, hget⟩ := chkGs_get l 0 hgs
  simp only [Nat.zero_add] at hsize hget
  simp only [run, forceN_eq] at hr
  obtain ⟨ts, s', k1, k2, k3⟩ := draw_chain l 0 [] _ hr
  rw [chk_iff] at k2
  obtain ⟨hok, hK⟩ := k2
  simp only [List.nil_append] at hok
  let as : List AOp := (l.zip ts).zipIdx.map fun p => AOp.of p.1.1 (s.hp.n + (0 + p.2)) p.1.2
  have hal : as.length = l.length := by simp [as, k1]
  have haget : ∀ j x, as[j]? = some x → ∃ y t, l[j]? = some y ∧ ts[j]? = some t ∧ x = AOp.of y (s.hp.n + j) t := by
    intro j x hx
    simp only [as, List.getElem?_map, List.getElem?_zipIdx, Option.map_map, Option.map_eq_some_iff] at hx
    obtain ⟨⟨y, t⟩, hp, rfl⟩ := hx
    rw [List.getElem?_zip_eq_some] at hp
    exact ⟨y, t, hp.1, hp.2, by simp⟩
  have hinv : Inv B g₀ H₀ w₀ df cx g ⟨s.fs.E, s.fs.H, s.hp.n + mkN l⟩ w.drew a := by
    have := h.drew
    exact ⟨⟨⟨this.sg.hr.obj, this.sg.hr.map, this.sg.hr.apart, this.sg.hr.made, fun id hid => Nat.lt_of_lt_of_le (this.sg.hr.lt id hid) (Nat.le_add_right _ _)⟩, this.sg.er, this.sg.gl⟩, this.fr, Nat.le_trans this.le (Nat.le_add_right _ _), this.df⟩
  refine wp_region_any hmix ?_
  rw [hsize, ← hal]
  have hE : Edges ops as pre := by
    have hj : ∀ j, j < l.length → _ := fun j hlt => List.all_eq_true.1 hall j (List.mem_range.2 hlt)
    refine ⟨by rw [hsize, hal], ?_, ?_, ?_⟩
    · intro j m hm e he hb
      have hlt : j < l.length := by rw [← hsize]; exact (Array.getElem?_eq_some_iff.1 hm).1
      have h0 := hj j hlt
      rw [hm] at h0
      simp only [Bool.and_eq_true] at h0
      have := List.all_eq_true.1 h0.1.1 e (by simpa using he)
      simpa [hb] using this
    · intro j m hm i hi
      have hlt : j < l.length := by rw [← hsize]; exact (Array.getElem?_eq_some_iff.1 hm).1
      have h0 := hj j hlt
      rw [hm] at h0
      simp only [Bool.and_eq_true] at h0
      have := List.all_eq_true.1 h0.1.2 i hi
      obtain ⟨e, he, hb⟩ := List.any_eq_true.1 this
      simp only [Bool.and_eq_true, Bool.or_eq_true, beq_iff_eq, List.contains_iff_mem] at hb
      exact ⟨e, by simpa using he, hb.1, hb.2⟩
    · intro j x hx i y hij hy
      obtain ⟨gx, tx, e1, e2, rfl⟩ := haget j x hx
      obtain ⟨gy, ty, f1, f2, rfl⟩ := haget i y hy
      have hlt : j < l.length := (List.getElem?_eq_some_iff.1 e1).1
      have h0 := hj j hlt
      simp only [Bool.and_eq_true] at h0
      have h0 := h0.2
      rw [e1] at h0
      have h1 := List.all_eq_true.1 h0 i (List.mem_range.2 hij)
      have h2 := List.all_eq_true.1 (List.all_eq_true.1 hok j (List.mem_range.2 (by omega))) i (List.mem_range.2 hij)
      rw [f1] at h1
      rw [f2, e2] at h2
      simp only [Bool.or_eq_true, memN_iff] at h1 h2
      rcases h1 with h1 | h1
      · exact .inl h1
      · rcases h2 with h2 | h2
        · exact .inl h2
        · exact .inr ⟨slotsB_of h1, okPair_of h2⟩
  refine any_sound (T := T) hΓ hE (n0 := s.hp.n) ?_ h.le (e := s'.fs) (fun g w a hi => hQ s' g w a hK hi) as.length (List.range as.length) _ _ g _ a (by simp) List.pairwise_lt_range ?_ (by simp [hal]) ?_ (by rw [range_filterMap]; exact k3) ?_ hinv
  · intro j x hx
    obtain ⟨y, t, e1, e2, rfl⟩ := haget j x hx
    obtain ⟨m, hm, hcg⟩ := hget j y e1
    exact ⟨rfl, m, hm, hcg⟩
  · intro i
    by_cases hi : i < as.length <;> simp [Array.getD, hi]
  · intro j hj hnot
    exact absurd (List.mem_range.2 hj) hnot
  · intro i _ x hx hmk
    obtain ⟨y, t, e1, e2, rfl⟩ := haget i x hx
    have e : s.fs.n = s.hp.n := rfl
    have := mkN_lt e1 hmk
    refine ⟨fun hA => ?_, ?_⟩
    · have := h.sg.hr.lt _ hA
      omega
    · show s.hp.n + i < s.hp.n + mkN l
      omega

theorem runOps_sound (hΓ : SpecOK P cx.G Γ) {R : Type} {K : St → Option R} {r : R} {ops : Array Oper} {Q : Exit → Act → World → Prop} (hQ : ∀ s g w a, K s = some r → Inv B g₀ H₀ w₀ df cx g s.fs w a → Q .normal a w) :
    ∀ (l : List GOp) (i : Nat), chkGs P cx T ops i l = true → ∀ (s : St) (g : Gh) (w : World) (a : Act), runOps Γ l K s = some r → Inv B g₀ H₀ w₀ df cx g s.fs w a → wpOps P ops Q (List.range' i (ops.size - i)) a w
  | [], i, hc, s, g, w, a, hr, h => by
    simp only [chkGs, beq_iff_eq] at hc
    subst hc
    simp only [Nat.sub_self, List.range'_zero, wpOps]
    exact hQ s g w a hr h
  | x :: l, i, hc, s, g, w, a, hr, h => by
    simp only [chkGs, Bool.and_eq_true] at hc
    obtain ⟨hc, hl⟩ := hc
    split at hc
    · rename_i m hm
      have hi : i < ops.size := (Array.getElem?_eq_some_iff.1 hm).1
      rw [show ops.size - i = (ops.size - (i + 1)) + 1 by omega, List.range'_succ, wpOps_cons]
      simp only [runOps] at hr
      obtain ⟨s', n', hn', h1, h2⟩ := gstep_R (s := s) (fun hc => by
        have : x.o.makes = false := by cases hx : x.o <;> rw [hx] at hc <;> simp [IOp.isCall] at hc <;> rfl
        rw [this]; rfl) (fun _ => by cases hm : x.o.makes <;> simp) hr
      have hle : s.hp.n ≤ n' ∧ (x.o.makes = true → guardB s.fs.E x.g = some true → s.hp.n < n') := by
        rcases hn' with rfl | ⟨rfl, hgf⟩
        · cases hm : x.o.makes
          · exact ⟨Nat.le_refl _, by simp⟩
          · exact ⟨Nat.le_succ _, fun _ _ => Nat.lt_succ_self _⟩
        · exact ⟨Nat.le_refl _, fun _ h => by rw [hgf] at h; simp at h⟩
      refine gop_sound (s := ⟨s.fs.E, s.fs.H, n'⟩) hΓ hm hc h2 ⟨⟨h.sg.hr.obj, h.sg.hr.map, h.sg.hr.apart, h.sg.hr.made, fun id hid => Nat.lt_of_lt_of_le (h.sg.hr.lt id hid) hle.1⟩, h.sg.er, h.sg.gl⟩ (fun hmk hgt => ⟨fun hA => Nat.lt_irrefl _ (h.sg.hr.lt _ hA), hle.2 hmk hgt⟩) ?_
      intro a' w' g' k1 k2 k3 k4
      refine runOps_sound hΓ hQ l (i + 1) hl s' g' w' a' h1 ⟨k1, h.fr.trans (fun id hid => ?_) k2, Nat.le_trans (Nat.le_trans h.le hle.1) k3, k4.trans h.df⟩
      have hB := h.le
      have e : s.fs.n = s.hp.n := rfl
      simp only at hid
      omega
    · simp at hc

def exOK : Ex → Exit → Prop
  | .normal, .normal => True
  | .exit i, .exit j => i = j
  | .ret, .ret => True
  | _, _ => False

/-- how a run comes to an end, in both -/
def Ends {R : Type} (B : Nat) (g₀ : Gh) (H₀ : Nat → Option Obj) (w₀ : World) (df : List Deferred) (cx : Cx) (K : Ex → St → Option R) (r : R) (e : Exit) (a : Act) (w : World) : Prop :=
  ∃ x s g, exOK x e ∧ K x s = some r ∧ Inv B g₀ H₀ w₀ df cx g s.fs w a

theorem run_sound (hΓ : SpecOK P cx.G Γ) (L : Nat) {R : Type} {r : R} : ∀ (ir : IRc) (c : Code), chkCode P cx T ir c = true → ∀ (K : Ex → St → Option R) (s : St) (a : Act) (w : World) (g : Gh),
    run Γ L ir K s = some r → Inv B g₀ H₀ w₀ df cx g s.fs w a → c.wp P (Ends B g₀ H₀ w₀ df cx K r) a w
  | .bad, c, hc, K, s, a, w, g, hr, h => by simp [run] at hr
  | .skip, c, hc, K, s, a, w, g, hr, h => by
    cases c <;> simp [chkCode] at hc
    · exact wp_skip ⟨.normal, s, g, trivial, hr, h⟩
    · exact wp_label ⟨.normal, s, g, trivial, hr, h⟩
  | .reg l, c, hc, K, s, a, w, g, hr, h => by
    cases c with
    | region id ops draw =>
      cases draw with
      | true => simp [chkCode] at hc
      | false =>
        have hc : chkGs P cx T ops 0 l = true := by simpa only [chkCode] using hc
        refine wp_region ?_
        have := runOps_sound (Q := Ends B g₀ H₀ w₀ df cx K r) hΓ (K := K .normal) (r := r) (fun s g w a hk hi => ⟨.normal, s, g, trivial, hk, hi⟩) l 0 hc s g w a hr h
        rwa [Nat.sub_zero, ← List.range_eq_range'] at this
    | _ => simp [chkCode] at hc
  | .drw l pre mks, c, hc, K, s, a, w, g, hr, h => by
    cases c with
    | region id ops draw =>
      cases draw with
      | false => simp [chkCode] at hc
      | true =>
        have hc : chkDraw P cx T ops l pre = true := by simpa only [chkCode] using hc
        exact draw_sound (Q := Ends B g₀ H₀ w₀ df cx K r) hΓ hc (K := K .normal) (r := r) (mks := mks) (fun s g w a hk hi => ⟨.normal, s, g, trivial, hk, hi⟩) hr h
    | _ => simp [chkCode] at hc
  | .seq x y, c, hc, K, s, a, w, g, hr, h => by
    cases c <;> simp [chkCode] at hc
    rename_i c d
    refine wp_seq (wp_mono (run_sound hΓ L x c hc.1 _ s a w g hr h) ?_)
    rintro e a' w' ⟨ex, s', g', he, hk, hi⟩
    cases ex with
    | normal =>
      cases e <;> simp only [exOK] at he
      exact run_sound hΓ L y d hc.2 K s' a' w' g' hk hi
    | exit i =>
      cases e <;> simp only [exOK] at he
      exact ⟨.exit i, s', g', he, hk, hi⟩
    | ret =>
      cases e <;> simp only [exOK] at he
      exact ⟨.ret, s', g', trivial, hk, hi⟩
  | .cond v x y, c, hc, K, s, a, w, g, hr, h => by
    cases c <;> simp [chkCode] at hc
    rename_i u c d
    simp only [run] at hr
    split at hr
    · rename_i t ht
      have rr := src_rel hc.1 h.sg
      rw [ht] at rr
      generalize hcv : a.eval u = cv at rr
      cases rr
      refine wp_cond hcv ?_
      cases t with
      | true => exact run_sound hΓ L x c hc.2.1 K s a w g hr h
      | false => exact run_sound hΓ L y d hc.2.2 K s a w g hr h
    · simp at hr
  | .block i x, c, hc, K, s, a, w, g, hr, h => by
    cases c <;> simp [chkCode] at hc
    rename_i j c
    obtain ⟨rfl, hc⟩ := hc
    refine wp_block (wp_mono (run_sound hΓ L x c hc _ s a w g hr h) ?_)
    rintro e a' w' ⟨ex, s', g', he, hk, hi⟩
    cases ex with
    | normal =>
      cases e <;> simp only [exOK] at he
      exact ⟨.normal, s', g', trivial, hk, hi⟩
    | exit k =>
      cases e <;> simp only [exOK] at he
      subst he
      simp only [Exit.inBlock]
      by_cases hki : k = i
      · subst hki
        simp only [if_true]
        simp only [kblock, Nat.beq_refl, cond_true] at hk
        exact ⟨.normal, s', g', trivial, hk, hi⟩
      · simp only [hki, if_false]
        have hb : Nat.beq k i = false := by simp [Tr.beq_iff, hki]
        simp only [kblock, hb, cond_false] at hk
        exact ⟨.exit k, s', g', rfl, hk, hi⟩
    | ret =>
      cases e <;> simp only [exOK] at he
      exact ⟨.ret, s', g', trivial, hk, hi⟩
  | .loop x, c, hc, K, s, a, w, g, hr, h => by
    cases c <;> simp [chkCode] at hc
    rename_i c
    simp only [run] at hr
    have key : ∀ (m : Nat) (s : St) (a : Act) (w : World) (g : Gh), loopN m (fun again s => run Γ L x (kloop again K) s) s = some r → Inv B g₀ H₀ w₀ df cx g s.fs w a →
        Code.rounds P c (Ends B g₀ H₀ w₀ df cx K r) m a w := by
      intro m
      induction m with
      | zero => intro s a w g hr h; simp [loopN] at hr
      | succ m ih =>
        intro s a w g hr h
        simp only [loopN] at hr
        rw [rounds_succ]
        refine wp_mono (run_sound hΓ L x c hc _ s a w g hr h) ?_
        rintro e a' w' ⟨ex, s', g', he, hk, hi⟩
        cases ex with
        | normal =>
          cases e <;> simp only [exOK] at he
          exact ih _ a' w' g' hk hi
        | exit k =>
          cases e <;> simp only [exOK] at he
          exact ⟨.exit k, s', g', he, hk, hi⟩
        | ret =>
          cases e <;> simp only [exOK] at he
          exact ⟨.ret, s', g', trivial, hk, hi⟩
    exact wp_loop_rounds L (key L _ a w g hr h)
  | .exit i, c, hc, K, s, a, w, g, hr, h => by
    cases c <;> simp [chkCode] at hc
    subst hc
    exact wp_exit ⟨.exit i, s, g, rfl, hr, h⟩
  | .ret, c, hc, K, s, a, w, g, hr, h => by
    cases c <;> simp [chkCode] at hc
    exact wp_ret ⟨.ret, s, g, trivial, hr, h⟩
end
end Go.DM
