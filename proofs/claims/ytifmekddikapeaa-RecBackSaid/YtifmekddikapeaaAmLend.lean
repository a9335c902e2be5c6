/-
  Rows that are lent: a pure function whose result is plain numbers and texts reads a row while it is open.
-/
import Derived.Test.YtifmekddikapeaaAmOne
namespace Go.AM
set_option autoImplicit false
set_option linter.unusedSimpArgs false
set_option linter.unusedVariables false

/-- an opened row's header as the list that it is just now -/
def V.lend1 (hp : List AObj) : V → V
  | .sw _ id n => match hp.getD id none with
    | some [.rw k xs] => .sl k (.may false) xs
    | _ => .undef
  | v => v

def V.lend (hp : List AObj) : V → V
  | .agg cs => .agg (cs.map (V.lend1 hp))
  | v => v.lend1 hp

/-- an opened row's header goes over the whole row -/
def V.lendT (hp : List AObj) : V → Bool
  | .sw _ id n => match hp.getD id none with
    | some [.rw _ xs] => Nat.beq n xs.length
    | _ => false
  | _ => true

def V.isSw : V → Bool
  | .sw _ _ _ => true
  | _ => false

def lendCs (hp : List AObj) : List V → Bool → Bool
  | [], b => b
  | v :: r, b => cond v.isSw (v.lendT hp && lendCs hp r b) (lendCs hp r b)

def lendTs (hp : List AObj) : List V → Bool
  | [] => true
  | v :: r => lendCs hp v.cellsA (lendTs hp r)

def V.scal1 : V → Bool
  | .bool _ | .int _ _ | .str _ | .nilif => true
  | _ => false

/-- numbers and texts -/
def V.scal : V → Bool
  | .tup cs => cs.all V.scal1
  | v => v.scal1

/-- a table, and functions that rows are lent to -/
def withL (ls : List Nat) (G : Nat → List V → Option (Bool × V)) (Γ : ASpec) : ASpec := fun f vs hp =>
  cond (ls.elem f) (match Γ f vs hp with
    | some r => some r
    | none => match G f (vs.map (V.lend hp)) with
      | some (c, v) => cond (v.scal && (vs.map (V.lend hp)).all V.flat) (some (c && lendTs hp vs, v, hp)) none
      | none => none) (Γ f vs hp)

section
variable {I I' : Nat → Nat → Prop} {ρ ρ' : Nat → Nat} {N N' : Nat} {w w' : World} {P : Program}

theorem VRel.scal1 {v : V} {cv : Value} (h : VRel I ρ N w v cv) (hs : v.scal1 = true) : VRel I' ρ' N' w' v cv := by
  cases h <;> simp [V.scal1] at hs
  · exact .bool _
  · exact .int _ _ (by assumption)
  · exact .str _ _ (by assumption) (by assumption)
  · exact .nilif

theorem VRel.scal {v : V} {cv : Value} (h : VRel I ρ N w v cv) (hs : v.scal = true) : VRel I' ρ' N' w' v cv := by
  by_cases ht : ∃ cs, v = .tup cs
  · obtain ⟨cs, rfl⟩ := ht
    cases h with
    | tup cs vs hl hv =>
      simp only [V.scal, List.all_eq_true] at hs
      exact .tup cs vs hl fun i c cv hc hcv => (hv i c cv hc hcv).scal1 (hs c (List.mem_of_getElem? hc))
  · refine h.scal1 ?_
    cases v <;> first | exact hs | exact absurd ⟨_, rfl⟩ ht

theorem scal_own {v : V} (hs : v.scal = true) (g : Gh) (occ : Occ) (cv : Value) : OwnOK g w occ v cv := by
  cases v <;> simp [V.scal, V.scal1] at hs <;> simp [OwnOK]

theorem lend1_one {hp : List AObj} {v : V} (h : (v.lend1 hp).flat1 = true) (h1 : v.one = true) : (v.lend1 hp).one = true := by
  generalize v.lend1 hp = u at h
  cases u <;> simp [V.flat1] at h <;> rfl

theorem lendCs_all {hp : List AObj} : ∀ {cs : List V} {b : Bool}, lendCs hp cs b = true → b = true ∧ ∀ c ∈ cs, c.lendT hp = true
  | [], b, h => ⟨h, by simp⟩
  | v :: r, b, h => by
    simp only [lendCs] at h
    have hv : v.lendT hp = true ∧ lendCs hp r b = true := by
      cases hs : v.isSw with
      | true => rw [hs] at h; simpa using h
      | false =>
        rw [hs] at h
        refine ⟨?_, by simpa using h⟩
        cases v <;> first | rfl | simp [V.isSw] at hs
    obtain ⟨h1, h2⟩ := lendCs_all hv.2
    exact ⟨h1, fun c hc => by
      rcases List.mem_cons.1 hc with rfl | hc
      · exact hv.1
      · exact h2 c hc⟩

theorem lendTs_all {hp : List AObj} : ∀ {vs : List V}, lendTs hp vs = true → ∀ v ∈ vs, ∀ c ∈ v.cellsA, c.lendT hp = true
  | [], _ => by simp
  | v :: r, h => by
    obtain ⟨h1, h2⟩ := lendCs_all (b := lendTs hp r) h
    intro u hu
    rcases List.mem_cons.1 hu with rfl | hu
    · exact h2
    · exact lendTs_all h1 u hu

theorem lend_ok1 {f : FuncId} {vs : List V} {hp : List AObj} {v : V} (h : PureOK P f (vs.map (V.lend hp)) v) (hT : lendTs hp vs = true) (hs : v.scal = true) (hf : (vs.map (V.lend hp)).all V.flat = true) : FnOK P f vs hp v hp := by
  obtain ⟨hp', h⟩ := h
  intro w g cargs hβ hhr hlen hbare hrel
  let J : Nat → Nat → Prop := fun b j => g.I b j ∨ ∃ (id : Nat) (k : EK) (xs : List (Ty k)), hp[id]? = some (some [.rw k xs]) ∧ b = g.ρ id ∧ j < xs.length * k.sz
  let g₀ : Gh := { I := J, ρ := g.ρ, O := fun _ => none, β := g.β }
  have h0 : HR g₀ [] w := by
    refine ⟨by simp, by simp, by simp, by simp, ?_, by simp [g₀]⟩
    intro b j hj
    rcases hj with hj | ⟨id, k, xs, hid, rfl, hj⟩
    · exact hhr.exI b j hj
    · obtain ⟨arr, e, fz, a1, a2⟩ := hhr.obj id _ hid
      have hl := a2.len
      simp only [cellsOf] at hl
      rw [flat_enc_length] at hl
      rw [cell_of_heap a1, Array.getElem?_eq_getElem (by omega)]
      rfl
  have upJ : ∀ N, Up g.I g.ρ N w J g.ρ N w := fun N => ⟨fun b j hj => .inl hj, fun _ _ _ => rfl, fun _ _ => rfl, Nat.le_refl _⟩
  have rel1 : ∀ (x : V) (cv : Value), VRel g.I g.ρ hp.length w x cv → x.lendT hp = true → (x.lend1 hp).flat1 = true → VRel J g.ρ 0 w (x.lend1 hp) cv := by
    intro x cv hr hb hfl
    by_cases hx : ∃ k id n, x = .sw k id n
    · obtain ⟨k0, id, n, rfl⟩ := hx
      simp only [V.lend1] at hfl ⊢
      simp only [V.lendT] at hb
      split at hfl
      · rename_i k xs hid
        have hid' : hp[id]? = some (some [.rw k xs]) := by
          rw [List.getD_eq_getElem?_getD] at hid
          cases hq : hp[id]? with
          | none => rw [hq] at hid; simp at hid
          | some y => rw [hq] at hid; simpa using hid
        rw [hid] at hb
        · obtain rfl := Nat.eq_of_beq_eq_true hb
          cases hr with
          | sw _ _ _ h1 h2 h3 =>
            obtain ⟨arr, e, fz, a1, a2⟩ := hhr.obj id _ hid'
            have hl := a2.len
            simp only [cellsOf] at hl
            rw [flat_enc_length] at hl
            have inr : ∀ (i : Nat) x (j : Nat), xs[i]? = some x → j < (enc k x).length → i * k.sz + j < xs.length * k.sz := by
              intro i x j hx hj
              rw [enc_length] at hj
              exact mul_lt (List.getElem?_eq_some_iff.1 hx).1 hj
            refine .sl k (.may false) xs (g.ρ id) 0 xs.length _ rfl h2 h3 (by simp) (fun i j => arr.getD (i * k.sz + j) undef) ?_ ?_ ?_
            · intro i x j hx hj
              exact .inr ⟨id, k, xs, hid', rfl, by rw [Nat.zero_add]; exact inr i x j hx hj⟩
            · intro i x j hx hj
              have := inr i x j hx hj
              rw [Nat.zero_add, cell_of_heap a1, Array.getElem?_eq_getElem (by omega)]
              simp [Array.getD, show i * k.sz + j < arr.size by omega]
            · intro i x j v hx hv
              have hj := (List.getElem?_eq_some_iff.1 hv).1
              have := inr i x j hx hj
              have hrow := a2.rel (i * k.sz + j) v (arr.getD (i * k.sz + j) undef) (by simp only [cellsOf]; exact flat_enc xs i j x v hx hv) (by
                rw [Array.getElem?_eq_getElem (by omega)]
                simp [Array.getD, show i * k.sz + j < arr.size by omega])
              exact (ul_flat (ρ' := g.ρ) (N' := 0) hv hrow).up (upJ 0)
      · simp [V.flat1] at hfl
    · have e : x.lend1 hp = x := by
        cases x <;> first | rfl | exact absurd ⟨_, _, _, rfl⟩ hx
      rw [e] at hfl ⊢
      exact (hr.flat1 (N' := 0) hfl).up (upJ 0)
  have rel : ∀ (x : V) (cv : Value), VRel g.I g.ρ hp.length w x cv → (∀ c ∈ x.cellsA, c.lendT hp = true) → (x.lend hp).flat = true → VRel J g.ρ 0 w (x.lend hp) cv := by
    intro x cv hr hb' hfl
    by_cases hx : ∃ cs, x = .agg cs
    · obtain ⟨cs, rfl⟩ := hx
      simp only [V.cellsA] at hb'
      simp only [V.lend] at hfl ⊢
      simp only [V.flat, V.flat2, List.all_map, List.all_eq_true, Function.comp] at hfl
      cases hr with
      | agg cs us hl h1 hb hv =>
        refine .agg _ us (by simpa using hl) ?_ ?_ ?_
        · intro c hc
          obtain ⟨c', hc', rfl⟩ := List.mem_map.1 hc
          exact lend1_one (hfl c' hc') (h1 c' hc')
        · intro i c cv hc hcv
          rw [List.getElem?_map] at hc
          cases hq : cs[i]? with
          | none => rw [hq] at hc; simp at hc
          | some c' =>
            rw [hq] at hc
            simp only [Option.map_some, Option.some.injEq] at hc
            subst hc
            have := hb i c' cv hq hcv
            unfold V.lend1
            split
            · split
              · simp [OwnNil]
              · simp [OwnNil]
            · exact this
        · intro i c cv hc hcv
          rw [List.getElem?_map] at hc
          cases hq : cs[i]? with
          | none => rw [hq] at hc; simp at hc
          | some c' =>
            rw [hq] at hc
            simp only [Option.map_some, Option.some.injEq] at hc
            subst hc
            exact rel1 c' cv (hv i c' cv hq hcv) (hb' c' (List.mem_of_getElem? hq)) (hfl c' (List.mem_of_getElem? hq))
    · have e : x.lend hp = x.lend1 hp := by
        cases x <;> first | rfl | exact absurd ⟨_, rfl⟩ hx
      rw [e] at hfl ⊢
      by_cases hy : ∃ k id n, x = .sw k id n
      · refine rel1 x cv hr ?_ ?_
        · obtain ⟨k, id, n, rfl⟩ := hy
          exact hb' _ (by simp [V.cellsA])
        obtain ⟨k, id, n, rfl⟩ := hy
        simp only [V.lend1] at hfl ⊢
        split at hfl
        · simp [V.flat1]
        · simp [V.flat, V.flat2, V.flat1] at hfl
      · have e : x.lend1 hp = x := by
          cases x <;> first | rfl | exact absurd ⟨_, _, _, rfl⟩ hy
        rw [e] at hfl ⊢
        exact (hr.flat (ρ' := g.ρ) (N' := 0) hfl).up (upJ 0)
  have hargs : ∀ (i : Nat) x cv, (vs.map (V.lend hp))[i]? = some x → cargs[i]? = some cv → VRel g₀.I g₀.ρ ([] : List AObj).length w x cv := by
    intro i x cv hx hcv
    have hfx := List.all_eq_true.1 hf x (List.mem_of_getElem? hx)
    rw [List.getElem?_map] at hx
    cases hq : vs[i]? with
    | none => rw [hq] at hx; simp at hx
    | some y =>
      rw [hq] at hx
      simp only [Option.map_some, Option.some.injEq] at hx
      subst hx
      exact rel y cv (hrel i y cv hq hcv) (lendTs_all hT y (List.mem_of_getElem? hq)) hfx
  refine (h w g₀ cargs hβ h0 (by simpa using hlen) (by
    intro x hx
    have hfx := List.all_eq_true.1 hf x hx
    cases x <;> first | rfl | (simp [V.flat, V.flat2, V.flat1] at hfx; done) | skip
    rename_i k o xs
    obtain ⟨y, hy, e⟩ := List.mem_map.1 hx
    by_cases hsw : ∃ k id n, y = .sw k id n
    · obtain ⟨k', id, n, rfl⟩ := hsw
      simp only [V.lend, V.lend1] at e
      split at e
      · simp at e
        obtain ⟨rfl, rfl, -⟩ := e
        rfl
      · simp at e
    · have e' : y.lend hp = y ∨ ∃ cs, y = .agg cs := by
        cases y <;> first | exact .inl rfl | exact .inr ⟨_, rfl⟩ | exact absurd ⟨_, _, _, rfl⟩ hsw
      rcases e' with e' | ⟨cs, rfl⟩
      · rw [← e, e']; exact hbare y hy
      · simp [V.lend] at e) hargs).mono ?_
  rintro ex w' ⟨cv, g₁, rfl, q1, q2, q3, q4⟩
  have blk : ∀ b, b < w.heap.size → w'.heap[b]? = w.heap[b]? := fun b hb => q2.block b hb (by simp) rfl
  have cellI : ∀ b j, g.I b j → w'.cell? ⟨b, j, none⟩ = w.cell? ⟨b, j, none⟩ := fun b j hj => q2.up.cell b j (.inl hj)
  have up : Up g.I g.ρ hp.length w g.I g.ρ hp.length w' := ⟨fun _ _ h => h, cellI, fun _ _ => rfl, Nat.le_refl _⟩
  have olt : ∀ (id : Nat) cs, hp[id]? = some (some cs) → g.ρ id < w.heap.size := by
    intro id cs hid
    obtain ⟨arr, e, fz, h1, _⟩ := hhr.obj id cs hid
    exact (Array.getElem?_eq_some_iff.1 h1).1
  refine ⟨cv, g, rfl, ⟨?_, hhr.apart, hhr.notI, hhr.notO, ?_, fun b o hb => Nat.lt_of_lt_of_le (hhr.oLt b o hb) q2.size⟩, ⟨rfl, q2.os, q2.tape, q2.output, q2.size, fun b hb _ _ => blk b hb, up, fun _ _ _ _ _ h => h, fun _ _ _ h => h, fun _ cs h => .inl ⟨cs, h⟩⟩, q3.scal hs, scal_own hs _ _ _⟩
  · intro id cs hid
    obtain ⟨arr, e, fz, h1, h2⟩ := hhr.obj id cs hid
    refine ⟨arr, e, fz, (blk _ (olt id cs hid)).trans h1, h2.len, h2.plain, h2.typed, h2.cold, h2.one, fun j c cv hc hcv => (h2.rel j c cv hc hcv).up up, fun j c cv hc hcv => ?_, h2.bn⟩
    exact own_keep (h2.own j c cv hc hcv) rfl (fun b j hi => ⟨hi, cellI b j hi⟩) fun b hb => ⟨hb, blk b (hhr.oLt b _ hb), fun j hj => hj⟩
  · intro b j hj
    rw [cellI b j hj]
    exact hhr.exI b j hj

theorem withL_ok {ls : List Nat} {G : Nat → List V → Option (Bool × V)} {Γ : ASpec} (hG : ∀ f vs v, G f vs = some (true, v) → PureOK P f vs v) (hΓ : SpecOK P Γ) : SpecOK P (withL ls G Γ) := by
  intro f vs hp v hp' h
  unfold withL at h
  cases hl : ls.elem f with
  | false => rw [hl] at h; exact hΓ _ _ _ _ _ h
  | true =>
    rw [hl] at h
    simp only [cond_true] at h
    split at h
    · rename_i r hr
      rw [Option.some.inj h] at hr
      exact hΓ _ _ _ _ _ hr
    · split at h
      · rename_i c v' hg
        cases hst : (v'.scal && (vs.map (V.lend hp)).all V.flat) with
        | false => rw [hst] at h; simp at h
        | true =>
          rw [hst] at h
          simp only [cond_true, Option.some.injEq, Prod.mk.injEq] at h
          obtain ⟨hc, rfl, rfl⟩ := h
          simp only [Bool.and_eq_true] at hst hc
          obtain ⟨rfl, hT⟩ := hc
          exact lend_ok1 (hG f _ _ hg) hT hst.1 hst.2
      · simp at h

theorem lend1_same {hp hp2 : List AObj} {v : V} (h : ∀ i ∈ v.id1, hp2[i]? = hp[i]?) : v.lend1 hp2 = v.lend1 hp ∧ v.lendT hp2 = v.lendT hp := by
  cases v with
  | sw k id n =>
    have e := getD_same (h id (by simp [V.id1]))
    simp only [V.lend1, V.lendT, e, and_self]
  | _ => exact ⟨rfl, rfl⟩

theorem lend_same {hp hp2 : List AObj} {v : V} (h : ∀ i ∈ v.cellsA.flatMap V.id1, hp2[i]? = hp[i]?) : v.lend hp2 = v.lend hp := by
  cases v with
  | agg cs =>
    simp only [V.lend, V.agg.injEq]
    refine List.map_congr_left fun c hc => (lend1_same fun i hi => h i ?_).1
    simp only [V.cellsA, List.mem_flatMap]
    exact ⟨c, hc, hi⟩
  | _ => exact (lend1_same fun i hi => h i (by simpa [V.cellsA] using hi)).1

theorem lendCs_same {hp hp2 : List AObj} : ∀ {cs : List V} {b b' : Bool}, (∀ i ∈ cs.flatMap V.id1, hp2[i]? = hp[i]?) → b' = b → lendCs hp2 cs b' = lendCs hp cs b
  | [], b, b', _, e => e
  | v :: r, b, b', h, e => by
    simp only [lendCs]
    rw [(lend1_same (v := v) fun i hi => h i (by simp [hi])).2, lendCs_same (cs := r) (fun i hi => h i (by
      simp only [List.flatMap_cons, List.mem_append]; exact .inr hi)) e]

theorem lendTs_same {hp hp2 : List AObj} : ∀ {vs : List V}, (∀ i ∈ argIds vs, hp2[i]? = hp[i]?) → lendTs hp2 vs = lendTs hp vs
  | [], _ => rfl
  | v :: r, h => by
    simp only [lendTs]
    exact lendCs_same (fun i hi => h i (by simp only [argIds, List.flatMap_cons, List.mem_append]; exact .inl hi)) (lendTs_same fun i hi => h i (by simp only [argIds, List.flatMap_cons, List.mem_append] at hi ⊢; exact .inr hi))

theorem withL_pure {ls : List Nat} {G : Nat → List V → Option (Bool × V)} {Γ : ASpec} {imp imp' : List Nat} (hΓ : PureS Γ imp) (hs : (ls ++ imp).all (fun x => imp'.contains x) = true)
    (hm : imp'.all (fun x => Nat.blt x 2000000 || imp.contains x) = true) : PureS (withL ls G Γ) imp' := by
  simp only [List.all_append, Bool.and_eq_true] at hs
  refine ⟨?_, ?_⟩
  · intro f vs hp hf
    have hl : ls.elem f = false := by
      cases hc : ls.elem f with
      | false => rfl
      | true =>
        have := List.all_eq_true.1 hs.1 f (by simpa using hc)
        rw [this] at hf
        simp at hf
    have e : ∀ hp, withL ls G Γ f vs hp = Γ f vs hp := by
      intro hp
      unfold withL
      rw [hl]; rfl
    rw [e, e]
    exact (hΓ.mono hs.2 hm).pure f vs hp hf
  · intro f vs hp c v hp' hf h
    have hloc := (hΓ.mono hs.2 hm).loc f vs
    cases hl : ls.elem f with
    | false =>
      have e : ∀ hp, withL ls G Γ f vs hp = Γ f vs hp := by
        intro hp
        unfold withL
        rw [hl]; rfl
      rw [e] at h
      obtain ⟨q, q1, q2, q3⟩ := hloc _ _ _ _ hf h
      exact ⟨q, q1, q2, fun hp2 hl2 hh => by rw [e]; exact q3 hp2 hl2 hh⟩
    | true =>
      unfold withL at h
      rw [hl] at h
      simp only [cond_true] at h
      cases hg : Γ f vs hp with
      | some r =>
        rw [hg] at h
        simp only [Option.some.injEq] at h
        subst h
        obtain ⟨q, q1, q2, q3⟩ := hloc _ _ _ _ hf hg
        refine ⟨q, q1, q2, fun hp2 hl2 hh => ?_⟩
        unfold withL
        rw [hl, q3 hp2 hl2 hh]
        rfl
      | none =>
        rw [hg] at h
        simp only at h
        split at h
        · rename_i c' v' hG
          cases hst : (v'.scal && (vs.map (V.lend hp)).all V.flat) with
          | false => rw [hst] at h; simp at h
          | true =>
            rw [hst] at h
            simp only [cond_true, Option.some.injEq, Prod.mk.injEq] at h
            obtain ⟨rfl, rfl, rfl⟩ := h
            refine ⟨[], by simp, rfl, fun hp2 hl2 hh => ?_⟩
            have hn : Γ f vs hp2 = none := by
              cases hq : Γ f vs hp2 with
              | none => rfl
              | some r =>
                obtain ⟨c2, v2, hp2'⟩ := r
                obtain ⟨q, q1, q2, q3⟩ := hloc _ _ _ _ hf hq
                have := q3 hp hl2.symm (fun i hi => (hh i hi).symm)
                rw [this] at hg
                cases hg
            have em : vs.map (V.lend hp2) = vs.map (V.lend hp) := List.map_congr_left fun v hv => lend_same fun i hi => hh i (by
              simp only [argIds, List.mem_flatMap] at hi ⊢
              exact ⟨v, hv, hi⟩)
            unfold withL
            rw [hl, hn]
            simp only [cond_true, em, hG, hst, lendTs_same hh]
            rfl
        · simp at h
end
end Go.AM
