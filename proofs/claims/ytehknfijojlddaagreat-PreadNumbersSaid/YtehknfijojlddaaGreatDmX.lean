/-
  Calls that are answered by themselves: functions whose contracts are known for all worlds (the library's, and such as are proved over them).
-/
import Derived.Test.YtehknfijojlddaaGreatDmL
import Derived.Lib.Join
namespace Go.DM
open Go.RowKit
set_option autoImplicit false
set_option linter.unusedSimpArgs false
set_option linter.unusedVariables false

def callX (T : Tab) (X : Sp) (L : Nat) : Nat → Sp
  | 0 => fun _ _ _ => none
  | d + 1 => fun f args hp => match X f args hp with
    | some r => some r
    | none => match T f with
      | some F => callF (callX T X L d) L F args hp
      | none => none
theorem callX_ok {P : Program} {G : List Nat} {T : Nat → Bool} {Tb : Tab} (hT : ∀ f F, Tb f = some F → chkFn P G T f F = true) {X : Sp} (hX : SpecOK P G X) (L : Nat) : ∀ d, SpecOK P G (callX Tb X L d)
  | 0 => fun f vs hp v hp' h => by simp [callX] at h
  | d + 1 => fun f vs hp v hp' h => by
    simp only [callX] at h
    split at h
    · rename_i r hr
      simp only [Option.some.injEq] at h
      subst h
      exact hX _ _ _ _ _ hr
    · split at h
      · rename_i F hF
        exact callF_ok (callX_ok hT hX L d) (hT f F hF) h
      · simp at h
noncomputable def callXR (T : Nat → Option KF) (X : Sp) (d : Nat) : Sp := Nat.rec (motive := fun _ => Sp) (fun _ _ _ => none) (fun _ ih f args hp => Option.rec (motive := fun _ => Res) (Option.rec (motive := fun _ => Res) none (fun F => F.run ih args hp) (T f)) (fun r => some r) (X f args hp)) d
theorem callXR_eq (T : Nat → Option KF) (X : Sp) : ∀ d, callXR T X d = callX (fun f => (T f).map (·.F)) X LL d
  | 0 => rfl
  | d + 1 => by
    funext f args hp
    show Option.rec (motive := fun _ => Res) (Option.rec (motive := fun _ => Res) none (fun F => F.run (callXR T X d) args hp) (T f)) (fun r => some r) (X f args hp) = _
    simp only [callX]
    cases X f args hp with
    | some r => rfl
    | none =>
      cases T f with
      | none => rfl
      | some F => exact (F.ok _ _ _).trans (by rw [callXR_eq T X d]; rfl)
section
variable {P : Program} {T : Nat → Bool}
theorem closedX {t : BT} (hl : (t.list.all fun p => chkFn P [] T p.1 p.2.F) = true) {X : Sp} (hX : SpecOK P [] X) {d f : Nat} (hr : isTrueR (callXR t.find X d f [] ⟨0, .e⟩) = true) (sg : Sig) (w : World) :
    Calls P f #[] w fun e w' => e = .returned (.bool true) ∧ Below w.heap.size w w' := by
  rw [isTrueR_eq, callXR_eq] at hr
  unfold isTrue at hr
  split at hr
  · rename_i hp' he
    have hT : ∀ f F, (fun f => (t.find f).map (·.F)) f = some F → chkFn P [] T f F = true := fun f F h => by
      rw [Option.map_eq_some_iff] at h
      obtain ⟨K, hk, rfl⟩ := h
      exact List.all_eq_true.1 hl _ (BT.find_mem hk)
    obtain ⟨-, hfn⟩ := callX_ok hT hX LL d _ _ _ _ _ he
    refine (hfn w ⟨fun _ => False, fun _ => 0, fun _ => 0, sg⟩ #[] ?_ (by simp) rfl (by simp)).mono ?_
    · exact ⟨fun id e f cs h => by simp [Tr.get] at h, fun id es h => by simp [Tr.get] at h, fun id id' o o' h => by simp [Tr.get] at h, fun id o h => by simp [Tr.get] at h, fun id h => h.elim⟩
    · rintro e w' ⟨cv, g', rfl, q1, q2, q3, q4⟩
      cases q3
      exact ⟨rfl, q2.os, q2.tape, q2.output, q2.size, fun k hk => q2.block k hk (fun id o h => by simp [Tr.get] at h)⟩
  · simp at hr
end

/-- a world in which all that was stands as it stood -/
theorem HR.below {g : Gh} {H : Nat → Option Obj} {n : Nat} {w w' : World} (h : HR g H n w) (b : Below w.heap.size w w') : HR g H n w' := by
  refine ⟨fun id e f cs ho => ?_, fun id es ho => ?_, h.apart, h.made, h.lt⟩
  · obtain ⟨arr, fz, h1, h2⟩ := h.obj id e f cs ho
    exact ⟨arr, fz, (b.block _ (h.block ho)).trans h1, h2⟩
  · obtain ⟨en, c, h1, h2⟩ := h.map id es ho
    exact ⟨en, c, (b.block _ (h.block ho)).trans h1, h2⟩
theorem FR.below {F : Nat → Prop} {g : Gh} {H : Nat → Option Obj} {w w' : World} (b : Below w.heap.size w w') : FR F g H w g H w' :=
  ⟨b.os, b.tape, b.output, b.size, fun k hk _ => b.block k hk, Up.refl g, fun id h => .inl h, fun id o h => .inr ⟨id, o, h, rfl⟩⟩
theorem fnOK_below {P : Program} {G : List Nat} {f : Nat} {vs : List D} {hp : Hp} {v : D} (h : ∀ (w : World) (g : Gh) (cargs : Array Value), HR g hp.t.get hp.n w → vs.length = cargs.size → (∀ (i : Nat) x cv, vs[i]? = some x → cargs[i]? = some cv → VRel g x cv) →
    Calls P f cargs w fun e w' => ∃ cv, e = .returned cv ∧ VRel g v cv ∧ Below w.heap.size w w') : FnOK P G f vs hp v hp := by
  intro w g cargs hr _ hl hrel
  refine (h w g cargs hr hl hrel).mono ?_
  rintro e w' ⟨cv, rfl, hv, hb⟩
  exact ⟨cv, g, rfl, hr.below hb, FR.below hb, hv, Nat.le_refl _⟩

/-- one text is handed in -/
theorem str1 {g : Gh} {l : List Nat} {cargs : Array Value} (hl : [D.str l].length = cargs.size) (hrel : ∀ (i : Nat) x cv, [D.str l][i]? = some x → cargs[i]? = some cv → VRel g x cv) : ∃ s : ByteArray, cargs = #[.string s] ∧ s.data.toList.map (·.toNat) = l ∧ s.size ≤ maxI := by
  match cargs, hl, hrel with
  | ⟨[cv]⟩, _, hrel =>
    have := hrel 0 _ cv rfl rfl
    cases this with
    | str l s h1 h2 => exact ⟨s, rfl, h1, h2⟩
  | ⟨[]⟩, hl, _ => simp at hl
  | ⟨_ :: _ :: _⟩, hl, _ => simp at hl

/-- texts of which nothing wants a sign ahead of it -/
noncomputable def plainR : List Nat → Bool := @List.rec Nat (fun _ => Bool) true (fun a _ ih => Bool.rec (motive := fun _ => Bool) false (Bool.rec (motive := fun _ => Bool) (Bool.rec (motive := fun _ => Bool) ih false (Nat.beq a 92)) false (Nat.beq a 34)) (Nat.ble 32 a))
theorem plainR_mem : ∀ {l : List Nat}, plainR l = true → ∀ a ∈ l, 32 ≤ a ∧ a ≠ 34 ∧ a ≠ 92
  | [], _, a, h => by simp at h
  | b :: l, hl, a, h => by
    have hl : Bool.rec (motive := fun _ => Bool) false (Bool.rec (motive := fun _ => Bool) (Bool.rec (motive := fun _ => Bool) (plainR l) false (Nat.beq b 92)) false (Nat.beq b 34)) (Nat.ble 32 b) = true := hl
    rw [brec_eq, brec_eq, brec_eq] at hl
    cases h1 : Nat.ble 32 b with
    | false => rw [h1] at hl; simp at hl
    | true =>
      cases h2 : Nat.beq b 34 with
      | true => rw [h1, h2] at hl; simp at hl
      | false =>
        cases h3 : Nat.beq b 92 with
        | true => rw [h1, h2, h3] at hl; simp at hl
        | false =>
          rw [h1, h2, h3] at hl
          rcases List.mem_cons.1 h with rfl | h
          · exact ⟨Nat.le_of_ble_eq_true h1, fun e => by rw [e] at h2; simp at h2, fun e => by rw [e] at h3; simp at h3⟩
          · exact plainR_mem hl a h
noncomputable def xquote (args : List D) (hp : Hp) : Res := match args with
  | [.str l] => cond (plainR l && Nat.ble (lenL l 0) 1000) (appR l [34] fun m => some (.str (34 :: m), hp)) none
  | _ => none
/-- what quoting does to such texts -/
def QuoteC (P : Program) (f : Nat) : Prop := ∀ (s : ByteArray) (w : World), (∀ c ∈ s.data.toList, 32 ≤ c.toNat ∧ c.toNat ≠ 34 ∧ c.toNat ≠ 92) → s.size ≤ 1000 →
  Calls P f #[.string s] w fun e w' => e = .returned (.string ⟨(34 :: s.data.toList ++ [34]).toArray⟩) ∧ Below w.heap.size w w'
theorem xquote_ok {P : Program} {G : List Nat} {f : Nat} (hC : QuoteC P f) {args : List D} {hp hp' : Hp} {v : D} (h : xquote args hp = some (v, hp')) : FnOK P G f args hp v hp' := by
  unfold xquote at h
  split at h
  · rename_i l
    cases hc : (plainR l && Nat.ble (lenL l 0) 1000) with
    | false => rw [hc] at h; simp at h
    | true =>
      rw [hc, cond_true, appR_eq] at h
      simp only [Option.some.injEq, Prod.mk.injEq] at h
      obtain ⟨rfl, rfl⟩ := h
      simp only [Bool.and_eq_true, Nat.ble_eq, lenL_eq, Nat.zero_add] at hc
      refine fnOK_below fun w g cargs hr hl hrel => ?_
      obtain ⟨s, rfl, hs, hm⟩ := str1 hl hrel
      have hsl : s.size = l.length := by rw [← hs, List.length_map, Array.length_toList]; rfl
      refine (hC s w (fun c hc' => plainR_mem hc.1 _ (by rw [← hs]; exact List.mem_map_of_mem hc')) (by omega)).mono ?_
      rintro e w' ⟨rfl, hb⟩
      refine ⟨_, rfl, .str _ _ (by simp [← hs]) ?_, hb⟩
      have : s.data.toList.length = s.size := Array.length_toList
      show (List.toArray (34 :: s.data.toList ++ [34])).size ≤ maxI
      rw [List.size_toArray, List.length_append, List.length_cons, this]
      show s.size + 1 + 1 ≤ 9223372036854775807
      omega
  · simp at h

/-- texts in a row -/
def strsN : List D → Option (List (List Nat))
  | [] => some []
  | .str l :: r => match strsN r with | some xs => some (l :: xs) | none => none
  | _ => none
def tailN (sep : List Nat) : List (List Nat) → List Nat
  | [] => []
  | y :: r => sep ++ (y ++ tailN sep r)
def joinN (sep : List Nat) : List (List Nat) → List Nat
  | [] => []
  | x :: r => x ++ tailN sep r
noncomputable def tailK (sep : List Nat) : List (List Nat) → (List Nat → Res) → Res := @List.rec (List Nat) (fun _ => (List Nat → Res) → Res) (fun k => k []) (fun y _ ih k => ih fun r => appR y r fun r => appR sep r k)
theorem tailK_eq (sep : List Nat) : ∀ (l : List (List Nat)) (k : List Nat → Res), tailK sep l k = k (tailN sep l)
  | [], _ => rfl
  | y :: r, k => by
    show (tailK sep r fun r => appR y r fun r => appR sep r k) = _
    rw [tailK_eq sep r, appR_eq, appR_eq]
    rfl
noncomputable def joinK (sep : List Nat) : List (List Nat) → (List Nat → Res) → Res := @List.rec (List Nat) (fun _ => (List Nat → Res) → Res) (fun k => k []) (fun x r _ k => tailK sep r fun r => appR x r k)
theorem joinK_eq (sep : List Nat) (l : List (List Nat)) (k : List Nat → Res) : joinK sep l k = k (joinN sep l) := by
  cases l with
  | nil => rfl
  | cons x r =>
    show (tailK sep r fun r => appR x r k) = _
    rw [tailK_eq, appR_eq]
    rfl
noncomputable def xjoin (args : List D) (hp : Hp) : Res := match args with
  | [.sl id off len sz _, .str sep] => match getR hp.t id with
    | some (.cells _ _ cs) => match strsN ((cs.drop off).take len) with
      | some xs => cond (Nat.beq sz 1 && Nat.beq (lenL xs 0) len && Nat.ble len 1000000) (joinK sep xs fun r => cond (Nat.ble (lenL r 0) 1000000) (some (.str r, hp)) none) none
      | none => none
    | _ => none
  | _ => none
/-- what joining does -/
def JoinC (P : Program) (f : Nat) : Prop := ∀ (bk o c : Nat) (xs : List ByteArray) (sep : ByteArray) (w : World), (∀ (j : Nat) x, xs[j]? = some x → w.cell? ⟨bk, o + j, none⟩ = some (.string x)) → bk < w.heap.size → xs.length ≤ 140737488355328 → xs.length ≤ c →
  (Lib.join (xs.map (·.data.toList)) sep.data.toList).length ≤ 140737488355328 → Calls P f #[.slice (some ⟨bk, o, none⟩) xs.length c, .string sep] w fun e w' => e = .returned (.string ⟨(Lib.join (xs.map (·.data.toList)) sep.data.toList).toArray⟩) ∧ Below w.heap.size w w'
theorem strs_row {g : Gh} : ∀ (ds : List D) (xs' : List (List Nat)) (W : Nat → Option Value), strsN ds = some xs' → (∀ (j : Nat) d, ds[j]? = some d → ∃ cv, W j = some cv ∧ VRel g d cv) →
    ∃ xs : List ByteArray, xs.map (fun s => s.data.toList.map (·.toNat)) = xs' ∧ ∀ (j : Nat) x, xs[j]? = some x → W j = some (.string x)
  | [], xs', W, h, _ => by
    simp only [strsN, Option.some.injEq] at h
    subst h
    exact ⟨[], rfl, fun j x h => by simp at h⟩
  | d :: ds, xs', W, h, hv => by
    unfold strsN at h
    split at h
    · simp at *
    · rename_i l r heq
      obtain ⟨rfl, rfl⟩ : d = .str l ∧ ds = r := by simpa using heq
      split at h
      · rename_i ys hys
        simp only [Option.some.injEq] at h
        subst h
        obtain ⟨cv, h1, h2⟩ := hv 0 _ rfl
        cases h2 with
        | str _ s hs hm =>
          obtain ⟨xs, e1, e2⟩ := strs_row ds ys (fun j => W (j + 1)) hys (fun j d hj => hv (j + 1) d hj)
          refine ⟨s :: xs, by simp [e1, hs], fun j x hj => ?_⟩
          match j, hj with
          | 0, hj =>
            simp only [List.getElem?_cons_zero, Option.some.injEq] at hj
            subst hj; exact h1
          | j + 1, hj => exact e2 j x (by simpa using hj)
      · simp at h
    · simp at h
theorem tail_map (sep : List UInt8) (r : List (List UInt8)) : (Lib.joinTail sep r).map (·.toNat) = tailN (sep.map (·.toNat)) (r.map (·.map (·.toNat))) := by
  induction r with
  | nil => rfl
  | cons y r ih =>
    simp only [Lib.joinTail, List.map_cons, List.flatten_cons, List.map_append, tailN, List.append_assoc] at ih ⊢
    rw [ih]
theorem join_map (sep : List UInt8) (r : List (List UInt8)) : (Lib.join r sep).map (·.toNat) = joinN (sep.map (·.toNat)) (r.map (·.map (·.toNat))) := by
  cases r with
  | nil => simp [Lib.join_nil, joinN]
  | cons x r => rw [Lib.join_cons, List.map_append, tail_map]; rfl
theorem xjoin_ok {P : Program} {G : List Nat} {f : Nat} (hC : JoinC P f) {args : List D} {hp hp' : Hp} {v : D} (h : xjoin args hp = some (v, hp')) : FnOK P G f args hp v hp' := by
  unfold xjoin at h
  split at h
  · rename_i id off len sz cap sep
    rw [getR_eq] at h
    split at h
    · rename_i e0 f0 cs hcs
      split at h
      · rename_i xs' hxs
        cases hc : (Nat.beq sz 1 && Nat.beq (lenL xs' 0) len && Nat.ble len 1000000) with
        | false => rw [hc] at h; simp at h
        | true =>
          rw [hc, cond_true, joinK_eq] at h
          cases hr : Nat.ble (lenL (joinN sep xs') 0) 1000000 with
          | false => rw [hr] at h; simp at h
          | true =>
            rw [hr] at h
            simp only [cond_true, Option.some.injEq, Prod.mk.injEq] at h
            obtain ⟨rfl, rfl⟩ := h
            simp only [Bool.and_eq_true, Nat.ble_eq, lenL_eq, Nat.zero_add] at hc hr
            obtain ⟨⟨hsz, hlen⟩, hle⟩ := hc
            obtain rfl := Nat.eq_of_beq_eq_true hsz
            have hlen := Nat.eq_of_beq_eq_true hlen
            refine fnOK_below fun w g cargs hhr hl hrel => ?_
            match cargs, hl, hrel with
            | ⟨[c0, c1]⟩, _, hrel =>
              have r0 := hrel 0 _ c0 rfl rfl
              have r1 := hrel 1 _ c1 rfl rfl
              cases r0 with
              | sl _ _ _ _ _ c hA hz hcl hm hk =>
              cases r1 with
              | str _ s hs hm' =>
              obtain ⟨arr, fz, b1, b2⟩ := hhr.obj id e0 f0 cs hcs
              obtain ⟨xs, e1, e2⟩ := strs_row (g := g) _ xs' (fun j => w.cell? ⟨g.ρ id, off + j, none⟩) hxs (fun j d hj => by
                rw [List.getElem?_take] at hj
                split at hj
                · rw [List.getElem?_drop] at hj
                  have hlt : off + j < arr.size := Nat.lt_of_lt_of_le (List.getElem?_eq_some_iff.1 hj).1 b2.len
                  refine ⟨arr[off + j], ?_, b2.rel (off + j) d _ hj (Array.getElem?_eq_getElem hlt)⟩
                  simp [World.cell?, b1, hlt]
                · simp at hj)
              have hxl : xs.length = len := by rw [← hlen, ← e1, List.length_map]
              have hj : (Lib.join (xs.map (·.data.toList)) s.data.toList).map (·.toNat) = joinN sep xs' := by
                rw [join_map, hs, ← e1, List.map_map]
                rfl
              have hjl := congrArg List.length hj
              rw [List.length_map] at hjl
              subst hxl
              refine (hC (g.ρ id) off c xs s w e2 (hhr.block hcs) (by omega) hcl (by omega)).mono ?_
              rintro e w' ⟨rfl, hb⟩
              refine ⟨_, rfl, .str _ _ (by simpa using hj) ?_, hb⟩
              show (List.toArray _).size ≤ maxI
              rw [List.size_toArray]
              show _ ≤ 9223372036854775807
              omega
            | ⟨[]⟩, hl, _ => simp at hl
            | ⟨[_]⟩, hl, _ => simp at hl
            | ⟨_ :: _ :: _ :: _⟩, hl, _ => simp at hl
      · simp at h
    · simp at h
  · simp at h

/-- two functions that are answered so -/
noncomputable def xQJ (q j : Nat) : Sp := fun f args hp => Bool.rec (motive := fun _ => Res) (Bool.rec (motive := fun _ => Res) none (xjoin args hp) (Nat.beq f j)) (xquote args hp) (Nat.beq f q)
theorem xQJ_ok {P : Program} {G : List Nat} {q j : Nat} (hq : bodied P q = true) (hj : bodied P j = true) (Q : QuoteC P q) (J : JoinC P j) : SpecOK P G (xQJ q j) := by
  intro f vs hp v hp' h
  simp only [xQJ, brec_eq] at h
  cases hfq : Nat.beq f q with
  | true =>
    rw [hfq] at h
    obtain rfl := Nat.eq_of_beq_eq_true hfq
    exact ⟨hq, xquote_ok Q h⟩
  | false =>
    rw [hfq, cond_false] at h
    cases hfj : Nat.beq f j with
    | false => rw [hfj] at h; simp at h
    | true =>
      rw [hfj] at h
      obtain rfl := Nat.eq_of_beq_eq_true hfj
      exact ⟨hj, xjoin_ok J h⟩
end Go.DM
