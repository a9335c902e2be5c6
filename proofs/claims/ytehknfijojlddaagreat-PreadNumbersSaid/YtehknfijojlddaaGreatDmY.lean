/-
  Tables beside which some calls are answered otherwise (whatever the table): functions that defer, where a byte is first, how often it is there.
-/
import Derived.Test.YtehknfijojlddaaGreatDmD
import Derived.Lib.Bytealg
namespace Go.DM
open Go.RowKit
set_option autoImplicit false
set_option linter.unusedSimpArgs false
set_option linter.unusedVariables false

def callY (T : Tab) (Y : Sp → Sp) (L : Nat) : Nat → Sp
  | 0 => fun _ _ _ => none
  | d + 1 => fun f args hp => match Y (callY T Y L d) f args hp with
    | some r => some r
    | none => match T f with
      | some F => callF (callY T Y L d) L F args hp
      | none => none
theorem callY_ok {P : Program} {G : List Nat} {T : Nat → Bool} {Tb : Tab} (hT : ∀ f F, Tb f = some F → chkFn P G T f F = true) {Y : Sp → Sp} (hY : ∀ Γ, SpecOK P G Γ → SpecOK P G (Y Γ)) (L : Nat) : ∀ d, SpecOK P G (callY Tb Y L d)
  | 0 => fun f vs hp v hp' h => by simp [callY] at h
  | d + 1 => fun f vs hp v hp' h => by
    simp only [callY] at h
    split at h
    · rename_i r hr
      simp only [Option.some.injEq] at h
      subst h
      exact hY _ (callY_ok hT hY L d) _ _ _ _ _ hr
    · split at h
      · rename_i F hF
        exact callF_ok (callY_ok hT hY L d) (hT f F hF) h
      · simp at h
noncomputable def callYR (T : Nat → Option KF) (Y : Sp → Sp) (d : Nat) : Sp := Nat.rec (motive := fun _ => Sp) (fun _ _ _ => none) (fun _ ih f args hp => Option.rec (motive := fun _ => Res) (Option.rec (motive := fun _ => Res) none (fun F => F.run ih args hp) (T f)) (fun r => some r) (Y ih f args hp)) d
theorem callYR_eq (T : Nat → Option KF) (Y : Sp → Sp) : ∀ d, callYR T Y d = callY (fun f => (T f).map (·.F)) Y LL d
  | 0 => rfl
  | d + 1 => by
    funext f args hp
    show Option.rec (motive := fun _ => Res) (Option.rec (motive := fun _ => Res) none (fun F => F.run (callYR T Y d) args hp) (T f)) (fun r => some r) (Y (callYR T Y d) f args hp) = _
    simp only [callY]
    rw [callYR_eq T Y d]
    cases Y (callY (fun f => (T f).map (·.F)) Y LL d) f args hp with
    | some r => rfl
    | none =>
      cases T f with
      | none => rfl
      | some F => exact F.ok _ _ _
section
variable {P : Program} {T : Nat → Bool}
theorem closedYA {t : BT} (hl : (t.list.all fun p => chkFn P [] T p.1 p.2.F) = true) {Y : Sp → Sp} (hY : ∀ Γ, SpecOK P [] Γ → SpecOK P [] (Y Γ)) {d f : Nat} {vs : List D} (hr : isTrueR (callYR t.find Y d f vs ⟨0, .e⟩) = true) (sg : Sig) (w : World) (cargs : Array Value)
    (hlen : vs.length = cargs.size) (hrel : ∀ g : Gh, g.s = sg → ∀ (i : Nat) x cv, vs[i]? = some x → cargs[i]? = some cv → VRel g x cv) : Calls P f cargs w fun e w' => e = .returned (.bool true) ∧ Below w.heap.size w w' := by
  rw [isTrueR_eq, callYR_eq] at hr
  unfold isTrue at hr
  split at hr
  · rename_i hp' he
    have hT : ∀ f F, (fun f => (t.find f).map (·.F)) f = some F → chkFn P [] T f F = true := fun f F h => by
      rw [Option.map_eq_some_iff] at h
      obtain ⟨K, hk, rfl⟩ := h
      exact List.all_eq_true.1 hl _ (BT.find_mem hk)
    obtain ⟨-, hfn⟩ := callY_ok hT hY LL d _ _ _ _ _ he
    refine (hfn w ⟨fun _ => False, fun _ => 0, fun _ => 0, sg⟩ cargs ?_ (by simp) hlen (hrel _ rfl)).mono ?_
    · exact ⟨fun id e f cs h => by simp [Tr.get] at h, fun id es h => by simp [Tr.get] at h, fun id id' o o' h => by simp [Tr.get] at h, fun id o h => by simp [Tr.get] at h, fun id h => h.elim⟩
    · rintro e w' ⟨cv, g', rfl, q1, q2, q3, q4⟩
      cases q3
      exact ⟨rfl, q2.os, q2.tape, q2.output, q2.size, fun k hk => q2.block k hk (fun id o h => by simp [Tr.get] at h)⟩
  · simp at hr
theorem closedY {t : BT} (hl : (t.list.all fun p => chkFn P [] T p.1 p.2.F) = true) {Y : Sp → Sp} (hY : ∀ Γ, SpecOK P [] Γ → SpecOK P [] (Y Γ)) {d f : Nat} (hr : isTrueR (callYR t.find Y d f [] ⟨0, .e⟩) = true) (sg : Sig) (w : World) :
    Calls P f #[] w fun e w' => e = .returned (.bool true) ∧ Below w.heap.size w w' := closedYA hl hY hr sg w #[] rfl (fun g _ i x cv h => by simp at h)
end

/-- where a byte is first -/
def idxN : List Nat → Nat → Option Nat
  | [], _ => none
  | a :: l, c => if a = c then some 0 else (idxN l c).map (· + 1)
noncomputable def idxK (c : Nat) : List Nat → Nat → (Int → Res) → Res := @List.rec Nat (fun _ => Nat → (Int → Res) → Res) (fun _ k => k (.negSucc 0)) (fun a _ ih i k => Bool.rec (motive := fun _ => Res) (ih (Nat.succ i) k) (k (.ofNat i)) (Nat.beq a c))
theorem idxK_eq (c : Nat) : ∀ (l : List Nat) (i : Nat) (k : Int → Res), idxK c l i k = k (match idxN l c with | some j => .ofNat (i + j) | none => .negSucc 0)
  | [], _, _ => rfl
  | a :: l, i, k => by
    show Bool.rec (motive := fun _ => Res) (idxK c l (Nat.succ i) k) (k (.ofNat i)) (Nat.beq a c) = _
    rw [brec_eq, Tr.beq_iff, idxK_eq c l]
    by_cases h : a = c
    · simp [idxN, h]
    · simp only [h, decide_false, cond_false, idxN, if_false]
      cases idxN l c with
      | none => rfl
      | some j => simp only [Option.map_some]; congr 2; omega
theorem idxN_lt : ∀ {l : List Nat} {c j : Nat}, idxN l c = some j → j < l.length
  | [], c, j, h => by simp [idxN] at h
  | a :: l, c, j, h => by
    simp only [idxN] at h
    split at h
    · simp only [Option.some.injEq] at h; subst h; simp
    · rw [Option.map_eq_some_iff] at h
      obtain ⟨i, hi, rfl⟩ := h
      have := idxN_lt hi
      simp only [List.length_cons]; omega
theorem idx_lib (c : UInt8) : ∀ (l : List UInt8), Lib.indexByte l c = (match idxN (l.map (·.toNat)) c.toNat with | some j => .ofNat j | none => .negSucc 0)
  | [] => rfl
  | a :: l => by
    have ih := idx_lib c l
    simp only [Lib.indexByte, List.map_cons, idxN, UInt8.toNat_inj, beq_iff_eq]
    by_cases h : a = c
    · simp [h]
    · simp only [h, if_false]
      cases hi : idxN (l.map (·.toNat)) c.toNat with
      | none => rw [hi] at ih; simp only at ih; rw [ih]; rfl
      | some j =>
        rw [hi] at ih
        simp only at ih
        rw [ih]
        simp only [Option.map_some]
        rw [if_neg (by simp [Int.ofNat_eq_natCast])]
        rfl
noncomputable def xidx (args : List D) (hp : Hp) : Res := match args with
  | [.str l, .int .u8 (.ofNat c)] => cond (Nat.ble (lenL l 0) 1000000) (idxK c l 0 fun n => some (.int .i64 n, hp)) none
  | _ => none
def IdxC (P : Program) (f : Nat) : Prop := ∀ (s : ByteArray) (c : Int) (w : World), Calls P f #[.string s, .int .u8 c] w fun e w' => e = .returned (.int .i64 (Lib.indexByte s.data.toList c.toNat.toUInt8)) ∧ w' = w
theorem xidx_ok {P : Program} {G : List Nat} {f : Nat} (hC : IdxC P f) {args : List D} {hp hp' : Hp} {v : D} (h : xidx args hp = some (v, hp')) : FnOK P G f args hp v hp' := by
  unfold xidx at h
  split at h
  · rename_i l c
    cases hc : Nat.ble (lenL l 0) 1000000 with
    | false => rw [hc] at h; simp at h
    | true =>
      rw [hc, cond_true, idxK_eq] at h
      simp only [Option.some.injEq, Prod.mk.injEq] at h
      obtain ⟨rfl, rfl⟩ := h
      simp only [Nat.ble_eq, lenL_eq, Nat.zero_add] at hc
      refine fnOK_below fun w g cargs hr hl hrel => ?_
      match cargs, hl, hrel with
      | ⟨[c0, c1]⟩, _, hrel =>
        have r0 := hrel 0 _ c0 rfl rfl
        have r1 := hrel 1 _ c1 rfl rfl
        cases r0 with
        | str _ s hs hm =>
        cases r1 with
        | int _ _ hr8 =>
        refine (hC s (.ofNat c) w).mono ?_
        rintro e w' ⟨rfl, rfl⟩
        have hc8 : c < 256 := by
          have h1 : (Int.ofNat c : Int) ≤ 255 := hr8.2
          have h2 : (Int.ofNat c : Int) = (c : Int) := rfl
          omega
        have e8 : ((Int.ofNat c).toNat.toUInt8).toNat = c := by
          show (c.toUInt8).toNat = c
          simp [Nat.toUInt8]; omega
        refine ⟨_, rfl, ?_, Below.refl _ _⟩
        rw [idx_lib, e8, hs]
        cases hi : idxN l c with
        | none => exact .int _ _ (by decide)
        | some j =>
          have := idxN_lt hi
          simp only [Nat.zero_add]
          refine .int _ _ ⟨?_, ?_⟩
          · show (-9223372036854775808 : Int) ≤ Int.ofNat j
            have h2 : (Int.ofNat j : Int) = ((j : Nat) : Int) := rfl
            omega
          · show Int.ofNat j ≤ (9223372036854775807 : Int)
            have h2 : (Int.ofNat j : Int) = ((j : Nat) : Int) := rfl
            omega
      | ⟨[]⟩, hl, _ => simp at hl
      | ⟨[_]⟩, hl, _ => simp at hl
      | ⟨_ :: _ :: _ :: _⟩, hl, _ => simp at hl
  · simp at h

/-- how often a byte is there -/
noncomputable def cntK (c : Nat) : List Nat → Nat → (Nat → Res) → Res := @List.rec Nat (fun _ => Nat → (Nat → Res) → Res) (fun n k => k n) (fun a _ ih n k => Bool.rec (motive := fun _ => Res) (ih n k) (ih (Nat.succ n) k) (Nat.beq a c))
theorem cntK_eq (c : Nat) : ∀ (l : List Nat) (i : Nat) (k : Nat → Res), cntK c l i k = k (i + l.count c)
  | [], _, _ => rfl
  | a :: l, i, k => by
    show Bool.rec (motive := fun _ => Res) (cntK c l i k) (cntK c l (Nat.succ i) k) (Nat.beq a c) = _
    rw [brec_eq, Tr.beq_iff, cntK_eq c l, cntK_eq c l, List.count_cons]
    by_cases h : a = c
    · subst h
      simp only [decide_true, cond_true, beq_self_eq_true, if_true]
      congr 1; omega
    · simp [h]
theorem count_map (c : UInt8) : ∀ (l : List UInt8), (l.map (·.toNat)).count c.toNat = l.count c
  | [] => rfl
  | a :: l => by
    rw [List.map_cons, List.count_cons, List.count_cons, count_map c l]
    congr 1
    simp [UInt8.toNat_inj]
noncomputable def xcnt (args : List D) (hp : Hp) : Res := match args with
  | [.str l, .str [c]] => cond (Nat.ble (lenL l 0) 1000000) (cntK c l 0 fun n => some (.int .i64 (.ofNat n), hp)) none
  | _ => none
def CntC (P : Program) (f : Nat) : Prop := ∀ (s : ByteArray) (c : UInt8) (w : World), Calls P f #[.string s, .string ⟨#[c]⟩] w fun e w' => e = .returned (.int .i64 (Lib.countByte s.data.toList c)) ∧ w' = w
theorem xcnt_ok {P : Program} {G : List Nat} {f : Nat} (hC : CntC P f) {args : List D} {hp hp' : Hp} {v : D} (h : xcnt args hp = some (v, hp')) : FnOK P G f args hp v hp' := by
  unfold xcnt at h
  split at h
  · rename_i l c
    cases hc : Nat.ble (lenL l 0) 1000000 with
    | false => rw [hc] at h; simp at h
    | true =>
      rw [hc, cond_true, cntK_eq] at h
      simp only [Option.some.injEq, Prod.mk.injEq] at h
      obtain ⟨rfl, rfl⟩ := h
      simp only [Nat.ble_eq, lenL_eq, Nat.zero_add] at hc
      refine fnOK_below fun w g cargs hr hl hrel => ?_
      match cargs, hl, hrel with
      | ⟨[c0, c1]⟩, _, hrel =>
        have r0 := hrel 0 _ c0 rfl rfl
        have r1 := hrel 1 _ c1 rfl rfl
        cases r0 with
        | str _ s hs hm =>
        cases r1 with
        | str _ s1 hs1 hm1 =>
        obtain ⟨b, hb⟩ : ∃ b : UInt8, s1.data.toList = [b] ∧ b.toNat = c := by
          match hq : s1.data.toList, hs1 with
          | [b], hs1 => exact ⟨b, rfl, by simpa using hs1⟩
          | [], hs1 => simp at hs1
          | _ :: _ :: _, hs1 => simp at hs1
        have e1 : s1 = ⟨#[b]⟩ := by
          have : s1.data = #[b] := by rw [← Array.toArray_toList (xs := s1.data), hb.1]
          cases s1; simp at this; rw [this]
        subst e1
        refine (hC s b w).mono ?_
        rintro e w' ⟨rfl, rfl⟩
        refine ⟨_, rfl, ?_, Below.refl _ _⟩
        have hcnt : (0 + l.count c : Nat) = Lib.countByte s.data.toList b := by
          rw [← hs, ← hb.2, count_map]
          simp [Lib.countByte]
        rw [hcnt]
        have hle : Lib.countByte s.data.toList b ≤ 1000000 := by
          rw [← hcnt]
          have := List.count_le_length (a := c) (l := l)
          omega
        refine .int _ _ ⟨?_, ?_⟩
        · show (-9223372036854775808 : Int) ≤ ((Lib.countByte s.data.toList b : Nat) : Int)
          omega
        · show ((Lib.countByte s.data.toList b : Nat) : Int) ≤ (9223372036854775807 : Int)
          omega
      | ⟨[]⟩, hl, _ => simp at hl
      | ⟨[_]⟩, hl, _ => simp at hl
      | ⟨_ :: _ :: _ :: _⟩, hl, _ => simp at hl
  · simp at h

/-- three functions that are answered so: one that defers, two of bytes -/
noncomputable def yDIC (t i c : Nat) (F : FnD) (C : List D → Hp → Res) : Sp → Sp := fun Γ f args hp => Bool.rec (motive := fun _ => Res) (Bool.rec (motive := fun _ => Res) (Bool.rec (motive := fun _ => Res) none (xcnt args hp) (Nat.beq f c)) (xidx args hp) (Nat.beq f i)) (callFD Γ C LL F args hp) (Nat.beq f t)
theorem yDIC_ok {P : Program} {G : List Nat} {T : Nat → Bool} {t i c : Nat} {F : FnD} (hF : chkFnD P G T t F = true) {K : FnC} (hK : chkFn P G T F.g K = true) {k : KF} (hk : k.F = K) (hi : bodied P i = true) (hc : bodied P c = true) (I : IdxC P i) (N : CntC P c) :
    ∀ Γ, SpecOK P G Γ → SpecOK P G (yDIC t i c F (fun vs hp => k.run (fun _ _ _ => none) vs hp) Γ) := by
  intro Γ hΓ f vs hp v hp' h
  simp only [yDIC, brec_eq] at h
  cases hft : Nat.beq f t with
  | true =>
    rw [hft, cond_true] at h
    obtain rfl := Nat.eq_of_beq_eq_true hft
    refine callFD_ok hΓ hF (fun vs hp v hp' hh => ?_) h
    rw [k.ok, hk] at hh
    exact callF_okD (fun _ _ _ _ _ h => by simp at h) hK hh
  | false =>
    rw [hft, cond_false] at h
    cases hfi : Nat.beq f i with
    | true =>
      rw [hfi] at h
      obtain rfl := Nat.eq_of_beq_eq_true hfi
      exact ⟨hi, xidx_ok I h⟩
    | false =>
      rw [hfi, cond_false] at h
      cases hfc : Nat.beq f c with
      | false => rw [hfc] at h; simp at h
      | true =>
        rw [hfc] at h
        obtain rfl := Nat.eq_of_beq_eq_true hfc
        exact ⟨hc, xcnt_ok N h⟩
end Go.DM
