import Derived.KernelRfl
import Derived.Test.YtdpajabhmmmjoaaZ02
import Derived.Test.YtdpajabhmmmjoaaZ03
import Derived.Test.YtdpajabhmmmjoaaZ04
import Derived.Test.YtdpajabhmmmjoaaZ06
noncomputable section
namespace Go.Proofs.Ytdpajabhmmmjoaa
open Go.AM
set_option autoImplicit false
set_option linter.unusedVariables false
set_option linter.unusedSimpArgs false
set_option maxRecDepth 100000
theorem abu {P : Program} {f : FuncId} {vs : List V} {R : Type} {ret : R → V} {r0 : R} (h : (∀ x ∈ vs, x.fits) → ∃ r, aI P f vs (ret r) ∧ r = r0) : ∃ r, aI P f vs (ret r) ∧ r = r0 :=
 ⟨r0, aI.fits fun hf => by obtain ⟨r, h1, rfl⟩ := h hf; exact h1, rfl⟩
theorem aqT (s : List UInt8) : ∃ r, oU s r := by
 refine abu (ret := fun r => .bool r) fun hf => ?_
 have hs : s.length ≤ 9223372036854775807 := hf (.str s) (by simp)
 have hp : ∀ t : List UInt8, ∃ r, l9 t r := fun t => by
  refine abu (ret := fun (r : Int × Int) => .tup [.int .u32 r.1, .int .i64 r.2]) fun hf => ?_
  have ht : t.length ≤ 9223372036854775807 := hf (.str t) (by simp)
  exact aeQ 100 t ⟨_, ab9 95 t ht, _, _, _, rfl, rfl, rfl⟩
 refine ap3 (s.length + 1) s ?_
 unfold aaG rc
 refine be (fun x => x.length ≤ s.length ∧ cZ x = cZ s) (fun x => x.length) ?_ _ _ ⟨Nat.le_refl _, rfl⟩ (by omega)
 rintro again t ⟨h1, h2⟩ ih
 unfold tT
 dsimp only
 cases t with
 | nil =>
   simp only [List.length_nil]
   exact aF (fun h => by simp at h) (fun _ => aG ⟨_, _, rfl, rfl, h2⟩)
 | cons c t =>
   refine aF (fun _ => ?_) (fun h => by simp only [List.length_cons, decide_eq_false_iff_not] at h; omega)
   refine aD (hp _) ?_
   rintro ⟨c', n'⟩ ⟨-, hp'⟩
   have hle := aqN (c :: t)
   have hv := akZ c t
   have hp' : (c', n') = dS (c :: t) := hp'
   rw [← hp'] at hle
   have hn : n' = ((eT (c :: t)).2 : Int) := congrArg Prod.snd hp'
   simp only [List.length_cons] at hle h1
   dsimp only at hle ⊢
   repeat' (first | (with_reducible refine aF ?_ ?_ <;> (intro hb; (try simp only [bnl] at hb); (try revert hb; intro _))) | with_reducible refine aU ?_ ?_ | with_reducible refine aG ?_ | fail)
   ·rename_i h
    rw [if_pos (by omega)] at hv
    exact ⟨_, _, rfl, rfl, by rw [xb, ← h2, hv]⟩
   ·simp only [bnl, List.length_cons]; exact hle
   ·rename_i h
    rw [if_neg (by omega)] at hv
    refine ih _ ⟨?_, ?_⟩ ?_
    ·simp only [List.length_drop, List.length_take, List.length_cons]; omega
    ·rw [List.take_length, hn, Int.toNat_natCast, ← hv, h2]
    ·simp only [List.length_drop, List.length_take, List.length_cons]; omega
def ot (ts : List aA) (kind items : Int) (fields : List aM) (l : List aB) (i : Nat) : Bool :=
 cond (kind == 9) (gq ts (fields.drop i) (l.drop i)) (br ts items (l.drop i))
theorem axG {α : Type} {l : List α} {i : Nat} {x d : α} (h : l[i]? = some x) : l.getD i d = x := by
 rw [List.getD_eq_getElem?_getD, h]; rfl
def afr (ts : List aA) (n : Nat) : Prop := ∀ (t m : Int) (s : List UInt8) (l : List aB) (ks : List (List UInt8)) (b : Int), szL l + 1 ≤ n → ∃ r, eJ ts t m s l ks b r
theorem agJ (ts : List aA) (n : Nat) (hF : afr ts n) (N : Nat) (k0 k3 : Int) (k8 : List aM) (l : List aB) (hl : l.length ≤ 9223372036854775807) (hN : l.length < N) (hs : szL l ≤ n) (hr : k0 = 9 → l.length = k8.length) (Q : V × List aK → Prop) (hQ : Q (.bool (ot ts k0 k3 k8 l 0), []))
  (B : ((List aA × Int × List UInt8 × List (List UInt8) × Int × List (List UInt8) × Bool × List UInt8 × Int × List aM × List Int × Int × List UInt8 × List aB × List (List UInt8) × Int × Int) → Option (V × List aK)) → (List aA × Int × List UInt8 × List (List UInt8) × Int × List (List UInt8) × Bool × List UInt8 × Int × List aM × List Int × Int × List UInt8 × List aB × List (List UInt8) × Int × Int) → Option (V × List aK))
  (hB : B = kE N ∨ B = nk N)
  (k1 : List UInt8) (k2 : List (List UInt8)) (k4 : List (List UInt8)) (k5 : Bool) (k6 : List UInt8) (k7 : Int) (k9 : List Int) (m : Int) (s : List UInt8) (ks : List (List UInt8)) (b : Int) :
  Tot (aQ N B (ts, k0, k1, k2, k3, k4, k5, k6, k7, k8, k9, m, s, l, ks, b, 0)) Q := by
 refine be (fun x => match x with | (ts', v0, v1, v2, v3, v4, v5, v6, v7, v8, v9, m', s', l', ks', b', i) => ts' = ts ∧ v0 = k0 ∧ v3 = k3 ∧ v8 = k8 ∧ l' = l ∧ 0 ≤ i ∧ i ≤ (l.length : Int) ∧ ot ts k0 k3 k8 l i.toNat = ot ts k0 k3 k8 l 0)
  (fun x => ((l.length : Int) - x.2.2.2.2.2.2.2.2.2.2.2.2.2.2.2.2).toNat) ?_ _ _ ⟨rfl, rfl, rfl, rfl, rfl, by simp, by simp, rfl⟩ (by simp; omega)
 rintro again ⟨ts', v0, v1, v2, v3, v4, v5, v6, v7, v8, v9, m', s', l', ks', b', i⟩ ⟨rfl, rfl, rfl, rfl, rfl, i1, i2, i3⟩ ih
 dsimp only at ih
 have eqB : B again (ts', v0, v1, v2, v3, v4, v5, v6, v7, v8, v9, m', s', l', ks', b', i) = kE N again (ts', v0, v1, v2, v3, v4, v5, v6, v7, v8, v9, m', s', l', ks', b', i) := by
  rcases hB with rfl | rfl <;> rfl
 rw [eqB]
 unfold kE
 dsimp only
 refine aF (fun h => ?_) (fun h => ?_)
 ·have h := of_decide_eq_true h
  have hil : i.toNat < l'.length := by omega
  have hsz := apm l' i.toNat hil
  have hsz2 := aex (l'.getD i.toNat (aC .aval))
  have ew : IntKind.i64.wrap (i + 1) = i + 1 := aJ (i + 1) (by omega)
  have et : (i + 1).toNat = i.toNat + 1 := by omega
  have next : ot ts' v0 v3 v8 l' (i.toNat + 1) = ot ts' v0 v3 v8 l' 0 → Tot (again (ts', v0, v1, v2, v3, v4, v5, v6, v7, v8, v9, m', s', l', ks', b', IntKind.i64.wrap (i + 1))) _ := fun hh => ih (ts', v0, v1, v2, v3, v4, v5, v6, v7, v8, v9, m', s', l', ks', b', IntKind.i64.wrap (i + 1))
   (by simp only [ew, et]; exact ⟨trivial, trivial, trivial, trivial, trivial, by omega, by omega, hh⟩) (by simp only [ew]; omega)
  have hd := el l' i.toNat (aC .aval) hil
  refine aF (fun h9 => ?_) (fun h9 => ?_)
  ·have h9' : v0 = 9 := by simpa using h9
   have hlen := hr h9'
   refine vck (vck ?_)
   refine aD (hF _ _ _ _ _ _ (by omega)) ?_
   rintro _ ⟨-, rfl⟩
   have hfd := el v8 i.toNat (aC .afield) (by omega)
   have step : ot ts' v0 v3 v8 l' i.toNat = (aZ ts' (v8.getD i.toNat (aC .afield)).typ (l'.getD i.toNat (aC .aval)) && ot ts' v0 v3 v8 l' (i.toNat + 1)) := by
    simp only [ot, h9, cond_true]
    rw [hd, hfd]
    simp only [gq, List.headD_cons, List.tail_cons]
   rw [aB.eta]
   refine aF (fun hb => aG ?_) (fun hb => ?_)
   ·have hb' : aZ ts' (v8.getD i.toNat (aC .afield)).typ (l'.getD i.toNat (aC .aval)) = false := by simpa using hb
    rw [step, hb', Bool.false_and] at i3
    rw [← i3] at hQ; exact hQ
   ·have hb' : aZ ts' (v8.getD i.toNat (aC .afield)).typ (l'.getD i.toNat (aC .aval)) = true := by simpa using hb
    rw [step, hb', Bool.true_and] at i3
    exact next i3
  ·refine vck ?_
   refine aD (hF _ _ _ _ _ _ (by omega)) ?_
   rintro _ ⟨-, rfl⟩
   have step : ot ts' v0 v3 v8 l' i.toNat = (aZ ts' v3 (l'.getD i.toNat (aC .aval)) && ot ts' v0 v3 v8 l' (i.toNat + 1)) := by
    simp only [ot, h9, cond_false]
    rw [hd]
    simp only [br]
   rw [aB.eta]
   refine aF (fun hb => aG ?_) (fun hb => ?_)
   ·have hb' : aZ ts' v3 (l'.getD i.toNat (aC .aval)) = false := by simpa using hb
    rw [step, hb', Bool.false_and] at i3
    rw [← i3] at hQ; exact hQ
   ·have hb' : aZ ts' v3 (l'.getD i.toNat (aC .aval)) = true := by simpa using hb
    rw [step, hb', Bool.true_and] at i3
    exact next i3
 ·have h := of_decide_eq_false h
  have : i.toNat = l'.length := by omega
  rw [this] at i3
  have e : ot ts' v0 v3 v8 l' l'.length = true := by
   simp only [ot, List.drop_length]
   cases v0 == 9 <;> simp [gq, br]
  rw [e] at i3
  refine aG ?_
  rw [← i3] at hQ; exact hQ
theorem awS (ts : List aA) (n : Nat) (hF : afr ts n) (k0 : Int) (k1 : List UInt8) (k2 : List (List UInt8)) (k3 : Int) (k4 : List (List UInt8)) (k5 : Bool) (k6 : List UInt8) (k7 : Int) (k8 : List aM) (k9 : List Int) (m : Int) (s : List UInt8) (l : List aB) (ks : List (List UInt8)) (b : Int) (hs : szL l ≤ n) :
  ∃ r, qQ ts k0 k1 k2 k3 k4 k5 k6 k7 k8 k9 m s l ks b r := by
 refine abu (ret := fun r => .bool r) fun hf => ?_
 have hl : l.length ≤ 9223372036854775807 := hf (.agg [.int .u64 m, .str s, .sl .aval (.may false) l, .sl .str (.may false) ks, .int .i64 b]) (by simp) (.sl .aval (.may false) l) (by simp)
 have hk : ks.length ≤ 9223372036854775807 := hf (.agg [.int .u64 m, .str s, .sl .aval (.may false) l, .sl .str (.may false) ks, .int .i64 b]) (by simp) (.sl .str (.may false) ks) (by simp)
 refine an3 (l.length + ks.length + 2) _ _ _ _ _ _ _ _ _ _ _ _ _ _ _ _ ?_
 generalize hN : l.length + ks.length + 2 = N
 unfold yN pE
 dsimp only
 refine aF (fun h9 => aF (fun hb => aG ⟨_, _, rfl, rfl, ?_⟩) (fun hb => ?_)) (fun h9 => aF (fun h13 => aF (fun hb => aG ⟨_, _, rfl, rfl, ?_⟩) (fun hb => ?_)) (fun h13 => aF (fun h14 => ?_) (fun h14 => ?_)))
 ·have : ¬ l.length = k8.length := by simp at hb; omega
  simp only [dg, abS, h9, cond_true, this, decide_false, Bool.false_and]
 ·have : l.length = k8.length := by simp at hb; omega
  refine agJ ts n hF N k0 k3 k8 l hl (by omega) hs (fun _ => this) _ ⟨_, _, rfl, rfl, ?_⟩ _ (.inl rfl) _ _ _ _ _ _ _ _ _ _ _
  simp only [dg, abS, ot, h9, cond_true, this, decide_true, Bool.true_and, List.drop_zero]
 ·have : ¬ (ks.length : Int) = l.length := by simp at hb; omega
  simp only [dg, abS, h9, h13, cond_true, cond_false, beq_eq_false_iff_ne.2 this, Bool.false_and]
 ·have hlk : (l.length : Int) = ks.length := by simpa using hb
  have goalE : ∀ r : Bool, r = (ey ks && br ts k3 l) → dg ts k0 k1 k2 k3 k4 k5 k6 k7 k8 k9 m s l ks b r := by
   intro r hr
   simp only [dg, abS, h9, h13, cond_true, cond_false, hlk.symm, beq_self_eq_true, Bool.true_and]
   exact hr
  refine be (fun x => match x with | (ts', v0, v1, v2, v3, v4, v5, v6, v7, v8, v9, m', s', l', ks', b', i) => ts' = ts ∧ v0 = k0 ∧ v3 = k3 ∧ v8 = k8 ∧ l' = l ∧ ks' = ks ∧ 0 ≤ i ∧ i ≤ (ks.length : Int) ∧ nP ks i.toNat = ey ks)
   (fun x => ((ks.length : Int) - x.2.2.2.2.2.2.2.2.2.2.2.2.2.2.2.2).toNat) ?_ _ _ ⟨rfl, rfl, rfl, rfl, rfl, rfl, by simp, by simp, rfl⟩ (by simp; omega)
  rintro again ⟨ts', v0, v1, v2, v3, v4, v5, v6, v7, v8, v9, m', s', l', ks', b', i⟩ ⟨rfl, rfl, rfl, rfl, rfl, rfl, i1, i2, i3⟩ ih
  dsimp only at ih
  unfold si qq
  dsimp only
  refine aF (fun h => ?_) (fun h => ?_)
  ·have h := of_decide_eq_true h
   have ew : IntKind.i64.wrap (i + 1) = i + 1 := aJ (i + 1) (by omega)
   have et : (i + 1).toNat = i.toNat + 1 := by omega
   have hst := ag0 ks' i.toNat (by omega)
   rw [i3] at hst
   have next : nP ks' (i.toNat + 1) = ey ks' → Tot (again (ts', v0, v1, v2, v3, v4, v5, v6, v7, v8, v9, m', s', l', ks', b', IntKind.i64.wrap (i + 1))) _ := fun hh => ih (ts', v0, v1, v2, v3, v4, v5, v6, v7, v8, v9, m', s', l', ks', b', IntKind.i64.wrap (i + 1))
    (by simp only [ew, et]; exact ⟨trivial, trivial, trivial, trivial, trivial, trivial, by omega, by omega, hh⟩) (by simp only [ew]; omega)
   refine vck ?_
   refine aD (aqT _) ?_
   rintro _ ⟨-, rfl⟩
   change Tot (cond (!cZ (ks'.getD i.toNat [])) _ _) _
   refine aF (fun hv => aG ⟨_, _, rfl, rfl, goalE _ ?_⟩) (fun hv => ?_)
   ·have hv : cZ (ks'.getD i.toNat []) = false := by simpa using hv
    rw [hst, hv]; rfl
   ·have hv : cZ (ks'.getD i.toNat []) = true := by simpa using hv
    rw [hv, Bool.true_and] at hst
    refine aF (fun hp => ?_) (fun hp => ?_)
    ·have hp := of_decide_eq_true hp
     have em : IntKind.i64.wrap (i - 1) = i - 1 := aJ (i - 1) (by omega)
     have e1 : (i - 1).toNat = i.toNat - 1 := by omega
     have hz : decide (i.toNat = 0) = false := decide_eq_false (by omega)
     rw [hz, Bool.false_or] at hst
     rw [em, e1]
     refine vck (vck ?_)
     change Tot (cond (Op.bytesLess (ks'.getD i.toNat []) (ks'.getD (i.toNat - 1) []) || decide (ks'.getD i.toNat [] = ks'.getD (i.toNat - 1) [])) _ _) _
     rw [af3]
     refine aF (fun hv => aG ⟨_, _, rfl, rfl, goalE _ ?_⟩) (fun hv => ?_)
     ·have hv : Op.bytesLess (ks'.getD (i.toNat - 1) []) (ks'.getD i.toNat []) = false := by simpa using hv
      rw [hst, hv]; rfl
     ·have hv : Op.bytesLess (ks'.getD (i.toNat - 1) []) (ks'.getD i.toNat []) = true := by simpa using hv
      rw [hv, Bool.true_and] at hst
      exact next hst.symm
    ·have hp := of_decide_eq_false hp
     have hz : decide (i.toNat = 0) = true := decide_eq_true (by omega)
     rw [hz, Bool.true_or, Bool.true_and] at hst
     exact next hst.symm
  ·have h := of_decide_eq_false h
   have hi : i.toNat = ks'.length := by omega
   rw [hi, aiP] at i3
   refine agJ ts' n hF N v0 v3 v8 l' hl (by omega) hs (fun h => by simp [h] at h9) _ ⟨_, _, rfl, rfl, goalE _ ?_⟩ _ (.inr rfl) _ _ _ _ _ _ _ _ _ _ _
   rw [← i3, Bool.true_and]
   simp only [ot, h9, cond_false, List.drop_zero]
 ·
  have goalE : ∀ r : Bool, r = (decide (0 ≤ b) && (decide (b < (k9.length : Int)) && (((l.length : Int) == 1) && br ts (k9.getD b.toNat 0) l))) → dg ts k0 k1 k2 k3 k4 k5 k6 k7 k8 k9 m s l ks b r := by
   intro r hr
   simp only [dg, abS, h9, h13, h14, cond_true, cond_false]
   exact hr
  refine aF (fun hb => aF (fun hb2 => aF (fun hb3 => ?_) (fun hb3 => aG ⟨_, _, rfl, rfl, goalE _ ?_⟩)) (fun hb2 => aG ⟨_, _, rfl, rfl, goalE _ ?_⟩)) (fun hb => aG ⟨_, _, rfl, rfl, goalE _ ?_⟩)
  ·have hb1 := of_decide_eq_true hb
   have hb2' := of_decide_eq_true hb2
   have hb3' : (l.length : Int) = 1 := by simpa using hb3
   obtain ⟨v, rfl⟩ : ∃ v, l = [v] := by
    match l, hb3' with
    | [v], _ => exact ⟨v, rfl⟩
   have hsz := aex v
   simp only [szL] at hs
   refine vck (aU (by simp) ?_)
   refine aD (hF _ _ _ _ _ _ (by simp only [Int.toNat_zero, List.getD_cons_zero]; omega)) ?_
   rintro _ ⟨-, rfl⟩
   refine aG ⟨_, _, rfl, rfl, goalE _ ?_⟩
   simp only [hb, hb2, hb3, Bool.true_and, Int.toNat_zero, List.getD_cons_zero, aB.eta, br, Bool.and_true]
   rfl
  ·rw [hb3]; simp
  ·rw [hb2]; simp
  ·rw [hb]; simp
 ·refine agJ ts n hF N k0 k3 k8 l hl (by omega) hs (fun h => by simp [h] at h9) _ ⟨_, _, rfl, rfl, ?_⟩ _ (.inl rfl) _ _ _ _ _ _ _ _ _ _ _
  simp only [dg, abS, ot, h9, h13, h14, cond_false, List.drop_zero]
def vO (kind n : Int) (s : List UInt8) (l : List aB) (ks : List (List UInt8)) (b : Int) (num txt prt ok : Bool) : Bool :=
 cond (!(kind == 13) && decide ((0 : Int) < (ks.length : Int))) false (cond (!(kind == 14) && !(b == 0)) false (ok && ((num || (n == 0)) && ((txt || decide (s = [])) && (prt || ((l.length : Int) == 0))))))
theorem ap4 (ks : List (List UInt8)) : (((ks.length : Int)) == 0) = !decide ((0 : Int) < (ks.length : Int)) := by
 cases ks with
 | nil => rfl
 | cons a l => simp; omega
theorem lt0 : decide ((0 : Int) < 0) = false := rfl
theorem vP (kind m : Int) (s : List UInt8) (l : List aB) (ks : List (List UInt8)) (b : Int) (ok : Bool) (h1 : kind ≠ 13) (h2 : kind ≠ 14) : vO kind m s l ks b true false false ok = (ok && bR 0 s l ks b) := by
 simp only [vO, bR, beq_eq_false_iff_ne.2 h1, beq_eq_false_iff_ne.2 h2, ap4 ks, Bool.not_false, Bool.not_true, Bool.true_and, Bool.false_and, Bool.true_or, Bool.false_or, beq_self_eq_true, decide_true, List.length_nil, Int.ofNat_zero, Int.natCast_zero, Bool.and_true, cond_false, lt0]
 generalize decide ((0 : Int) < (ks.length : Int)) = p
 generalize (b == 0) = q
 generalize (m == 0) = r
 generalize decide (s = []) = t
 generalize ((l.length : Int) == 0) = u
 cases ok <;> cases p <;> cases q <;> cases r <;> cases t <;> cases u <;> rfl
theorem amj (kind m : Int) (s : List UInt8) (l : List aB) (ks : List (List UInt8)) (b : Int) (ok : Bool) (h1 : kind ≠ 13) (h2 : kind ≠ 14) : vO kind m s l ks b false true false ok = (ok && bR m [] l ks b) := by
 simp only [vO, bR, beq_eq_false_iff_ne.2 h1, beq_eq_false_iff_ne.2 h2, ap4 ks, Bool.not_false, Bool.not_true, Bool.true_and, Bool.false_and, Bool.true_or, Bool.false_or, beq_self_eq_true, decide_true, List.length_nil, Int.ofNat_zero, Int.natCast_zero, Bool.and_true, cond_false, lt0]
 generalize decide ((0 : Int) < (ks.length : Int)) = p
 generalize (b == 0) = q
 generalize (m == 0) = r
 generalize decide (s = []) = t
 generalize ((l.length : Int) == 0) = u
 cases ok <;> cases p <;> cases q <;> cases r <;> cases t <;> cases u <;> rfl
theorem awT (m : Int) (s : List UInt8) (l : List aB) (ks : List (List UInt8)) (b : Int) : vO 1 m s l ks b false false false true = (bR m s l ks b) := by
 simp only [vO, bR, Int.reduceBEq, ap4 ks, Bool.not_false, Bool.not_true, Bool.true_and, Bool.false_and, Bool.true_or, Bool.false_or, beq_self_eq_true, decide_true, List.length_nil, Int.ofNat_zero, Int.natCast_zero, Bool.and_true, cond_false, lt0]
 generalize decide ((0 : Int) < (ks.length : Int)) = p
 generalize (b == 0) = q
 generalize (m == 0) = r
 generalize decide (s = []) = t
 generalize ((l.length : Int) == 0) = u
 cases p <;> cases q <;> cases r <;> cases t <;> cases u <;> rfl
theorem atU (kind m : Int) (s : List UInt8) (l : List aB) (ks : List (List UInt8)) (b : Int) (ok : Bool) (h1 : kind ≠ 13) (h2 : kind ≠ 14) : vO kind m s l ks b false false true ok = (ok && bR m s [] ks b) := by
 simp only [vO, bR, beq_eq_false_iff_ne.2 h1, beq_eq_false_iff_ne.2 h2, ap4 ks, Bool.not_false, Bool.not_true, Bool.true_and, Bool.false_and, Bool.true_or, Bool.false_or, beq_self_eq_true, decide_true, List.length_nil, Int.ofNat_zero, Int.natCast_zero, Bool.and_true, cond_false, lt0]
 generalize decide ((0 : Int) < (ks.length : Int)) = p
 generalize (b == 0) = q
 generalize (m == 0) = r
 generalize decide (s = []) = t
 generalize ((l.length : Int) == 0) = u
 cases ok <;> cases p <;> cases q <;> cases r <;> cases t <;> cases u <;> rfl
theorem axH (m : Int) (s : List UInt8) (l : List aB) (ks : List (List UInt8)) (b : Int) (ok : Bool) : vO 13 m s l ks b false false true ok = (ok && bR m s [] [] b) := by
 simp only [vO, bR, Int.reduceBEq, ap4 ks, Bool.not_false, Bool.not_true, Bool.true_and, Bool.false_and, Bool.true_or, Bool.false_or, beq_self_eq_true, decide_true, List.length_nil, Int.ofNat_zero, Int.natCast_zero, Bool.and_true, cond_false, lt0]
 generalize decide ((0 : Int) < (ks.length : Int)) = p
 generalize (b == 0) = q
 generalize (m == 0) = r
 generalize decide (s = []) = t
 generalize ((l.length : Int) == 0) = u
 cases ok <;> cases p <;> cases q <;> cases r <;> cases t <;> cases u <;> rfl
theorem axI (m : Int) (s : List UInt8) (l : List aB) (ks : List (List UInt8)) (b : Int) (ok : Bool) : vO 14 m s l ks b false false true ok = (ok && bR m s [] ks 0) := by
 simp only [vO, bR, Int.reduceBEq, ap4 ks, Bool.not_false, Bool.not_true, Bool.true_and, Bool.false_and, Bool.true_or, Bool.false_or, beq_self_eq_true, decide_true, List.length_nil, Int.ofNat_zero, Int.natCast_zero, Bool.and_true, cond_false, lt0]
 generalize decide ((0 : Int) < (ks.length : Int)) = p
 generalize (b == 0) = q
 generalize (m == 0) = r
 generalize decide (s = []) = t
 generalize ((l.length : Int) == 0) = u
 cases ok <;> cases p <;> cases q <;> cases r <;> cases t <;> cases u <;> rfl
theorem ayn (m : Int) (h : 0 ≤ m ∧ m ≤ 18446744073709551615) : (m == IntKind.wrap .u64 (IntKind.wrap .i64 (IntKind.wrap .i32 (IntKind.wrap .u32 m)))) = (decide ((-2147483648) ≤ IntKind.wrap .i64 m) && decide (IntKind.wrap .i64 m < 2147483648)) := by
 rw [Bool.eq_iff_iff]
 simp only [beq_iff_eq, Bool.and_eq_true, decide_eq_true_eq]
 rw [yp, nM, nM, asT, abH]
 omega
theorem awU (m : Int) (h : 0 ≤ m ∧ m ≤ 18446744073709551615) : (cJ .u64 m 32 == 0) = decide (m < 4294967296) := by
 rw [Bool.eq_iff_iff]
 simp only [beq_iff_eq, decide_eq_true_eq, cJ, IntKind.bits]
 rw [show (2 : Int) ^ (min (Int.toNat 32) 64) = 4294967296 by decide, Int.fdiv_eq_ediv_of_nonneg _ (by decide)]
 omega
theorem awV (ts : List aA) (hts : dm ts) (n : Nat) (hF : afr ts n) : afr ts (n + 1) := by
 intro t m s l ks b hs
 refine abu (ret := fun r => .bool r) fun hf => ?_
 have hm := abI (hf (.agg [.int .u64 m, .str s, .sl .aval (.may false) l, .sl .str (.may false) ks, .int .i64 b]) (by simp)) m (by simp)
 refine apZ 1 _ _ _ _ _ _ _ ?_
 unfold aaE ra
 dsimp only
 have last : ∀ (num txt prt ok : Bool), Tot (pC 1 (m, s, l, ks, b, num, txt, prt, ok)) (fun z => z = (.bool (ok && ((num || (m == 0)) && ((txt || decide (s = [])) && (prt || ((l.length : Int) == 0))))), [])) := by
  intro num txt prt ok
  unfold pC
  dsimp only
  repeat' (first | (with_reducible refine aF ?_ ?_ <;> (intro hb; (try simp only [bnl] at hb); (try revert hb; intro _))) | with_reducible refine aU ?_ ?_ | with_reducible refine aG ?_ | fail)
  all_goals simp [*]
 have zero : ∀ (k0 : Int) (k1 : List UInt8) (k2 : List (List UInt8)) (k3 : Int) (k4 : List (List UInt8)) (k5 : Bool) (k6 : List UInt8) (k7 : Int) (k8 : List aM) (k9 : List Int) (num txt prt ok : Bool), vO k0 m s l ks b num txt prt ok = aZ ts t (.mk m s l ks b) →
   Tot (pD 1 (m, s, l, ks, b, k0, k1, k2, k3, k4, k5, k6, k7, k8, k9, num, txt, prt, ok)) (fun z => ∃ (y0 : Bool) (rest : List aK), z.1.dimR = .bool y0 ∧ z.2 = rest ∧ rT ts t m s l ks b y0) := by
  intro k0 k1 k2 k3 k4 k5 k6 k7 k8 k9 num txt prt ok hr
  have key : Tot (pD 1 (m, s, l, ks, b, k0, k1, k2, k3, k4, k5, k6, k7, k8, k9, num, txt, prt, ok)) (fun z => z = (.bool (vO k0 m s l ks b num txt prt ok), [])) := by
   have last := last num txt prt ok
   unfold pD sf
   dsimp only
   simp only [vO]
   cases hA : (k0 == 13) <;> cases hB : decide ((0 : Int) < (ks.length : Int)) <;> cases hC : (k0 == 14) <;> cases hD : (b == 0) <;>
    simp only [Bool.not_true, Bool.not_false, cond_true, cond_false, Bool.true_and, Bool.false_and, Bool.and_true, Bool.and_false] <;> first | exact last | exact aG rfl
  refine axs key ?_
  rintro _ rfl
  exact ⟨_, _, rfl, rfl, hr⟩
 refine aD (anO ts t) ?_
 rintro _ ⟨-, rfl⟩
 refine aF (fun h => aG ⟨_, _, rfl, rfl, ?_⟩) (fun h => ?_)
 ·have h : isT ts t = false := by simpa using h
  simp only [rT, aZ, h, Bool.false_and]
 have h : isT ts t = true := by simpa using h
 have hr : 0 ≤ t ∧ t < ts.length := by simpa [isT] using h
 have hl : t.toNat < ts.length := by omega
 have hK := (hts.2 ts[t.toNat] (List.getElem_mem hl)).kind
 have hg : ts.getD t.toNat (aC .atype) = ts[t.toNat] := axG (List.getElem?_eq_getElem hl)
 refine vck ?_
 have hfit : aZ ts t (.mk m s l ks b) = aZ ts t (.mk m s l ks b) := rfl
 conv at hfit => rhs; rw [aZ, h, Bool.true_and]
 rw [hg] at hfit ⊢
 generalize ts[t.toNat] = k at hfit hK
 obtain ⟨k0, k1, k2, k3, k4, k5, k6, k7, k8, k9⟩ := k
 dsimp only at hK hfit ⊢
 have hcases : k0 = 1 ∨ k0 = 2 ∨ k0 = 3 ∨ k0 = 4 ∨ k0 = 5 ∨ k0 = 6 ∨ k0 = 7 ∨ k0 = 8 ∨ k0 = 9 ∨ k0 = 10 ∨ k0 = 11 ∨ k0 = 12 ∨ k0 = 13 ∨ k0 = 14 := by omega
 have hin := awS ts n hF k0 k1 k2 k3 k4 k5 k6 k7 k8 k9 m s l ks b (by omega)
 rcases hcases with rfl | rfl | rfl | rfl | rfl | rfl | rfl | rfl | rfl | rfl | rfl | rfl | rfl | rfl
 all_goals simp only [Int.reduceBEq, Bool.or_true, Bool.true_or, Bool.or_false, Bool.false_or, cond_true, cond_false] at hfit ⊢
 ·exact zero _ _ _ _ _ _ _ _ _ _ _ _ _ _ (by rw [hfit, awT])
 ·exact zero _ _ _ _ _ _ _ _ _ _ _ _ _ _ (by rw [hfit, vP _ _ _ _ _ _ _ (by decide) (by decide)]; rfl)
 ·have e := ayn m hm
  refine aF (fun hx => zero _ _ _ _ _ _ _ _ _ _ _ _ _ _ ?_) (fun hx => zero _ _ _ _ _ _ _ _ _ _ _ _ _ _ ?_)
  ·rw [hfit, vP _ _ _ _ _ _ _ (by decide) (by decide)]
   simp only [ru, Int.reduceBEq, cond_true, cond_false, e, hx, Bool.true_and]
  ·rw [hfit, vP _ _ _ _ _ _ _ (by decide) (by decide)]
   simp only [ru, Int.reduceBEq, cond_true, cond_false, e, hx, Bool.false_and]
 ·exact zero _ _ _ _ _ _ _ _ _ _ _ _ _ _ (by rw [hfit, vP _ _ _ _ _ _ _ (by decide) (by decide)]; rfl)
 ·exact zero _ _ _ _ _ _ _ _ _ _ _ _ _ _ (by rw [hfit, vP _ _ _ _ _ _ _ (by decide) (by decide)]; simp only [ru, Int.reduceBEq, cond_true, cond_false, awU m hm])
 ·exact zero _ _ _ _ _ _ _ _ _ _ _ _ _ _ (by rw [hfit, vP _ _ _ _ _ _ _ (by decide) (by decide)]; rfl)
 ·exact zero _ _ _ _ _ _ _ _ _ _ _ _ _ _ (by rw [hfit, amj _ _ _ _ _ _ _ (by decide) (by decide)]; rfl)
 ·refine aD (aqT s) ?_
  rintro _ ⟨-, rfl⟩
  exact zero _ _ _ _ _ _ _ _ _ _ _ _ _ _ (by rw [hfit, amj _ _ _ _ _ _ _ (by decide) (by decide)]; rfl)
 ·refine aD hin ?_
  rintro _ ⟨-, rfl⟩
  exact zero _ _ _ _ _ _ _ _ _ _ _ _ _ _ (by rw [hfit, atU _ _ _ _ _ _ _ (by decide) (by decide)]; rfl)
 ·exact zero _ _ _ _ _ _ _ _ _ _ _ _ _ _ (by rw [hfit, vP _ _ _ _ _ _ _ (by decide) (by decide)]; rfl)
 ·exact zero _ _ _ _ _ _ _ _ _ _ _ _ _ _ (by rw [hfit, amj _ _ _ _ _ _ _ (by decide) (by decide)]; rfl)
 ·refine aD hin ?_
  rintro _ ⟨-, rfl⟩
  exact zero _ _ _ _ _ _ _ _ _ _ _ _ _ _ (by rw [hfit, atU _ _ _ _ _ _ _ (by decide) (by decide)]; rfl)
 ·refine aD hin ?_
  rintro _ ⟨-, rfl⟩
  exact zero _ _ _ _ _ _ _ _ _ _ _ _ _ _ (by rw [hfit, axH]; rfl)
 ·refine aD hin ?_
  rintro _ ⟨-, rfl⟩
  exact zero _ _ _ _ _ _ _ _ _ _ _ _ _ _ (by rw [hfit, axI]; rfl)
theorem atV (ts : List aA) (hts : dm ts) : ∀ n, afr ts n
 | 0 => fun _ _ _ _ _ _ h => by omega
 | n + 1 => awV ts hts n (atV ts hts n)
theorem awW (ts : List aA) (hts : dm ts) (t m : Int) (s : List UInt8) (l : List aB) (ks : List (List UInt8)) (b : Int) : ∃ r, eJ ts t m s l ks b r := atV ts hts (szL l + 1) t m s l ks b (Nat.le_refl _)
end Go.Proofs.Ytdpajabhmmmjoaa
end
noncomputable section
namespace Go.Proofs.Ytdpajabhmmmjoaa
open Go.AM
set_option autoImplicit false
set_option linter.unusedVariables false
def rk (r : List Int) (t : Int) : Int := r.getD t.toNat 0
structure xy (k : aA) (r : List Int) (m : Int) : Prop where
 pos : 1 ≤ m
 uni : k.kind = 14 → ∃ b ∈ k.branches, 0 ≤ rk r b ∧ rk r b < m
 rcd : k.kind ≠ 14 → ∀ f ∈ k.fields, 0 ≤ rk r f.typ ∧ rk r f.typ < m
 pre : 2 ≤ m → ∃ j : Nat, j < r.length ∧ r.getD j 0 + 1 = m
structure ij (ts : List aA) (r : List Int) (m : Int) : Prop where
 len : r.length = ts.length
 low : ∀ i, i < r.length → -1 ≤ r.getD i 0
 top : ∀ i, i < r.length → r.getD i 0 ≤ m
 ok : ∀ i, i < r.length → 1 ≤ r.getD i 0 → xy (ts.getD i (aC .atype)) r (r.getD i 0)
 nul : ∀ i, i < r.length → r.getD i 0 = 0 → (ts.getD i (aC .atype)).kind ≠ 9 ∧ (ts.getD i (aC .atype)).kind ≠ 14
def brT (k : aA) (j : Nat) : Int := k.branches.getD j 0
structure ack (k : aA) (r : List Int) (b : Int) : Prop where
 nn : 0 ≤ b
 lt : b < k.branches.length
 least : ∀ j, j < k.branches.length → 0 ≤ rk r (brT k j) → 0 ≤ rk r (brT k b.toNat) ∧ rk r (brT k b.toNat) ≤ rk r (brT k j)
 first : ∀ j, j < b.toNat → 0 ≤ rk r (brT k j) → rk r (brT k b.toNat) < rk r (brT k j)
def mj (w : List Int) : List aM → Int
 | [] => 0
 | f :: l => rk w f.typ + mj w l
structure kP (k : aA) (r w : List Int) (m : Int) : Prop where
 pos : 1 ≤ m
 top : m ≤ 1000000
 rcd : k.kind = 9 → 1 + mj w k.fields ≤ m ∨ m = 1000000
 uni : k.kind = 14 → ∀ b, ack k r b → 1 + rk w (brT k b.toNat) ≤ m ∨ m = 1000000
structure wC (ts : List aA) (r w : List Int) : Prop where
 len : w.length = ts.length
 ok : ∀ i, i < r.length → 0 ≤ r.getD i 0 → kP (ts.getD i (aC .atype)) r w (w.getD i 0)
def uo (ts : List aA) (t : Int) (r : List Int) (m : Int) : Prop := m = -1 ∨ xy (ts.getD t.toNat (aC .atype)) r m
def vQ (ts : List aA) (r : List Int) : Prop := ij ts r ts.length
def aa8 (k : aA) (r : List Int) (b : Int) : Prop := ack k r b
def ti (ts : List aA) (r w : List Int) : Prop := wC ts r w
end Go.Proofs.Ytdpajabhmmmjoaa
end
noncomputable section
namespace Go.Proofs.Ytdpajabhmmmjoaa
open Go.AM
set_option autoImplicit false
set_option linter.unusedVariables false
set_option linter.unusedSimpArgs false
theorem mS {α : Type} (l : List α) (i : Nat) (x d : α) (h : i < l.length) : (l.set i x).getD i d = x := by
 simp [List.getD_eq_getElem?_getD, List.getElem?_set, h]
theorem jo {α : Type} (l : List α) (i j : Nat) (x d : α) (h : i ≠ j) : (l.set i x).getD j d = l.getD j d := by
 simp [List.getD_eq_getElem?_getD, List.getElem?_set, h]
theorem ip {α : Type} (l : List α) (i : Nat) (d : α) (h : i < l.length) : l.getD i d ∈ l := by
 rw [List.getD_eq_getElem?_getD, List.getElem?_eq_getElem h]; exact List.getElem_mem h
theorem xy.mono {k : aA} {r r' : List Int} {m : Int} (h : xy k r m) (hl : r'.length = r.length) (hr : ∀ i, 0 ≤ r.getD i 0 → r'.getD i 0 = r.getD i 0) : xy k r' m where
 pos := h.pos
 uni h14 := by
  obtain ⟨b, hb, h0, h1⟩ := h.uni h14
  exact ⟨b, hb, by unfold rk at *; rw [hr _ h0]; exact h0, by unfold rk at *; rw [hr _ h0]; exact h1⟩
 rcd h14 f hf := by
  obtain ⟨h0, h1⟩ := h.rcd h14 f hf
  exact ⟨by unfold rk at *; rw [hr _ h0]; exact h0, by unfold rk at *; rw [hr _ h0]; exact h1⟩
 pre h2 := by
  obtain ⟨j, hj, e⟩ := h.pre h2
  exact ⟨j, by omega, by rw [hr _ (by omega)]; exact e⟩
theorem ij.step {ts : List aA} {r next : List Int} {m : Int} (h : ij ts r m) (hm : 0 ≤ m) (hl : next.length = ts.length) (h1 : ∀ j, j < ts.length → 0 ≤ r.getD j 0 → next.getD j 0 = r.getD j 0)
  (h2 : ∀ j, j < ts.length → r.getD j 0 < 0 → next.getD j 0 = -1 ∨ xy (ts.getD j (aC .atype)) r (next.getD j 0)) : ij ts next (m + 1) := by
 have hrl := h.len
 have hmono : ∀ i, 0 ≤ r.getD i 0 → next.getD i 0 = r.getD i 0 := fun i hi => by
  by_cases hil : i < ts.length
  ·exact h1 i hil hi
  ·simp [List.getD_eq_getElem?_getD, List.getElem?_eq_none (show next.length ≤ i by omega), List.getElem?_eq_none (show r.length ≤ i by omega)]
 refine ⟨hl, fun i hi => ?_, fun i hi => ?_, fun i hi h' => ?_, fun i hi h' => ?_⟩
 ·by_cases h0 : 0 ≤ r.getD i 0
  ·rw [hmono i h0]; omega
  ·rcases h2 i (by omega) (by omega) with e | e
   ·omega
   ·have := e.pos; omega
 ·by_cases h0 : 0 ≤ r.getD i 0
  ·rw [hmono i h0]; have := h.top i (by omega); omega
  ·rcases h2 i (by omega) (by omega) with e | e
   ·omega
   ·by_cases hp : 2 ≤ next.getD i 0
    ·obtain ⟨j, hj, ej⟩ := e.pre hp
     have := h.top j hj; omega
    ·omega
 ·by_cases h0 : 0 ≤ r.getD i 0
  ·rw [hmono i h0] at h' ⊢; exact (h.ok i (by omega) h').mono (by omega) hmono
  ·rcases h2 i (by omega) (by omega) with e | e
   ·omega
   ·exact e.mono (by omega) hmono
 ·by_cases h0 : 0 ≤ r.getD i 0
  ·rw [hmono i h0] at h'; exact h.nul i (by omega) h'
  ·rcases h2 i (by omega) (by omega) with e | e
   ·omega
   ·have := e.pos; omega
def xz (n : Int) : List Int → Nat
 | [] => 0
 | x :: l => (if 1 ≤ x ∧ x ≤ n then 1 else 0) + xz n l
theorem avt (n : Int) : ∀ l, xz n l ≤ l.length
 | [] => by simp [xz]
 | x :: l => by have := avt n l; simp only [xz, List.length_cons]; split <;> omega
theorem aqU (n : Int) : ∀ l, xz n l ≤ xz (n + 1) l
 | [] => by simp [xz]
 | x :: l => by have := aqU n l; simp only [xz]; split <;> split <;> omega
theorem ajI (n : Int) (hn : 0 ≤ n) : ∀ (l : List Int) (j : Nat), j < l.length → l.getD j 0 = n + 1 → xz n l + 1 ≤ xz (n + 1) l
 | [], j, h, _ => by simp at h
 | x :: l, 0, h, e => by
   have := aqU n l
   simp only [List.getD_cons_zero] at e
   simp only [xz]
   rw [if_neg (by omega), if_pos (by omega)]; omega
 | x :: l, j + 1, h, e => by
   have := ajI n hn l j (by simpa using h) (by simpa using e)
   simp only [xz]; split <;> split <;> omega
theorem ij.chain {ts : List aA} {r : List Int} {m : Int} (h : ij ts r m) : ∀ (n j : Nat), j < r.length → r.getD j 0 = (n : Int) + 1 → n + 1 ≤ xz ((n : Int) + 1) r
 | 0, j, hj, e => by have := ajI 0 (by omega) r j hj (by simpa using e); simpa using (by omega : 1 ≤ xz (0 + 1) r)
 | n + 1, j, hj, e => by
   obtain ⟨j', hj', e'⟩ := (h.ok j hj (by omega)).pre (by omega)
   have ih := ij.chain h n j' hj' (by omega)
   have := ajI ((n : Int) + 1) (by omega) r j hj (by omega)
   have ec : (((n + 1 : Nat) : Int) + 1) = (n : Int) + 1 + 1 := by omega
   rw [ec]; omega
theorem ij.fin {ts : List aA} {r : List Int} {m : Int} (h : ij ts r m) : ij ts r ts.length := by
 refine ⟨h.len, h.low, fun i hi => ?_, h.ok, h.nul⟩
 by_cases h1 : 1 ≤ r.getD i 0
 ·have := h.chain ((r.getD i 0).toNat - 1) i hi (by omega)
  have h2 := avt ((((r.getD i 0).toNat - 1 : Nat) : Int) + 1) r
  have := h.len
  omega
 ·omega
theorem zM {ts : List aA} {r : List Int} {m : Int} {k : aA} {q : Int} (h : xy k r q) (h14 : k.kind = 14) {b : Int} (hb : ack k r b) : 0 ≤ rk r (brT k b.toNat) ∧ rk r (brT k b.toNat) < q := by
 obtain ⟨x, hx, h0, h1⟩ := h.uni h14
 obtain ⟨j, hj, rfl⟩ := List.mem_iff_getElem.1 hx
 have e : brT k j = k.branches[j] := by simp [brT, List.getD_eq_getElem?_getD, List.getElem?_eq_getElem hj]
 have := hb.least j hj (by rw [e]; exact h0)
 rw [e] at this
 omega
theorem amk (w : List Int) (i : Nat) (x : Int) : ∀ l : List aM, (∀ f ∈ l, f.typ.toNat ≠ i) → mj (w.set i x) l = mj w l
 | [], _ => rfl
 | f :: l, h => by
   have := amk w i x l fun f hf => h f (by simp [hf])
   simp only [mj, this, rk]
   rw [jo _ _ _ _ _ (fun e => h f (by simp) e.symm)]
theorem kP.set {ts : List aA} {r w : List Int} {m : Int} (hR : ij ts r m) {i j : Nat} {x : Int} (hj : j < r.length) (hr : 0 ≤ r.getD j 0) (hle : r.getD j 0 ≤ r.getD i 0) (hne : i ≠ j)
  (h : kP (ts.getD j (aC .atype)) r w (w.getD j 0)) : kP (ts.getD j (aC .atype)) r (w.set i x) ((w.set i x).getD j 0) := by
 rw [jo _ _ _ _ _ hne]
 refine ⟨h.pos, h.top, fun h9 => ?_, fun h14 b hb => ?_⟩
 ·have hk : 1 ≤ r.getD j 0 := by
   by_cases h0 : r.getD j 0 = 0
   ·exact absurd h9 (hR.nul j hj h0).1
   ·omega
  rw [amk w i x _ fun f hf e => ?_]
  ·exact h.rcd h9
  ·have := (hR.ok j hj hk).rcd (by omega) f hf
   unfold rk at this
   rw [e] at this; omega
 ·have hk : 1 ≤ r.getD j 0 := by
   by_cases h0 : r.getD j 0 = 0
   ·exact absurd h14 (hR.nul j hj h0).2
   ·omega
  have hc := zM (ts := ts) (m := m) (hR.ok j hj hk) h14 hb
  have hu := h.uni h14 b hb
  unfold rk at hc hu ⊢
  rw [jo _ _ _ _ _ (fun e => by rw [← e] at hc; omega)]
  exact hu
theorem alp {w : List Int} : ∀ {l : List aM}, (∀ f ∈ l, 0 ≤ rk w f.typ) → 0 ≤ mj w l
 | [], _ => by simp [mj]
 | f :: l, h => by
   have h1 := h f (by simp)
   have := alp (w := w) (l := l) fun f hf => h f (by simp [hf])
   simp only [mj]; omega
theorem aml {w : List Int} : ∀ {l : List aM}, (∀ f ∈ l, 0 ≤ rk w f.typ) → ∀ f ∈ l, rk w f.typ ≤ mj w l
 | [], _ => fun f hf => by simp at hf
 | g :: l, h => fun f hf => by
   have h1 := h g (by simp)
   have h2 := alp (w := w) (l := l) fun f hf => h f (by simp [hf])
   simp only [mj]
   rcases List.mem_cons.1 hf with rfl | hf
   ·omega
   ·have := aml (w := w) (l := l) (fun f hf => h f (by simp [hf])) f hf; omega
theorem amm (w : List Int) : ∀ l m : List aM, mj w (l ++ m) = mj w l + mj w m
 | [], m => by simp [mj]
 | f :: l, m => by simp only [List.cons_append, mj, amm w l m]; omega
theorem adr {α : Type} (l : List α) (i : Nat) (d : α) (h : i < l.length) : l.take (i + 1) = l.take i ++ [l.getD i d] := by
 rw [List.take_add_one, List.getElem?_eq_getElem h, List.getD_eq_getElem?_getD, List.getElem?_eq_getElem h]; rfl
end Go.Proofs.Ytdpajabhmmmjoaa
end
noncomputable section
namespace Go.Proofs.Ytdpajabhmmmjoaa
open Go.AM
set_option autoImplicit false
set_option linter.unusedVariables false
set_option maxRecDepth 100000
abbrev afs : FuncId := 124
abbrev afu : FuncId := 123
abbrev ahv : FuncId := 83
abbrev ads : FuncId := 84
abbrev asa := List Int
noncomputable def mT (a : List aA) (r : asa) : Prop := aI Try.prog ahv [.agg [.sl .atype (.may false) a]] (.sl (.num .i64) (.may false) r) ∧ vQ a r
noncomputable def asb : cb Try.prog := ⟨83, fun us => match us with
 | [.agg [.sl .atype (.may _) a]] => let r := pick (mT a); some (can (mT a), .sl (.num .i64) (.may false) r)
 | _ => none, by
 intro _ _ h; split at h; exact bo h (fun h => h.1.dim rfl) rfl rfl; cases h⟩
abbrev an5 := List Int
noncomputable def hM (a : List aA) (b : List Int) (r : an5) : Prop := aI Try.prog ads [.agg [.sl .atype (.may false) a], .sl (.num .i64) (.may false) b] (.sl (.num .i64) (.may false) r) ∧ ti a b r
noncomputable def an6 : cb Try.prog := ⟨84, fun us => match us with
 | [.agg [.sl .atype (.may _) a], .sl (.num .i64) (.may _) b] => let r := pick (hM a b); some (can (hM a b), .sl (.num .i64) (.may false) r)
 | _ => none, by
 intro _ _ h; split at h; exact bo h (fun h => h.1.dim rfl) rfl rfl; cases h⟩
abbrev ap5 := Int
noncomputable def pG (a : List aA) (b : Int) (c : List Int) (r : ap5) : Prop := aI Try.prog afu [.agg [.sl .atype (.may false) a], .int .i64 b, .sl (.num .i64) (.may false) c] (.int .i64 r) ∧ uo a b c r
noncomputable def ap6 : cb Try.prog := ⟨123, fun us => match us with
 | [.agg [.sl .atype (.may _) a], .int .i64 b, .sl (.num .i64) (.may _) c] => let r := pick (pG a b c); some (can (pG a b c), .int .i64 r)
 | _ => none, by
 intro _ _ h; split at h; exact bo h (fun h => h.1.dim rfl) rfl rfl; cases h⟩
abbrev ap7 := Int
noncomputable def lV (a : aA) (b : List Int) (r : ap7) : Prop := aI Try.prog afs [.agg (enc .atype a), .sl (.num .i64) (.may false) b] (.int .i64 r) ∧ aa8 a b r
noncomputable def afv : cb Try.prog := ⟨124, fun us => match us with
 | [.agg [.int .i64 a, .str b, .sl .str (.may _) c, .int .i64 d, .sl .str (.may _) e, .bool f, .str g, .int .i64 i, .sl .afield (.may _) j, .sl (.num .i64) (.may _) k], .sl (.num .i64) (.may _) l] => let r := pick (lV (⟨a, b, c, d, e, f, g, i, j, k⟩) l); some (can (lV (⟨a, b, c, d, e, f, g, i, j, k⟩) l), .int .i64 r)
 | _ => none, by
 intro _ _ h; split at h; exact bo h (fun h => h.1.dim rfl) rfl rfl; cases h⟩
end Go.Proofs.Ytdpajabhmmmjoaa
end
noncomputable section
namespace Go.Proofs.Ytdpajabhmmmjoaa
open Go.AM
set_option autoImplicit false
set_option linter.unusedVariables false
set_option maxRecDepth 100000
noncomputable def jp : aN := tab (P := Try.prog) [] [] [] []
def aa9 : IR := Sq (Rs [Mv 22 9, Fa 23 9 7, Lq 24 23, Ll 25 24, Bi 26 .lss 22 25] (Cn 26 .skip (.exit 0))) (Sq (.block 1 (Rs [Mv 29 2, Fa 30 9 7, Lq 31 30, Mv 32 9, Ix 33 (.num .i64) 31 32, Lq 34 33, Ix 35 (.num .i64) 29 34, Lq 36 35, Mv 10 36] (Rs [Mv 37 10, Bc 38 .geq 37 0, Mv 39 38, Gt 39 (.mov 40 8), Gt 39 (.bin 41 .lss 40 (kI 0)), Gt 39 (.mov 42 41), Gf 42 (.mov 43 10), Gf 42 (.mov 44 8), Gf 42 (.bin 45 .lss 43 44), Gt 39 (.pick 46 42 (kB true) 45), Pa 47 39 46] (Cn 47 (Rg [Mv 48 10, Mv 8 48]) .skip)))) (Rg [Mv 27 9, Bc 28 .add 27 1, Mv 9 28]))
def zN : IR := Sq (Rs [Mv 49 8, Bc 50 .lss 49 0] (Cn 50 (Rs [Mi 6 (-1)] .ret) .skip)) (Rs [Mv 51 8, Bc 52 .add 51 1, Mv 6 52] .ret)
def zO : IR := Sq (Rs [Mv 53 12, Fa 54 8 7, Lq 55 54, Ll 56 55, Bi 57 .lss 53 56] (Cn 57 .skip (.exit 2))) (Sq (.block 3 (Rs [Mv 60 2, Fa 61 8 7, Lq 62 61, Mv 63 12, Ix 64 .afield 62 63, Fa 65 2 64, Lo 66 65, Ix 67 (.num .i64) 60 66, Lq 68 67, Mv 13 68] (Sq (Rs [Mv 69 13, Bc 70 .lss 69 0] (Cn 70 (Rs [Mi 6 (-1)] .ret) .skip)) (Rg [Mv 71 11, Mv 72 13, Pp (.mx 73 false 71 72), Mv 11 73])))) (Rg [Mv 58 12, Bc 59 .add 58 1, Mv 12 59]))
def zP : IR := Rs [Mv 74 11, Bc 75 .add 74 1, Mv 6 75] .ret
def zQ : IR := Rs [Mi 11 0] (Sq (Rs [Mi 12 0] (.block 2 (.loop [2, 7, 11, 12, 1000001] 0 zO))) zP)
def xA : IR := Rs [Bx 3 0, Mi 6 0] (Rs [Fa 14 0 3, Lq 15 14, Mv 16 1, Ix 17 .atype 15 16, Ld 18 10 true 17, Pp (.alr 7 10), Fz 7 10 18] (Sq (Rs [Fa 19 0 7, Lq 20 19, Bc 21 .eql 20 14] (Cn 21 (Rs [Mi 8 (-1)] (Sq (Rs [Mi 9 0] (.block 0 (.loop [2, 7, 8, 9, 1000000] 0 aa9))) zN)) .skip)) zQ))
def np : List RV := [.t 6]
theorem an7 : FnC Try.prog jp [] 0 afu Try.f123 xA np := fnC (by kernel_rfl) Try.func123 (by kernel_rfl) (by kernel_rfl) (by decide)
def amn (R : IR → (Ex → St → Ro) → St → Ro) (a : St → Ro) : Ex → St → Ro := (bz a [2, 7, 8, 9, 1000000] 0 (aR 0 (bp (R zN) (bp (R zQ) (fin np)))))
abbrev ml : Type := (List Int × aA × Int × Int)
def kZ : ml → St := fun (a, b, c, d) => { env := (.undef :: .undef :: .sl (.num .i64) (.may false) a :: (U 4 (.ea (enc .atype b) :: .int .i64 c :: .int .i64 d :: (U 66 [])))), hp := [] }
def vR (N : Nat) : (St → Ro) → St → Ro := fun a s => run jp N aa9 (amn (run jp N) a) s
def qr (N : Nat) (a : ml → Ro) : ml → Ro := fun (d, c, e, b) =>
 let h : Int := (↑(List.length c.branches) : Int)
 cond (decide (b < h)) (
 chk (decide (0 ≤ b) && decide (b < ↑(List.length c.branches))) (
 let g : Int := List.getD c.branches (Int.toNat b) (aC (.num .i64))
 chk (decide (0 ≤ g) && decide (g < ↑(List.length d))) (
 let f : Int := List.getD d (Int.toNat g) (aC (.num .i64))
 cond (decide (0 ≤ f)) (
 cond (decide (e < 0)) (
 let i : Int := (IntKind.wrap .i64 (b + 1))
 a (d, c, f, i)) (
 cond (decide (f < e)) (
 let j : Int := (IntKind.wrap .i64 (b + 1))
 a (d, c, f, j)) (
 let k : Int := (IntKind.wrap .i64 (b + 1))
 a (d, c, e, k)))) (
 let l : Int := (IntKind.wrap .i64 (b + 1))
 a (d, c, e, l))))) (
 cond (decide (e < 0)) (
 some (.int .i64 (-1), [])) (
 let m : Int := (IntKind.wrap .i64 (e + 1))
 some (.int .i64 m, [])))
theorem akz (N : Nat) : ∀ (a : St → Ro) (x : ml), vR N a (kZ x) = qr N (fun y => a (kZ y)) x := by
 intro a x
 kernel_rfl
def amo (R : IR → (Ex → St → Ro) → St → Ro) (a : St → Ro) : Ex → St → Ro := (bz a [2, 7, 11, 12, 1000001] 0 (aR 2 (bp (R zP) (fin np))))
abbrev mo : Type := (List Int × aA × Int × Int)
def la : mo → St := fun (a, b, c, d) => { env := (.undef :: .undef :: .sl (.num .i64) (.may false) a :: (U 4 (.ea (enc .atype b) :: (U 3 (.int .i64 c :: .int .i64 d :: (U 63 [])))))), hp := [] }
def vT (N : Nat) : (St → Ro) → St → Ro := fun a s => run jp N zO (amo (run jp N) a) s
def qt (N : Nat) (b : mo → Ro) : mo → Ro := fun (g, f, c, a) =>
 let h : Int := (↑(List.length f.fields) : Int)
 cond (decide (a < h)) (
 chk (decide (0 ≤ a) && decide (a < ↑(List.length f.fields))) (
 let d : aM := (List.getD f.fields (Int.toNat a) (aC .afield))
 chk (decide (0 ≤ d.typ) && decide (d.typ < ↑(List.length g))) (
 let e : Int := List.getD g (Int.toNat d.typ) (aC (.num .i64))
 cond (decide (e < 0)) (
 some (.int .i64 (-1), [])) (
 let i : Int := (if c < e then e else c)
 let j : Int := (IntKind.wrap .i64 (a + 1))
 b (g, f, i, j))))) (
 let k : Int := (IntKind.wrap .i64 (c + 1))
 some (.int .i64 k, []))
theorem akA (N : Nat) : ∀ (a : St → Ro) (x : mo), vT N a (la x) = qt N (fun y => a (la y)) x := by
 intro a x
 kernel_rfl
def nq (N : Nat) (a : List aA) (b : Int) (d : List Int) (e : ml → Ro) (f : mo → Ro) : Ro :=
 chk (decide (0 ≤ b) && decide (b < ↑(List.length a))) (
 let c : aA := (List.getD a (Int.toNat b) (aC .atype))
 cond (c.kind == 14) (
 e (d, c, (-1), 0)) (
 f (d, c, 0, 0)))
def xB (N : Nat) (a : List aA) (b : Int) (c : List Int) : Ro := nq N a b c (fun z => aQ N (qr N) z) (fun z => aQ N (qt N) z)
def ap8 (N : Nat) : List (Nat × (St → Ro)) := ba jp N xA (fin np) ++ []
theorem amp (N : Nat) (a : List aA) (c : Int) (d : List Int) : aW jp N 76 np xA [.agg [.sl .atype (.may false) a], .int .i64 c, .sl (.num .i64) (.may false) d] [] = xB N a c d :=
 (bL (ap8 N) (by kernel_rfl) rfl (fun C => nq N a c d (fun z => C 1000000 (kZ z)) (fun z => C 1000001 (la z))) (fun C => by kernel_rfl)).trans (Eq.trans (b := nq N a c d (fun z => bg N (vR N) (kZ z)) (fun z => bg N (vT N) (la z))) (by kernel_rfl) (congr (congrArg (nq N a c d) (funext fun z => bc (kZ) (vR N) (qr N) (akz N) N z)) (funext fun z => bc (la) (vT N) (qt N) (akA N) N z)))
theorem amq (N : Nat) (a : List aA) (b : Int) (c : List Int) (h : Tot (xB N a b c) (fun z => ∃ (d : Int) (rest : List aK), z.1.dimR = .int .i64 d ∧ z.2 = rest ∧ uo a b c (d))) : ∃ r, pG a b c r := by
 obtain ⟨⟨v, hp⟩, hz, d, rest, e1, e2, hq⟩ := h
 simp only at e1 e2
 subst e2
 exact ⟨(d), aI.dimR (an7.pure (amp N a b c) hz) e1, hq⟩
noncomputable def pH : aN := tab (P := Try.prog) [] [] [] []
def aba : IR := Sq (Rs [Mv 7 6, Fa 8 9 2, Lq 9 8, Ll 10 9, Bi 11 .lss 7 10] (Cn 11 .skip (.exit 0))) (Sq (.block 1 (Sq (.reg [Mv 14 1, Fa 15 9 2, Lq 16 15, Mv 17 6, Ix 18 (.num .i64) 16 17, Lq 19 18, Ix 20 (.num .i64) 14 19, Lq 21 20, Bc 22 .geq 21 0, Mv 23 22, Gt 23 (.mov 24 1), Gt 23 (.fad 25 9 2), Gt 23 (.lde 26 1 false 25), Gt 23 (.mov 27 5), Gt 23 (.ixa 28 (.num .i64) 26 27), Gt 23 (.lde 29 1 false 28), Gt 23 (.ixa 30 (.num .i64) 24 29), Gt 23 (.lde 31 1 false 30), Gt 23 (.bin 32 .lss 31 (kI 0)), Gt 23 (.mov 33 32), Gf 33 (.mov 34 1), Gf 33 (.fad 35 9 2), Gf 33 (.lde 36 1 false 35), Gf 33 (.mov 37 6), Gf 33 (.ixa 38 (.num .i64) 36 37), Gf 33 (.lde 39 1 false 38), Gf 33 (.ixa 40 (.num .i64) 34 39), Gf 33 (.lde 41 1 false 40), Gf 33 (.mov 42 1), Gf 33 (.fad 43 9 2), Gf 33 (.lde 44 1 false 43), Gf 33 (.mov 45 5), Gf 33 (.ixa 46 (.num .i64) 44 45), Gf 33 (.lde 47 1 false 46), Gf 33 (.ixa 48 (.num .i64) 42 47), Gf 33 (.lde 49 1 false 48), Gf 33 (.bin 50 .lss 41 49), Gt 23 (.pick 51 33 (kB true) 50), Pa 52 23 51] [[], [], [1], [], [1, 2, 3], rg 1 4, rg 0 5, rg 0 6, rg 0 7, rg 0 8, rg 0 9, rg 0 9, rg 0 9 ++ [11], rg 0 9, rg 0 9 ++ [11, 12, 13], rg 0 9 ++ rg 11 14, rg 0 15, rg 0 16, rg 0 17, rg 0 18, rg 0 19, rg 0 19, rg 0 19 ++ [21], rg 0 19, rg 0 19 ++ [21, 22, 23], rg 0 19 ++ rg 21 24, rg 0 25, rg 0 26, rg 0 19, rg 0 19, rg 0 19 ++ [29], rg 0 19, rg 0 19 ++ [29, 30, 31], rg 0 19 ++ rg 29 32, rg 0 19 ++ rg 28 33, rg 0 19 ++ rg 28 34, rg 0 35, rg 0 36, rg 0 37]) (Cn 52 (Rg [Mv 53 6, Mv 5 53]) .skip))) (Rg [Mv 12 6, Bc 13 .add 12 1, Mv 6 13]))
def abb : IR := Rs [Mv 54 5, Mv 4 54] .ret
def xC : IR := Rs [Bx 2 0, Mi 4 0] (Rs [Mi 5 0] (Sq (Rs [Mi 6 0] (.block 0 (.loop [1, 2, 5, 6, 1000000] 0 aba))) abb))
def sj : List RV := [.t 4]
theorem an8 : FnC Try.prog pH [] 0 afs Try.f124 xC sj := fnC (by kernel_rfl) Try.func124 (by kernel_rfl) (by kernel_rfl) (by decide)
def amr (R : IR → (Ex → St → Ro) → St → Ro) (a : St → Ro) : Ex → St → Ro := (bz a [1, 2, 5, 6, 1000000] 0 (aR 0 (bp (R abb) (fin sj))))
abbrev mp : Type := (List Int × aA × Int × Int)
def lb : mp → St := fun (a, b, c, d) => { env := (.undef :: .sl (.num .i64) (.may false) a :: .ea (enc .atype b) :: .undef :: .undef :: .int .i64 c :: .int .i64 d :: (U 48 [])), hp := [] }
def vV (N : Nat) : (St → Ro) → St → Ro := fun a s => run pH N aba (amr (run pH N) a) s
def qu (N : Nat) (a : mp → Ro) : mp → Ro := fun (d, b, e, c) =>
 let n : Int := (↑(List.length b.branches) : Int)
 cond (decide (c < n)) (
 chk (decide (0 ≤ c) && decide (c < ↑(List.length b.branches))) (
 let f : Int := List.getD b.branches (Int.toNat c) (aC (.num .i64))
 chk (decide (0 ≤ f) && decide (f < ↑(List.length d))) (
 let o : Int := List.getD d (Int.toNat f) (aC (.num .i64))
 cond (decide (0 ≤ o)) (
 chk (decide (0 ≤ e) && decide (e < ↑(List.length b.branches))) (
 let g : Int := List.getD b.branches (Int.toNat e) (aC (.num .i64))
 chk (decide (0 ≤ g) && decide (g < ↑(List.length d))) (
 let p : Int := List.getD d (Int.toNat g) (aC (.num .i64))
 cond (decide (p < 0)) (
 let q : Int := (IntKind.wrap .i64 (c + 1))
 a (d, b, c, q)) (
 chk (decide (0 ≤ c) && decide (c < ↑(List.length b.branches))) (
 let h : Int := List.getD b.branches (Int.toNat c) (aC (.num .i64))
 chk (decide (0 ≤ h) && decide (h < ↑(List.length d))) (
 let r : Int := List.getD d (Int.toNat h) (aC (.num .i64))
 chk (decide (0 ≤ e) && decide (e < ↑(List.length b.branches))) (
 let i : Int := List.getD b.branches (Int.toNat e) (aC (.num .i64))
 chk (decide (0 ≤ i) && decide (i < ↑(List.length d))) (
 let j : Int := List.getD d (Int.toNat i) (aC (.num .i64))
 cond (decide (r < j)) (
 let k : Int := (IntKind.wrap .i64 (c + 1))
 a (d, b, c, k)) (
 let l : Int := (IntKind.wrap .i64 (c + 1))
 a (d, b, e, l)))))))))) (
 let m : Int := (IntKind.wrap .i64 (c + 1))
 a (d, b, e, m))))) (
 some (.int .i64 e, []))
theorem akB (N : Nat) : ∀ (a : St → Ro) (x : mp), vV N a (lb x) = qu N (fun y => a (lb y)) x := by
 intro a x
 kernel_rfl
def nr (N : Nat) (a : aA) (b : List Int) (c : mp → Ro) : Ro :=
 c (b, a, 0, 0)
def xD (N : Nat) (a : aA) (b : List Int) : Ro := nr N a b (fun z => aQ N (qu N) z)
def ap9 (N : Nat) : List (Nat × (St → Ro)) := ba pH N xC (fin sj) ++ []
theorem ams (N : Nat) (a : aA) (c : List Int) : aW pH N 55 sj xC [.agg (enc .atype a), .sl (.num .i64) (.may false) c] [] = xD N a c :=
 (bL (ap9 N) (by kernel_rfl) rfl (fun C => nr N a c (fun z => C 1000000 (lb z))) (fun C => by kernel_rfl)).trans (Eq.trans (b := nr N a c (fun z => bg N (vV N) (lb z))) (by kernel_rfl) (congrArg (nr N a c) (funext fun z => bc (lb) (vV N) (qu N) (akB N) N z)))
theorem amt (N : Nat) (a : aA) (b : List Int) (h : Tot (xD N a b) (fun z => ∃ (c : Int) (rest : List aK), z.1.dimR = .int .i64 c ∧ z.2 = rest ∧ aa8 a b (c))) : ∃ r, lV a b r := by
 obtain ⟨⟨v, hp⟩, hz, c, rest, e1, e2, hq⟩ := h
 simp only at e1 e2
 subst e2
 exact ⟨(c), aI.dimR (an8.pure (ams N a b) hz) e1, hq⟩
noncomputable def bV : aN := tab (P := Try.prog) [] [] [123] [ap6]
def qv : IR := Sq (Rs [Mv 12 4, Mv 13 3, Pp (.lnw 14 13), Bi 15 .lss 12 14] (Cn 15 .skip (.exit 0))) (Sq (.block 1 (Sq (.gh (.opn (.slot 3)) (.ghp (.cls (.slot 3)) (Rg [Mv 18 3, Mv 19 4, Pp (.ixw 20 (.num .i64) 18 19), Pp (.stw none 1 20 (kI (-1)))]))) (Rs [Fa 21 0 1, Lq 22 21, Mv 23 4, Ix 24 .atype 22 23, Fa 25 0 24, Lo 26 25, Bc 27 .neq 26 9, Mv 28 27, Gt 28 (.fad 29 0 1), Gt 28 (.lde 30 1 false 29), Gt 28 (.mov 31 4), Gt 28 (.ixa 32 .atype 30 31), Gt 28 (.fad 33 0 32), Gt 28 (.ld 34 1 false false 33), Gt 28 (.bin 35 .neq 34 (kI 14)), Pa 36 28 35] (Cn 36 (.gh (.opn (.slot 3)) (.ghp (.cls (.slot 3)) (Rg [Mv 37 3, Mv 38 4, Pp (.ixw 39 (.num .i64) 37 38), Pp (.stw none 1 39 (kI 0))]))) .skip)))) (Rg [Mv 16 4, Bc 17 .add 16 1, Mv 4 17]))
def abc : IR := Sq (Rs [Mv 49 7, Mv 50 3, Pp (.lnw 51 50), Bi 52 .lss 49 51] (Cn 52 .skip (.exit 4))) (Sq (.block 5 (Sq (Sq (.gh (.opn (.slot 3)) (.ghp (.cls (.slot 3)) (Rg [Mv 55 3, Mv 56 7, Pp (.ixw 57 (.num .i64) 55 56), Pp (.ldw 58 1 false 57), Bc 59 .geq 58 0]))) (Cn 59 (.exit 5) .skip)) (.gh (.opn (.slot 3)) (.gh (.opn (.slot 6)) (.ghp (.cls (.slot 3)) (.ghp (.cls (.slot 6)) (Rg [Mv 60 6, Mv 61 7, Ld 62 1 true 1, Mv 63 7, Mv 64 3, Ca 65 123 [62, 63, 64], Pp (.ixw 66 (.num .i64) 60 61), Pp (.stw none 1 66 65)]))))))) (Rg [Mv 53 7, Bc 54 .add 53 1, Mv 7 54]))
def abd : IR := Rg [Pp (.mov 67 (.tk 6)), Pp (.mov 3 (.tk 67))]
def abe : IR := Rg [Mv 44 5, Bc 45 .add 44 1, Mv 5 45]
def ou : IR := Sq (Rs [Mv 40 5, Mv 41 3, Pp (.lnw 42 41), Bi 43 .leq 40 42] (Cn 43 .skip (.exit 2))) (Sq (.block 3 (Sq (.gh (.opn (.slot 3)) (.ghp (.cls (.slot 3)) (Rg [Pp (.blu 46 (.num .i64)), Mv 47 3, Pp (.apw 48 (.num .i64) (.tk 46) 47), Pp (.mov 6 (.tk 48))]))) (Sq (Rs [Mi 7 0] (.block 4 (.loop [1, 3, 5, 6, 7, 1000001] 0 abc))) abd))) abe)
def uq : IR := Rs [Pp (.mov 68 (.tk 3)), Pp (.mov 2 (.tk 68))] (.gh (.fz (.slot 2)) .ret)
def ur : IR := Sq (Rs [Mi 5 0] (.block 2 (.loop [1, 3, 5, 1000002] 0 ou))) uq
def yP : IR := Rs [Bx 1 0, Pp (.mov 2 (.c (.ul (.num .i64) ([] : List Int))))] (Rs [Fa 8 0 1, Lq 9 8, Ll 10 9, Pp (.mku 11 (.num .i64) 10), Pp (.mov 3 (.tk 11))] (Sq (Rs [Mi 4 0] (.block 0 (.loop [1, 3, 4, 1000000] 0 qv))) ur))
def jq : List RV := [.t 2]
theorem aqa : FnC Try.prog bV [123, 2000123] 0 ahv Try.f83 yP jq := fnC (by kernel_rfl) Try.func83 (by kernel_rfl) (by kernel_rfl) (by decide)
def xE (R : IR → (Ex → St → Ro) → St → Ro) (a : St → Ro) : Ex → St → Ro := (bz a [1, 3, 4, 1000000] 0 (aR 0 (bp (R ur) (fin jq))))
abbrev hU : Type := (List aA × List Int × Int)
def dO : hU → St := fun (a, b, c) => { env := (.undef :: .ea [.sl .atype (.may false) a] :: .undef :: .ul (.num .i64) b :: .int .i64 c :: (U 64 [])), hp := [] }
def sk (R : IR → (Ex → St → Ro) → St → Ro) (a : St → Ro) : Ex → St → Ro := (bz a [1, 3, 5, 1000002] 0 (aR 2 (bp (R uq) (fin jq))))
abbrev fk : Type := (List aA × List Int × Int)
def cj : fk → St := fun (a, b, c) => { env := (.undef :: .ea [.sl .atype (.may false) a] :: .undef :: .ul (.num .i64) b :: .undef :: .int .i64 c :: (U 63 [])), hp := [] }
def an9 (R : IR → (Ex → St → Ro) → St → Ro) (a b : St → Ro) : Ex → St → Ro := (bz b [1, 3, 5, 6, 7, 1000001] 0 (aR 4 (bp (R abd) (aR 3 (bp (R abe) (sk R a))))))
abbrev nt : Type := (List aA × List Int × Int × List Int × Int)
def jr : nt → St := fun (a, b, c, d, e) => { env := (.undef :: .ea [.sl .atype (.may false) a] :: .undef :: .ul (.num .i64) b :: .undef :: .int .i64 c :: .ul (.num .i64) d :: .int .i64 e :: (U 61 [])), hp := [] }
def sm (N : Nat) (a : St → Ro) : (St → Ro) → St → Ro := fun b s => run bV N abc (an9 (run bV N) a b) s
def nu (N : Nat) (e : fk → Ro) (b : nt → Ro) : nt → Ro := fun (c, a, h, f, d) =>
 let i : Int := (↑(List.length a) : Int)
 cond (decide (d < i)) (
 chk (decide (0 < List.length a)) (
 chk (decide (0 ≤ d) && decide (d < ↑(List.length a))) (
 chk (decide ((Int.toNat d) < List.length a)) (
 let j : Int := List.getD a (Int.toNat d) (aC (.num .i64))
 chk (Nat.beq (List.length a) (List.length a)) (
 cond (decide (0 ≤ j)) (
 let k : Int := (IntKind.wrap .i64 (d + 1))
 b (c, a, h, f, k)) (
 chk (decide (0 < List.length a)) (
 chk (decide (0 < List.length f)) (
 asz (pG c d a) (Nat.beq (List.length a) (List.length a) && true) (fun (n : Int) =>
 chk (decide (0 ≤ d) && decide (d < ↑(List.length f))) (
 chk (decide ((Int.toNat d) < List.length f)) (
 let g : List Int := (List.set f (Int.toNat d) n)
 chk (Nat.beq (List.length f) (List.length g)) (
 chk (Nat.beq (List.length a) (List.length a)) (
 let l : Int := (IntKind.wrap .i64 (d + 1))
 b (c, a, h, g, l)))))))))))))) (
 let m : Int := (IntKind.wrap .i64 (h + 1))
 e (c, f, m))
theorem amu (N : Nat) (b : St → Ro) : ∀ (a : St → Ro) (x : nt), sm N b a (jr x) = nu N (fun y => b (cj y)) (fun y => a (jr y)) x := by
 intro a x
 kernel_rfl
def nv (N : Nat) : (St → Ro) → St → Ro := fun a s => run bV N ou (sk (run bV N) a) s
def qw (N : Nat) (c : fk → Ro) (f : nt → Ro) : fk → Ro := fun (b, a, e) =>
 let d : Int := (↑(List.length a) : Int)
 cond (decide (e ≤ d)) (
 chk (decide (0 < List.length a)) (
 chk (Nat.beq (List.length a) (List.length a) && decide ((List.length ([] : List Int) + List.length a) * 8 ≤ 140737488355328)) (
 chk (Nat.beq (List.length a) (List.length a)) (
 f (b, a, e, (([] : List Int) ++ a), 0))))) (
 some (.sl (.num .i64) .own a, []))
def kF (N : Nat) (a : fk → Ro) (x : fk) : Ro := qw N a (fun z => aQ N (nu N a) z) x
def xF (N : Nat) (a : St → Ro) : List (Nat × (St → Ro)) := (ba bV N ou (sk (run bV N) a) ++ (ba bV N uq (fin jq) ++ []))
theorem amv (N : Nat) : ∀ (a : St → Ro) (x : fk), nv N a (cj x) = kF N (fun y => a (cj y)) x := by
 intro a x
 have hX : ∀ C : Nat → St → Ro, bQ C bV N ou (sk (bQ C bV N) a) (cj x) = qw N (fun y => a (cj y)) (fun z => C 1000001 (jr z)) x := by
  intro C
  kernel_rfl
 have h : nv N a (cj x) = qw N (fun y => a (cj y)) (fun z => bg N (sm N a) (jr z)) x := (ch (C := dA (xF N a)) (bO (aX (l := (xF N a)) (by kernel_rfl))) (oL (cp (eq (bO (da (aX (l := (xF N a)) (by kernel_rfl)))) rfl))) _).trans ((hX _).trans (by kernel_rfl))
 have e2 : (fun z => bg N (sm N a) (jr z)) = (fun z => aQ N (nu N (fun y => a (cj y))) z) := funext fun z => bc (jr) (sm N a) (nu N (fun y => a (cj y))) (amu N a) N z
 rw [h, e2]
 rfl
def sn (N : Nat) : (St → Ro) → St → Ro := fun a s => run bV N qv (xE (run bV N) a) s
def qz (N : Nat) (b : hU → Ro) (h : fk → Ro) : hU → Ro := fun (a, e, c) =>
 let i : Int := (↑(List.length e) : Int)
 cond (decide (c < i)) (
 chk (decide (0 < List.length e)) (
 chk (decide (0 ≤ c) && decide (c < ↑(List.length e))) (
 chk (decide ((Int.toNat c) < List.length e)) (
 let d : List Int := (List.set e (Int.toNat c) (-1))
 chk (Nat.beq (List.length e) (List.length d)) (
 chk (decide (0 ≤ c) && decide (c < ↑(List.length a))) (
 let j : aA := (List.getD a (Int.toNat c) (aC .atype))
 cond (!(j.kind == 9)) (
 chk (decide (0 ≤ c) && decide (c < ↑(List.length a))) (
 let k : aA := (List.getD a (Int.toNat c) (aC .atype))
 cond (!(k.kind == 14)) (
 chk (decide (0 < List.length d)) (
 chk (decide (0 ≤ c) && decide (c < ↑(List.length d))) (
 chk (decide ((Int.toNat c) < List.length d)) (
 let g : List Int := (List.set d (Int.toNat c) 0)
 chk (Nat.beq (List.length d) (List.length g)) (
 let l : Int := (IntKind.wrap .i64 (c + 1))
 b (a, g, l)))))) (
 let m : Int := (IntKind.wrap .i64 (c + 1))
 b (a, d, m)))) (
 let f : Int := (IntKind.wrap .i64 (c + 1))
 b (a, d, f)))))))) (
 h (a, e, 0))
def sq (N : Nat) (a : hU → Ro) (x : hU) : Ro := qz N a (fun z => aQ N (kF N) z) x
def xG (N : Nat) (a : St → Ro) : List (Nat × (St → Ro)) := (ba bV N qv (xE (run bV N) a) ++ (ba bV N ur (fin jq) ++ []))
theorem amw (N : Nat) : ∀ (a : St → Ro) (x : hU), sn N a (dO x) = sq N (fun y => a (dO y)) x := by
 intro a x
 have hX : ∀ C : Nat → St → Ro, bQ C bV N qv (xE (bQ C bV N) a) (dO x) = qz N (fun y => a (dO y)) (fun z => C 1000002 (cj z)) x := by
  intro C
  kernel_rfl
 have h : sn N a (dO x) = qz N (fun y => a (dO y)) (fun z => bg N (nv N) (cj z)) x := (ch (C := dA (xG N a)) (bO (aX (l := (xG N a)) (by kernel_rfl))) (oL (cp (eq (bO (da (aX (l := (xG N a)) (by kernel_rfl)))) rfl))) _).trans ((hX _).trans (by kernel_rfl))
 have e1 : (fun z => bg N (nv N) (cj z)) = (fun z => aQ N (kF N) z) := funext fun z => bc (cj) (nv N) (kF N) (amv N) N z
 rw [h, e1]
 rfl
def pI (N : Nat) (a : List aA) (c : hU → Ro) : Ro :=
 let b : Int := (↑(List.length a) : Int)
 chk (decide (0 ≤ b) && decide (b * 8 ≤ 140737488355328)) (
 let d : List Int := (List.replicate (Int.toNat b) (aC (.num .i64)))
 c (a, d, 0))
def yQ (N : Nat) (a : List aA) : Ro := pI N a (fun z => aQ N (sq N) z)
def asc (N : Nat) : List (Nat × (St → Ro)) := ba bV N yP (fin jq) ++ []
theorem aoa (N : Nat) (a : List aA) : aW bV N 69 jq yP [.agg [.sl .atype (.may false) a]] [] = yQ N a :=
 (bL (asc N) (by kernel_rfl) rfl (fun C => pI N a (fun z => C 1000000 (dO z))) (fun C => by kernel_rfl)).trans (Eq.trans (b := pI N a (fun z => bg N (sn N) (dO z))) (by kernel_rfl) (congrArg (pI N a) (funext fun z => bc (dO) (sn N) (sq N) (amw N) N z)))
theorem aob (N : Nat) (a : List aA) (h : Tot (yQ N a) (fun z => ∃ (b : List Int) (rest : List aK), z.1.dimR = .sl (.num .i64) (.may false) b ∧ z.2 = rest ∧ vQ a (b))) : ∃ r, mT a r := by
 obtain ⟨⟨v, hp⟩, hz, b, rest, e1, e2, hq⟩ := h
 simp only at e1 e2
 subst e2
 exact ⟨(b), aI.dimR (aqa.pure (aoa N a) hz) e1, hq⟩
noncomputable def bw : aN := tab (P := Try.prog) [] [] [] [afv]
def zR : IR := Sq (Rs [Mv 61 9, Fa 62 8 8, Lq 63 62, Ll 64 63, Bi 65 .lss 61 64] (Cn 65 .skip (.exit 4))) (Sq (.block 5 (.gh (.opn (.slot 5)) (.ghp (.cls (.slot 5)) (.reg [Mv 68 5, Mv 69 7, Mv 70 5, Mv 71 7, Pp (.ixw 72 (.num .i64) 70 71), Fo [0] [] (.ldw 73 1 false 72), Mv 74 5, Fa 75 8 8, Lq 76 75, Mv 77 9, Ix 78 .afield 76 77, Fa 79 2 78, Fo [] [] (.ld 80 1 false false 79), Pp (.ixw 81 (.num .i64) 74 80), Fo [0] [] (.ldw 82 1 false 81), Bi 83 .add 73 82, Pp (.mx 84 true 83 (kI 1000000)), Pp (.ixw 85 (.num .i64) 68 69), Fo [] [0] (.stw none 1 85 84)] [[], [], [], [], [2, 3], [2, 3, 4], [], [], [7], [], [7, 8, 9], rg 7 10, rg 7 11, rg 6 12, rg 6 13, rg 2 14, rg 2 15, rg 0 16, rg 0 17])))) (Rg [Mv 66 9, Bc 67 .add 66 1, Mv 9 67]))
def ym : IR := Rg [Mv 23 7, Bc 24 .add 23 1, Mv 7 24]
def mI : IR := Sq (Rs [Mv 19 7, Mv 20 1, Ll 21 20, Bi 22 .lss 19 21] (Cn 22 .skip (.exit 2))) (Sq (.block 3 (Sq (Rs [Mv 25 1, Mv 26 7, Ix 27 (.num .i64) 25 26, Lq 28 27, Mv 29 6, Bi 30 .neq 28 29] (Cn 30 (.exit 3) .skip)) (Sq (.gh (.opn (.slot 5)) (.ghp (.cls (.slot 5)) (Rg [Mv 31 5, Mv 32 7, Pp (.ixw 33 (.num .i64) 31 32), Pp (.stw none 1 33 (kI 1))]))) (Rs [Fa 34 0 2, Lq 35 34, Mv 36 7, Ix 37 .atype 35 36, Ld 38 10 true 37, Pp (.alr 8 10), Fz 8 10 38] (Sq (Rs [Fa 39 0 8, Lq 40 39, Bc 41 .eql 40 14] (Cn 41 (.gh (.opn (.slot 5)) (.ghp (.cls (.slot 5)) (.reg [Mv 42 5, Mv 43 7, Mv 44 5, Mv 45 7, Pp (.ixw 46 (.num .i64) 44 45), Fo [2] [] (.ldw 47 1 false 46), Mv 48 5, Fa 49 9 8, Lq 50 49, Ld 51 10 true 8, Mv 52 1, Ca 53 124 [51, 52], Ix 54 (.num .i64) 50 53, Lq 55 54, Pp (.ixw 56 (.num .i64) 48 55), Fo [2] [] (.ldw 57 1 false 56), Bi 58 .add 47 57, Pp (.mx 59 true 58 (kI 1000000)), Pp (.ixw 60 (.num .i64) 42 43), Fo [] [2] (.stw none 1 60 59)] [[], [], [], [], [2, 3], [2, 3, 4], [], [], [7], [], [], [9, 10], rg 7 11, rg 7 12, rg 6 13, rg 6 14, rg 2 15, rg 2 16, rg 0 17, rg 0 18]))) .skip)) (Rs [Mi 9 0] (.block 4 (.loop [1, 2, 5, 6, 7, 8, 9, 1000000] 0 zR)))))))) ym)
def rK : IR := Rg [Mv 17 6, Bc 18 .add 17 1, Mv 6 18]
def mJ : IR := Sq (Rs [Mv 13 6, Mv 14 1, Ll 15 14, Bi 16 .leq 13 15] (Cn 16 .skip (.exit 0))) (Sq (.block 1 (Rs [Mi 7 0] (.block 2 (.loop [1, 2, 5, 6, 7, 1000001] 0 mI)))) rK)
def mK : IR := Rs [Pp (.mov 86 (.tk 5)), Pp (.mov 4 (.tk 86))] (.gh (.fz (.slot 4)) .ret)
def vW : IR := Rs [Bx 2 0, Pp (.mov 4 (.c (.ul (.num .i64) ([] : List Int))))] (Rs [Mv 10 1, Ll 11 10, Pp (.mku 12 (.num .i64) 11), Pp (.mov 5 (.tk 12))] (Sq (Rs [Mi 6 0] (.block 0 (.loop [1, 2, 5, 6, 1000002] 0 mJ))) mK))
def js : List RV := [.t 4]
theorem amx : FnC Try.prog bw [] 0 ads Try.f84 vW js := fnC (by kernel_rfl) Try.func84 (by kernel_rfl) (by kernel_rfl) (by decide)
def lc (R : IR → (Ex → St → Ro) → St → Ro) (a : St → Ro) : Ex → St → Ro := (bz a [1, 2, 5, 6, 1000002] 0 (aR 0 (bp (R mK) (fin js))))
abbrev cY : Type := (List Int × List aA × List Int × Int)
def bx : cY → St := fun (a, b, c, d) => { env := (.undef :: .sl (.num .i64) (.may false) a :: .ea [.sl .atype (.may false) b] :: .undef :: .undef :: .ul (.num .i64) c :: .int .i64 d :: (U 80 [])), hp := [] }
def oz (R : IR → (Ex → St → Ro) → St → Ro) (a b : St → Ro) : Ex → St → Ro := (bz b [1, 2, 5, 6, 7, 1000001] 0 (aR 2 (aR 1 (bp (R rK) (lc R a)))))
abbrev eo : Type := (List Int × List aA × List Int × Int × Int)
def bZ : eo → St := fun (a, b, c, d, e) => { env := (.undef :: .sl (.num .i64) (.may false) a :: .ea [.sl .atype (.may false) b] :: .undef :: .undef :: .ul (.num .i64) c :: .int .i64 d :: .int .i64 e :: (U 79 [])), hp := [] }
def akC (R : IR → (Ex → St → Ro) → St → Ro) (a b c : St → Ro) : Ex → St → Ro := (bz c [1, 2, 5, 6, 7, 8, 9, 1000000] 0 (aR 4 (aR 3 (bp (R ym) (oz R a b)))))
abbrev le : Type := (List Int × List aA × List Int × Int × Int × aA × Int)
def gn : le → St := fun (a, b, c, d, e, f, g) => { env := (.undef :: .sl (.num .i64) (.may false) a :: .ea [.sl .atype (.may false) b] :: .undef :: .undef :: .ul (.num .i64) c :: .int .i64 d :: .int .i64 e :: .ea (enc .atype f) :: .int .i64 g :: (U 77 [])), hp := [] }
def oA (N : Nat) (a b : St → Ro) : (St → Ro) → St → Ro := fun c s => run bw N zR (akC (run bw N) a b c) s
def ff (N : Nat) (j : cY → Ro) (c : eo → Ro) (d : le → Ro) : le → Ro := fun (r, f, a, s, b, k, g) =>
 let l : Int := (↑(List.length k.fields) : Int)
 cond (decide (g < l)) (
 chk (decide (0 < List.length a)) (
 chk (decide (0 ≤ b) && decide (b < ↑(List.length a))) (
 chk (decide ((Int.toNat b) < List.length a)) (
 let m : Int := List.getD a (Int.toNat b) (aC (.num .i64))
 chk (decide (0 ≤ g) && decide (g < ↑(List.length k.fields))) (
 let e : aM := (List.getD k.fields (Int.toNat g) (aC .afield))
 chk (decide (0 ≤ e.typ) && decide (e.typ < ↑(List.length a))) (
 chk (decide ((Int.toNat e.typ) < List.length a)) (
 let n : Int := List.getD a (Int.toNat e.typ) (aC (.num .i64))
 let h : Int := (IntKind.wrap .i64 (m + n))
 let o : Int := (if 1000000 < h then 1000000 else h)
 chk (decide (0 ≤ b) && decide (b < ↑(List.length a))) (
 chk (decide ((Int.toNat b) < List.length a)) (
 let i : List Int := (List.set a (Int.toNat b) o)
 chk (Nat.beq (List.length a) (List.length i)) (
 let p : Int := (IntKind.wrap .i64 (g + 1))
 d (r, f, i, s, b, k, p))))))))))) (
 let q : Int := (IntKind.wrap .i64 (b + 1))
 c (r, f, a, s, q))
theorem ajJ (N : Nat) (b c : St → Ro) : ∀ (a : St → Ro) (x : le), oA N b c a (gn x) = ff N (fun y => b (bx y)) (fun y => c (bZ y)) (fun y => a (gn y)) x := by
 intro a x
 kernel_rfl
def lg (N : Nat) (a : St → Ro) : (St → Ro) → St → Ro := fun b s => run bw N mI (oz (run bw N) a b) s
def nw (N : Nat) (d : cY → Ro) (e : eo → Ro) (q : le → Ro) : eo → Ro := fun (g, b, h, j, a) =>
 let r : Int := (↑(List.length g) : Int)
 cond (decide (a < r)) (
 chk (decide (0 ≤ a) && decide (a < ↑(List.length g))) (
 let s : Int := List.getD g (Int.toNat a) (aC (.num .i64))
 cond (!(s == j)) (
 let t : Int := (IntKind.wrap .i64 (a + 1))
 e (g, b, h, j, t)) (
 chk (decide (0 < List.length h)) (
 chk (decide (0 ≤ a) && decide (a < ↑(List.length h))) (
 chk (decide ((Int.toNat a) < List.length h)) (
 let c : List Int := (List.set h (Int.toNat a) 1)
 chk (Nat.beq (List.length h) (List.length c)) (
 chk (decide (0 ≤ a) && decide (a < ↑(List.length b))) (
 let i : aA := (List.getD b (Int.toNat a) (aC .atype))
 cond (i.kind == 14) (
 chk (decide (0 < List.length c)) (
 chk (decide (0 ≤ a) && decide (a < ↑(List.length c))) (
 chk (decide ((Int.toNat a) < List.length c)) (
 let u : Int := List.getD c (Int.toNat a) (aC (.num .i64))
 aH (lV i g) (fun (m : Int) =>
 chk (decide (0 ≤ m) && decide (m < ↑(List.length i.branches))) (
 let f : Int := List.getD i.branches (Int.toNat m) (aC (.num .i64))
 chk (decide (0 ≤ f) && decide (f < ↑(List.length c))) (
 chk (decide ((Int.toNat f) < List.length c)) (
 let n : Int := List.getD c (Int.toNat f) (aC (.num .i64))
 let k : Int := (IntKind.wrap .i64 (u + n))
 let o : Int := (if 1000000 < k then 1000000 else k)
 chk (decide (0 ≤ a) && decide (a < ↑(List.length c))) (
 chk (decide ((Int.toNat a) < List.length c)) (
 let l : List Int := (List.set c (Int.toNat a) o)
 chk (Nat.beq (List.length c) (List.length l)) (
 q (g, b, l, j, a, i, 0)))))))))))) (
 q (g, b, c, j, a, i, 0)))))))))) (
 let p : Int := (IntKind.wrap .i64 (j + 1))
 d (g, b, h, p))
def lh (N : Nat) (a : cY → Ro) (b : eo → Ro) (x : eo) : Ro := nw N a b (fun z => aQ N (ff N a b) z) x
def oB (N : Nat) (a b : St → Ro) : List (Nat × (St → Ro)) := (ba bw N mI (oz (run bw N) a b) ++ (ba bw N rK (lc (run bw N) a) ++ (ba bw N mK (fin js) ++ [])))
theorem ajK (N : Nat) (b : St → Ro) : ∀ (a : St → Ro) (x : eo), lg N b a (bZ x) = lh N (fun y => b (bx y)) (fun y => a (bZ y)) x := by
 intro a x
 have hX : ∀ C : Nat → St → Ro, bQ C bw N mI (oz (bQ C bw N) b a) (bZ x) = nw N (fun y => b (bx y)) (fun y => a (bZ y)) (fun z => C 1000000 (gn z)) x := by
  intro C
  kernel_rfl
 have h : lg N b a (bZ x) = nw N (fun y => b (bx y)) (fun y => a (bZ y)) (fun z => bg N (oA N b a) (gn z)) x := (ch (C := dA (oB N b a)) (bO (aX (l := (oB N b a)) (by kernel_rfl))) (oL (cp (cp (eq (bO (da (aX (l := (oB N b a)) (by kernel_rfl)))) (oL (cp (eq (bO (da (da (aX (l := (oB N b a)) (by kernel_rfl))))) rfl))))))) _).trans ((hX _).trans (by kernel_rfl))
 have e2 : (fun z => bg N (oA N b a) (gn z)) = (fun z => aQ N (ff N (fun y => b (bx y)) (fun y => a (bZ y))) z) := funext fun z => bc (gn) (oA N b a) (ff N (fun y => b (bx y)) (fun y => a (bZ y))) (ajJ N b a) N z
 rw [h, e2]
 rfl
def oC (N : Nat) : (St → Ro) → St → Ro := fun a s => run bw N mJ (lc (run bw N) a) s
def ny (N : Nat) (b : cY → Ro) (f : eo → Ro) : cY → Ro := fun (c, a, d, e) =>
 let g : Int := (↑(List.length c) : Int)
 cond (decide (e ≤ g)) (
 f (c, a, d, e, 0)) (
 some (.sl (.num .i64) .own d, []))
def oD (N : Nat) (a : cY → Ro) (x : cY) : Ro := ny N a (fun z => aQ N (lh N a) z) x
def uu (N : Nat) (a : St → Ro) : List (Nat × (St → Ro)) := (ba bw N mJ (lc (run bw N) a) ++ (ba bw N mK (fin js) ++ []))
theorem ajL (N : Nat) : ∀ (a : St → Ro) (x : cY), oC N a (bx x) = oD N (fun y => a (bx y)) x := by
 intro a x
 have hX : ∀ C : Nat → St → Ro, bQ C bw N mJ (lc (bQ C bw N) a) (bx x) = ny N (fun y => a (bx y)) (fun z => C 1000001 (bZ z)) x := by
  intro C
  kernel_rfl
 have h : oC N a (bx x) = ny N (fun y => a (bx y)) (fun z => bg N (lg N a) (bZ z)) x := (ch (C := dA (uu N a)) (bO (aX (l := (uu N a)) (by kernel_rfl))) (oL (cp (eq (bO (da (aX (l := (uu N a)) (by kernel_rfl)))) rfl))) _).trans ((hX _).trans (by kernel_rfl))
 have e1 : (fun z => bg N (lg N a) (bZ z)) = (fun z => aQ N (lh N (fun y => a (bx y))) z) := funext fun z => bc (bZ) (lg N a) (lh N (fun y => a (bx y))) (ajK N a) N z
 rw [h, e1]
 rfl
def mq (N : Nat) (a : List aA) (c : List Int) (d : cY → Ro) : Ro :=
 let b : Int := (↑(List.length c) : Int)
 chk (decide (0 ≤ b) && decide (b * 8 ≤ 140737488355328)) (
 let e : List Int := (List.replicate (Int.toNat b) (aC (.num .i64)))
 d (c, a, e, 0))
def vX (N : Nat) (a : List aA) (b : List Int) : Ro := mq N a b (fun z => aQ N (oD N) z)
def aoc (N : Nat) : List (Nat × (St → Ro)) := ba bw N vW (fin js) ++ []
theorem akD (N : Nat) (a : List aA) (c : List Int) : aW bw N 87 js vW [.agg [.sl .atype (.may false) a], .sl (.num .i64) (.may false) c] [] = vX N a c :=
 (bL (aoc N) (by kernel_rfl) rfl (fun C => mq N a c (fun z => C 1000002 (bx z))) (fun C => by kernel_rfl)).trans (Eq.trans (b := mq N a c (fun z => bg N (oC N) (bx z))) (by kernel_rfl) (congrArg (mq N a c) (funext fun z => bc (bx) (oC N) (oD N) (ajL N) N z)))
theorem akE (N : Nat) (a : List aA) (b : List Int) (h : Tot (vX N a b) (fun z => ∃ (c : List Int) (rest : List aK), z.1.dimR = .sl (.num .i64) (.may false) c ∧ z.2 = rest ∧ ti a b (c))) : ∃ r, hM a b r := by
 obtain ⟨⟨v, hp⟩, hz, c, rest, e1, e2, hq⟩ := h
 simp only at e1 e2
 subst e2
 exact ⟨(c), aI.dimR (amx.pure (akD N a b) hz) e1, hq⟩
end Go.Proofs.Ytdpajabhmmmjoaa
end
noncomputable section
namespace Go.Proofs.Ytdpajabhmmmjoaa
open Go.AM
set_option autoImplicit false
set_option linter.unusedVariables false
set_option linter.unusedSimpArgs false
set_option maxRecDepth 100000
theorem dm.at {ts : List aA} (hs : dm ts) {i : Nat} (h : i < ts.length) : iQ ts.length (ts.getD i (aC .atype)) := hs.2 _ (ip _ _ _ h)
theorem av7 (ts : List aA) (hs : dm ts) (t : Int) (ht : 0 ≤ t ∧ t < ts.length) (r : List Int) (hr : r.length = ts.length) (hb : ∀ i, i < r.length → -1 ≤ r.getD i 0 ∧ r.getD i 0 ≤ 100) : ∃ m, pG ts t r m := by
 apply amq 1000
 unfold xB nq
 dsimp only
 have hk := hs.at (i := t.toNat) (by omega)
 have hpost : ∀ m, uo ts t r m = (m = -1 ∨ xy (ts.getD t.toNat (aC .atype)) r m) := fun _ => rfl
 simp only [hpost]
 generalize ts.getD t.toNat (aC .atype) = k at hk
 have hn := hs.1
 refine vck ?_
 refine aF (fun h14 => ?_) (fun h14 => ?_)
 ·simp only [bnl] at h14
  refine be (fun x => match x with
   | (r', k', best, i) => r' = r ∧ k' = k ∧ 0 ≤ i ∧ i ≤ (k.branches.length : Int) ∧ -1 ≤ best ∧ best ≤ 100 ∧ (0 ≤ best → ∃ b ∈ k.branches, rk r b = best))
   (fun x => ((k.branches.length : Int) - x.2.2.2).toNat) ?_ _ _ ⟨rfl, rfl, by simp, by simp, by simp, by simp, by simp⟩ (by have := hk.nb; simp; omega)
  rintro again ⟨r', k', best, i⟩ ⟨rfl, rfl, i1, i2, i3, i4, i5⟩ ih
  dsimp only at ih
  unfold qr
  dsimp only
  have hnb := hk.nb
  refine aF (fun h => ?_) (fun h => ?_)
  ·have h := of_decide_eq_true h
   have hi : i.toNat < k'.branches.length := by omega
   have hbr := hk.branches _ (ip k'.branches i.toNat 0 hi)
   have ew : IntKind.i64.wrap (i + 1) = i + 1 := aJ (i + 1) (by omega)
   refine vck ?_
   change Tot (chk (decide (0 ≤ k'.branches.getD i.toNat 0) && decide (k'.branches.getD i.toNat 0 < (r'.length : Int))) _) _
   have hm := ip k'.branches i.toNat 0 hi
   have hq := hb (k'.branches.getD i.toNat 0).toNat (by omega)
   refine vck ?_
   have nx : ∀ b : Int, (b = best ∨ (0 ≤ rk r' (k'.branches.getD i.toNat 0) ∧ b = rk r' (k'.branches.getD i.toNat 0))) → Tot (again (r', k', b, IntKind.i64.wrap (i + 1))) _ := fun b hb' => ih (r', k', b, IntKind.i64.wrap (i + 1)) (by
    simp only [ew]
    rcases hb' with rfl | ⟨h0, rfl⟩
    ·exact ⟨trivial, trivial, by omega, by omega, i3, i4, i5⟩
    ·exact ⟨trivial, trivial, by omega, by omega, hq.1, hq.2, fun _ => ⟨_, hm, rfl⟩⟩) (by simp only [ew]; omega)
   refine aF (fun h0 => ?_) (fun h0 => nx _ (.inl rfl))
   have h0 := of_decide_eq_true h0
   refine aF (fun _ => nx _ (.inr ⟨h0, rfl⟩)) (fun _ => aF (fun _ => nx _ (.inr ⟨h0, rfl⟩)) (fun _ => nx _ (.inl rfl)))
  ·refine aF (fun h1 => aG ⟨_, _, rfl, rfl, .inl rfl⟩) (fun h1 => ?_)
   have h1 := of_decide_eq_false h1
   obtain ⟨b, hbm, hbe⟩ := i5 (by omega)
   have hbr := hk.branches b hbm
   refine aG ⟨_, _, rfl, rfl, .inr ?_⟩
   rw [aJ _ (by omega)]
   refine ⟨by omega, fun _ => ⟨b, hbm, by omega, by omega⟩, fun hne => absurd h14 hne, fun _ => ⟨b.toNat, by omega, ?_⟩⟩
   have : r'.getD b.toNat 0 = best := hbe
   omega
 ·simp only [bnl] at h14
  refine be (fun x => match x with
   | (r', k', most, i) => r' = r ∧ k' = k ∧ 0 ≤ i ∧ i ≤ (k.fields.length : Int) ∧ 0 ≤ most ∧ most ≤ 100 ∧ (∀ f ∈ k.fields.take i.toNat, 0 ≤ rk r f.typ ∧ rk r f.typ ≤ most) ∧ (1 ≤ most → ∃ j, j < r.length ∧ r.getD j 0 = most))
   (fun x => ((k.fields.length : Int) - x.2.2.2).toNat) ?_ _ _ ⟨rfl, rfl, by simp, by simp, by simp, by simp, by simp, by simp⟩ (by have := hk.nf; simp; omega)
  rintro again ⟨r', k', most, i⟩ ⟨rfl, rfl, i1, i2, i3, i4, i5, i6⟩ ih
  dsimp only at ih
  unfold qt
  dsimp only
  have hnf := hk.nf
  refine aF (fun h => ?_) (fun h => ?_)
  ·have h := of_decide_eq_true h
   have hi : i.toNat < k'.fields.length := by omega
   have hm := ip k'.fields i.toNat (aC .afield) hi
   have hf := hk.fields _ hm
   have ew : IntKind.i64.wrap (i + 1) = i + 1 := aJ (i + 1) (by omega)
   have ht := adr k'.fields i.toNat (aC .afield) hi
   generalize k'.fields.getD i.toNat (aC .afield) = f at *
   refine vck (vck ?_)
   have hq := hb f.typ.toNat (by omega)
   refine aF (fun h0 => aG ⟨_, _, rfl, rfl, .inl rfl⟩) (fun h0 => ?_)
   have h0 : ¬ r'.getD f.typ.toNat 0 < 0 := of_decide_eq_false h0
   refine ih (r', k', _, _) ?_ (by simp only [ew]; omega)
   simp only [ew]
   have ei : (i + 1).toNat = i.toNat + 1 := by omega
   have em : (if most < r'.getD f.typ.toNat (aC (.num .i64)) then r'.getD f.typ.toNat (aC (.num .i64)) else most) = (if most < r'.getD f.typ.toNat 0 then r'.getD f.typ.toNat 0 else most) := rfl
   rw [em, ei, ht]
   refine ⟨trivial, trivial, by omega, by omega, by split <;> omega, by split <;> omega, fun g hg => ?_, fun h1 => ?_⟩
   ·rcases List.mem_append.1 hg with hg | hg
    ·have := i5 g hg; split <;> omega
    ·rw [List.mem_singleton] at hg
     subst hg
     have : rk r' g.typ = r'.getD g.typ.toNat 0 := rfl
     rw [this]; split <;> omega
   ·split
    ·exact ⟨f.typ.toNat, by omega, rfl⟩
    ·rename_i hh; rw [if_neg hh] at h1; exact i6 h1
  ·have h := of_decide_eq_false h
   refine aG ⟨_, _, rfl, rfl, .inr ?_⟩
   rw [aJ _ (by omega)]
   rw [List.take_of_length_le (by omega)] at i5
   refine ⟨by omega, fun h' => absurd h' h14, fun _ f hf => by have := i5 f hf; omega, fun h2 => ?_⟩
   obtain ⟨j, hj, e⟩ := i6 (by omega)
   exact ⟨j, hj, by omega⟩
theorem aod (k : aA) (m : Nat) (hk : iQ m k) (h14 : k.kind = 14) (r : List Int) (hr : r.length = m) : ∃ b, lV k r b := by
 apply amt 1000
 unfold xD nr
 have hne : k.branches ≠ [] := hk.done h14
 have hlen : 0 < k.branches.length := List.length_pos_iff.2 hne
 have hnb := hk.nb
 refine be (fun x => match x with
  | (r', k', b, i) => r' = r ∧ k' = k ∧ 0 ≤ i ∧ i ≤ (k.branches.length : Int) ∧ 0 ≤ b ∧ b < k.branches.length ∧ (b ≤ i) ∧ (∀ j : Nat, (j : Int) < i → 0 ≤ rk r (brT k j) → 0 ≤ rk r (brT k b.toNat) ∧ rk r (brT k b.toNat) ≤ rk r (brT k j)) ∧
    (∀ j, j < b.toNat → 0 ≤ rk r (brT k j) → rk r (brT k b.toNat) < rk r (brT k j)))
  (fun x => ((k.branches.length : Int) - x.2.2.2).toNat) ?_ _ _ ⟨rfl, rfl, by simp, by simp, by simp, by omega, by simp, fun j hj => by omega, fun j hj => by simp at hj⟩ (by simp; omega)
 rintro again ⟨r', k', b, i⟩ ⟨rfl, rfl, i1, i2, i3, i4, i7, i5, i6⟩ ih
 dsimp only at ih
 unfold qu
 dsimp only
 refine aF (fun h => ?_) (fun h => ?_)
 ·have h := of_decide_eq_true h
  have hi : i.toNat < k'.branches.length := by omega
  have hbr := hk.branches _ (ip k'.branches i.toNat 0 hi)
  have hbb := hk.branches _ (ip k'.branches b.toNat 0 (by omega))
  have ew : IntKind.i64.wrap (i + 1) = i + 1 := aJ (i + 1) (by omega)
  have keep : (0 ≤ rk r' (brT k' i.toNat) → 0 ≤ rk r' (brT k' b.toNat) ∧ rk r' (brT k' b.toNat) ≤ rk r' (brT k' i.toNat)) → Tot (again (r', k', b, IntKind.i64.wrap (i + 1))) _ := fun hk' => ih (r', k', b, IntKind.i64.wrap (i + 1)) (by
   simp only [ew]
   refine ⟨trivial, trivial, by omega, by omega, i3, i4, by omega, fun j hj h0 => ?_, i6⟩
   by_cases hji : (j : Int) < i
   ·exact i5 j hji h0
   ·have e : j = i.toNat := by omega
    rw [e] at h0 ⊢; exact hk' h0) (by simp only [ew]; omega)
  have turn : 0 ≤ rk r' (brT k' i.toNat) → (0 ≤ rk r' (brT k' b.toNat) → rk r' (brT k' i.toNat) < rk r' (brT k' b.toNat)) → Tot (again (r', k', i, IntKind.i64.wrap (i + 1))) _ := fun h0 hlt => ih (r', k', i, IntKind.i64.wrap (i + 1)) (by
   simp only [ew]
   refine ⟨trivial, trivial, by omega, by omega, i1, h, by omega, fun j hj h0' => ?_, fun j hj h0' => ?_⟩
   ·by_cases hji : (j : Int) < i
    ·have := i5 j hji h0'
     have := hlt this.1
     omega
    ·have e : j = i.toNat := by omega
     rw [e]; exact ⟨h0, Int.le_refl _⟩
   ·have := i5 j (by omega) h0'
    have := hlt this.1
    omega) (by simp only [ew]; omega)
  refine vck ?_
  change Tot (chk (decide (0 ≤ brT k' i.toNat) && decide (brT k' i.toNat < (r'.length : Int))) (cond (decide (0 ≤ rk r' (brT k' i.toNat))) (chk _ (chk (decide (0 ≤ brT k' b.toNat) && decide (brT k' b.toNat < (r'.length : Int))) (cond (decide (rk r' (brT k' b.toNat) < 0)) _
   (chk _ (chk (decide (0 ≤ brT k' i.toNat) && decide (brT k' i.toNat < (r'.length : Int))) (chk _ (chk (decide (0 ≤ brT k' b.toNat) && decide (brT k' b.toNat < (r'.length : Int))) (cond (decide (rk r' (brT k' i.toNat) < rk r' (brT k' b.toNat))) _ _)))))))) _)) _
  have hbr : 0 ≤ brT k' i.toNat ∧ brT k' i.toNat < (m : Int) := hbr
  have hbb : 0 ≤ brT k' b.toNat ∧ brT k' b.toNat < (m : Int) := hbb
  refine vck (aF (fun h0 => ?_) (fun h0 => keep fun h0' => absurd h0' (of_decide_eq_false h0)))
  have h0 := of_decide_eq_true h0
  refine vck (vck (aF (fun h1 => turn h0 fun h1' => absurd h1' (Int.not_le.2 (of_decide_eq_true h1))) (fun h1 => ?_)))
  have h1 := of_decide_eq_false h1
  refine vck (vck (vck (vck (aF (fun h2 => turn h0 fun _ => of_decide_eq_true h2) (fun h2 => keep fun _ => ?_)))))
  have h2 := of_decide_eq_false h2
  omega
 ·have h := of_decide_eq_false h
  exact aG ⟨_, _, rfl, rfl, i3, i4, fun j hj => i5 j (by omega), i6⟩
theorem aqV (ts : List aA) (hs : dm ts) : ∃ r, mT ts r := by
 apply aob 1000
 unfold yQ pI
 dsimp only
 obtain ⟨⟨hn0, hn⟩, hall⟩ := hs
 have hs : dm ts := ⟨⟨hn0, hn⟩, hall⟩
 refine vck ?_
 have rounds : ∀ r, ij ts r 0 → Tot (aQ 1000 (kF 1000) (ts, r, 0)) (fun z => ∃ (y0 : List Int) (rest : List aK), z.1.dimR = .sl (.num .i64) (.may false) y0 ∧ z.2 = rest ∧ vQ ts y0) := by
  intro r hr
  refine be (fun x => match x with | (ts', r, n) => ts' = ts ∧ 0 ≤ n ∧ n ≤ (ts.length : Int) + 1 ∧ ij ts r n)
   (fun x => ((ts.length : Int) + 1 - x.2.2).toNat) ?_ _ _ ⟨rfl, by simp, by omega, hr⟩ (by simp only; omega)
  rintro again ⟨ts', r, n⟩ ⟨rfl, i1, i2, i3⟩ ih
  dsimp only at ih
  unfold kF qw
  dsimp only
  have hrl := i3.len
  refine aF (fun h => ?_) (fun h => aG ⟨_, _, rfl, rfl, i3.fin⟩)
  have h := of_decide_eq_true h
  have ew : IntKind.i64.wrap (n + 1) = n + 1 := aJ (n + 1) (by omega)
  refine vck (vck (vck ?_))
  refine be (fun x => match x with | (ts2, r2, n2, next, i) => ts2 = ts' ∧ r2 = r ∧ n2 = n ∧ 0 ≤ i ∧ i ≤ (ts'.length : Int) ∧ next.length = ts'.length ∧ (∀ j, j < ts'.length → (0 ≤ r.getD j 0 ∨ i ≤ (j : Int)) → next.getD j 0 = r.getD j 0) ∧
    (∀ j, j < ts'.length → (j : Int) < i → r.getD j 0 < 0 → next.getD j 0 = -1 ∨ xy (ts'.getD j (aC .atype)) r (next.getD j 0)))
   (fun x => ((ts'.length : Int) - x.2.2.2.2).toNat) ?_ _ _ ⟨rfl, rfl, rfl, by simp, by simp, by simpa using hrl, fun j _ _ => rfl, fun j _ hj => by omega⟩ (by simp; omega)
  rintro again2 ⟨ts2, r2, n2, next, i⟩ ⟨rfl, rfl, rfl, j1, j2, j3, j4, j5⟩ ih2
  dsimp only at ih2
  unfold nu
  dsimp only
  refine aF (fun h' => ?_) (fun h' => ?_)
  ·have h' := of_decide_eq_true h'
   have ei : IntKind.i64.wrap (i + 1) = i + 1 := aJ (i + 1) (by omega)
   have hil : i.toNat < ts2.length := by omega
   refine vck (vck (vck (vck ?_)))
   refine aF (fun h0 => ?_) (fun h0 => ?_)
   ·have h0 : 0 ≤ r2.getD i.toNat 0 := of_decide_eq_true h0
    refine ih2 (ts2, r2, n2, next, _) ?_ (by simp only [ei]; omega)
    simp only [ei]
    refine ⟨trivial, trivial, trivial, by omega, by omega, j3, fun j hj hc => j4 j hj (by omega), fun j hj hji hneg => ?_⟩
    by_cases hh : (j : Int) < i
    ·exact j5 j hj hh hneg
    ·have : j = i.toNat := by omega
     rw [this] at hneg; omega
   ·have h0 : ¬ 0 ≤ r2.getD i.toNat 0 := of_decide_eq_false h0
    refine vck (vck ?_)
    refine avn (by simp) (av7 ts2 hs i (by omega) r2 hrl fun q hq => ⟨i3.low q hq, by have := i3.top q hq; omega⟩) ?_
    rintro (q : Int) ⟨-, hq⟩
    refine vck (vck (vck (vck ?_)))
    refine ih2 (ts2, r2, n2, _, _) ?_ (by simp only [ei]; omega)
    simp only [ei]
    refine ⟨trivial, trivial, trivial, by omega, by omega, by simpa using j3, fun j hj hc => ?_, fun j hj hji hneg => ?_⟩
    ·have hne : i.toNat ≠ j := fun e => by rw [e] at h0; omega
     rw [jo _ _ _ _ _ hne]
     exact j4 j hj (by omega)
    ·by_cases hh : (j : Int) < i
     ·rw [jo _ _ _ _ _ (by omega)]
      exact j5 j hj hh hneg
     ·have e : j = i.toNat := by omega
      rw [e, mS _ _ _ _ (by omega)]
      exact hq
  ·have h' := of_decide_eq_false h'
   refine ih (ts2, next, _) ?_ (by simp only [ew]; omega)
   simp only [ew]
   exact ⟨trivial, by omega, by omega, i3.step i1 j3 (fun j hj h0 => j4 j hj (.inl h0)) fun j hj h0 => j5 j hj (by omega) h0⟩
 refine be (fun x => match x with | (ts', r, i) => ts' = ts ∧ 0 ≤ i ∧ i ≤ (ts.length : Int) ∧ r.length = ts.length ∧ ∀ j, j < ts.length → (j : Int) < i → r.getD j 0 = -1 ∨ (r.getD j 0 = 0 ∧ (ts.getD j (aC .atype)).kind ≠ 9 ∧ (ts.getD j (aC .atype)).kind ≠ 14))
  (fun x => ((ts.length : Int) - x.2.2).toNat) ?_ _ _ ⟨rfl, by simp, by simp, by simp, fun j _ hj => by omega⟩ (by simp; omega)
 rintro again ⟨ts', r, i⟩ ⟨rfl, i1, i2, i3, i4⟩ ih
 dsimp only at ih
 unfold sq qz
 dsimp only
 refine aF (fun h => ?_) (fun h => ?_)
 ·have h := of_decide_eq_true h
  have ei : IntKind.i64.wrap (i + 1) = i + 1 := aJ (i + 1) (by omega)
  have hil : i.toNat < ts'.length := by omega
  have put : ∀ l : List Int, l.length = ts'.length → (∀ j, j < ts'.length → i.toNat ≠ j → l.getD j 0 = r.getD j 0) → (l.getD i.toNat 0 = -1 ∨ (l.getD i.toNat 0 = 0 ∧ (ts'.getD i.toNat (aC .atype)).kind ≠ 9 ∧ (ts'.getD i.toNat (aC .atype)).kind ≠ 14)) → Tot (again (ts', l, IntKind.i64.wrap (i + 1))) _ := fun l h1 h2 h3 => ih (ts', l, IntKind.i64.wrap (i + 1)) (by
   simp only [ei]
   refine ⟨trivial, by omega, by omega, h1, fun j hj hji => ?_⟩
   by_cases hh : i.toNat = j
   ·rw [← hh]; exact h3
   ·rw [h2 j hj hh]; exact i4 j hj (by omega)) (by simp only [ei]; omega)
  refine vck (vck (vck (vck (vck ?_))))
  refine aF (fun h9 => ?_) (fun h9 => ?_)
  ·refine vck (aF (fun h14 => ?_) (fun h14 => ?_))
   ·simp only [bnl] at h9 h14
    refine vck (vck (vck (vck ?_)))
    refine put _ (by simpa using i3) (fun j hj hne => by rw [jo _ _ _ _ _ hne, jo _ _ _ _ _ hne]) (.inr ⟨mS _ _ _ _ (by simp; omega), h9, h14⟩)
   ·exact put _ (by simpa using i3) (fun j hj hne => by rw [jo _ _ _ _ _ hne]) (.inl (mS _ _ _ _ (by omega)))
  ·exact put _ (by simpa using i3) (fun j hj hne => by rw [jo _ _ _ _ _ hne]) (.inl (mS _ _ _ _ (by omega)))
 ·have h := of_decide_eq_false h
  refine rounds r ⟨i3, fun j hj => ?_, fun j hj => ?_, fun j hj h1 => ?_, fun j hj h0 => ?_⟩
  all_goals have := i4 j (by omega) (by omega)
  ·omega
  ·omega
  ·omega
  ·rcases this with e | ⟨-, e⟩
   ·omega
   ·exact e
structure ay6 (ts : List aA) (r w : List Int) (k i : Int) : Prop where
 len : w.length = ts.length
 low : ∀ j, j < ts.length → 0 ≤ w.getD j 0 ∧ w.getD j 0 ≤ 1000000
 ok : ∀ j, j < ts.length → 0 ≤ r.getD j 0 → (r.getD j 0 < k ∨ (r.getD j 0 = k ∧ (j : Int) < i)) → kP (ts.getD j (aC .atype)) r w (w.getD j 0)
theorem alq (ts : List aA) (hs : dm ts) (r : List Int) (hR : ij ts r ts.length) : ∃ w, hM ts r w := by
 apply akE 1000
 unfold vX mq
 dsimp only
 have hrl := hR.len
 have hn := hs.1
 refine vck ?_
 refine be (fun x => match x with | (r', ts', w, k) => r' = r ∧ ts' = ts ∧ 0 ≤ k ∧ k ≤ (ts.length : Int) + 1 ∧ ay6 ts r w k 0)
  (fun x => ((ts.length : Int) + 1 - x.2.2.2).toNat) ?_ _ _ ⟨rfl, rfl, by simp, by omega, by simp [hrl], fun j hj => ?_, fun j hj h0 hc => by omega⟩ (by simp only; omega)
 rotate_left
 ·have : (List.replicate (r.length : Int).toNat (aC (.num .i64))).getD j 0 = 0 := by
   simp [List.getD_eq_getElem?_getD, List.getElem?_replicate, hrl, hj]; rfl
  rw [this]; omega
 rintro again ⟨r', ts', w, k⟩ ⟨rfl, rfl, i1, i2, i3⟩ ih
 dsimp only at ih
 unfold oD ny
 dsimp only
 refine aF (fun h => ?_) (fun h => ?_)
 rotate_left
 ·have h := of_decide_eq_false h
  refine aG ⟨_, _, rfl, rfl, i3.len, fun j hj h0 => i3.ok j (by omega) h0 (.inl ?_)⟩
  have := hR.top j hj
  omega
 have h := of_decide_eq_true h
 have ek : IntKind.i64.wrap (k + 1) = k + 1 := aJ (k + 1) (by omega)
 refine be (fun x => match x with | (r2, ts2, w, k2, i) => r2 = r' ∧ ts2 = ts' ∧ k2 = k ∧ 0 ≤ i ∧ i ≤ (ts'.length : Int) ∧ ay6 ts' r' w k i)
  (fun x => ((ts'.length : Int) - x.2.2.2.2).toNat) ?_ _ _ ⟨rfl, rfl, rfl, by simp, by simp, i3⟩ (by simp; omega)
 rintro again2 ⟨r2, ts2, w, k2, i⟩ ⟨rfl, rfl, rfl, j1, j2, j3⟩ ih2
 dsimp only at ih2
 unfold lh nw
 dsimp only
 have jl := j3.len
 refine aF (fun h1 => ?_) (fun h1 => ?_)
 rotate_left
 ·have h1 := of_decide_eq_false h1
  refine ih (r2, ts2, w, _) ?_ (by simp only [ek]; omega)
  simp only [ek]
  exact ⟨trivial, trivial, by omega, by omega, j3.len, j3.low, fun j hj h0 hc => j3.ok j hj h0 (by omega)⟩
 have h1 := of_decide_eq_true h1
 have ei : IntKind.i64.wrap (i + 1) = i + 1 := aJ (i + 1) (by omega)
 have hil : i.toNat < ts2.length := by omega
 refine vck (aF (fun hne => ?_) (fun heq => ?_))
 ·have hne : ¬ r2.getD i.toNat 0 = k2 := by simp only [bnl] at hne; exact hne
  refine ih2 (r2, ts2, w, k2, _) ?_ (by simp only [ei]; omega)
  simp only [ei]
  refine ⟨trivial, trivial, trivial, by omega, by omega, j3.len, j3.low, fun j hj h0 hc => j3.ok j hj h0 ?_⟩
  by_cases hji : i.toNat = j
  ·rw [hji] at hne; omega
  ·omega
 have heq : r2.getD i.toNat 0 = k2 := by simp only [bnl] at heq; exact heq
 have hty := hs.at hil
 have hz0 : ∀ (w1 : List Int) (l : List aM) (x : Int), 1 ≤ x → 1 + mj w1 (List.take (Int.toNat 0) l) ≤ x := fun w1 l x hx => by
  have h0 : mj w1 (List.take (Int.toNat 0) l) = 0 := rfl
  rw [h0]; omega
 have inner : ∀ w1 : List Int, w1.length = ts2.length → (∀ j, j < ts2.length → 0 ≤ w1.getD j 0 ∧ w1.getD j 0 ≤ 1000000) → 1 ≤ w1.getD i.toNat 0 →
   (∀ j, j < ts2.length → 0 ≤ r2.getD j 0 → (r2.getD j 0 < k2 ∨ (r2.getD j 0 = k2 ∧ (j : Int) < i)) → kP (ts2.getD j (aC .atype)) r2 w1 (w1.getD j 0)) →
   ((ts2.getD i.toNat (aC .atype)).kind = 14 → ∀ b, ack (ts2.getD i.toNat (aC .atype)) r2 b → 1 + rk w1 (brT (ts2.getD i.toNat (aC .atype)) b.toNat) ≤ w1.getD i.toNat 0 ∨ w1.getD i.toNat 0 = 1000000) →
   Tot (aQ 1000 (ff 1000 again again2) (r2, ts2, w1, k2, i, ts2.getD i.toNat (aC .atype), 0)) (fun z => ∃ (y0 : List Int) (rest : List aK), z.1.dimR = .sl (.num .i64) (.may false) y0 ∧ z.2 = rest ∧ ti ts2 r2 y0) := by
  intro w1 q1 q2 q3 q4 q5
  generalize hkk : ts2.getD i.toNat (aC .atype) = kk at hty q5
  have hnf := hty.nf
  refine be (fun x => match x with | (r3, ts3, w1, k3, i9, kk3, m) => r3 = r2 ∧ ts3 = ts2 ∧ k3 = k2 ∧ i9 = i ∧ kk3 = kk ∧ 0 ≤ m ∧ m ≤ (kk.fields.length : Int) ∧ w1.length = ts2.length ∧ (∀ j, j < ts2.length → 0 ≤ w1.getD j 0 ∧ w1.getD j 0 ≤ 1000000) ∧ 1 ≤ w1.getD i.toNat 0 ∧
    (∀ j, j < ts2.length → 0 ≤ r2.getD j 0 → (r2.getD j 0 < k2 ∨ (r2.getD j 0 = k2 ∧ (j : Int) < i)) → kP (ts2.getD j (aC .atype)) r2 w1 (w1.getD j 0)) ∧
    (kk.kind = 14 → ∀ b, ack kk r2 b → 1 + rk w1 (brT kk b.toNat) ≤ w1.getD i.toNat 0 ∨ w1.getD i.toNat 0 = 1000000) ∧
    (kk.kind = 9 → 1 + mj w1 (kk.fields.take m.toNat) ≤ w1.getD i.toNat 0 ∨ w1.getD i.toNat 0 = 1000000))
   (fun x => ((kk.fields.length : Int) - x.2.2.2.2.2.2).toNat) ?_ _ _ ⟨rfl, rfl, rfl, rfl, rfl, by simp, by simp, q1, q2, q3, q4, q5, fun _ => .inl (hz0 w1 kk.fields _ q3)⟩ (by simp; omega)
  rintro again3 ⟨r3, ts3, w1, k3, i9, kk3, m⟩ ⟨rfl, rfl, rfl, rfl, rfl, m1, m2, q1, q2, q3, q4, q5, q6⟩ ih3
  dsimp only at ih3
  unfold ff
  dsimp only
  have hri : 0 ≤ r3.getD i9.toNat 0 := by omega
  refine aF (fun h2 => ?_) (fun h2 => ?_)
  ·have h2 := of_decide_eq_true h2
   have hm : m.toNat < kk3.fields.length := by omega
   have hf := hty.fields _ (ip kk3.fields m.toNat (aC .afield) hm)
   have em : IntKind.i64.wrap (m + 1) = m + 1 := aJ (m + 1) (by omega)
   have ht := adr kk3.fields m.toNat (aC .afield) hm
   have hmem := ip kk3.fields m.toNat (aC .afield) hm
   generalize kk3.fields.getD m.toNat (aC .afield) = f at *
   have a1 := q2 i9.toNat hil
   have a2 := q2 f.typ.toNat (by omega)
   refine vck (vck (vck (vck (vck (vck (vck (vck (vck ?_))))))))
   have ewr : IntKind.i64.wrap (w1.getD i9.toNat (aC (.num .i64)) + w1.getD f.typ.toNat (aC (.num .i64))) = w1.getD i9.toNat 0 + w1.getD f.typ.toNat 0 := aJ _ (by
    have e1 : w1.getD i9.toNat (aC (.num .i64)) = w1.getD i9.toNat 0 := rfl
    have e2 : w1.getD f.typ.toNat (aC (.num .i64)) = w1.getD f.typ.toNat 0 := rfl
    rw [e1, e2]; omega)
   rw [ewr]
   refine ih3 (r3, ts3, _, k3, i9, kk3, _) ?_ (by simp only [em]; omega)
   simp only [em]
   have emt : (m + 1).toNat = m.toNat + 1 := by omega
   generalize hx : (if 1000000 < w1.getD i9.toNat 0 + w1.getD f.typ.toNat 0 then (1000000 : Int) else w1.getD i9.toNat 0 + w1.getD f.typ.toNat 0) = x
   have hx1 : w1.getD i9.toNat 0 ≤ x ∧ x ≤ 1000000 ∧ (x = 1000000 ∨ x = w1.getD i9.toNat 0 + w1.getD f.typ.toNat 0) := by
    rw [← hx]; split <;> omega
   refine ⟨trivial, trivial, trivial, trivial, trivial, by omega, by omega, by simpa using q1, fun j hj => ?_, ?_, fun j hj h0 hc => ?_, fun h14 b hb => ?_, fun h9 => ?_⟩
   ·by_cases hji : i9.toNat = j
    ·rw [← hji, mS _ _ _ _ (by omega)]; omega
    ·rw [jo _ _ _ _ _ hji]; exact q2 j hj
   ·rw [mS _ _ _ _ (by omega)]; omega
   ·have hji : i9.toNat ≠ j := fun e => by
     rcases hc with hc | ⟨_, hc⟩
     ·rw [← e] at hc; omega
     ·omega
    exact kP.set hR (by omega) h0 (by omega) hji (q4 j hj h0 hc)
   ·rw [mS _ _ _ _ (by omega)]
    have hk1 : 1 ≤ r3.getD i9.toNat 0 := by
     by_cases h0 : r3.getD i9.toNat 0 = 0
     ·exact absurd h14 (by have := (hR.nul i9.toNat (by omega) h0).2; rw [hkk] at this; exact this)
     ·omega
    have hro := hR.ok i9.toNat (by omega) hk1
    rw [hkk] at hro
    have hc := zM (ts := ts3) (m := 0) hro h14 hb
    have hu := q5 h14 b hb
    unfold rk at hc hu ⊢
    rw [jo _ _ _ _ _ (fun e => by rw [← e] at hc; omega)]
    omega
   ·rw [mS _ _ _ _ (by omega), emt, ht, amm]
    have hk1 : 1 ≤ r3.getD i9.toNat 0 := by
     by_cases h0 : r3.getD i9.toNat 0 = 0
     ·exact absurd h9 (by have := (hR.nul i9.toNat (by omega) h0).1; rw [hkk] at this; exact this)
     ·omega
    have hro := hR.ok i9.toNat (by omega) hk1
    rw [hkk] at hro
    have hne : ∀ g ∈ kk3.fields, g.typ.toNat ≠ i9.toNat := fun g hg e => by
     have := hro.rcd (by omega) g hg
     unfold rk at this
     rw [e] at this; omega
    rw [amk _ _ _ _ (fun g hg => hne g (List.mem_of_mem_take hg))]
    have e1 : mj (w1.set i9.toNat x) [f] = w1.getD f.typ.toNat 0 := by
     simp only [mj, rk]
     rw [jo _ _ _ _ _ (fun e => hne f hmem e.symm)]; omega
    rw [e1]
    have := q6 h9
    omega
  ·have h2 := of_decide_eq_false h2
   refine ih2 (r3, ts3, w1, k3, _) ?_ (by simp only [ei]; omega)
   simp only [ei]
   refine ⟨trivial, trivial, trivial, by omega, by omega, q1, q2, fun j hj h0 hc => ?_⟩
   by_cases hji : i9.toNat = j
   ·rw [← hji, hkk]
    rw [List.take_of_length_le (by omega)] at q6
    exact ⟨q3, (q2 _ hil).2, q6, q5⟩
   ·exact q4 j hj h0 (by omega)
 have hset : ∀ (l : List Int) (x : Int), l.length = ts2.length → (∀ j, j < ts2.length → 0 ≤ l.getD j 0 ∧ l.getD j 0 ≤ 1000000) → 1 ≤ x ∧ x ≤ 1000000 →
   (∀ j, j < ts2.length → 0 ≤ r2.getD j 0 → (r2.getD j 0 < k2 ∨ (r2.getD j 0 = k2 ∧ (j : Int) < i)) → kP (ts2.getD j (aC .atype)) r2 l (l.getD j 0)) →
   (l.set i.toNat x).length = ts2.length ∧ (∀ j, j < ts2.length → 0 ≤ (l.set i.toNat x).getD j 0 ∧ (l.set i.toNat x).getD j 0 ≤ 1000000) ∧ 1 ≤ (l.set i.toNat x).getD i.toNat 0 ∧
   (∀ j, j < ts2.length → 0 ≤ r2.getD j 0 → (r2.getD j 0 < k2 ∨ (r2.getD j 0 = k2 ∧ (j : Int) < i)) → kP (ts2.getD j (aC .atype)) r2 (l.set i.toNat x) ((l.set i.toNat x).getD j 0)) := by
  intro l x h1 h2 h3 h4
  refine ⟨by simpa using h1, fun j hj => ?_, ?_, fun j hj h0 hc => ?_⟩
  ·by_cases hji : i.toNat = j
   ·rw [← hji, mS _ _ _ _ (by omega)]; omega
   ·rw [jo _ _ _ _ _ hji]; exact h2 j hj
  ·rw [mS _ _ _ _ (by omega)]; omega
  ·have hji : i.toNat ≠ j := fun e => by
    rcases hc with hc | ⟨_, hc⟩
    ·rw [← e] at hc; omega
    ·omega
   exact kP.set hR (by omega) h0 (by omega) hji (h4 j hj h0 hc)
 obtain ⟨s1, s2, s3, s4⟩ := hset w 1 jl j3.low (by omega) j3.ok
 refine vck (vck (vck (vck (vck ?_))))
 refine aF (fun h14 => ?_) (fun h14 => ?_)
 rotate_left
 ·simp only [bnl] at h14
  exact inner _ s1 s2 s3 s4 fun h => absurd h h14
 have h14 : (ts2.getD i.toNat (aC .atype)).kind = 14 := by simp only [bnl] at h14; exact h14
 refine vck (vck (vck ?_))
 refine aD (aod _ _ hty h14 r2 hrl) ?_
 rintro (b : Int) ⟨-, hb⟩
 have hb' := hb
 obtain ⟨b1, b2, b3, b4⟩ := hb'
 have hbm := hty.branches _ (ip _ b.toNat 0 (by omega))
 have hbm : 0 ≤ brT (ts2.getD i.toNat (aC .atype)) b.toNat ∧ brT (ts2.getD i.toNat (aC .atype)) b.toNat < (ts2.length : Int) := hbm
 refine vck ?_
 change Tot (chk (decide (0 ≤ brT (ts2.getD i.toNat (aC .atype)) b.toNat) && decide (brT (ts2.getD i.toNat (aC .atype)) b.toNat < ((w.set i.toNat 1).length : Int))) (chk (decide ((brT (ts2.getD i.toNat (aC .atype)) b.toNat).toNat < (w.set i.toNat 1).length)) _)) _
 refine vck (vck (vck (vck (vck ?_))))
 have a1 := s2 i.toNat hil
 have a2 := s2 (brT (ts2.getD i.toNat (aC .atype)) b.toNat).toNat (by omega)
 have e1 : (w.set i.toNat 1).getD i.toNat 0 = 1 := mS _ _ _ _ (by omega)
 have ewr : IntKind.i64.wrap ((w.set i.toNat 1).getD i.toNat (aC (.num .i64)) + (w.set i.toNat 1).getD (brT (ts2.getD i.toNat (aC .atype)) b.toNat).toNat (aC (.num .i64))) = 1 + (w.set i.toNat 1).getD (brT (ts2.getD i.toNat (aC .atype)) b.toNat).toNat 0 := by
  have e2 : (w.set i.toNat 1).getD i.toNat (aC (.num .i64)) = 1 := e1
  have e3 : (w.set i.toNat 1).getD (brT (ts2.getD i.toNat (aC .atype)) b.toNat).toNat (aC (.num .i64)) = (w.set i.toNat 1).getD (brT (ts2.getD i.toNat (aC .atype)) b.toNat).toNat 0 := rfl
  rw [e2, e3]
  exact aJ _ (by omega)
 change Tot (aQ 1000 (ff 1000 again again2) (r2, ts2, (w.set i.toNat 1).set i.toNat (if 1000000 < IntKind.i64.wrap ((w.set i.toNat 1).getD i.toNat (aC (.num .i64)) + (w.set i.toNat 1).getD (brT (ts2.getD i.toNat (aC .atype)) b.toNat).toNat (aC (.num .i64))) then 1000000 else IntKind.i64.wrap ((w.set i.toNat 1).getD i.toNat (aC (.num .i64)) + (w.set i.toNat 1).getD (brT (ts2.getD i.toNat (aC .atype)) b.toNat).toNat (aC (.num .i64)))), k2, i, ts2.getD i.toNat (aC .atype), 0)) _
 rw [ewr]
 generalize hx : (if 1000000 < 1 + (w.set i.toNat 1).getD (brT (ts2.getD i.toNat (aC .atype)) b.toNat).toNat 0 then (1000000 : Int) else 1 + (w.set i.toNat 1).getD (brT (ts2.getD i.toNat (aC .atype)) b.toNat).toNat 0) = x
 have hx1 : 1 ≤ x ∧ x ≤ 1000000 ∧ (x = 1000000 ∨ x = 1 + (w.set i.toNat 1).getD (brT (ts2.getD i.toNat (aC .atype)) b.toNat).toNat 0) := by rw [← hx]; split <;> omega
 obtain ⟨u1, u2, u3, u4⟩ := hset _ x s1 s2 ⟨hx1.1, hx1.2.1⟩ s4
 refine inner _ u1 u2 u3 u4 fun _ b' hb'' => ?_
 have hk1 : 1 ≤ r2.getD i.toNat 0 := by
  by_cases h0 : r2.getD i.toNat 0 = 0
  ·exact absurd h14 (hR.nul i.toNat (by omega) h0).2
  ·omega
 have hro := hR.ok i.toNat (by omega) hk1
 have hc := zM (ts := ts2) (m := 0) hro h14 hb
 have hc' := zM (ts := ts2) (m := 0) hro h14 hb''
 have hbl := hb.lt
 have hbn := hb.nn
 have ebb : b' = b := by
  have n' := hb''.nn
  have l' := hb''.lt
  have l1 := (hb.least b'.toNat (by omega) hc'.1).2
  have l2 := (hb''.least b.toNat (by omega) hc.1).2
  by_cases h1 : b' < b
  ·exact absurd (hb.first b'.toNat (by omega) hc'.1) (Int.not_lt.2 l2)
  ·by_cases h2 : b < b'
   ·exact absurd (hb''.first b.toNat (by omega) hc.1) (Int.not_lt.2 l1)
   ·omega
 rw [ebb]
 rw [mS _ _ _ _ (by simp; omega)]
 have hne : ¬ i.toNat = (brT (ts2.getD i.toNat (aC .atype)) b.toNat).toNat := fun e => by
  unfold rk at hc
  rw [← e] at hc
  exact absurd hc.2 (Int.lt_irrefl _)
 have e5 : rk ((w.set i.toNat 1).set i.toNat x) (brT (ts2.getD i.toNat (aC .atype)) b.toNat) = (w.set i.toNat 1).getD (brT (ts2.getD i.toNat (aC .atype)) b.toNat).toNat 0 := jo _ _ _ _ _ hne
 rw [e5]
 omega
end Go.Proofs.Ytdpajabhmmmjoaa
end
noncomputable section
namespace Go.Proofs.Ytdpajabhmmmjoaa
open Go.AM
set_option autoImplicit false
set_option linter.unusedVariables false
def rkS (ts : List aA) : List Int := pick (mT ts)
def wtS (ts : List aA) : List Int := pick (hM ts (rkS ts))
def vY (ts : List aA) (t : Int) : Bool := isT ts t && (decide (0 ≤ rk (rkS ts) t) && decide (rk (wtS ts) t ≤ 2000))
def av8 (ts : List aA) (t : Int) (v : aB) (m : Nat) : Prop := aZ ts t v = true ∧ wV v ≤ m
def bW : Nat → Nat
 | 0 => 12000000
 | k + 1 => 8 * bW k + 1000
def acl (ts : List aA) (t : Int) (r : List Int) (v : Int × List UInt8 × Bool × List aB × Bool × List (List UInt8) × Int) : Prop :=
 aZ ts t (.mk v.1 v.2.1 v.2.2.2.1 v.2.2.2.2.2.1 v.2.2.2.2.2.2) = true ∧ ((ts.getD t.toNat (aC .atype)).kind ≠ 9 → v.2.2.1 = true ∧ ((ts.getD t.toNat (aC .atype)).kind ≠ 14 → v.2.2.2.1 = [] ∧ v.2.2.2.2.2.1 = [])) ∧
 ∀ w, wC ts r w → rk w t ≤ 2000 → (wV (.mk v.1 v.2.1 v.2.2.2.1 v.2.2.2.2.2.1 v.2.2.2.2.2.2) : Int) ≤ 6000 * rk w t
def acm (ts : List aA) (t : Int) (v : Int × List UInt8 × Bool × List aB × Bool × List (List UInt8) × Int × Bool) : Prop :=
 v.2.2.2.2.2.2.2 = vY ts t ∧ (v.2.2.2.2.2.2.2 = true → av8 ts t (.mk v.1 v.2.1 v.2.2.2.1 v.2.2.2.2.2.1 v.2.2.2.2.2.2.1) 12000000 ∧ ((ts.getD t.toNat (aC .atype)).kind ≠ 9 → v.2.2.1 = true ∧ ((ts.getD t.toNat (aC .atype)).kind ≠ 14 → v.2.2.2.1 = [] ∧ v.2.2.2.2.2.1 = [])))
def cG (l : List UInt8) (n : Int) (ts : List aA) (t deep : Int) (r : aB × Bool × List UInt8 × Int) : Prop :=
 r.2.1 = vY ts t ∧ (r.2.1 = true → av8 ts t r.1 (bW (6 - deep.toNat))) ∧ r.2.2.1 = l ∧ fe l r.2.2.2
end Go.Proofs.Ytdpajabhmmmjoaa
end
noncomputable section
namespace Go.Proofs.Ytdpajabhmmmjoaa
open Go.AM
set_option autoImplicit false
set_option linter.unusedVariables false
set_option maxRecDepth 100000
abbrev abf : FuncId := 26
abbrev ahw : FuncId := 58
abbrev ahx : FuncId := 85
abbrev akF := aB × Bool × Bs × Int
noncomputable def cB (a : Bs) (b : Int) (c : List aA) (d e : Int) (r : akF) : Prop := bk Try.prog abf [.ptr 0 0, .agg [.sl .atype (.may false) c], .int .i64 d, .int .i64 e] [[.sl .u8 (.may false) a, .int .i64 b]] (.tup [.agg (enc .aval r.1), .bool r.2.1]) [[.sl .u8 (.may false) r.2.2.1, .int .i64 r.2.2.2]] ∧ cG a b c d e r
noncomputable def abg : fq Try.prog := ⟨26, fun us css => match us, css with
 | [.ptr 0 0, .agg [.sl .atype (.may _) a], .int .i64 d, .int .i64 e], [[.sl .u8 (.may false) b, .int .i64 c]] => let r := pick (cB b c a d e); some (can (cB b c a d e), .tup [.agg (enc .aval r.1), .bool r.2.1], [[.sl .u8 (.may false) r.2.2.1, .int .i64 r.2.2.2]])
 | _, _ => none, by
 intro _ _ _ _ h; split at h; exact dl h fun h => h.1.dim rfl; cases h⟩
abbrev asd := Int × Bs × Bool × List aB × Bool × Bss × Int × Bool
noncomputable def re (a : List aA) (b : Int) (r : asd) : Prop := aI Try.prog ahw [.agg [.sl .atype (.may false) a], .int .i64 b] (.tup [.agg [.int .u64 r.1, .str r.2.1, .sl .aval (.may r.2.2.1) r.2.2.2.1, .sl .str (.may r.2.2.2.2.1) r.2.2.2.2.2.1, .int .i64 r.2.2.2.2.2.2.1], .bool r.2.2.2.2.2.2.2]) ∧ acm a b r
noncomputable def ase : cb Try.prog := ⟨58, fun us => match us with
 | [.agg [.sl .atype (.may _) a], .int .i64 b] => let r := pick (re a b); some (can (re a b), .tup [.agg [.int .u64 r.1, .str r.2.1, .sl .aval (.may r.2.2.1) r.2.2.2.1, .sl .str (.may r.2.2.2.2.1) r.2.2.2.2.2.1, .int .i64 r.2.2.2.2.2.2.1], .bool r.2.2.2.2.2.2.2])
 | _ => none, by
 intro _ _ h; split at h; exact bo h (fun h => h.1.dim rfl) rfl rfl; cases h⟩
abbrev asf := Int × Bs × Bool × List aB × Bool × Bss × Int
noncomputable def iq (a : List aA) (b : Int) (c : List Int) (r : asf) : Prop := aI Try.prog ahx [.agg [.sl .atype (.may false) a], .int .i64 b, .sl (.num .i64) (.may false) c] (.agg [.int .u64 r.1, .str r.2.1, .sl .aval (.may r.2.2.1) r.2.2.2.1, .sl .str (.may r.2.2.2.2.1) r.2.2.2.2.2.1, .int .i64 r.2.2.2.2.2.2]) ∧ acl a b c r
noncomputable def ahy : cb Try.prog := ⟨85, fun us => match us with
 | [.agg [.sl .atype (.may _) a], .int .i64 b, .sl (.num .i64) (.may _) c] => let r := pick (iq a b c); some (can (iq a b c), .agg [.int .u64 r.1, .str r.2.1, .sl .aval (.may r.2.2.1) r.2.2.2.1, .sl .str (.may r.2.2.2.2.1) r.2.2.2.2.2.1, .int .i64 r.2.2.2.2.2.2])
 | _ => none, by
 intro _ _ h; split at h; exact bo h (fun h => h.1.dim rfl) rfl rfl; cases h⟩
end Go.Proofs.Ytdpajabhmmmjoaa
end
noncomputable section
namespace Go.Proofs.Ytdpajabhmmmjoaa
open Go.AM
set_option autoImplicit false
set_option linter.unusedVariables false
set_option maxRecDepth 100000
noncomputable def rf : aN := tab (P := Try.prog) [] [] [] [ahy, afv]
def acn : IR := Sq (Rs [Mv 28 9, Fa 29 8 7, Lq 30 29, Ll 31 30, Bi 32 .lss 28 31] (Cn 32 .skip (.exit 1))) (Sq (.block 2 (.reg [Fa 35 2 8, Fo [] [1] (.ld 36 1 false true 35), Ld 37 1 true 3, Fa 38 8 7, Lq 39 38, Mv 40 9, Ix 41 .afield 39 40, Fa 42 2 41, Fo [] [] (.ld 43 1 false false 42), Mv 44 2, Ca 45 85 [37, 43, 44], Pp (.bsl 46 .aval [45] true), Pp (.app 47 .aval (.tk 36) 46), Fa 48 2 8, Fo [] [1] (.st none 1 48 (.tk 47))] [[], [0], [], [], [3], [], [3, 4, 5], rg 3 6, rg 3 7, [], rg 2 9, rg 2 10, rg 0 11, rg 0 12, rg 0 13])) (Rg [Mv 33 9, Bc 34 .add 33 1, Mv 9 34]))
def aco : IR := Rs [Pp (.ld 49 5 true false 8), Sv 5 6 49] .ret
def abh : IR := Rs [Pp (.bld 66 [vU 0, vS, fu .aval true, fu .str true, vI 0] []), Sv 5 6 66] .ret
def yR : IR := Rs [Bx 3 0, Pp (.new 6 [vU 0, vS, nl .aval, nl .str, vI 0])] (Rs [Fa 11 0 3, Lq 12 11, Mv 13 1, Ix 14 .atype 12 13, Ld 15 10 true 14, Pp (.alr 7 10), Fz 7 10 15] (Sq (Rs [Fa 16 0 7, Lq 17 16] (.block 0 (Rs [Bc 19 .eql 17 11, Mv 18 19] (Cn 18 (Rs [Fa 20 7 7, Lq 21 20, Pp (.mks 22 .u8 21), Pp (.b2s 23 22), Pp (.bld 24 [vU 0, vS, fu .aval true, fu .str true, vI 0] [(1, 1, 23)]), Sv 5 6 24] .ret) (Rs [Bc 26 .eql 17 9, Mv 25 26] (Cn 25 (Rs [Pp (.bld 27 [vU 0, vS, nl .aval, nl .str, vI 0] []), Pp (.new 8 [vU 0, vS, nl .aval, nl .str, vI 0]), Sv 5 8 27] (Sq (Rs [Mi 9 0] (.block 1 (.loop [2, 3, 6, 7, 8, 9, 1000000] 2 acn))) aco)) (Rs [Bc 51 .eql 17 14, Mv 50 51] (Cn 50 (Rs [Ld 52 10 true 7, Mv 53 2, Ca 54 124 [52, 53], Mv 10 54] (Sq (.reg [Mv 55 10, Ld 56 1 true 3, Fa 57 9 7, Lq 58 57, Mv 59 10, Ix 60 (.num .i64) 58 59, Lq 61 60, Mv 62 2, Ca 63 85 [56, 61, 62], Pp (.bsl 64 .aval [63] true), Pp (.bld 65 [vU 0, vS, fu .aval true, fu .str true, vI 0] [(4, 1, 55), (2, 1, 64)]), Fo [] [0] (.st none 5 6 65)] [[], [], [], [2], [], [2, 3, 4], rg 2 5, [], rg 1 7, rg 1 8, rg 0 9, rg 0 10]) .ret)) .skip)))))))) abh))
def tU : List RV := [.cell 6 5 true]
theorem aqb : FnC Try.prog rf [] 0 ahx Try.f85 yR tU := fnC (by kernel_rfl) Try.func85 (by kernel_rfl) (by kernel_rfl) (by decide)
def aoe (R : IR → (Ex → St → Ro) → St → Ro) (a : St → Ro) : Ex → St → Ro := (bz a [2, 3, 6, 7, 8, 9, 1000000] 2 (aR 1 (bp (R aco) (aR 0 (bp (R abh) (fin tU))))))
abbrev nA : Type := (List Int × List aA × aA × Int × Int × Bs × List aB × Bss × Int × Int × Bs × List aB × Bss × Int)
def mr : nA → St := fun (e, f, g, h, i, j, k, l, m, n, a, b, c, d) => { env := (.undef :: .undef :: .sl (.num .i64) (.may false) e :: .ea [.sl .atype (.may false) f] :: .undef :: .undef :: .ptr 0 0 :: .ea (enc .atype g) :: .ptr 1 0 :: .int .i64 h :: (U 57 [])), hp := [some [.int .u64 i, .str j, .sl .aval .own k, .sl .str .own l, .int .i64 m], some [.int .u64 n, .str a, .sl .aval .own b, .sl .str .own c, .int .i64 d]] }
def xH (N : Nat) : (St → Ro) → St → Ro := fun a s => run rf N acn (aoe (run rf N) a) s
def ss (N : Nat) (g : nA → Ro) : nA → Ro := fun (p, h, o, i, j, k, l, m, n, b, c, a, d, e) =>
 let q : Int := (↑(List.length o.fields) : Int)
 cond (decide (i < q)) (
 chk (decide (0 ≤ i) && decide (i < ↑(List.length o.fields))) (
 let r : aM := (List.getD o.fields (Int.toNat i) (aC .afield))
 aH (iq h r.typ p) (fun f =>
 chk (decide ((List.length a + List.length ([⟨f.1, f.2.1, f.2.2.2.1, f.2.2.2.2.2.1, f.2.2.2.2.2.2⟩] : List aB)) * 80 ≤ 140737488355328)) (
 let s : List aB := (a ++ ([⟨f.1, f.2.1, f.2.2.2.1, f.2.2.2.2.2.1, f.2.2.2.2.2.2⟩] : List aB))
 let t : Int := (IntKind.wrap .i64 (i + 1))
 g (p, h, o, t, j, k, l, m, n, b, c, s, d, e))))) (
 some (.agg [.int .u64 b, .str c, .sl .aval (.may false) a, .sl .str (.may false) d, .int .i64 e], [some [.int .u64 b, .str c, .sl .aval (.may false) a, .sl .str (.may false) d, .int .i64 e], some [.int .u64 b, .str c, .sl .aval .own a, .sl .str .own d, .int .i64 e]]))
theorem amy (N : Nat) : ∀ (a : St → Ro) (x : nA), xH N a (mr x) = ss N (fun y => a (mr y)) x := by
 intro a x
 kernel_rfl
def pJ (N : Nat) (a : List aA) (e : Int) (f : List Int) (h : nA → Ro) : Ro :=
 chk (decide (0 ≤ e) && decide (e < ↑(List.length a))) (
 let b : aA := (List.getD a (Int.toNat e) (aC .atype))
 cond (b.kind == 11) (
 chk (decide (0 ≤ b.size) && decide (b.size * 1 ≤ 140737488355328)) (
 let g : Bs := (List.replicate (Int.toNat b.size) (aC .u8))
 some (.agg [.int .u64 0, .str g, .sl .aval (.may true) ([] : List aB), .sl .str (.may true) ([] : Bss), .int .i64 0], [some [.int .u64 0, .str g, .sl .aval (.may true) ([] : List aB), .sl .str (.may true) ([] : Bss), .int .i64 0]]))) (
 cond (b.kind == 9) (
 h (f, a, b, 0, 0, ([] : Bs), ([] : List aB), ([] : Bss), 0, 0, ([] : Bs), ([] : List aB), ([] : Bss), 0)) (
 cond (b.kind == 14) (
 aH (lV b f) (fun (d : Int) =>
 chk (decide (0 ≤ d) && decide (d < ↑(List.length b.branches))) (
 let i : Int := List.getD b.branches (Int.toNat d) (aC (.num .i64))
 aH (iq a i f) (fun c =>
 some (.agg [.int .u64 0, .str ([] : Bs), .sl .aval (.may true) ([⟨c.1, c.2.1, c.2.2.2.1, c.2.2.2.2.2.1, c.2.2.2.2.2.2⟩] : List aB), .sl .str (.may true) ([] : Bss), .int .i64 d], [some [.int .u64 0, .str ([] : Bs), .sl .aval (.may true) ([⟨c.1, c.2.1, c.2.2.2.1, c.2.2.2.2.2.1, c.2.2.2.2.2.2⟩] : List aB), .sl .str (.may true) ([] : Bss), .int .i64 d]]))))) (
 some (.agg [.int .u64 0, .str ([] : Bs), .sl .aval (.may true) ([] : List aB), .sl .str (.may true) ([] : Bss), .int .i64 0], [some [.int .u64 0, .str ([] : Bs), .sl .aval (.may true) ([] : List aB), .sl .str (.may true) ([] : Bss), .int .i64 0]])))))
def yS (N : Nat) (a : List aA) (b : Int) (c : List Int) : Ro := pJ N a b c (fun z => aQ N (ss N) z)
def asg (N : Nat) : List (Nat × (St → Ro)) := ba rf N yR (fin tU) ++ []
theorem aof (N : Nat) (a : List aA) (c : Int) (d : List Int) : aW rf N 67 tU yR [.agg [.sl .atype (.may false) a], .int .i64 c, .sl (.num .i64) (.may false) d] [] = yS N a c d :=
 (bL (asg N) (by kernel_rfl) rfl (fun C => pJ N a c d (fun z => C 1000000 (mr z))) (fun C => by kernel_rfl)).trans (Eq.trans (b := pJ N a c d (fun z => bg N (xH N) (mr z))) (by kernel_rfl) (congrArg (pJ N a c d) (funext fun z => bc (mr) (xH N) (ss N) (amy N) N z)))
theorem aog (N : Nat) (a : List aA) (b : Int) (c : List Int) (h : Tot (yS N a b c) (fun z => ∃ (d : Int) (e : Bs) (f : Bool) (g : List aB) (i : Bool) (j : Bss) (k : Int) (rest : List aK), z.1 = .agg [.int .u64 d, .str e, .sl .aval (.may f) g, .sl .str (.may i) j, .int .i64 k] ∧ z.2 = rest ∧ acl a b c (d, e, f, g, i, j, k))) : ∃ r, iq a b c r := by
 obtain ⟨⟨v, hp⟩, hz, d, e, f, g, i, j, k, rest, e1, e2, hq⟩ := h
 simp only at e1 e2
 subst e2
 subst e1
 exact ⟨(d, e, f, g, i, j, k), aqb.pure (aof N a b c) hz, hq⟩
noncomputable def ahz : aN := tab (P := Try.prog) [] [] [] [abq, asb, an6, ahy]
def afw : IR := Rs [Bx 2 0, Pp (.new 4 [vU 0, vS, nl .aval, nl .str, vI 0]), Mb 5 false] (Rs [Ld 7 1 true 2, Ca 8 83 [7], Mv 6 8] (Sq (Rs [Ld 9 1 true 2, Mv 10 1, Ca 11 45 [9, 10], Un 12 11, Mv 13 12, Gf 13 (.mov 14 6), Gf 13 (.mov 15 1), Gf 13 (.ixa 16 (.num .i64) 14 15), Gf 13 (.lde 17 1 false 16), Gf 13 (.bin 18 .lss 17 (kI 0)), Po 19 13 18, Mv 20 19, Gf 20 (.lde 21 1 true 2), Gf 20 (.mov 22 6), Gf 20 (.call 23 84 [21, 22]), Gf 20 (.mov 24 1), Gf 20 (.ixa 25 (.num .i64) 23 24), Gf 20 (.lde 26 1 false 25), Gf 20 (.bin 27 .gtr 26 (kI 2000)), Po 28 20 27] (Cn 28 (Rs [Pp (.bld 29 [vU 0, vS, fu .aval true, fu .str true, vI 0] []), Sv 5 4 29, Mb 5 false] .ret) .skip)) (Rs [Ld 30 1 true 2, Mv 31 1, Mv 32 6, Ca 33 85 [30, 31, 32], Sv 5 4 33, Mb 5 true] .ret)))
def afx : List RV := [.cell 4 5 true, .t 5]
theorem aqc : FnC Try.prog ahz [] 0 ahw Try.f58 afw afx := fnC (by kernel_rfl) Try.func58 (by kernel_rfl) (by kernel_rfl) (by decide)
def afy (N : Nat) (a : List aA) (c : Int) : Ro :=
 aH (mT a) (fun (d : List Int) =>
 aH (lv a c) (fun (f : Bool) =>
 cond (!f) (
 some (.tup [.agg [.int .u64 0, .str ([] : Bs), .sl .aval (.may true) ([] : List aB), .sl .str (.may true) ([] : Bss), .int .i64 0], .bool false], [some [.int .u64 0, .str ([] : Bs), .sl .aval (.may true) ([] : List aB), .sl .str (.may true) ([] : Bss), .int .i64 0]])) (
 chk (decide (0 ≤ c) && decide (c < ↑(List.length d))) (
 let g : Int := List.getD d (Int.toNat c) (aC (.num .i64))
 cond (decide (g < 0)) (
 some (.tup [.agg [.int .u64 0, .str ([] : Bs), .sl .aval (.may true) ([] : List aB), .sl .str (.may true) ([] : Bss), .int .i64 0], .bool false], [some [.int .u64 0, .str ([] : Bs), .sl .aval (.may true) ([] : List aB), .sl .str (.may true) ([] : Bss), .int .i64 0]])) (
 aH (hM a d) (fun (e : List Int) =>
 chk (decide (0 ≤ c) && decide (c < ↑(List.length e))) (
 let h : Int := List.getD e (Int.toNat c) (aC (.num .i64))
 cond (decide (2000 < h)) (
 some (.tup [.agg [.int .u64 0, .str ([] : Bs), .sl .aval (.may true) ([] : List aB), .sl .str (.may true) ([] : Bss), .int .i64 0], .bool false], [some [.int .u64 0, .str ([] : Bs), .sl .aval (.may true) ([] : List aB), .sl .str (.may true) ([] : Bss), .int .i64 0]])) (
 aH (iq a c d) (fun b =>
 some (.tup [.agg [.int .u64 b.1, .str b.2.1, .sl .aval (.may b.2.2.1) b.2.2.2.1, .sl .str (.may b.2.2.2.2.1) b.2.2.2.2.2.1, .int .i64 b.2.2.2.2.2.2], .bool true], [some [.int .u64 b.1, .str b.2.1, .sl .aval (.may b.2.2.1) b.2.2.2.1, .sl .str (.may b.2.2.2.2.1) b.2.2.2.2.2.1, .int .i64 b.2.2.2.2.2.2]]))))))))))
def yT (N : Nat) (a : List aA) (b : Int) : Ro := afy N a b
theorem aoh (N : Nat) (a : List aA) (b : Int) : aW ahz N 34 afx afw [.agg [.sl .atype (.may false) a], .int .i64 b] [] = yT N a b := by kernel_rfl
theorem aoi (N : Nat) (a : List aA) (b : Int) (h : Tot (yT N a b) (fun z => ∃ (c : Int) (d : Bs) (e : Bool) (f : List aB) (g : Bool) (i : Bss) (j : Int) (k : Bool) (rest : List aK), z.1 = .tup [.agg [.int .u64 c, .str d, .sl .aval (.may e) f, .sl .str (.may g) i, .int .i64 j], .bool k] ∧ z.2 = rest ∧ acm a b (c, d, e, f, g, i, j, k))) : ∃ r, re a b r := by
 obtain ⟨⟨v, hp⟩, hz, c, d, e, f, g, i, j, k, rest, e1, e2, hq⟩ := h
 simp only at e1 e2
 subst e2
 subst e1
 exact ⟨(c, d, e, f, g, i, j, k), aqc.pure (aoh N a b) hz, hq⟩
end Go.Proofs.Ytdpajabhmmmjoaa
end
noncomputable section
namespace Go.Proofs.Ytdpajabhmmmjoaa
open Go.AM
set_option autoImplicit false
set_option linter.unusedVariables false
set_option linter.unusedSimpArgs false
set_option maxRecDepth 100000
theorem avu {R R' : Type} {Q : R → Prop} [Inhabited R'] {C : R' → Prop} {K : R' → Option R} (h : ∃ r, C r) (hK : C (pick C) → Tot (K (pick C)) Q) : Tot (aH C K) Q := aU (am4 h) (hK (aep h))
theorem agK {m : Nat} {k : aA} (hk : iQ m k) : k.kind = 1 ∨ k.kind = 2 ∨ k.kind = 3 ∨ k.kind = 4 ∨ k.kind = 5 ∨ k.kind = 6 ∨ k.kind = 7 ∨ k.kind = 8 ∨ k.kind = 9 ∨ k.kind = 10 ∨ k.kind = 11 ∨ k.kind = 12 ∨ k.kind = 13 ∨ k.kind = 14 := by
 have := hk.kind; omega
theorem ajM {ts : List aA} {t : Int} (h : 0 ≤ t ∧ t < ts.length) : isT ts t = true := by
 simp only [isT, Bool.and_eq_true, decide_eq_true_eq]; exact h
theorem awX {m : Nat} (ts : List aA) (t : Int) (ht : isT ts t = true) (hk : iQ m (ts.getD t.toNat (aC .atype))) (h9 : (ts.getD t.toNat (aC .atype)).kind ≠ 9) (h11 : (ts.getD t.toNat (aC .atype)).kind ≠ 11) (h14 : (ts.getD t.toNat (aC .atype)).kind ≠ 14) :
  aZ ts t (.mk 0 [] [] [] 0) = true := by
 rw [aZ, ht]
 simp only [Bool.true_and]
 generalize ts.getD t.toNat (aC .atype) = k at *
 have he := hk.enum
 have hns := hk.ns
 rcases agK hk with e | e | e | e | e | e | e | e | e | e | e | e | e | e
 all_goals first | exact absurd e h9 | exact absurd e h11 | exact absurd e h14 | skip
 all_goals rw [e]
 all_goals first | rfl | skip
 ·have h0 : 0 < k.syms.length := List.length_pos_iff.2 (he e)
  have hw : IntKind.wrap .u64 (k.syms.length : Int) = (k.syms.length : Int) := dY _ (by omega)
  show ((decide ((0 : Int) < IntKind.wrap .u64 (k.syms.length : Int))) && true) = true
  rw [hw]; simp; omega
theorem av9 {m : Nat} (ts : List aA) (t : Int) (ht : isT ts t = true) (hk : iQ m (ts.getD t.toNat (aC .atype))) (h11 : (ts.getD t.toNat (aC .atype)).kind = 11) (s : List UInt8) (hs : (s.length : Int) = (ts.getD t.toNat (aC .atype)).size) :
  aZ ts t (.mk 0 s [] [] 0) = true := by
 rw [aZ, ht]
 simp only [Bool.true_and]
 rw [h11, ← hs]
 show (((s.length : Int) == (s.length : Int)) && true) = true
 simp
theorem atW (ts : List aA) (t : Int) (ht : isT ts t = true) (h9 : (ts.getD t.toNat (aC .atype)).kind = 9) (l : List aB) (hl : l.length = (ts.getD t.toNat (aC .atype)).fields.length) (hf : gq ts (ts.getD t.toNat (aC .atype)).fields l = true) :
  aZ ts t (.mk 0 [] l [] 0) = true := by
 rw [aZ, ht]
 simp only [Bool.true_and]
 rw [h9]
 show ((decide (l.length = (ts.getD t.toNat (aC .atype)).fields.length) && gq ts (ts.getD t.toNat (aC .atype)).fields l) && true) = true
 rw [hf, hl]; simp
theorem atX (ts : List aA) (t : Int) (ht : isT ts t = true) (h14 : (ts.getD t.toNat (aC .atype)).kind = 14) (b : Int) (v : aB) (hb : 0 ≤ b ∧ b < (ts.getD t.toNat (aC .atype)).branches.length) (hv : aZ ts ((ts.getD t.toNat (aC .atype)).branches.getD b.toNat 0) v = true) :
  aZ ts t (.mk 0 [] [v] [] b) = true := by
 rw [aZ, ht]
 simp only [Bool.true_and]
 rw [h14]
 show ((decide (0 ≤ b) && (decide (b < ((ts.getD t.toNat (aC .atype)).branches.length : Int)) && (((([v] : List aB).length : Int) == 1) && br ts ((ts.getD t.toNat (aC .atype)).branches.getD b.toNat 0) [v]))) && true) = true
 generalize ts.getD t.toNat (aC .atype) = k at *
 simp only [br, hv, decide_eq_true hb.1, decide_eq_true hb.2, Bool.and_true, Bool.true_and, List.length_singleton]
 rfl
theorem ajN (ts : List aA) : ∀ (fs : List aM) (l : List aB) (f : aM) (v : aB), fs.length = l.length → gq ts fs l = true → aZ ts f.typ v = true → gq ts (fs ++ [f]) (l ++ [v]) = true
 | [], [], f, v, _, _, hv => by simp [gq, hv]
 | f' :: fs, v' :: l, f, v, hl, h, hv => by
   simp only [gq, List.headD_cons, List.tail_cons, Bool.and_eq_true] at h
   simp [gq, h.1, ajN ts fs l f v (by simpa using hl) h.2 hv]
theorem yU : cL [] = 0 := rfl
theorem ajO (ts : List aA) (hs : dm ts) (r : List Int) (hR : ij ts r ts.length) : ∀ (n : Nat) (t : Int), 0 ≤ t ∧ t < ts.length → 0 ≤ rk r t → rk r t < n → ∃ v, iq ts t r v
 | 0 => fun t _ h1 h2 => by omega
 | n + 1 => by
   intro t ht h1 h2
   have hrl := hR.len
   have hk := hs.at (i := t.toNat) (by omega)
   have hT := ajM ht
   have hok := hR.ok t.toNat (by omega)
   have hnul := hR.nul t.toNat (by omega)
   have ewt : r.getD t.toNat 0 = rk r t := rfl
   rw [ewt] at hok hnul
   have hw : ∀ w, wC ts r w → kP (ts.getD t.toNat (aC .atype)) r w (rk w t) := fun w hw => hw.ok t.toNat (by omega) h1
   apply aog 1000
   unfold yS pJ
   dsimp only
   refine vck (aF (fun h11 => ?_) (fun h11 => aF (fun h9 => ?_) (fun h9 => aF (fun h14 => ?_) (fun h14 => ?_))))
   ·have h11 : (ts.getD t.toNat (aC .atype)).kind = 11 := by simp only [bnl] at h11; exact h11
    have hz := hk.size
    refine vck ?_
    refine aG ⟨_, _, _, _, _, _, _, _, rfl, rfl, av9 ts t hT hk h11 _ (by rw [List.length_replicate]; omega), fun _ => ⟨rfl, fun _ => ⟨rfl, rfl⟩⟩, fun w hwo _ => ?_⟩
    have := (hw w hwo).pos
    simp only [wV, wL, yU, List.length_replicate]
    omega
   ·have h9 : (ts.getD t.toNat (aC .atype)).kind = 9 := by simp only [bnl] at h9; exact h9
    have h1' : 1 ≤ rk r t := by
     by_cases h0 : rk r t = 0
     ·exact absurd h9 (hnul h0).1
     ·omega
    have hro := hok h1'
    have hrc := hro.rcd (by omega)
    have hnf := hk.nf
    generalize hkk : ts.getD t.toNat (aC .atype) = k at *
    refine be (fun x => match x with
     | (r', ts', k', i, a0, a1, a2, a3, a4, b0, b1, l, ks, b4) => r' = r ∧ ts' = ts ∧ k' = k ∧ 0 ≤ i ∧ i ≤ (k.fields.length : Int) ∧ b0 = 0 ∧ b1 = [] ∧ ks = [] ∧ b4 = 0 ∧ (l.length : Int) = i ∧ gq ts (k.fields.take i.toNat) l = true ∧
       ∀ w, wC ts r w → rk w t ≤ 2000 → (wL l : Int) ≤ 6000 * mj w (k.fields.take i.toNat))
     (fun x => ((k.fields.length : Int) - x.2.2.2.1).toNat) ?_ _ _ ⟨rfl, rfl, rfl, by simp, by simp, rfl, rfl, rfl, rfl, rfl, rfl, fun w _ _ => by simp [wL, mj]⟩ (by simp; omega)
    rintro again ⟨r', ts', k', i, a0, a1, a2, a3, a4, b0, b1, l, ks, b4⟩ ⟨rfl, rfl, rfl, i1, i2, rfl, rfl, rfl, rfl, i3, i4, i5⟩ ih
    dsimp only at ih
    unfold ss
    dsimp only
    refine aF (fun h => ?_) (fun h => ?_)
    ·have h := of_decide_eq_true h
     have hi : i.toNat < k'.fields.length := by omega
     have hmem := ip k'.fields i.toNat (aC .afield) hi
     have hf := hk.fields _ hmem
     have hfr := hrc _ hmem
     have htk := adr k'.fields i.toNat (aC .afield) hi
     generalize k'.fields.getD i.toNat (aC .afield) = f at *
     refine vck ?_
     refine aD (ajO ts' hs r' hR n f.typ ⟨hf.1, hf.2.1⟩ hfr.1 (by omega)) ?_
     rintro ⟨v0, v1, vf, v2, vg, v3, v4⟩ ⟨-, q1, q2, q3⟩
     dsimp only at q1 q3 ⊢
     have ei : IntKind.i64.wrap (i + 1) = i + 1 := aJ (i + 1) (by omega)
     have eit : (i + 1).toNat = i.toNat + 1 := by omega
     refine vck ?_
     refine ih (r', ts', k', _, a0, a1, a2, a3, a4, 0, [], _, [], 0) ?_ (by simp only [ei]; omega)
     simp only [ei]
     rw [eit, htk]
     refine ⟨trivial, trivial, trivial, by omega, by omega, trivial, trivial, trivial, trivial, by simp; omega, ajN ts' _ _ _ _ (by simp; omega) i4 q1, fun w hw1 hw2 => ?_⟩
     rw [amm, aca]
     have := i5 w hw1 hw2
     have hwf := hw w hw1
     have hsum := hwf.rcd h9
     have hpos : ∀ g ∈ k'.fields, 0 ≤ rk w g.typ := fun g hg => by
      have hg1 := hrc g hg
      have hg2 := hk.fields g hg
      have := (hw1.ok g.typ.toNat (by omega) hg1.1).pos
      unfold rk; omega
     have hle := aml hpos f hmem
     have hq := q3 w hw1 (by omega)
     simp only [wL, mj] at hq ⊢
     omega
    ·have h := of_decide_eq_false h
     rw [List.take_of_length_le (by omega)] at i4 i5
     refine aG ⟨_, _, _, _, _, _, _, _, rfl, rfl, atW ts' t hT (by rw [hkk]; exact h9) l (by rw [hkk]; omega) (by rw [hkk]; exact i4), fun hh => absurd h9 (by rw [hkk] at hh; exact hh), fun w hw1 hw2 => ?_⟩
     have hwf := hw w hw1
     have hsum := hwf.rcd h9
     have := i5 w hw1 hw2
     simp only [wV, yU, List.length_nil]
     omega
   ·have h14 : (ts.getD t.toNat (aC .atype)).kind = 14 := by simp only [bnl] at h14; exact h14
    have h1' : 1 ≤ rk r t := by
     by_cases h0 : rk r t = 0
     ·exact absurd h14 (hnul h0).2
     ·omega
    have hro := hok h1'
    refine aD (aod _ _ hk h14 r hrl) ?_
    rintro (b : Int) ⟨-, hb⟩
    have hbl := hb.lt
    have hbn := hb.nn
    have hbm := hk.branches _ (ip _ b.toNat 0 (by omega))
    have hc := zM (ts := ts) (m := 0) hro h14 hb
    refine vck ?_
    refine aD (ajO ts hs r hR n (brT (ts.getD t.toNat (aC .atype)) b.toNat) hbm hc.1 (by omega)) ?_
    rintro ⟨v0, v1, vf, v2, vg, v3, v4⟩ ⟨-, q1, q2, q3⟩
    dsimp only at q1 q3 ⊢
    refine aG ⟨_, _, _, _, _, _, _, _, rfl, rfl, atX ts t hT h14 b _ ⟨hbn, hbl⟩ q1, fun _ => ⟨rfl, fun h => absurd h14 h⟩, fun w hw1 hw2 => ?_⟩
    have hwf := hw w hw1
    have hu := hwf.uni h14 b hb
    have q3 : ∀ w, wC ts r w → rk w (brT (ts.getD t.toNat (aC .atype)) b.toNat) ≤ 2000 → (wV (.mk v0 v1 v2 v3 v4) : Int) ≤ 6000 * rk w (brT (ts.getD t.toNat (aC .atype)) b.toNat) := q3
    have hq := q3 w hw1 (by omega)
    simp only [wV, wL, yU, List.length_nil] at hq ⊢
    omega
   ·have h11 : (ts.getD t.toNat (aC .atype)).kind ≠ 11 := by simp only [bnl] at h11; exact h11
    have h9 : (ts.getD t.toNat (aC .atype)).kind ≠ 9 := by simp only [bnl] at h9; exact h9
    have h14 : (ts.getD t.toNat (aC .atype)).kind ≠ 14 := by simp only [bnl] at h14; exact h14
    refine aG ⟨_, _, _, _, _, _, _, _, rfl, rfl, awX ts t hT hk h9 h11 h14, fun _ => ⟨rfl, fun _ => ⟨rfl, rfl⟩⟩, fun w hwo _ => ?_⟩
    have := (hw w hwo).pos
    simp only [wV, wL, yU, List.length_nil]
    omega
theorem atY (ts : List aA) (hs : dm ts) : ij ts (rkS ts) ts.length := (aep (aqV ts hs)).2
theorem awY (ts : List aA) (hs : dm ts) : wC ts (rkS ts) (wtS ts) := (aep (alq ts hs (rkS ts) (atY ts hs))).2
theorem awZ (ts : List aA) (hs : dm ts) (t : Int) : ∃ v, re ts t v := by
 apply aoi 1
 unfold yT afy
 have hR := atY ts hs
 have hW := awY ts hs
 refine avu (aqV ts hs) ?_
 rintro -
 change Tot (aH (lv ts t) _) _
 refine aD (anO ts t) ?_
 rintro r ⟨-, hr⟩
 have hr : r = isT ts t := hr
 have hrl := hR.len
 have hwl := hW.len
 refine aF (fun h => aG ⟨_, _, _, _, _, _, _, _, _, rfl, rfl, ?_, fun hh => by cases hh⟩) (fun h => ?_)
 ·have : isT ts t = false := by rw [← hr]; simpa using h
  simp [vY, this]
 have hT : isT ts t = true := by rw [← hr]; simpa using h
 have ht : 0 ≤ t ∧ t < (ts.length : Int) := by simpa [isT] using hT
 change Tot (chk (decide (0 ≤ t) && decide (t < ((rkS ts).length : Int))) (cond (decide (rk (rkS ts) t < 0)) _ (aH (hM ts (rkS ts)) _))) _
 refine vck (aF (fun h0 => aG ⟨_, _, _, _, _, _, _, _, _, rfl, rfl, ?_, fun hh => by cases hh⟩) (fun h0 => ?_))
 ·have h0 := of_decide_eq_true h0
  simp only [vY]
  rw [decide_eq_false (show ¬ 0 ≤ rk (rkS ts) t by omega)]; simp
 have h0 := of_decide_eq_false h0
 refine avu (alq ts hs (rkS ts) hR) ?_
 rintro -
 change Tot (chk (decide (0 ≤ t) && decide (t < ((wtS ts).length : Int))) (cond (decide (2000 < rk (wtS ts) t)) _ (aH (iq ts t (rkS ts)) _))) _
 refine vck (aF (fun h1 => aG ⟨_, _, _, _, _, _, _, _, _, rfl, rfl, ?_, fun hh => by cases hh⟩) (fun h1 => ?_))
 ·have h1 := of_decide_eq_true h1
  simp only [vY]
  rw [decide_eq_false (show ¬ rk (wtS ts) t ≤ 2000 by omega)]; simp
 have h1 := of_decide_eq_false h1
 have hrt := hR.top t.toNat (by omega)
 have e : rk (rkS ts) t = (rkS ts).getD t.toNat 0 := rfl
 refine aD (ajO ts hs (rkS ts) hR 100 t ht (by omega) (by have := hs.1; omega)) ?_
 rintro ⟨v0, v1, vf, v2, vg, v3, v4⟩ ⟨-, q1, q2, q3⟩
 refine aG ⟨_, _, _, _, _, _, _, _, _, rfl, rfl, ?_, fun _ => ⟨⟨q1, ?_⟩, q2⟩⟩
 ·simp only [vY, hT]
  rw [decide_eq_true (show 0 ≤ rk (rkS ts) t by omega), decide_eq_true (show rk (wtS ts) t ≤ 2000 by omega)]; rfl
 ·have := q3 (wtS ts) hW (by omega)
  dsimp only at this ⊢
  omega
end Go.Proofs.Ytdpajabhmmmjoaa
end
noncomputable section
namespace Go.Proofs.Ytdpajabhmmmjoaa
open Go.AM
set_option autoImplicit false
set_option linter.unusedVariables false
set_option maxRecDepth 100000
noncomputable def fg : aN := tab (P := Try.prog) [] [abg, aaX, l8] [] [ase, ale]
def xI : IR := Sq (Rs [Mv 139 16, Fa 140 8 12, Lq 141 140, Ll 142 141, Bi 143 .lss 139 142] (Cn 143 .skip (.exit 1))) (Sq (.block 2 (Sq (.reg [Mv 147 0, Ld 148 1 true 5, Fa 149 8 12, Lq 150 149, Mv 151 16, Ix 152 .afield 150 151, Fa 153 2 152, Fo [] [] (.ld 154 1 false false 153), Mv 155 3, Bc 156 .add 155 1, Fo [] [0] (.call 157 26 [147, 148, 154, 156]), Mv 146 157, Ex_ 158 0 146, Ex_ 159 1 146, Pp (.alr 17 5), Fz 17 5 158, Mv 18 159] [[], [], [], [2], [], [2, 3, 4], rg 2 5, rg 2 6, [], [8], rg 0 9, rg 0 10, rg 0 11, rg 0 11, [], rg 0 12 ++ [14], rg 0 15]) (Rg [Fa 160 2 10, Pp (.ld 161 1 false true 160), Ld 162 5 true 17, Pp (.bsl 163 .aval [162] true), Pp (.app 164 .aval (.tk 161) 163), Fa 165 2 10, Sk 1 165 164]))) (Rg [Mv 144 16, Bc 145 .add 144 1, Mv 16 145]))
def wD : IR := Sq (Rs [Mv 171 19, Bc 172 .gtr 171 0] (Cn 172 .skip (.exit 3))) (Sq (.block 4 (Rs [Mv 176 0, Ld 177 1 true 5, Fa 178 3 12, Lq 179 178, Mv 180 3, Bc 181 .add 180 1, Ca 182 26 [176, 177, 179, 181], Mv 175 182, Ex_ 183 0 175, Ex_ 184 1 175, Pp (.alr 20 5), Fz 20 5 183, Mv 21 184] (Sq (Rs [Mv 185 21, Un 186 185] (Cn 186 (.exit 3) .skip)) (Rs [Fa 187 0 12, Lq 188 187, Bc 189 .eql 188 12] (Cn 189 (Rg [Fa 190 2 10, Pp (.ld 191 1 false true 190), Ld 192 5 true 20, Pp (.bsl 193 .aval [192] true), Pp (.app 194 .aval (.tk 191) 193), Fa 195 2 10, Sk 1 195 194]) (.reg [Fo [2] [] (.ld 196 5 true false 10), Mv 197 0, Fo [] [0] (.call 198 60 [197, kI 5]), Pp (.bin 199 .add (kI 97) 198), Pp (.cvi 200 .u8 199), Pp (.bsl 201 .u8 [200] true), Pp (.b2s 202 201), Pp (.bin 203 .add (kS [107]) 202), Ld 204 5 true 20, Ca 205 61 [196, 203, 204], Fo [] [2] (.st none 5 10 205)] [[], [], [1], [1, 2], [1, 2, 3], rg 1 4, rg 1 5, rg 1 6, [], rg 0 8, rg 0 9])))))) (Rg [Mv 173 19, Bc 174 .sub 173 1, Mv 19 174]))
def pK : IR := Rs [Pp (.ld 206 5 true false 10), Sv 5 8 206, Mb 9 true] .ret
def tj : IR := Rs [Bx 5 1, Pp (.new 8 [vU 0, vS, nl .aval, nl .str, vI 0]), Mb 9 false] (Rs [Ld 23 1 true 5, Mv 24 2, Ca 25 58 [23, 24], Mv 22 25, Ex_ 26 0 22, Ex_ 27 1 22, Pp (.new 10 [vU 0, vS, nl .aval, nl .str, vI 0]), Sv 5 10 26, Mv 11 27] (Sq (Rs [Mv 28 11, Un 29 28, Mv 30 29, Gf 30 (.mov 31 3), Gf 30 (.bin 32 .gtr 31 (kI 5)), Po 33 30 32, Mv 34 33, Gf 34 (.mov 35 0), Gf 34 (.call 36 59 [35]), Po 37 34 36] (Cn 37 (Rs [Pp (.ld 38 5 true false 10), Mv 39 11, Sv 5 8 38, Mv 9 39] .ret) .skip)) (Rs [Fa 40 0 5, Lq 41 40, Mv 42 2, Ix 43 .atype 41 42, Ld 44 10 true 43, Pp (.alr 12 10), Fz 12 10 44] (Sq (Rs [Fa 45 0 12, Lq 46 45] (.block 0 (Rs [Bc 48 .eql 46 2, Mv 47 48] (Cn 47 (Rg [Mv 49 0, Ca 50 60 [49, kI 2], Pp (.cvi 51 .u64 50), Fa 52 0 10, Sv 1 52 51]) (Rs [Bc 54 .eql 46 3, Mv 53 54] (Cn 53 (Rg [Pp (.bsl 55 (.num .u64) [kU 0, kU 1, kU 18446744073709551615, kU 300, kU 2147483647, kU 18446744071562067968, kU 16777217] true), Mv 56 0, Ca 57 60 [56, kI 7], Ix 58 (.num .u64) 55 57, Lq 59 58, Fa 60 0 10, Sv 1 60 59]) (Rs [Bc 62 .eql 46 4, Mv 61 62] (Cn 61 (Rg [Pp (.bsl 63 (.num .u64) [kU 0, kU 1, kU 18446744073709551615, kU 1099511627776, kU 9223372036854775807, kU 9223372036854775808, kU 9007199254740993] true), Mv 64 0, Ca 65 60 [64, kI 7], Ix 66 (.num .u64) 63 65, Lq 67 66, Fa 68 0 10, Sv 1 68 67]) (Rs [Bc 70 .eql 46 5, Mv 69 70] (Cn 69 (Rg [Pp (.bsl 71 (.num .u64) [kU 0, kU 1065353216, kU 2139095040, kU 1, kU 3212836864, kU 2143289345, kU 2147483648] true), Mv 72 0, Ca 73 60 [72, kI 7], Ix 74 (.num .u64) 71 73, Lq 75 74, Fa 76 0 10, Sv 1 76 75]) (Rs [Bc 78 .eql 46 6, Mv 77 78] (Cn 77 (Rg [Pp (.bsl 79 (.num .u64) [kU 0, kU 4607182418800017408, kU 1, kU 9223372036854775808, kU 9218868437227405312] true), Mv 80 0, Ca 81 60 [80, kI 5], Ix 82 (.num .u64) 79 81, Lq 83 82, Fa 84 0 10, Sv 1 84 83]) (Rs [Bc 86 .eql 46 8, Mv 85 86] (Cn 85 (Rg [Pp (.bsl 87 .str [kS [], kS [97], kS [195, 164], kS [116, 101, 120, 116]] true), Mv 88 0, Ca 89 60 [88, kI 4], Ix 90 .str 87 89, Lq 91 90, Fa 92 1 10, Sv 1 92 91]) (Rs [Bc 94 .eql 46 7, Mv 93 94] (Cn 93 (Rg [Pp (.bsl 95 .str [kS [], kS [255], kS [0], kS [98]] true), Mv 96 0, Ca 97 60 [96, kI 4], Ix 98 .str 95 97, Lq 99 98, Fa 100 1 10, Sv 1 100 99]) (Rs [Bc 102 .eql 46 10, Mv 101 102] (Cn 101 (Rg [Mv 103 0, Fa 104 4 12, Lq 105 104, Ll 106 105, Ca 107 60 [103, 106], Pp (.cvi 108 .u64 107), Fa 109 0 10, Sv 1 109 108]) (Rs [Bc 111 .eql 46 14, Mv 110 111] (Cn 110 (Rs [Mv 112 0, Fa 113 9 12, Lq 114 113, Ll 115 114, Ca 116 60 [112, 115], Mv 13 116] (Sq (.reg [Mv 118 0, Ld 119 1 true 5, Fa 120 9 12, Lq 121 120, Mv 122 13, Ix 123 (.num .i64) 121 122, Lq 124 123, Mv 125 3, Bc 126 .add 125 1, Fo [] [0] (.call 127 26 [118, 119, 124, 126]), Mv 117 127, Ex_ 128 0 117, Ex_ 129 1 117, Pp (.alr 14 5), Fz 14 5 128, Mv 15 129] [[], [], [], [2], [], [2, 3, 4], rg 2 5, [], [7], rg 0 8, rg 0 9, rg 0 10, rg 0 10, [], rg 0 11 ++ [13], rg 0 14]) (Rs [Mv 130 15] (Cn 130 (.reg [Mv 131 13, Ld 132 5 true 14, Pp (.bsl 133 .aval [132] true), Fa 134 4 10, Fo [] [2] (.st none 1 134 131), Fa 135 2 10, Fo [] [2] (.st none 1 135 (.tk 133))] [[], [], [1], [0], [0, 3], rg 0 4, rg 0 5]) .skip)))) (Rs [Bc 137 .eql 46 9, Mv 136 137] (Cn 136 (Rs [Fa 138 2 10, Pp (.st none 1 138 (.c (nl .aval)))] (Rs [Mi 16 0] (.block 1 (.loop [0, 3, 5, 8, 10, 12, 16, 1000000] 3 xI)))) (Sq (Rs [Bc 167 .eql 46 12, Mv 166 167] (Cn 166 .skip (Rg [Bc 168 .eql 46 13, Mv 166 168]))) (Cn 166 (Rs [Mv 169 0, Ca 170 60 [169, kI 4], Mv 19 170] (.block 3 (.loop [0, 3, 5, 8, 10, 12, 19, 1000001] 3 wD))) .skip)))))))))))))))))))))))) pK))))
def ka : List RV := [.cell 8 5 true, .t 9]
theorem ajP : FnC Try.prog fg [26, 59, 60, 2000026, 2000059, 2000060] 1 abf Try.f26 tj ka := fnC (by kernel_rfl) Try.func26 (by kernel_rfl) (by kernel_rfl) (by decide)
def aie (R : IR → (Ex → St → Ro) → St → Ro) (a : St → Ro) : Ex → St → Ro := (bz a [0, 3, 5, 8, 10, 12, 16, 1000000] 3 (aR 1 (aR 0 (bp (R pK) (fin ka)))))
abbrev je : Type := (Int × List aA × aA × Int × Bs × Int × Int × Bs × List aB × Bss × Int × Int × Bs × List aB × Bool × Bss × Int)
def hY : je → St := fun (h, i, j, k, l, m, n, o, p, q, a, b, c, d, e, f, g) => { env := (.ptr 0 0 :: .undef :: .undef :: .int .i64 h :: .undef :: .ea [.sl .atype (.may false) i] :: .undef :: .undef :: .ptr 1 0 :: .undef :: .ptr 2 0 :: .undef :: .ea (enc .atype j) :: (U 3 (.int .i64 k :: (U 190 [])))), hp := [some [.sl .u8 (.may false) l, .int .i64 m], some [.int .u64 n, .str o, .sl .aval .own p, .sl .str .own q, .int .i64 a], some [.int .u64 b, .str c, .sl .aval .own d, .sl .str (.may e) f, .int .i64 g]] }
def rL (N : Nat) : (St → Ro) → St → Ro := fun a s => run fg N xI (aie (run fg N) a) s
def jf (N : Nat) (h : je → Ro) : je → Ro := fun (x, k, i, g, l, m, n, o, p, q, r, c, d, b, a, e, f) =>
 let s : Int := (↑(List.length i.fields) : Int)
 cond (decide (g < s)) (
 chk (decide (0 ≤ g) && decide (g < ↑(List.length i.fields))) (
 let t : aM := (List.getD i.fields (Int.toNat g) (aC .afield))
 let u : Int := (IntKind.wrap .i64 (x + 1))
 aH (cB l m k t.typ u) (fun j =>
 chk (decide ((List.length b + List.length ([(reA j.1)] : List aB)) * 80 ≤ 140737488355328)) (
 let v : List aB := (b ++ ([(reA j.1)] : List aB))
 let w : Int := (IntKind.wrap .i64 (g + 1))
 h (x, k, i, w, j.2.2.1, j.2.2.2, n, o, p, q, r, c, d, v, a, e, f))))) (
 some (.tup [.agg [.int .u64 c, .str d, .sl .aval (.may false) b, .sl .str (.may a) e, .int .i64 f], .bool true], [some [.sl .u8 (.may false) l, .int .i64 m], some [.int .u64 c, .str d, .sl .aval (.may false) b, .sl .str (.may a) e, .int .i64 f], some [.int .u64 c, .str d, .sl .aval .own b, .sl .str (.may a) e, .int .i64 f]]))
theorem agL (N : Nat) : ∀ (a : St → Ro) (x : je), rL N a (hY x) = jf N (fun y => a (hY y)) x := by
 intro a x
 kernel_rfl
def aif (R : IR → (Ex → St → Ro) → St → Ro) (a : St → Ro) : Ex → St → Ro := (bz a [0, 3, 5, 8, 10, 12, 19, 1000001] 3 (aR 3 (aR 0 (bp (R pK) (fin ka)))))
abbrev jg : Type := (Int × List aA × aA × Int × Bs × Int × Int × Bs × List aB × Bss × Int × Int × Bs × Bool × List aB × Bool × Bss × Int) ⊕ (Int × List aA × aA × Int × Bs × Int × Int × Bs × List aB × Bss × Int × Int × Bs × List aB × Bool × Bss × Int) ⊕ (Int × List aA × aA × Int × Bs × Int × Int × Bs × List aB × Bss × Int × Int × Bs × List aB × Bss × Int)
def aed : (Int × List aA × aA × Int × Bs × Int × Int × Bs × List aB × Bss × Int × Int × Bs × Bool × List aB × Bool × Bss × Int) → St := fun (i, j, k, l, m, n, o, p, q, r, a, b, c, d, e, f, g, h) => { env := (.ptr 0 0 :: .undef :: .undef :: .int .i64 i :: .undef :: .ea [.sl .atype (.may false) j] :: .undef :: .undef :: .ptr 1 0 :: .undef :: .ptr 2 0 :: .undef :: .ea (enc .atype k) :: (U 6 (.int .i64 l :: (U 187 [])))), hp := [some [.sl .u8 (.may false) m, .int .i64 n], some [.int .u64 o, .str p, .sl .aval .own q, .sl .str .own r, .int .i64 a], some [.int .u64 b, .str c, .sl .aval (.may d) e, .sl .str (.may f) g, .int .i64 h]] }
def aee : (Int × List aA × aA × Int × Bs × Int × Int × Bs × List aB × Bss × Int × Int × Bs × List aB × Bool × Bss × Int) → St := fun (h, i, j, k, l, m, n, o, p, q, a, b, c, d, e, f, g) => { env := (.ptr 0 0 :: .undef :: .undef :: .int .i64 h :: .undef :: .ea [.sl .atype (.may false) i] :: .undef :: .undef :: .ptr 1 0 :: .undef :: .ptr 2 0 :: .undef :: .ea (enc .atype j) :: (U 6 (.int .i64 k :: (U 187 [])))), hp := [some [.sl .u8 (.may false) l, .int .i64 m], some [.int .u64 n, .str o, .sl .aval .own p, .sl .str .own q, .int .i64 a], some [.int .u64 b, .str c, .sl .aval .own d, .sl .str (.may e) f, .int .i64 g]] }
def aef : (Int × List aA × aA × Int × Bs × Int × Int × Bs × List aB × Bss × Int × Int × Bs × List aB × Bss × Int) → St := fun (g, h, i, j, k, l, m, n, o, p, a, b, c, d, e, f) => { env := (.ptr 0 0 :: .undef :: .undef :: .int .i64 g :: .undef :: .ea [.sl .atype (.may false) h] :: .undef :: .undef :: .ptr 1 0 :: .undef :: .ptr 2 0 :: .undef :: .ea (enc .atype i) :: (U 6 (.int .i64 j :: (U 187 [])))), hp := [some [.sl .u8 (.may false) k, .int .i64 l], some [.int .u64 m, .str n, .sl .aval .own o, .sl .str .own p, .int .i64 a], some [.int .u64 b, .str c, .sl .aval (.may false) d, .sl .str (.may false) e, .int .i64 f]] }
def hZ : jg → St
 | (Sum.inl x) => aed x
 | (Sum.inr (Sum.inl x)) => aee x
 | (Sum.inr (Sum.inr x)) => aef x
def rM (N : Nat) : (St → Ro) → St → Ro := fun a s => run fg N wD (aif (run fg N) a) s
def ep (N : Nat) (j : jg → Ro) (x : jg) : Ro :=
 match x with
 | (Sum.inl (v3, h, m, w, o, p, q, r, t, u, v, c, d, g, a, b, e, f)) =>
   cond (decide (0 < w)) (
    let aj : Int := (IntKind.wrap .i64 (v3 + 1))
    aH (cB o p h m.items aj) (fun i =>
     cond (!i.2.1) (
      some (.tup [.agg [.int .u64 c, .str d, .sl .aval (.may g) a, .sl .str (.may b) e, .int .i64 f], .bool true], [some [.sl .u8 (.may false) i.2.2.1, .int .i64 i.2.2.2], some [.int .u64 c, .str d, .sl .aval (.may g) a, .sl .str (.may b) e, .int .i64 f], some [.int .u64 c, .str d, .sl .aval (.may g) a, .sl .str (.may b) e, .int .i64 f]])) (
      cond (m.kind == 12) (
       chk ((g && decide (0 < List.length ([(reA i.1)] : List aB))) && decide ((List.length a + List.length ([(reA i.1)] : List aB)) * 80 ≤ 140737488355328)) (
        let ak : List aB := (a ++ ([(reA i.1)] : List aB))
        let al : Int := (IntKind.wrap .i64 (w - 1))
        j (Sum.inr (Sum.inl (v3, h, m, al, i.2.2.1, i.2.2.2, q, r, t, u, v, c, d, ak, b, e, f))))) (
       aH (aS i.2.2.1 i.2.2.2 5) (fun ad =>
        let ag : Int := (IntKind.wrap .i64 (97 + ad.1))
        chk (decide (List.length ([107] : Bs) + List.length ([(UInt8.ofNat (Int.toNat (IntKind.wrap .u8 ag)))] : Bs) ≤ 9223372036854775807)) (
         let am : Bs := (([107] : Bs) ++ ([(UInt8.ofNat (Int.toNat (IntKind.wrap .u8 ag)))] : Bs))
         aH (jA c d a e f am i.1.n i.1.s i.1.l i.1.keys i.1.branch) (fun z =>
          let an : Int := (IntKind.wrap .i64 (w - 1))
          j (Sum.inr (Sum.inr (v3, h, m, an, ad.2.1, ad.2.2, q, r, t, u, v, z.1, z.2.1, z.2.2.1, z.2.2.2.1, z.2.2.2.2)))))))))) (
    some (.tup [.agg [.int .u64 c, .str d, .sl .aval (.may g) a, .sl .str (.may b) e, .int .i64 f], .bool true], [some [.sl .u8 (.may false) o, .int .i64 p], some [.int .u64 c, .str d, .sl .aval (.may g) a, .sl .str (.may b) e, .int .i64 f], some [.int .u64 c, .str d, .sl .aval (.may g) a, .sl .str (.may b) e, .int .i64 f]]))
 | (Sum.inr (Sum.inl (v3, h, m, w, o, p, q, r, t, u, v, c, d, a, b, e, f))) =>
   cond (decide (0 < w)) (
    let ao : Int := (IntKind.wrap .i64 (v3 + 1))
    aH (cB o p h m.items ao) (fun k =>
     cond (!k.2.1) (
      some (.tup [.agg [.int .u64 c, .str d, .sl .aval (.may false) a, .sl .str (.may b) e, .int .i64 f], .bool true], [some [.sl .u8 (.may false) k.2.2.1, .int .i64 k.2.2.2], some [.int .u64 c, .str d, .sl .aval (.may false) a, .sl .str (.may b) e, .int .i64 f], some [.int .u64 c, .str d, .sl .aval .own a, .sl .str (.may b) e, .int .i64 f]])) (
      cond (m.kind == 12) (
       chk (decide ((List.length a + List.length ([(reA k.1)] : List aB)) * 80 ≤ 140737488355328)) (
        let ap : List aB := (a ++ ([(reA k.1)] : List aB))
        let aq : Int := (IntKind.wrap .i64 (w - 1))
        j (Sum.inr (Sum.inl (v3, h, m, aq, k.2.2.1, k.2.2.2, q, r, t, u, v, c, d, ap, b, e, f))))) (
       aH (aS k.2.2.1 k.2.2.2 5) (fun ae =>
        let ah : Int := (IntKind.wrap .i64 (97 + ae.1))
        chk (decide (List.length ([107] : Bs) + List.length ([(UInt8.ofNat (Int.toNat (IntKind.wrap .u8 ah)))] : Bs) ≤ 9223372036854775807)) (
         let ar : Bs := (([107] : Bs) ++ ([(UInt8.ofNat (Int.toNat (IntKind.wrap .u8 ah)))] : Bs))
         aH (jA c d a e f ar k.1.n k.1.s k.1.l k.1.keys k.1.branch) (fun aa =>
          let au : Int := (IntKind.wrap .i64 (w - 1))
          j (Sum.inr (Sum.inr (v3, h, m, au, ae.2.1, ae.2.2, q, r, t, u, v, aa.1, aa.2.1, aa.2.2.1, aa.2.2.2.1, aa.2.2.2.2)))))))))) (
    some (.tup [.agg [.int .u64 c, .str d, .sl .aval (.may false) a, .sl .str (.may b) e, .int .i64 f], .bool true], [some [.sl .u8 (.may false) o, .int .i64 p], some [.int .u64 c, .str d, .sl .aval (.may false) a, .sl .str (.may b) e, .int .i64 f], some [.int .u64 c, .str d, .sl .aval .own a, .sl .str (.may b) e, .int .i64 f]]))
 | (Sum.inr (Sum.inr (v3, h, m, w, o, p, q, r, t, u, v, c, d, a, e, f))) =>
   cond (decide (0 < w)) (
    let av : Int := (IntKind.wrap .i64 (v3 + 1))
    aH (cB o p h m.items av) (fun y =>
     cond (!y.2.1) (
      some (.tup [.agg [.int .u64 c, .str d, .sl .aval (.may false) a, .sl .str (.may false) e, .int .i64 f], .bool true], [some [.sl .u8 (.may false) y.2.2.1, .int .i64 y.2.2.2], some [.int .u64 c, .str d, .sl .aval (.may false) a, .sl .str (.may false) e, .int .i64 f], some [.int .u64 c, .str d, .sl .aval (.may false) a, .sl .str (.may false) e, .int .i64 f]])) (
      cond (m.kind == 12) (
       none) (
       aH (aS y.2.2.1 y.2.2.2 5) (fun af =>
        let ai : Int := (IntKind.wrap .i64 (97 + af.1))
        chk (decide (List.length ([107] : Bs) + List.length ([(UInt8.ofNat (Int.toNat (IntKind.wrap .u8 ai)))] : Bs) ≤ 9223372036854775807)) (
         let aw : Bs := (([107] : Bs) ++ ([(UInt8.ofNat (Int.toNat (IntKind.wrap .u8 ai)))] : Bs))
         aH (jA c d a e f aw y.1.n y.1.s y.1.l y.1.keys y.1.branch) (fun ab =>
          let ax : Int := (IntKind.wrap .i64 (w - 1))
          j (Sum.inr (Sum.inr (v3, h, m, ax, af.2.1, af.2.2, q, r, t, u, v, ab.1, ab.2.1, ab.2.2.1, ab.2.2.2.1, ab.2.2.2.2)))))))))) (
    some (.tup [.agg [.int .u64 c, .str d, .sl .aval (.may false) a, .sl .str (.may false) e, .int .i64 f], .bool true], [some [.sl .u8 (.may false) o, .int .i64 p], some [.int .u64 c, .str d, .sl .aval (.may false) a, .sl .str (.may false) e, .int .i64 f], some [.int .u64 c, .str d, .sl .aval (.may false) a, .sl .str (.may false) e, .int .i64 f]]))
theorem agM (N : Nat) : ∀ (a : St → Ro) (x : jg), rM N a (hZ x) = ep N (fun y => a (hZ y)) x := by
 intro a x
 rcases x with x | x | x <;> kernel_rfl
def kb (N : Nat) (g : Bs) (h : Int) (c : List aA) (t l : Int) (q0 : je → Ro) (q1 : jg → Ro) : Ro :=
 aH (re c t) (fun a =>
 cond (!a.2.2.2.2.2.2.2) (
 some (.tup [.agg [.int .u64 a.1, .str a.2.1, .sl .aval (.may a.2.2.1) a.2.2.2.1, .sl .str (.may a.2.2.2.2.1) a.2.2.2.2.2.1, .int .i64 a.2.2.2.2.2.2.1], .bool a.2.2.2.2.2.2.2], [some [.sl .u8 (.may false) g, .int .i64 h], some [.int .u64 a.1, .str a.2.1, .sl .aval (.may a.2.2.1) a.2.2.2.1, .sl .str (.may a.2.2.2.2.1) a.2.2.2.2.2.1, .int .i64 a.2.2.2.2.2.2.1], some [.int .u64 a.1, .str a.2.1, .sl .aval (.may a.2.2.1) a.2.2.2.1, .sl .str (.may a.2.2.2.2.1) a.2.2.2.2.2.1, .int .i64 a.2.2.2.2.2.2.1]])) (
 cond (decide (5 < l)) (
 some (.tup [.agg [.int .u64 a.1, .str a.2.1, .sl .aval (.may a.2.2.1) a.2.2.2.1, .sl .str (.may a.2.2.2.2.1) a.2.2.2.2.2.1, .int .i64 a.2.2.2.2.2.2.1], .bool a.2.2.2.2.2.2.2], [some [.sl .u8 (.may false) g, .int .i64 h], some [.int .u64 a.1, .str a.2.1, .sl .aval (.may a.2.2.1) a.2.2.2.1, .sl .str (.may a.2.2.2.2.1) a.2.2.2.2.2.1, .int .i64 a.2.2.2.2.2.2.1], some [.int .u64 a.1, .str a.2.1, .sl .aval (.may a.2.2.1) a.2.2.2.1, .sl .str (.may a.2.2.2.2.1) a.2.2.2.2.2.1, .int .i64 a.2.2.2.2.2.2.1]])) (
 aH (ii g h) (fun b =>
 cond b.1 (
 some (.tup [.agg [.int .u64 a.1, .str a.2.1, .sl .aval (.may a.2.2.1) a.2.2.2.1, .sl .str (.may a.2.2.2.2.1) a.2.2.2.2.2.1, .int .i64 a.2.2.2.2.2.2.1], .bool a.2.2.2.2.2.2.2], [some [.sl .u8 (.may false) b.2.1, .int .i64 b.2.2], some [.int .u64 a.1, .str a.2.1, .sl .aval (.may a.2.2.1) a.2.2.2.1, .sl .str (.may a.2.2.2.2.1) a.2.2.2.2.2.1, .int .i64 a.2.2.2.2.2.2.1], some [.int .u64 a.1, .str a.2.1, .sl .aval (.may a.2.2.1) a.2.2.2.1, .sl .str (.may a.2.2.2.2.1) a.2.2.2.2.2.1, .int .i64 a.2.2.2.2.2.2.1]])) (
 chk (decide (0 ≤ t) && decide (t < ↑(List.length c))) (
 let d : aA := (List.getD c (Int.toNat t) (aC .atype))
 cond (d.kind == 2) (
 aH (aS b.2.1 b.2.2 2) (fun m =>
 some (.tup [.agg [.int .u64 (IntKind.wrap .u64 m.1), .str a.2.1, .sl .aval (.may a.2.2.1) a.2.2.2.1, .sl .str (.may a.2.2.2.2.1) a.2.2.2.2.2.1, .int .i64 a.2.2.2.2.2.2.1], .bool true], [some [.sl .u8 (.may false) m.2.1, .int .i64 m.2.2], some [.int .u64 (IntKind.wrap .u64 m.1), .str a.2.1, .sl .aval (.may a.2.2.1) a.2.2.2.1, .sl .str (.may a.2.2.2.2.1) a.2.2.2.2.2.1, .int .i64 a.2.2.2.2.2.2.1], some [.int .u64 (IntKind.wrap .u64 m.1), .str a.2.1, .sl .aval (.may a.2.2.1) a.2.2.2.1, .sl .str (.may a.2.2.2.2.1) a.2.2.2.2.2.1, .int .i64 a.2.2.2.2.2.2.1]]))) (
 cond (d.kind == 3) (
 aH (aS b.2.1 b.2.2 7) (fun n =>
 chk (decide (0 ≤ n.1) && decide (n.1 < ↑(List.length ([0, 1, 18446744073709551615, 300, 2147483647, 18446744071562067968, 16777217] : List Int)))) (
 let u : Int := List.getD ([0, 1, 18446744073709551615, 300, 2147483647, 18446744071562067968, 16777217] : List Int) (Int.toNat n.1) (aC (.num .u64))
 some (.tup [.agg [.int .u64 u, .str a.2.1, .sl .aval (.may a.2.2.1) a.2.2.2.1, .sl .str (.may a.2.2.2.2.1) a.2.2.2.2.2.1, .int .i64 a.2.2.2.2.2.2.1], .bool true], [some [.sl .u8 (.may false) n.2.1, .int .i64 n.2.2], some [.int .u64 u, .str a.2.1, .sl .aval (.may a.2.2.1) a.2.2.2.1, .sl .str (.may a.2.2.2.2.1) a.2.2.2.2.2.1, .int .i64 a.2.2.2.2.2.2.1], some [.int .u64 u, .str a.2.1, .sl .aval (.may a.2.2.1) a.2.2.2.1, .sl .str (.may a.2.2.2.2.1) a.2.2.2.2.2.1, .int .i64 a.2.2.2.2.2.2.1]])))) (
 cond (d.kind == 4) (
 aH (aS b.2.1 b.2.2 7) (fun o =>
 chk (decide (0 ≤ o.1) && decide (o.1 < ↑(List.length ([0, 1, 18446744073709551615, 1099511627776, 9223372036854775807, 9223372036854775808, 9007199254740993] : List Int)))) (
 let v : Int := List.getD ([0, 1, 18446744073709551615, 1099511627776, 9223372036854775807, 9223372036854775808, 9007199254740993] : List Int) (Int.toNat o.1) (aC (.num .u64))
 some (.tup [.agg [.int .u64 v, .str a.2.1, .sl .aval (.may a.2.2.1) a.2.2.2.1, .sl .str (.may a.2.2.2.2.1) a.2.2.2.2.2.1, .int .i64 a.2.2.2.2.2.2.1], .bool true], [some [.sl .u8 (.may false) o.2.1, .int .i64 o.2.2], some [.int .u64 v, .str a.2.1, .sl .aval (.may a.2.2.1) a.2.2.2.1, .sl .str (.may a.2.2.2.2.1) a.2.2.2.2.2.1, .int .i64 a.2.2.2.2.2.2.1], some [.int .u64 v, .str a.2.1, .sl .aval (.may a.2.2.1) a.2.2.2.1, .sl .str (.may a.2.2.2.2.1) a.2.2.2.2.2.1, .int .i64 a.2.2.2.2.2.2.1]])))) (
 cond (d.kind == 5) (
 aH (aS b.2.1 b.2.2 7) (fun p =>
 chk (decide (0 ≤ p.1) && decide (p.1 < ↑(List.length ([0, 1065353216, 2139095040, 1, 3212836864, 2143289345, 2147483648] : List Int)))) (
 let w : Int := List.getD ([0, 1065353216, 2139095040, 1, 3212836864, 2143289345, 2147483648] : List Int) (Int.toNat p.1) (aC (.num .u64))
 some (.tup [.agg [.int .u64 w, .str a.2.1, .sl .aval (.may a.2.2.1) a.2.2.2.1, .sl .str (.may a.2.2.2.2.1) a.2.2.2.2.2.1, .int .i64 a.2.2.2.2.2.2.1], .bool true], [some [.sl .u8 (.may false) p.2.1, .int .i64 p.2.2], some [.int .u64 w, .str a.2.1, .sl .aval (.may a.2.2.1) a.2.2.2.1, .sl .str (.may a.2.2.2.2.1) a.2.2.2.2.2.1, .int .i64 a.2.2.2.2.2.2.1], some [.int .u64 w, .str a.2.1, .sl .aval (.may a.2.2.1) a.2.2.2.1, .sl .str (.may a.2.2.2.2.1) a.2.2.2.2.2.1, .int .i64 a.2.2.2.2.2.2.1]])))) (
 cond (d.kind == 6) (
 aH (aS b.2.1 b.2.2 5) (fun q =>
 chk (decide (0 ≤ q.1) && decide (q.1 < ↑(List.length ([0, 4607182418800017408, 1, 9223372036854775808, 9218868437227405312] : List Int)))) (
 let x : Int := List.getD ([0, 4607182418800017408, 1, 9223372036854775808, 9218868437227405312] : List Int) (Int.toNat q.1) (aC (.num .u64))
 some (.tup [.agg [.int .u64 x, .str a.2.1, .sl .aval (.may a.2.2.1) a.2.2.2.1, .sl .str (.may a.2.2.2.2.1) a.2.2.2.2.2.1, .int .i64 a.2.2.2.2.2.2.1], .bool true], [some [.sl .u8 (.may false) q.2.1, .int .i64 q.2.2], some [.int .u64 x, .str a.2.1, .sl .aval (.may a.2.2.1) a.2.2.2.1, .sl .str (.may a.2.2.2.2.1) a.2.2.2.2.2.1, .int .i64 a.2.2.2.2.2.2.1], some [.int .u64 x, .str a.2.1, .sl .aval (.may a.2.2.1) a.2.2.2.1, .sl .str (.may a.2.2.2.2.1) a.2.2.2.2.2.1, .int .i64 a.2.2.2.2.2.2.1]])))) (
 cond (d.kind == 8) (
 aH (aS b.2.1 b.2.2 4) (fun r =>
 chk (decide (0 ≤ r.1) && decide (r.1 < ↑(List.length ([([] : Bs), ([97] : Bs), ([195, 164] : Bs), ([116, 101, 120, 116] : Bs)] : Bss)))) (
 let y : Bs := List.getD ([([] : Bs), ([97] : Bs), ([195, 164] : Bs), ([116, 101, 120, 116] : Bs)] : Bss) (Int.toNat r.1) (aC .str)
 some (.tup [.agg [.int .u64 a.1, .str y, .sl .aval (.may a.2.2.1) a.2.2.2.1, .sl .str (.may a.2.2.2.2.1) a.2.2.2.2.2.1, .int .i64 a.2.2.2.2.2.2.1], .bool true], [some [.sl .u8 (.may false) r.2.1, .int .i64 r.2.2], some [.int .u64 a.1, .str y, .sl .aval (.may a.2.2.1) a.2.2.2.1, .sl .str (.may a.2.2.2.2.1) a.2.2.2.2.2.1, .int .i64 a.2.2.2.2.2.2.1], some [.int .u64 a.1, .str y, .sl .aval (.may a.2.2.1) a.2.2.2.1, .sl .str (.may a.2.2.2.2.1) a.2.2.2.2.2.1, .int .i64 a.2.2.2.2.2.2.1]])))) (
 cond (d.kind == 7) (
 aH (aS b.2.1 b.2.2 4) (fun s =>
 chk (decide (0 ≤ s.1) && decide (s.1 < ↑(List.length ([([] : Bs), ([255] : Bs), ([0] : Bs), ([98] : Bs)] : Bss)))) (
 let z : Bs := List.getD ([([] : Bs), ([255] : Bs), ([0] : Bs), ([98] : Bs)] : Bss) (Int.toNat s.1) (aC .str)
 some (.tup [.agg [.int .u64 a.1, .str z, .sl .aval (.may a.2.2.1) a.2.2.2.1, .sl .str (.may a.2.2.2.2.1) a.2.2.2.2.2.1, .int .i64 a.2.2.2.2.2.2.1], .bool true], [some [.sl .u8 (.may false) s.2.1, .int .i64 s.2.2], some [.int .u64 a.1, .str z, .sl .aval (.may a.2.2.1) a.2.2.2.1, .sl .str (.may a.2.2.2.2.1) a.2.2.2.2.2.1, .int .i64 a.2.2.2.2.2.2.1], some [.int .u64 a.1, .str z, .sl .aval (.may a.2.2.1) a.2.2.2.1, .sl .str (.may a.2.2.2.2.1) a.2.2.2.2.2.1, .int .i64 a.2.2.2.2.2.2.1]])))) (
 cond (d.kind == 10) (
 let x8 : Int := (↑(List.length d.syms) : Int)
 aH (aS b.2.1 b.2.2 x8) (fun i =>
 let x9 : Int := (IntKind.wrap .u64 i.1)
 some (.tup [.agg [.int .u64 x9, .str a.2.1, .sl .aval (.may a.2.2.1) a.2.2.2.1, .sl .str (.may a.2.2.2.2.1) a.2.2.2.2.2.1, .int .i64 a.2.2.2.2.2.2.1], .bool true], [some [.sl .u8 (.may false) i.2.1, .int .i64 i.2.2], some [.int .u64 x9, .str a.2.1, .sl .aval (.may a.2.2.1) a.2.2.2.1, .sl .str (.may a.2.2.2.2.1) a.2.2.2.2.2.1, .int .i64 a.2.2.2.2.2.2.1], some [.int .u64 x9, .str a.2.1, .sl .aval (.may a.2.2.1) a.2.2.2.1, .sl .str (.may a.2.2.2.2.1) a.2.2.2.2.2.1, .int .i64 a.2.2.2.2.2.2.1]]))) (
 cond (d.kind == 14) (
 let ab : Int := (↑(List.length d.branches) : Int)
 aH (aS b.2.1 b.2.2 ab) (fun e =>
 chk (decide (0 ≤ e.1) && decide (e.1 < ↑(List.length d.branches))) (
 let ac : Int := List.getD d.branches (Int.toNat e.1) (aC (.num .i64))
 let ad : Int := (IntKind.wrap .i64 (l + 1))
 aH (cB e.2.1 e.2.2 c ac ad) (fun f =>
 cond f.2.1 (
 some (.tup [.agg [.int .u64 a.1, .str a.2.1, .sl .aval (.may true) ([(reA f.1)] : List aB), .sl .str (.may a.2.2.2.2.1) a.2.2.2.2.2.1, .int .i64 e.1], .bool true], [some [.sl .u8 (.may false) f.2.2.1, .int .i64 f.2.2.2], some [.int .u64 a.1, .str a.2.1, .sl .aval (.may true) ([(reA f.1)] : List aB), .sl .str (.may a.2.2.2.2.1) a.2.2.2.2.2.1, .int .i64 e.1], some [.int .u64 a.1, .str a.2.1, .sl .aval (.may true) ([(reA f.1)] : List aB), .sl .str (.may a.2.2.2.2.1) a.2.2.2.2.2.1, .int .i64 e.1]])) (
 some (.tup [.agg [.int .u64 a.1, .str a.2.1, .sl .aval (.may a.2.2.1) a.2.2.2.1, .sl .str (.may a.2.2.2.2.1) a.2.2.2.2.2.1, .int .i64 a.2.2.2.2.2.2.1], .bool true], [some [.sl .u8 (.may false) f.2.2.1, .int .i64 f.2.2.2], some [.int .u64 a.1, .str a.2.1, .sl .aval (.may a.2.2.1) a.2.2.2.1, .sl .str (.may a.2.2.2.2.1) a.2.2.2.2.2.1, .int .i64 a.2.2.2.2.2.2.1], some [.int .u64 a.1, .str a.2.1, .sl .aval (.may a.2.2.1) a.2.2.2.1, .sl .str (.may a.2.2.2.2.1) a.2.2.2.2.2.1, .int .i64 a.2.2.2.2.2.2.1]])))))) (
 cond (d.kind == 9) (
 q0 (l, c, d, 0, b.2.1, b.2.2, 0, ([] : Bs), ([] : List aB), ([] : Bss), 0, a.1, a.2.1, ([] : List aB), a.2.2.2.2.1, a.2.2.2.2.2.1, a.2.2.2.2.2.2.1)) (
 cond (d.kind == 12) (
 aH (aS b.2.1 b.2.2 4) (fun j =>
 q1 (Sum.inl (l, c, d, j.1, j.2.1, j.2.2, 0, ([] : Bs), ([] : List aB), ([] : Bss), 0, a.1, a.2.1, a.2.2.1, a.2.2.2.1, a.2.2.2.2.1, a.2.2.2.2.2.1, a.2.2.2.2.2.2.1)))) (
 cond (d.kind == 13) (
 aH (aS b.2.1 b.2.2 4) (fun k =>
 q1 (Sum.inl (l, c, d, k.1, k.2.1, k.2.2, 0, ([] : Bs), ([] : List aB), ([] : Bss), 0, a.1, a.2.1, a.2.2.1, a.2.2.2.1, a.2.2.2.2.1, a.2.2.2.2.2.1, a.2.2.2.2.2.2.1)))) (
 some (.tup [.agg [.int .u64 a.1, .str a.2.1, .sl .aval (.may a.2.2.1) a.2.2.2.1, .sl .str (.may a.2.2.2.2.1) a.2.2.2.2.2.1, .int .i64 a.2.2.2.2.2.2.1], .bool true], [some [.sl .u8 (.may false) b.2.1, .int .i64 b.2.2], some [.int .u64 a.1, .str a.2.1, .sl .aval (.may a.2.2.1) a.2.2.2.1, .sl .str (.may a.2.2.2.2.1) a.2.2.2.2.2.1, .int .i64 a.2.2.2.2.2.2.1], some [.int .u64 a.1, .str a.2.1, .sl .aval (.may a.2.2.1) a.2.2.2.1, .sl .str (.may a.2.2.2.2.1) a.2.2.2.2.2.1, .int .i64 a.2.2.2.2.2.2.1]])))))))))))))))))))
def tl (N : Nat) (a : Bs) (b : Int) (c : List aA) (d e : Int) : Ro := kb N a b c d e (fun z => aQ N (jf N) z) (fun z => aQ N (ep N) z)
def akG (N : Nat) : List (Nat × (St → Ro)) := ba fg N tj (fin ka) ++ []
theorem aig (N : Nat) (a : Bs) (c : Int) (d : List aA) (e f : Int) : aW fg N 207 ka tj [.ptr 0 0, .agg [.sl .atype (.may false) d], .int .i64 e, .int .i64 f] [some [.sl .u8 (.may false) a, .int .i64 c]] = tl N a c d e f :=
 (bL (akG N) (by kernel_rfl) rfl (fun C => kb N a c d e f (fun z => C 1000000 (hY z)) (fun z => C 1000001 (hZ z))) (fun C => by kernel_rfl)).trans (Eq.trans (b := kb N a c d e f (fun z => bg N (rL N) (hY z)) (fun z => bg N (rM N) (hZ z))) (by kernel_rfl) (congr (congrArg (kb N a c d e f) (funext fun z => bc (hY) (rL N) (jf N) (agL N) N z)) (funext fun z => bc (hZ) (rM N) (ep N) (agM N) N z)))
theorem aih (N : Nat) (a : Bs) (b : Int) (c : List aA) (f g : Int) (h : Tot (tl N a b c f g) (fun z => ∃ (i : aB) (j : Bool) (d : Bs) (e : Int) (rest : List aK), z.1.dimR = .tup [.agg (enc .aval i), .bool j] ∧ z.2 = some [.sl .u8 (.may false) d, .int .i64 e] :: rest ∧ cG a b c f g (i, j, d, e))) : ∃ r, cB a b c f g r := by
 obtain ⟨⟨v, hp⟩, hz, i, j, d, e, rest, e1, e2, hq⟩ := h
 simp only at e1 e2
 subst e2
 exact ⟨(i, j, d, e), bk.dimR (FnC.objs (css := [[.sl .u8 (.may false) a, .int .i64 b]]) (css' := [[.sl .u8 (.may false) d, .int .i64 e]]) ajP (aig N a b c f g) hz rfl) e1, hq⟩
end Go.Proofs.Ytdpajabhmmmjoaa
end
noncomputable section
namespace Go.Proofs.Ytdpajabhmmmjoaa
open Go.AM
set_option autoImplicit false
set_option linter.unusedVariables false
set_option linter.unusedSimpArgs false
set_option maxRecDepth 100000
theorem asB : ∀ k, 12000000 ≤ bW k
 | 0 => Nat.le_refl _
 | k + 1 => by have := asB k; simp only [bW]; omega
theorem ajQ : ∀ l : List aB, 40 * l.length ≤ wL l
 | [] => by simp
 | .mk n s l ks b :: m => by have := ajQ m; simp only [wL, wV, List.length_cons]; omega
theorem ajR {a b c : Bool} (h : (a && b) = true) (hc : c = true) : (c && b) = true := by
 cases a <;> cases b <;> simp_all
section
variable {ts : List aA} {t : Int}
theorem axJ {m : Nat} (hk : iQ m (ts.getD t.toNat (aC .atype))) (hq : (ts.getD t.toNat (aC .atype)).kind = 2 ∨ (ts.getD t.toNat (aC .atype)).kind = 3 ∨ (ts.getD t.toNat (aC .atype)).kind = 4 ∨ (ts.getD t.toNat (aC .atype)).kind = 5 ∨ (ts.getD t.toNat (aC .atype)).kind = 6 ∨ (ts.getD t.toNat (aC .atype)).kind = 10)
  {n x : Int} {s : List UInt8} {l : List aB} {ks : List (List UInt8)} {b : Int} (h : aZ ts t (.mk n s l ks b) = true) (hx : ru (ts.getD t.toNat (aC .atype)).kind (ts.getD t.toNat (aC .atype)).syms x = true) : aZ ts t (.mk x s l ks b) = true := by
 rw [aZ, Bool.and_eq_true] at h ⊢
 refine ⟨h.1, ?_⟩
 have h := h.2
 generalize ts.getD t.toNat (aC .atype) = k at *
 rcases hq with e | e | e | e | e | e <;> simp only [e] at h hx ⊢
 ·exact ajR (a := ru 2 k.syms n) (b := bR 0 s l ks b) h hx
 ·exact ajR (a := ru 3 k.syms n) (b := bR 0 s l ks b) h hx
 ·exact ajR (a := ru 4 k.syms n) (b := bR 0 s l ks b) h hx
 ·exact ajR (a := ru 5 k.syms n) (b := bR 0 s l ks b) h hx
 ·exact ajR (a := ru 6 k.syms n) (b := bR 0 s l ks b) h hx
 ·exact ajR (a := ru 10 k.syms n) (b := bR 0 s l ks b) h hx
theorem aw0 {m : Nat} (hk : iQ m (ts.getD t.toNat (aC .atype))) (hq : (ts.getD t.toNat (aC .atype)).kind = 7 ∨ (ts.getD t.toNat (aC .atype)).kind = 8)
  {n : Int} {s x : List UInt8} {l : List aB} {ks : List (List UInt8)} {b : Int} (h : aZ ts t (.mk n s l ks b) = true) (hx : wP (ts.getD t.toNat (aC .atype)).kind (ts.getD t.toNat (aC .atype)).size x = true) : aZ ts t (.mk n x l ks b) = true := by
 rw [aZ, Bool.and_eq_true] at h ⊢
 refine ⟨h.1, ?_⟩
 have h := h.2
 generalize ts.getD t.toNat (aC .atype) = k at *
 rcases hq with e | e <;> simp only [e] at h hx ⊢
 ·exact ajR (a := wP 7 k.size s) (b := bR n [] l ks b) h hx
 ·exact ajR (a := wP 8 k.size s) (b := bR n [] l ks b) h hx
theorem akh {n : Int} {s : List UInt8} {l : List aB} {ks : List (List UInt8)} {b : Int} (h : bR n s l ks b = true) : n = 0 ∧ s = [] ∧ l = [] ∧ ks = [] ∧ b = 0 := by
 simp only [bR, Bool.and_eq_true, beq_iff_eq, decide_eq_true_eq] at h
 obtain ⟨h1, h2, h3, h4, h5⟩ := h
 exact ⟨h1, h2, List.length_eq_zero_iff.1 (by omega), List.length_eq_zero_iff.1 (by omega), h5⟩
theorem ay7 (e : (ts.getD t.toNat (aC .atype)).kind = 9) {n : Int} {s : List UInt8} {l : List aB} {ks : List (List UInt8)} {b : Int} (h : aZ ts t (.mk n s l ks b) = true) : n = 0 ∧ s = [] ∧ ks = [] ∧ b = 0 := by
 rw [aZ, Bool.and_eq_true] at h
 have h := h.2
 simp only [e] at h
 have h : ((decide (l.length = (ts.getD t.toNat (aC .atype)).fields.length) && gq ts (ts.getD t.toNat (aC .atype)).fields l) && bR n s [] ks b) = true := h
 have := akh (Bool.and_eq_true_iff.1 h).2
 exact ⟨this.1, this.2.1, this.2.2.2.1, this.2.2.2.2⟩
theorem ayo (e : (ts.getD t.toNat (aC .atype)).kind = 12) {n : Int} {s : List UInt8} {l : List aB} {ks : List (List UInt8)} {b : Int} (h : aZ ts t (.mk n s l ks b) = true) : n = 0 ∧ s = [] ∧ ks = [] ∧ b = 0 := by
 rw [aZ, Bool.and_eq_true] at h
 have h := h.2
 simp only [e] at h
 have h : (br ts (ts.getD t.toNat (aC .atype)).items l && bR n s [] ks b) = true := h
 have := akh (Bool.and_eq_true_iff.1 h).2
 exact ⟨this.1, this.2.1, this.2.2.2.1, this.2.2.2.2⟩
theorem ayp (e : (ts.getD t.toNat (aC .atype)).kind = 13) {n : Int} {s : List UInt8} {l : List aB} {ks : List (List UInt8)} {b : Int} (h : aZ ts t (.mk n s l ks b) = true) : n = 0 ∧ s = [] ∧ b = 0 := by
 rw [aZ, Bool.and_eq_true] at h
 have h := h.2
 simp only [e] at h
 have h : ((((ks.length : Int) == (l.length : Int)) && (ey ks && br ts (ts.getD t.toNat (aC .atype)).items l)) && bR n s [] [] b) = true := h
 have := akh (Bool.and_eq_true_iff.1 h).2
 exact ⟨this.1, this.2.1, this.2.2.2.2⟩
theorem ayq (e : (ts.getD t.toNat (aC .atype)).kind = 14) {n : Int} {s : List UInt8} {l : List aB} {ks : List (List UInt8)} {b : Int} (h : aZ ts t (.mk n s l ks b) = true) : n = 0 ∧ s = [] ∧ ks = [] := by
 rw [aZ, Bool.and_eq_true] at h
 have h := h.2
 simp only [e] at h
 have h : ((decide (0 ≤ b) && (decide (b < ((ts.getD t.toNat (aC .atype)).branches.length : Int)) && (((l.length : Int) == 1) && br ts ((ts.getD t.toNat (aC .atype)).branches.getD b.toNat 0) l))) && bR n s [] ks 0) = true := h
 have := akh (Bool.and_eq_true_iff.1 h).2
 exact ⟨this.1, this.2.1, this.2.2.2.1⟩
theorem axK (ht : isT ts t = true) (e : (ts.getD t.toNat (aC .atype)).kind = 12) {l : List aB} (h : br ts (ts.getD t.toNat (aC .atype)).items l = true) : aZ ts t (.mk 0 [] l [] 0) = true := by
 rw [aZ, ht]
 simp only [Bool.true_and]
 rw [e]
 show (br ts (ts.getD t.toNat (aC .atype)).items l && true) = true
 rw [h]; rfl
theorem axL (ht : isT ts t = true) (e : (ts.getD t.toNat (aC .atype)).kind = 13) {l : List aB} {ks : List (List UInt8)} (hl : ks.length = l.length) (hk : ey ks = true) (h : br ts (ts.getD t.toNat (aC .atype)).items l = true) : aZ ts t (.mk 0 [] l ks 0) = true := by
 rw [aZ, ht]
 simp only [Bool.true_and]
 rw [e]
 show ((((ks.length : Int) == (l.length : Int)) && (ey ks && br ts (ts.getD t.toNat (aC .atype)).items l)) && true) = true
 rw [h, hk, hl]; simp
end
theorem aoj {ts : List aA} {t : Int} (h : vY ts t = true) : 0 ≤ t ∧ t < ts.length ∧ 0 ≤ rk (rkS ts) t ∧ rk (wtS ts) t ≤ 2000 := by
 simp only [vY, isT, Bool.and_eq_true, decide_eq_true_eq] at h; omega
theorem awa {ts : List aA} (hs : dm ts) {t : Int} (h : vY ts t = true) (h9 : (ts.getD t.toNat (aC .atype)).kind = 9) {f : aM} (hf : f ∈ (ts.getD t.toNat (aC .atype)).fields) : vY ts f.typ = true := by
 obtain ⟨h1, h2, h3, h4⟩ := aoj h
 have hR := atY ts hs
 have hW := awY ts hs
 have hrl := hR.len
 have hk := hs.at (i := t.toNat) (by omega)
 have h3' : 0 ≤ (rkS ts).getD t.toNat 0 := h3
 have hp : 1 ≤ (rkS ts).getD t.toNat 0 := by
  by_cases h0 : (rkS ts).getD t.toNat 0 = 0
  ·exact absurd h9 (hR.nul t.toNat (by omega) h0).1
  ·omega
 have hro := hR.ok t.toNat (by omega) hp
 have hrc := hro.rcd (by omega)
 have hty := hk.fields f hf
 have hpos : ∀ g ∈ (ts.getD t.toNat (aC .atype)).fields, 0 ≤ rk (wtS ts) g.typ := fun g hg => by
  have hg1 := hrc g hg
  have hg2 := hk.fields g hg
  have := (hW.ok g.typ.toNat (by omega) hg1.1).pos
  unfold rk; omega
 have hle := aml hpos f hf
 have hwt := (hW.ok t.toNat (by omega) h3').rcd h9
 have h4' : (wtS ts).getD t.toNat 0 ≤ 2000 := h4
 have hfr := (hrc f hf).1
 simp only [vY, isT, Bool.and_eq_true, decide_eq_true_eq]
 exact ⟨⟨hty.1, hty.2.1⟩, hfr, by omega⟩
theorem aqW (m : Int) (h : 0 ≤ m ∧ m < 5) : cZ (([107] : List UInt8) ++ [UInt8.ofNat (Int.toNat (IntKind.wrap .u8 (IntKind.wrap .i64 (97 + m))))]) = true := by
 have : m = 0 ∨ m = 1 ∨ m = 2 ∨ m = 3 ∨ m = 4 := by omega
 rcases this with rfl | rfl | rfl | rfl | rfl <;> decide
def afz (ts : List aA) (deep : Int) : Prop := ∀ (l : List UInt8) (n t : Int), fe l n → ∃ r, cB l n ts t deep r
theorem axM (ts : List aA) (hs : dm ts) (deep : Int) (hd : 0 ≤ deep ∧ deep ≤ 5) (hV : afz ts (deep + 1)) (t : Int) (hL : vY ts t = true) (h9 : (ts.getD t.toNat (aC .atype)).kind = 9) (a0 a4 : Int) (a1 : List UInt8) (a2 : List aB) (a3 : List (List UInt8)) (kf : Bool) (l : List UInt8) (n : Int) (hp : fe l n) :
  Tot (aQ 1000 (jf 1000) (deep, ts, ts.getD t.toNat (aC .atype), 0, l, n, a0, a1, a2, a3, a4, 0, [], [], kf, [], 0)) (fun z => ∃ (y0 : aB) (y1 : Bool) (y2 : Bs) (y3 : Int) (rest : List aK), z.1.dimR = .tup [.agg (enc .aval y0), .bool y1] ∧ z.2 = some [.sl .u8 (.may false) y2, .int .i64 y3] :: rest ∧ cG l n ts t deep (y0, y1, y2, y3)) := by
 obtain ⟨t1, t2, -, -⟩ := aoj hL
 have hk := hs.at (i := t.toNat) (by omega)
 have hnf := hk.nf
 have hfl : ∀ f ∈ (ts.getD t.toNat (aC .atype)).fields, vY ts f.typ = true := fun f hf => awa hs hL h9 hf
 have ed : IntKind.i64.wrap (deep + 1) = deep + 1 := aJ (deep + 1) (by omega)
 generalize hkk : ts.getD t.toNat (aC .atype) = k at *
 have hbw : bW (6 - deep.toNat) = 8 * bW (6 - (deep + 1).toNat) + 1000 := by
  have : 6 - deep.toNat = (6 - (deep + 1).toNat) + 1 := by omega
  rw [this]; rfl
 refine be (fun x => match x with
  | (d, ts', k', i, l', n', b0, b1, b2, b3, b4, c0, c1, c2, cf, c3, c4) => d = deep ∧ ts' = ts ∧ k' = k ∧ 0 ≤ i ∧ i ≤ (k.fields.length : Int) ∧ l' = l ∧ fe l n' ∧ c0 = 0 ∧ c1 = [] ∧ c3 = [] ∧ c4 = 0 ∧ (c2.length : Int) = i ∧ gq ts (k.fields.take i.toNat) c2 = true ∧ wL c2 ≤ i.toNat * bW (6 - (deep + 1).toNat))
  (fun x => ((k.fields.length : Int) - x.2.2.2.1).toNat) ?_ _ _ ⟨rfl, rfl, rfl, by simp, by simp, rfl, hp, rfl, rfl, rfl, rfl, rfl, rfl, by simp [wL]⟩ (by simp; omega)
 rintro again ⟨d, ts', k', i, l', n', b0, b1, b2, b3, b4, c0, c1, c2, cf, c3, c4⟩ ⟨rfl, rfl, rfl, i1, i2, rfl, i3, rfl, rfl, rfl, rfl, i4, i5, i6⟩ ih
 dsimp only at ih
 unfold jf
 dsimp only
 rw [ed]
 refine aF (fun h => ?_) (fun h => ?_)
 ·have h := of_decide_eq_true h
  have hi : i.toNat < k'.fields.length := by omega
  have hmem := ip k'.fields i.toNat (aC .afield) hi
  have htk := adr k'.fields i.toNat (aC .afield) hi
  have hff := hfl _ hmem
  generalize k'.fields.getD i.toNat (aC .afield) = f at *
  refine vck ?_
  refine aD (hV l' n' f.typ i3) ?_
  rintro ⟨v, is, l2, n2⟩ ⟨-, q1, q2, q3, q4⟩
  dsimp only at q1 q2 q3 q4 ⊢
  subst q3
  obtain ⟨q5, q6⟩ := q2 (by rw [q1]; exact hff)
  have ei : IntKind.i64.wrap (i + 1) = i + 1 := aJ (i + 1) (by omega)
  have eit : (i + 1).toNat = i.toNat + 1 := by omega
  refine vck ?_
  refine ih (d, ts', k', _, l2, n2, b0, b1, b2, b3, b4, 0, [], _, cf, [], 0) ?_ (by simp only [ei]; omega)
  simp only [ei, eu]
  rw [eit, htk]
  refine ⟨trivial, trivial, trivial, by omega, by omega, trivial, q4, trivial, trivial, trivial, trivial, by simp; omega, ajN ts' _ _ _ _ (by simp; omega) i5 q5, ?_⟩
  rw [aca, Nat.add_mul]
  simp only [wL]; omega
 ·have h := of_decide_eq_false h
  rw [List.take_of_length_le (by omega)] at i5
  refine aG ⟨.mk 0 [] c2 [] 0, _, _, _, _, rfl, rfl, hL.symm, fun _ => ⟨atW ts' t (ajM ⟨t1, t2⟩) (by rw [hkk]; exact h9) c2 (by rw [hkk]; omega) (by rw [hkk]; exact i5), ?_⟩, rfl, i3⟩
  have : i.toNat * bW (6 - (d + 1).toNat) ≤ 8 * bW (6 - (d + 1).toNat) := Nat.mul_le_mul_right _ (by omega)
  simp only [wV, yU, List.length_nil]
  omega
theorem aok (ts : List aA) (hs : dm ts) (deep : Int) (hd : 0 ≤ deep ∧ deep ≤ 5) (hV : afz ts (deep + 1)) (t : Int) (hL : vY ts t = true) (hkd : (ts.getD t.toNat (aC .atype)).kind = 12 ∨ (ts.getD t.toNat (aC .atype)).kind = 13) (a0 a4 : Int) (a1 : List UInt8) (a2 : List aB) (a3 : List (List UInt8)) (kf : Bool) (l : List UInt8) (n m : Int) (hm : 0 ≤ m ∧ m ≤ 3) (hp : fe l n) :
  Tot (aQ 1000 (ep 1000) (Sum.inl (deep, ts, ts.getD t.toNat (aC .atype), m, l, n, a0, a1, a2, a3, a4, 0, [], true, [], kf, [], 0))) (fun z => ∃ (y0 : aB) (y1 : Bool) (y2 : Bs) (y3 : Int) (rest : List aK), z.1.dimR = .tup [.agg (enc .aval y0), .bool y1] ∧ z.2 = some [.sl .u8 (.may false) y2, .int .i64 y3] :: rest ∧ cG l n ts t deep (y0, y1, y2, y3)) := by
 obtain ⟨t1, t2, -, -⟩ := aoj hL
 have hT := ajM ⟨t1, t2⟩
 have hk := hs.at (i := t.toNat) (by omega)
 have ed : IntKind.i64.wrap (deep + 1) = deep + 1 := aJ (deep + 1) (by omega)
 generalize hkk : ts.getD t.toNat (aC .atype) = k at *
 have hbw : bW (6 - deep.toNat) = 8 * bW (6 - (deep + 1).toNat) + 1000 := by
  have : 6 - deep.toNat = (6 - (deep + 1).toNat) + 1 := by omega
  rw [this]; rfl
 have hbg := asB (6 - (deep + 1).toNat)
 generalize hB : bW (6 - (deep + 1).toNat) = W at *
 have fin : ∀ (c2 : List aB) (c3 : List (List UInt8)), ((k.kind = 12 ∧ c3 = []) ∨ (k.kind = 13 ∧ c3.length = c2.length ∧ ey c3 = true)) → br ts k.items c2 = true → wL c2 ≤ 3 * W → cL c3 ≤ 100 → av8 ts t (.mk 0 [] c2 c3 0) (bW (6 - deep.toNat)) := fun c2 c3 h1 h2 h3 h4 => by
  refine ⟨?_, ?_⟩
  ·rcases h1 with ⟨e, rfl⟩ | ⟨e, h5, h6⟩
   ·exact axK hT (by rw [hkk]; exact e) (by rw [hkk]; exact h2)
   ·exact axL hT (by rw [hkk]; exact e) h5 h6 (by rw [hkk]; exact h2)
  ·rw [hbw]; simp only [wV, List.length_nil]; omega
 have hkey : ∀ c : UInt8, cL [([107] : List UInt8) ++ [c]] = 12 := fun c => rfl
 refine be (fun x => match x with
  | .inl (d, ts', k', i, l', n', b0, b1, b2, b3, b4, c0, c1, lf, c2, cf, c3, c4) => d = deep ∧ ts' = ts ∧ k' = k ∧ 0 ≤ i ∧ i ≤ 3 ∧ l' = l ∧ fe l n' ∧ c0 = 0 ∧ c1 = [] ∧ c4 = 0 ∧ lf = true ∧ c2 = [] ∧ c3 = []
  | .inr (.inl (d, ts', k', i, l', n', b0, b1, b2, b3, b4, c0, c1, c2, cf, c3, c4)) => d = deep ∧ ts' = ts ∧ k' = k ∧ 0 ≤ i ∧ i ≤ 3 ∧ l' = l ∧ fe l n' ∧ c0 = 0 ∧ c1 = [] ∧ c4 = 0 ∧ k.kind = 12 ∧ c3 = [] ∧ (c2.length : Int) + i ≤ 3 ∧ br ts k.items c2 = true ∧ wL c2 + i.toNat * W ≤ 3 * W
  | .inr (.inr (d, ts', k', i, l', n', b0, b1, b2, b3, b4, c0, c1, c2, c3, c4)) => d = deep ∧ ts' = ts ∧ k' = k ∧ 0 ≤ i ∧ i ≤ 3 ∧ l' = l ∧ fe l n' ∧ c0 = 0 ∧ c1 = [] ∧ c4 = 0 ∧ k.kind = 13 ∧ c3.length = c2.length ∧ (c2.length : Int) + i ≤ 3 ∧ br ts k.items c2 = true ∧ wL c2 + i.toNat * W ≤ 3 * W ∧ ey c3 = true ∧ cL c3 + 12 * i.toNat ≤ 36)
  (fun x => match x with
  | .inl (d, ts', k', i, _) => i.toNat
  | .inr (.inl (d, ts', k', i, _)) => i.toNat
  | .inr (.inr (d, ts', k', i, _)) => i.toNat) ?_ _ _ ⟨rfl, rfl, rfl, hm.1, hm.2, rfl, hp, rfl, rfl, rfl, rfl, rfl, rfl⟩ (by simp only; omega)
 have mulW : ∀ i : Int, 0 < i → (i - 1).toNat * W + W = i.toNat * W := fun i hi => by
  have : i.toNat = (i - 1).toNat + 1 := by omega
  rw [this, Nat.add_mul]; omega
 rintro again (⟨d, ts', k', i, l', n', b0, b1, b2, b3, b4, c0, c1, lf, c2, cf, c3, c4⟩ | ⟨d, ts', k', i, l', n', b0, b1, b2, b3, b4, c0, c1, c2, cf, c3, c4⟩ | ⟨d, ts', k', i, l', n', b0, b1, b2, b3, b4, c0, c1, c2, c3, c4⟩)
 ·rintro ⟨rfl, rfl, rfl, i1, i2, rfl, i3, rfl, rfl, rfl, rfl, rfl, rfl⟩ ih
  dsimp only at ih
  unfold ep
  dsimp only
  rw [ed]
  have finish : ∀ (n2 : Int), fe l' n2 → cG l' n ts' t d (.mk 0 [] [] [] 0, true, l', n2) := fun n2 h2 => ⟨hL.symm, fun _ => fin [] [] (by rcases hkd with e | e; exact .inl ⟨e, rfl⟩; exact .inr ⟨e, rfl, rfl⟩) rfl (by simp [wL]) (by simp [cL]), rfl, h2⟩
  refine aF (fun h => ?_) (fun h => aG ⟨.mk 0 [] [] [] 0, _, _, _, _, rfl, rfl, finish _ i3⟩)
  have h0 := of_decide_eq_true h
  refine aD (hV l' n' k'.items i3) ?_
  rintro ⟨v, is, l2, n2⟩ ⟨-, q1, q2, q3, q4⟩
  dsimp only at q1 q2 q3 q4 ⊢
  subst q3
  refine aF (fun hn => aG ⟨.mk 0 [] [] [] 0, _, _, _, _, rfl, rfl, finish _ q4⟩) (fun hy => ?_)
  simp only [bnl] at hy
  obtain ⟨q5, q6⟩ := q2 hy
  rw [hB] at q6
  have ei : IntKind.i64.wrap (i - 1) = i - 1 := aJ (i - 1) (by omega)
  have hmw := mulW i h0
  have h3w : i.toNat * W ≤ 3 * W := Nat.mul_le_mul_right _ (by omega)
  refine aF (fun h12 => ?_) (fun h12 => ?_)
  ·simp only [bnl] at h12
   refine aU (by simp) ?_
   refine ih (.inr (.inl (d, ts', k', _, l2, n2, b0, b1, b2, b3, b4, 0, [], _, cf, [], 0))) ?_ (by simp only [ei]; omega)
   simp only [ei, eu, List.nil_append]
   refine ⟨trivial, trivial, trivial, by omega, by omega, trivial, q4, trivial, trivial, trivial, h12, trivial, by simp; omega, by simp [br, q5], by simp only [wL]; omega⟩
  ·simp only [bnl] at h12
   have h13 : k'.kind = 13 := by rcases hkd with e | e; exact absurd e h12; exact e
   refine aD (dF l2 n2 5 q4 (by omega) (by omega)) ?_
   rintro ⟨m2, l3, n3⟩ ⟨-, p1, p2, p3, p4⟩
   dsimp only at p1 p2 p3 p4 ⊢
   subst p3
   refine aU (by simp) ?_
   have hkv := aqW m2 ⟨p1, p2⟩
   refine aD (akf 0 [] [] [] 0 _ _ _ _ _ _ rfl (by simp)) ?_
   rintro ⟨x0, x1, x2, x3, x4⟩ ⟨-, r1, r2, r3, r4, r5, r6, r7, r8, r9⟩
   dsimp only at r1 r2 r3 r4 r5 r6 r7 r8 r9 ⊢
   subst r3; subst r4; subst r5
   refine ih (.inr (.inr (d, ts', k', _, l3, n3, b0, b1, b2, b3, b4, 0, [], x2, x3, 0))) ?_ (by simp only [ei]; omega)
   simp only [ei]
   have hrv : (aB.mk v.n v.s v.l v.keys v.branch) = v := eu v
   rw [hrv] at r6 r9
   simp only [List.length_nil, wL, cL, List.length_append, List.length_cons] at r2 r6 r7
   refine ⟨trivial, trivial, trivial, by omega, by omega, trivial, p4, trivial, trivial, trivial, h13, r1, by omega, r9 _ _ rfl q5, by omega, r8 rfl hkv, by omega⟩
 ·rintro ⟨rfl, rfl, rfl, i1, i2, rfl, i3, rfl, rfl, rfl, h12, rfl, i4, i5, i6⟩ ih
  dsimp only at ih
  unfold ep
  dsimp only
  rw [ed]
  have finish : ∀ (n2 : Int), fe l' n2 → cG l' n ts' t d (.mk 0 [] c2 [] 0, true, l', n2) := fun n2 h2 => ⟨hL.symm, fun _ => fin c2 [] (.inl ⟨h12, rfl⟩) i5 (by omega) (by simp [cL]), rfl, h2⟩
  refine aF (fun h => ?_) (fun h => aG ⟨.mk 0 [] c2 [] 0, _, _, _, _, rfl, rfl, finish _ i3⟩)
  have h0 := of_decide_eq_true h
  refine aD (hV l' n' k'.items i3) ?_
  rintro ⟨v, is, l2, n2⟩ ⟨-, q1, q2, q3, q4⟩
  dsimp only at q1 q2 q3 q4 ⊢
  subst q3
  refine aF (fun hn => aG ⟨.mk 0 [] c2 [] 0, _, _, _, _, rfl, rfl, finish _ q4⟩) (fun hy => ?_)
  simp only [bnl] at hy
  obtain ⟨q5, q6⟩ := q2 hy
  rw [hB] at q6
  have ei : IntKind.i64.wrap (i - 1) = i - 1 := aJ (i - 1) (by omega)
  have hmw := mulW i h0
  refine aF (fun _ => ?_) (fun hc => absurd h12 (by simp only [bnl] at hc; exact hc))
  refine vck ?_
  refine ih (.inr (.inl (d, ts', k', _, l2, n2, b0, b1, b2, b3, b4, 0, [], _, cf, [], 0))) ?_ (by simp only [ei]; omega)
  simp only [ei, eu]
  refine ⟨trivial, trivial, trivial, by omega, by omega, trivial, q4, trivial, trivial, trivial, h12, trivial, by simp; omega, by rw [adn, i5]; simp [br, q5], by rw [aca]; simp only [wL]; omega⟩
 ·rintro ⟨rfl, rfl, rfl, i1, i2, rfl, i3, rfl, rfl, rfl, h13, i7, i4, i5, i6, i8, i9⟩ ih
  dsimp only at ih
  unfold ep
  dsimp only
  rw [ed]
  have finish : ∀ (n2 : Int), fe l' n2 → cG l' n ts' t d (.mk 0 [] c2 c3 0, true, l', n2) := fun n2 h2 => ⟨hL.symm, fun _ => fin c2 c3 (.inr ⟨h13, i7, i8⟩) i5 (by omega) (by omega), rfl, h2⟩
  refine aF (fun h => ?_) (fun h => aG ⟨.mk 0 [] c2 c3 0, _, _, _, _, rfl, rfl, finish _ i3⟩)
  have h0 := of_decide_eq_true h
  refine aD (hV l' n' k'.items i3) ?_
  rintro ⟨v, is, l2, n2⟩ ⟨-, q1, q2, q3, q4⟩
  dsimp only at q1 q2 q3 q4 ⊢
  subst q3
  refine aF (fun hn => aG ⟨.mk 0 [] c2 c3 0, _, _, _, _, rfl, rfl, finish _ q4⟩) (fun hy => ?_)
  simp only [bnl] at hy
  obtain ⟨q5, q6⟩ := q2 hy
  rw [hB] at q6
  have ei : IntKind.i64.wrap (i - 1) = i - 1 := aJ (i - 1) (by omega)
  have hmw := mulW i h0
  refine aF (fun hc => ?_) (fun _ => ?_)
  ·simp only [bnl] at hc; omega
  refine aD (dF l2 n2 5 q4 (by omega) (by omega)) ?_
  rintro ⟨m2, l3, n3⟩ ⟨-, p1, p2, p3, p4⟩
  dsimp only at p1 p2 p3 p4 ⊢
  subst p3
  refine aU (by simp) ?_
  have hkv := aqW m2 ⟨p1, p2⟩
  refine aD (akf 0 [] c2 c3 0 _ _ _ _ _ _ i7 (by omega)) ?_
  rintro ⟨x0, x1, x2, x3, x4⟩ ⟨-, r1, r2, r3, r4, r5, r6, r7, r8, r9⟩
  dsimp only at r1 r2 r3 r4 r5 r6 r7 r8 r9 ⊢
  subst r3; subst r4; subst r5
  refine ih (.inr (.inr (d, ts', k', _, l3, n3, b0, b1, b2, b3, b4, 0, [], x2, x3, 0))) ?_ (by simp only [ei]; omega)
  simp only [ei]
  have hrv : (aB.mk v.n v.s v.l v.keys v.branch) = v := eu v
  rw [hrv] at r6 r9
  simp only [List.length_append, List.length_cons, List.length_nil] at r7
  refine ⟨trivial, trivial, trivial, by omega, by omega, trivial, p4, trivial, trivial, trivial, h13, r1, by omega, r9 _ _ i5 q5, by omega, r8 i8 hkv, by omega⟩
theorem aqX (ts : List aA) (hs : dm ts) (deep : Int) (hd : 0 ≤ deep ∧ deep ≤ 6) (hV : deep ≤ 5 → afz ts (deep + 1)) : afz ts deep := by
 intro l n t hp
 have ed : IntKind.i64.wrap (deep + 1) = deep + 1 := aJ (deep + 1) (by omega)
 apply aih 1000
 unfold tl kb
 refine aD (awZ ts hs t) ?_
 rintro ⟨n0, s0, lf, l0, kf, ks0, b0, is⟩ ⟨-, g1, g2⟩
 dsimp only at g1 g2 ⊢
 have hbg := asB (6 - deep.toNat)
 refine aF (fun h0 => ?_) (fun h0 => ?_)
 ·simp only [bnl] at h0
  exact aG ⟨.mk n0 s0 l0 ks0 b0, _, _, _, _, rfl, rfl, g1, fun hh => absurd hh (by simp [h0]), rfl, hp⟩
 simp only [bnl] at h0
 obtain ⟨⟨g3, g4⟩, g5⟩ := g2 h0
 have keep : av8 ts t (.mk n0 s0 l0 ks0 b0) (bW (6 - deep.toNat)) := ⟨g3, by omega⟩
 have hL : vY ts t = true := by rw [← g1]; exact h0
 refine aF (fun h5 => aG ⟨.mk n0 s0 l0 ks0 b0, _, _, _, _, rfl, rfl, g1, fun _ => keep, rfl, hp⟩) (fun h5 => ?_)
 have h5 := of_decide_eq_false h5
 have hV := hV (by omega)
 refine aD (atK l n) ?_
 rintro ⟨ov, l2, n2⟩ ⟨-, o1, o2⟩
 dsimp only at o1 o2 ⊢
 subst o1; subst o2
 refine aF (fun _ => aG ⟨.mk n0 s0 l0 ks0 b0, _, _, _, _, rfl, rfl, g1, fun _ => keep, rfl, hp⟩) (fun _ => ?_)
 obtain ⟨t1, t2, -, -⟩ := aoj hL
 have hT := ajM ⟨t1, t2⟩
 have hk := hs.at (i := t.toNat) (by omega)
 have hbw : bW (6 - deep.toNat) = 8 * bW (6 - (deep + 1).toNat) + 1000 := by
  have : 6 - deep.toNat = (6 - (deep + 1).toNat) + 1 := by omega
  rw [this]; rfl
 have hbg' := asB (6 - (deep + 1).toNat)
 refine vck ?_
 rw [ed]
 have num : ∀ (x n3 : Int), fe l2 n3 → ((ts.getD t.toNat (aC .atype)).kind = 2 ∨ (ts.getD t.toNat (aC .atype)).kind = 3 ∨ (ts.getD t.toNat (aC .atype)).kind = 4 ∨ (ts.getD t.toNat (aC .atype)).kind = 5 ∨ (ts.getD t.toNat (aC .atype)).kind = 6 ∨ (ts.getD t.toNat (aC .atype)).kind = 10) →
   ru (ts.getD t.toNat (aC .atype)).kind (ts.getD t.toNat (aC .atype)).syms x = true → cG l2 n2 ts t deep (.mk x s0 l0 ks0 b0, true, l2, n3) := fun x n3 h1 h2 h3 => ⟨hL.symm, fun _ => ⟨axJ hk h2 g3 h3, keep.2⟩, rfl, h1⟩
 have txt : ∀ (x : List UInt8) (n3 : Int), fe l2 n3 → ((ts.getD t.toNat (aC .atype)).kind = 7 ∨ (ts.getD t.toNat (aC .atype)).kind = 8) → x.length ≤ 4 →
   wP (ts.getD t.toNat (aC .atype)).kind (ts.getD t.toNat (aC .atype)).size x = true → cG l2 n2 ts t deep (.mk n0 x l0 ks0 b0, true, l2, n3) := fun x n3 h1 h2 h4 h3 => ⟨hL.symm, fun _ => ⟨aw0 hk h2 g3 h3, by simp only [wV] at g4 ⊢; omega⟩, rfl, h1⟩
 refine aF (fun h2 => ?_) (fun h2 => aF (fun h3 => ?_) (fun h3 => aF (fun h4 => ?_) (fun h4 => aF (fun h5 => ?_) (fun h5 => aF (fun h6 => ?_) (fun h6 => aF (fun h8 => ?_) (fun h8 => aF (fun h7 => ?_) (fun h7 => aF (fun h10 => ?_) (fun h10 => aF (fun h14 => ?_) (fun h14 => aF (fun h9 => ?_) (fun h9 => aF (fun h12 => ?_) (fun h12 => aF (fun h13 => ?_) (fun h13 => ?_))))))))))))
 ·have h2 : (ts.getD t.toNat (aC .atype)).kind = 2 := by simp only [bnl] at h2; exact h2
  refine aD (dF l2 n2 2 hp (by omega) (by omega)) ?_
  rintro ⟨m2, l3, n3⟩ ⟨-, p1, p2, p3, p4⟩
  dsimp only at p1 p2 p3 p4 ⊢
  subst p3
  refine aG ⟨.mk (IntKind.wrap .u64 m2) s0 l0 ks0 b0, _, _, _, _, rfl, rfl, num _ _ p4 (by omega) ?_⟩
  rw [h2, dY _ (by omega)]
  show decide (m2 ≤ 1) = true
  simp; omega
 ·have h3 : (ts.getD t.toNat (aC .atype)).kind = 3 := by simp only [bnl] at h3; exact h3
  refine aD (dF l2 n2 7 hp (by omega) (by omega)) ?_
  rintro ⟨m2, l3, n3⟩ ⟨-, p1, p2, p3, p4⟩
  dsimp only at p1 p2 p3 p4 ⊢
  subst p3
  refine vck (aG ⟨.mk _ s0 l0 ks0 b0, _, _, _, _, rfl, rfl, num _ _ p4 (by omega) ?_⟩)
  rw [h3]
  have : m2 = 0 ∨ m2 = 1 ∨ m2 = 2 ∨ m2 = 3 ∨ m2 = 4 ∨ m2 = 5 ∨ m2 = 6 := by omega
  rcases this with rfl | rfl | rfl | rfl | rfl | rfl | rfl <;> rfl
 ·have h4 : (ts.getD t.toNat (aC .atype)).kind = 4 := by simp only [bnl] at h4; exact h4
  refine aD (dF l2 n2 7 hp (by omega) (by omega)) ?_
  rintro ⟨m2, l3, n3⟩ ⟨-, p1, p2, p3, p4⟩
  dsimp only at p1 p2 p3 p4 ⊢
  subst p3
  refine vck (aG ⟨.mk _ s0 l0 ks0 b0, _, _, _, _, rfl, rfl, num _ _ p4 (by omega) ?_⟩)
  rw [h4]; rfl
 ·have h5 : (ts.getD t.toNat (aC .atype)).kind = 5 := by simp only [bnl] at h5; exact h5
  refine aD (dF l2 n2 7 hp (by omega) (by omega)) ?_
  rintro ⟨m2, l3, n3⟩ ⟨-, p1, p2, p3, p4⟩
  dsimp only at p1 p2 p3 p4 ⊢
  subst p3
  refine vck (aG ⟨.mk _ s0 l0 ks0 b0, _, _, _, _, rfl, rfl, num _ _ p4 (by omega) ?_⟩)
  rw [h5]
  have : m2 = 0 ∨ m2 = 1 ∨ m2 = 2 ∨ m2 = 3 ∨ m2 = 4 ∨ m2 = 5 ∨ m2 = 6 := by omega
  rcases this with rfl | rfl | rfl | rfl | rfl | rfl | rfl <;> rfl
 ·have h6 : (ts.getD t.toNat (aC .atype)).kind = 6 := by simp only [bnl] at h6; exact h6
  refine aD (dF l2 n2 5 hp (by omega) (by omega)) ?_
  rintro ⟨m2, l3, n3⟩ ⟨-, p1, p2, p3, p4⟩
  dsimp only at p1 p2 p3 p4 ⊢
  subst p3
  refine vck (aG ⟨.mk _ s0 l0 ks0 b0, _, _, _, _, rfl, rfl, num _ _ p4 (by omega) ?_⟩)
  rw [h6]; rfl
 ·have h8 : (ts.getD t.toNat (aC .atype)).kind = 8 := by simp only [bnl] at h8; exact h8
  refine aD (dF l2 n2 4 hp (by omega) (by omega)) ?_
  rintro ⟨m2, l3, n3⟩ ⟨-, p1, p2, p3, p4⟩
  dsimp only at p1 p2 p3 p4 ⊢
  subst p3
  have hm : m2 = 0 ∨ m2 = 1 ∨ m2 = 2 ∨ m2 = 3 := by omega
  refine vck (aG ⟨.mk n0 _ l0 ks0 b0, _, _, _, _, rfl, rfl, txt _ _ p4 (by omega) ?_ ?_⟩)
  ·rcases hm with rfl | rfl | rfl | rfl <;> decide
  ·rw [h8]
   rcases hm with rfl | rfl | rfl | rfl
   ·show cZ [] = true; decide
   ·show cZ [97] = true; decide
   ·show cZ [195, 164] = true; decide
   ·show cZ [116, 101, 120, 116] = true; decide
 ·have h7 : (ts.getD t.toNat (aC .atype)).kind = 7 := by simp only [bnl] at h7; exact h7
  refine aD (dF l2 n2 4 hp (by omega) (by omega)) ?_
  rintro ⟨m2, l3, n3⟩ ⟨-, p1, p2, p3, p4⟩
  dsimp only at p1 p2 p3 p4 ⊢
  subst p3
  have hm : m2 = 0 ∨ m2 = 1 ∨ m2 = 2 ∨ m2 = 3 := by omega
  refine vck (aG ⟨.mk n0 _ l0 ks0 b0, _, _, _, _, rfl, rfl, txt _ _ p4 (by omega) ?_ ?_⟩)
  ·rcases hm with rfl | rfl | rfl | rfl <;> decide
  ·rw [h7]; rfl
 ·have h10 : (ts.getD t.toNat (aC .atype)).kind = 10 := by simp only [bnl] at h10; exact h10
  have hsy : 0 < (ts.getD t.toNat (aC .atype)).syms.length := List.length_pos_iff.2 (hk.enum h10)
  have hns := hk.ns
  refine aD (dF l2 n2 _ hp (by omega) (by omega)) ?_
  rintro ⟨m2, l3, n3⟩ ⟨-, p1, p2, p3, p4⟩
  dsimp only at p1 p2 p3 p4 ⊢
  subst p3
  refine aG ⟨.mk (IntKind.wrap .u64 m2) s0 l0 ks0 b0, _, _, _, _, rfl, rfl, num _ _ p4 (by omega) ?_⟩
  rw [h10, dY _ (by omega)]
  show decide (m2 < IntKind.wrap .u64 ((ts.getD t.toNat (aC .atype)).syms.length : Int)) = true
  rw [dY _ (by omega)]
  exact decide_eq_true p2
 ·have h14 : (ts.getD t.toNat (aC .atype)).kind = 14 := by simp only [bnl] at h14; exact h14
  have hbr : 0 < (ts.getD t.toNat (aC .atype)).branches.length := List.length_pos_iff.2 (hk.done h14)
  have hnb := hk.nb
  refine aD (dF l2 n2 _ hp (by omega) (by omega)) ?_
  rintro ⟨m2, l3, n3⟩ ⟨-, p1, p2, p3, p4⟩
  dsimp only at p1 p2 p3 p4 ⊢
  subst p3
  refine vck ?_
  refine aD (hV l3 n3 _ p4) ?_
  rintro ⟨v, is2, l4, n4⟩ ⟨-, q1, q2, q3, q4⟩
  dsimp only at q1 q2 q3 q4 ⊢
  subst q3
  refine aF (fun hy => ?_) (fun hy => aG ⟨.mk n0 s0 l0 ks0 b0, _, _, _, _, rfl, rfl, hL.symm, fun _ => keep, rfl, q4⟩)
  obtain ⟨q5, q6⟩ := q2 hy
  obtain ⟨rfl, rfl, rfl⟩ := ayq h14 g3
  refine aG ⟨.mk 0 [] [reA v] [] m2, _, _, _, _, rfl, rfl, hL.symm, fun _ => ⟨?_, ?_⟩, rfl, q4⟩
  ·rw [eu]; exact atX ts t hT h14 m2 v ⟨p1, p2⟩ q5
  ·rw [eu, hbw]; simp only [wV, wL, yU, List.length_nil]; omega
 ·have h9 : (ts.getD t.toNat (aC .atype)).kind = 9 := by simp only [bnl] at h9; exact h9
  obtain ⟨rfl, rfl, rfl, rfl⟩ := ay7 h9 g3
  exact axM ts hs deep ⟨hd.1, by omega⟩ hV t hL h9 0 0 [] [] [] kf l2 n2 hp
 ·have h12 : (ts.getD t.toNat (aC .atype)).kind = 12 := by simp only [bnl] at h12; exact h12
  obtain ⟨rfl, rfl, rfl, rfl⟩ := ayo h12 g3
  obtain ⟨g6, g7⟩ := g5 (by omega)
  obtain ⟨g8, -⟩ := g7 (by omega)
  subst g6; subst g8
  refine aD (dF l2 n2 4 hp (by omega) (by omega)) ?_
  rintro ⟨m2, l3, n3⟩ ⟨-, p1, p2, p3, p4⟩
  dsimp only at p1 p2 p3 p4 ⊢
  subst p3
  exact aok ts hs deep ⟨hd.1, by omega⟩ hV t hL (.inl h12) 0 0 [] [] [] kf l3 n3 m2 ⟨p1, by omega⟩ p4
 ·have h13 : (ts.getD t.toNat (aC .atype)).kind = 13 := by simp only [bnl] at h13; exact h13
  obtain ⟨rfl, rfl, rfl⟩ := ayp h13 g3
  obtain ⟨g6, g7⟩ := g5 (by omega)
  obtain ⟨g8, g9⟩ := g7 (by omega)
  subst g6; subst g8; subst g9
  refine aD (dF l2 n2 4 hp (by omega) (by omega)) ?_
  rintro ⟨m2, l3, n3⟩ ⟨-, p1, p2, p3, p4⟩
  dsimp only at p1 p2 p3 p4 ⊢
  subst p3
  exact aok ts hs deep ⟨hd.1, by omega⟩ hV t hL (.inr h13) 0 0 [] [] [] kf l3 n3 m2 ⟨p1, by omega⟩ p4
 ·exact aG ⟨.mk n0 s0 l0 ks0 b0, _, _, _, _, rfl, rfl, hL.symm, fun _ => keep, rfl, hp⟩
theorem atZ (ts : List aA) (hs : dm ts) : ∀ (n : Nat) (deep : Int), deep + n = 6 → 0 ≤ deep → afz ts deep
 | 0, deep, h, h1 => aqX ts hs deep (by omega) (fun h' => by omega)
 | n + 1, deep, h, h1 => aqX ts hs deep (by omega) (fun _ => atZ ts hs n (deep + 1) (by omega) (by omega))
theorem axN (ts : List aA) (hs : dm ts) (l : List UInt8) (n t : Int) (hp : fe l n) : ∃ r, cB l n ts t 0 r := atZ ts hs 6 0 (by omega) (by omega) l n t hp
end Go.Proofs.Ytdpajabhmmmjoaa
end
noncomputable section
namespace Go.Proofs.Ytdpajabhmmmjoaa
open Go.AM
set_option autoImplicit false
set_option linter.unusedVariables false
def aqd (ts : List aA) (t : Int) (v : aB) (r : Bool) : Prop := r = aZ ts t v
def ik (v : aB) (how n : Int) (r : aB) : Prop := wV r ≤ wV v + 100
end Go.Proofs.Ytdpajabhmmmjoaa
end
noncomputable section
namespace Go.Proofs.Ytdpajabhmmmjoaa
open Go.AM
set_option autoImplicit false
set_option linter.unusedVariables false
set_option maxRecDepth 100000
abbrev afA : FuncId := 27
abbrev auY := Bool
noncomputable def zl (a : List aA) (b : Int) (c : aB) (r : auY) : Prop := aI Try.prog nN [.agg [.sl .atype (.may false) a], .int .i64 b, .agg (enc .aval c)] (.bool r) ∧ aqd a b c r
noncomputable def auZ : cb Try.prog := ⟨21, fun us => match us with
 | [.agg [.sl .atype (.may _) a], .int .i64 g, .agg [.int .u64 b, .str c, .sl .aval (.may _) d, .sl .str (.may _) e, .int .i64 f]] => let r := pick (zl a g (⟨b, c, d, e, f⟩)); some (can (zl a g (⟨b, c, d, e, f⟩)), .bool r)
 | _ => none, by
 intro _ _ h; split at h; exact bo h (fun h => h.1.dim rfl) rfl rfl; cases h⟩
abbrev aqe := aB
noncomputable def jt (a : aB) (b c : Int) (r : aqe) : Prop := aI Try.prog afA [.agg (enc .aval a), .int .u8 b, .int .u64 c] (.agg (enc .aval r)) ∧ ik a b c r
noncomputable def afB : cb Try.prog := ⟨27, fun us => match us with
 | [.agg [.int .u64 a, .str b, .sl .aval (.may _) c, .sl .str (.may _) d, .int .i64 e], .int .u8 f, .int .u64 g] => let r := pick (jt (⟨a, b, c, d, e⟩) f g); some (can (jt (⟨a, b, c, d, e⟩) f g), .agg (enc .aval r))
 | _ => none, by
 intro _ _ h; split at h; exact bo h (fun h => h.1.dim rfl) rfl rfl; cases h⟩
end Go.Proofs.Ytdpajabhmmmjoaa
end
noncomputable section
namespace Go.Proofs.Ytdpajabhmmmjoaa
open Go.AM
set_option autoImplicit false
set_option linter.unusedVariables false
set_option maxRecDepth 100000
noncomputable def ck : aN := tab (P := Try.prog) [] [] [] [afB]
def oE : IR := Cn 30 (Rs [Mv 31 1, Pp (.bin 32 .quo 31 (.c (.int .u8 3))), Pp (.cvi 33 .i64 32), Fa 34 2 7, Lo 35 34, Pp (.lnw 36 35), Bi 37 .rem 33 36, Mv 8 37] (Sq (.gh (.opn (.cell 1 2)) (.ghp (.cls (.cell 1 2)) (.reg [Fa 38 2 7, Fo [1] [] (.ld 39 1 false false 38), Mv 40 8, Fa 41 2 7, Fo [1] [] (.ld 42 1 false false 41), Mv 43 8, Pp (.ixw 44 .aval 42 43), Fo [2] [] (.ldw 45 5 true 44), Mv 46 1, Pp (.bin 47 .quo 46 (.c (.int .u8 3))), Mv 48 2, Ca 49 27 [45, 47, 48], Pp (.ixw 50 .aval 39 40), Fo [] [2] (.stw none 5 50 49)] [[], [0], [], [], [3], [], [3, 4, 5], rg 3 6, [], [8], [], rg 3 10, rg 0 11, rg 0 12]))) (Sq (.gh (.fz (.cell 1 3)) (.gh (.fz (.cell 1 2)) (Rg [Pp (.ld 51 5 true false 7), Sv 5 6 51]))) .ret))) .skip
def abi : IR := Sq (Rs [Mv 58 9, Mv 59 10, Bi 60 .lss 58 59] (Cn 60 .skip (.exit 1))) (Sq (.block 2 (.gh (.opn (.cell 1 3)) (.ghp (.cls (.cell 1 3)) (.reg [Fa 65 3 7, Fo [1] [] (.ld 66 1 false false 65), Mv 67 9, Fa 68 3 7, Fo [1] [] (.ld 69 1 false false 68), Mv 70 10, Fa 71 3 7, Fo [1] [] (.ld 72 1 false false 71), Mv 73 10, Pp (.ixw 74 .str 72 73), Fo [2] [] (.ldw 75 1 false 74), Fa 76 3 7, Fo [1] [] (.ld 77 1 false false 76), Mv 78 9, Pp (.ixw 79 .str 77 78), Fo [2] [] (.ldw 80 1 false 79), Pp (.ixw 81 .str 66 67), Fo [] [2] (.stw none 1 81 75), Pp (.ixw 82 .str 69 70), Fo [] [2] (.stw none 1 82 80)] [[], [0], [], [], [3], [], [], [6], [], [6, 7, 8], rg 6 9, [], [11], [], [11, 12, 13], rg 11 14, [0, 1, 2] ++ rg 6 15, [0, 1, 2] ++ rg 6 16, rg 0 17, rg 0 18])))) (Rg [Mv 61 9, Bc 62 .add 61 1, Mv 63 10, Bc 64 .sub 63 1, Mv 9 62, Mv 10 64]))
def zS : IR := Sq (.gh (.fz (.cell 1 3)) (.gh (.fz (.cell 1 2)) (Rg [Pp (.ld 127 5 true false 7), Sv 5 6 127]))) .ret
def nB : IR := Sq (Rs [Mv 52 2, Pp (.bin 53 .rem 52 (kU 7))] (.block 0 (Rs [Pp (.bin 84 .eql 53 (kU 0)), Mv 83 84] (Cn 83 (Rg [Mv 85 2, Pp (.bin 86 .quo 85 (kU 7)), Fa 87 0 7, Sv 1 87 86]) (Rs [Pp (.bin 89 .eql 53 (kU 1)), Mv 88 89] (Cn 88 (Rg [Fa 90 1 7, Lo 91 90, Pp (.bin 92 .add 91 (kS [255])), Fa 93 1 7, Sv 1 93 92]) (Rs [Pp (.bin 95 .eql 53 (kU 2)), Mv 94 95] (Cn 94 (Rg [Fa 96 2 7, Pp (.ld 97 1 false true 96), Pp (.bld 98 [vU 0, vS, fu .aval true, fu .str true, vI 0] []), Pp (.bsl 99 .aval [98] true), Pp (.apu 100 .aval (.tk 97) 99), Fa 101 2 7, Sk 1 101 100]) (Rs [Pp (.bin 103 .eql 53 (kU 3)), Mv 102 103] (Cn 102 (Rg [Fa 104 3 7, Pp (.ld 105 1 false true 104), Pp (.bsl 106 .str [kS [97]] true), Pp (.apu 107 .str (.tk 105) 106), Fa 108 3 7, Sk 1 108 107]) (Rs [Pp (.bin 110 .eql 53 (kU 4)), Mv 109 110] (Cn 109 (Rg [Mv 111 2, Pp (.bin 112 .quo 111 (kU 7)), Pp (.bin 113 .rem 112 (kU 5)), Pp (.cvi 114 .i64 113), Bc 115 .sub 114 1, Fa 116 4 7, Sv 1 116 115]) (Rs [Pp (.bin 118 .eql 53 (kU 5)), Mv 117 118] (Cn 117 (Rs [Fa 119 2 7, Lo 120 119, Pp (.lnw 121 120), Bc 122 .gtr 121 0] (Cn 122 (.gh (.fz (.cell 1 2)) (Rg [Fa 123 2 7, Lo 124 123, Pp (.subl 125 .aval 124 (some (kI 1)) none), Fa 126 2 7, Sk 1 126 125])) .skip)) (Sq (.reg [Fa 54 3 7, Fo [1] [] (.ld 55 1 false false 54), Pp (.lnw 56 55), Bc 57 .sub 56 1, Mi 9 0, Mv 10 57] [[], [0], [0, 1], [0, 1, 2], [], rg 0 4]) (.block 1 (.loop [6, 7, 9, 10, 1000001] 2 abi))))))))))))))))) zS
def tm : IR := .cut [2, 6, 7, 1000002] 2 nB
def xJ : IR := Rs [Bx 3 0, Pp (.new 6 [vU 0, vS, nl .aval, nl .str, vI 0])] (Rs [Ld 11 5 true 3, Pp (.new 7 [vU 0, vS, .ul .aval ([] : List aB), .ul .str ([] : Bss), vI 0]), Sv 5 7 11] (Sq (.reg [Pp (.blu 12 .aval), Fa 13 2 3, Lq 14 13, Pp (.apu 15 .aval (.tk 12) 14), Pp (.blu 16 .str), Fa 17 3 3, Lq 18 17, Pp (.apu 19 .str (.tk 16) 18), Fa 20 2 7, Fo [] [1] (.st none 1 20 (.tk 15)), Fa 21 3 7, Fo [] [1] (.st none 1 21 (.tk 19))] [[], [], [1], [0, 1, 2], [], [], [5], rg 0 6, rg 0 3, rg 0 8, rg 0 9, rg 0 10]) (Sq (Rs [Fa 22 2 7, Lo 23 22, Pp (.lnw 24 23), Bc 25 .gtr 24 0, Mv 26 25, Gt 26 (.mov 27 1), Gt 26 (.bin 28 .rem 27 (.c (.int .u8 3))), Gt 26 (.bin 29 .gtr 28 (.c (.int .u8 0))), Pa 30 26 29] (.cut [1, 2, 6, 7, 30, 1000000] 2 oE)) tm)))
def ez : List RV := [.cell 6 5 true]
theorem aol : FnC Try.prog ck [] 0 afA Try.f27 xJ ez := fnC (by kernel_rfl) Try.func27 (by kernel_rfl) (by kernel_rfl) (by decide)
abbrev ms : Type := (Int × Int × Bool × Int × Bs × List aB × Bss × Int × Int × Bs × List aB × Bss × Int)
def li : ms → St := fun (d, e, f, g, h, i, j, k, l, m, a, b, c) => { env := (.undef :: .int .u8 d :: .int .u64 e :: (U 3 (.ptr 0 0 :: .ptr 1 0 :: (U 22 (.bool f :: (U 97 [])))))), hp := [some [.int .u64 g, .str h, .sl .aval .own i, .sl .str .own j, .int .i64 k], some [.int .u64 l, .str m, .ul .aval a, .ul .str b, .int .i64 c]] }
def vZ (R : IR → (Ex → St → Ro) → St → Ro) : Ex → St → Ro := (bp (R tm) (fin ez))
abbrev mt : Type := (Int × Int × Bs × List aB × Bss × Int × Int × Bs × List aB × Bss × Int)
def il : mt → St := fun (b, c, d, e, f, g, h, i, j, k, a) => { env := (.undef :: .undef :: .int .u64 b :: (U 3 (.ptr 0 0 :: .ptr 1 0 :: (U 120 [])))), hp := [some [.int .u64 c, .str d, .sl .aval .own e, .sl .str .own f, .int .i64 g], some [.int .u64 h, .str i, .ul .aval j, .ul .str k, .int .i64 a]] }
def amz (R : IR → (Ex → St → Ro) → St → Ro) (a : St → Ro) : Ex → St → Ro := (bz a [6, 7, 9, 10, 1000001] 2 (aR 1 (aR 0 (bp (R zS) (fin ez)))))
abbrev mu : Type := (Int × Int × Int × Bs × List aB × Bss × Int × Int × Bs × List aB × Bss × Int)
def im : mu → St := fun (c, d, e, f, g, h, i, j, k, l, a, b) => { env := (U 6 (.ptr 0 0 :: .ptr 1 0 :: .undef :: .int .i64 c :: .int .i64 d :: (U 117 []))), hp := [some [.int .u64 e, .str f, .sl .aval .own g, .sl .str .own h, .int .i64 i], some [.int .u64 j, .str k, .ul .aval l, .ul .str a, .int .i64 b]] }
def qA (N : Nat) : (St → Ro) → St → Ro := fun a s => run ck N abi (amz (run ck N) a) s
def mv (N : Nat) (h : mu → Ro) : mu → Ro := fun (g, b, i, j, k, l, m, c, d, e, a, f) =>
 cond (decide (g < b)) (
 chk (decide (0 < List.length a)) (
 chk (decide (0 ≤ b) && decide (b < ↑(List.length a))) (
 chk (decide ((Int.toNat b) < List.length a)) (
 let p : Bs := List.getD a (Int.toNat b) (aC .str)
 chk (decide (0 ≤ g) && decide (g < ↑(List.length a))) (
 chk (decide ((Int.toNat g) < List.length a)) (
 let q : Bs := List.getD a (Int.toNat g) (aC .str)
 chk (decide (0 ≤ g) && decide (g < ↑(List.length a))) (
 chk (decide ((Int.toNat g) < List.length a)) (
 let n : Bss := (List.set a (Int.toNat g) p)
 chk (decide (0 ≤ b) && decide (b < ↑(List.length a))) (
 chk (decide ((Int.toNat b) < List.length n)) (
 let o : Bss := (List.set n (Int.toNat b) q)
 chk (Nat.beq (List.length a) (List.length o)) (
 let r : Int := (IntKind.wrap .i64 (g + 1))
 let s : Int := (IntKind.wrap .i64 (b - 1))
 h (r, s, i, j, k, l, m, c, d, e, o, f)))))))))))) (
 some (.agg [.int .u64 c, .str d, .sl .aval (.may false) e, .sl .str (.may false) a, .int .i64 f], [some [.int .u64 c, .str d, .sl .aval (.may false) e, .sl .str (.may false) a, .int .i64 f], some [.int .u64 c, .str d, .sl .aval .own e, .sl .str .own a, .int .i64 f]]))
theorem akH (N : Nat) : ∀ (a : St → Ro) (x : mu), qA N a (im x) = mv N (fun y => a (im y)) x := by
 intro a x
 kernel_rfl
def qB (N : Nat) : St → Ro := fun s => run ck N nB (fin ez) s
def oF (N : Nat) (w : mu → Ro) : mt → Ro := fun (f, m, n, o, p, q, d, c, a, b, e) =>
 cond ((Int.tmod f 7) == 0) (
 let g : Int := (IntKind.wrap .u64 (Int.tdiv f 7))
 some (.agg [.int .u64 g, .str c, .sl .aval (.may false) a, .sl .str (.may false) b, .int .i64 e], [some [.int .u64 g, .str c, .sl .aval (.may false) a, .sl .str (.may false) b, .int .i64 e], some [.int .u64 g, .str c, .sl .aval .own a, .sl .str .own b, .int .i64 e]])) (
 cond ((Int.tmod f 7) == 1) (
 chk (decide (List.length c + List.length ([255] : Bs) ≤ 9223372036854775807)) (
 let h : Bs := (c ++ ([255] : Bs))
 some (.agg [.int .u64 d, .str h, .sl .aval (.may false) a, .sl .str (.may false) b, .int .i64 e], [some [.int .u64 d, .str h, .sl .aval (.may false) a, .sl .str (.may false) b, .int .i64 e], some [.int .u64 d, .str h, .sl .aval .own a, .sl .str .own b, .int .i64 e]]))) (
 cond ((Int.tmod f 7) == 2) (
 chk (decide ((List.length a + List.length ([⟨0, ([] : Bs), ([] : List aB), ([] : Bss), 0⟩] : List aB)) * 80 ≤ 140737488355328)) (
 let i : List aB := (a ++ ([⟨0, ([] : Bs), ([] : List aB), ([] : Bss), 0⟩] : List aB))
 some (.agg [.int .u64 d, .str c, .sl .aval (.may false) i, .sl .str (.may false) b, .int .i64 e], [some [.int .u64 d, .str c, .sl .aval (.may false) i, .sl .str (.may false) b, .int .i64 e], some [.int .u64 d, .str c, .sl .aval .own i, .sl .str .own b, .int .i64 e]]))) (
 cond ((Int.tmod f 7) == 3) (
 chk (decide ((List.length b + List.length ([([97] : Bs)] : Bss)) * 16 ≤ 140737488355328)) (
 let j : Bss := (b ++ ([([97] : Bs)] : Bss))
 some (.agg [.int .u64 d, .str c, .sl .aval (.may false) a, .sl .str (.may false) j, .int .i64 e], [some [.int .u64 d, .str c, .sl .aval (.may false) a, .sl .str (.may false) j, .int .i64 e], some [.int .u64 d, .str c, .sl .aval .own a, .sl .str .own j, .int .i64 e]]))) (
 cond ((Int.tmod f 7) == 4) (
 let r : Int := (IntKind.wrap .u64 (Int.tdiv f 7))
 let s : Int := (IntKind.wrap .i64 (Int.tmod r 5))
 let k : Int := (IntKind.wrap .i64 (s - 1))
 some (.agg [.int .u64 d, .str c, .sl .aval (.may false) a, .sl .str (.may false) b, .int .i64 k], [some [.int .u64 d, .str c, .sl .aval (.may false) a, .sl .str (.may false) b, .int .i64 k], some [.int .u64 d, .str c, .sl .aval .own a, .sl .str .own b, .int .i64 k]])) (
 cond ((Int.tmod f 7) == 5) (
 let t : Int := (↑(List.length a) : Int)
 cond (decide (0 < t)) (
 chk (decide (0 ≤ 1) && decide (1 ≤ (↑(List.length a) : Int))) (
 let l : List aB := (List.drop (Int.toNat 1) (List.take (List.length a) a))
 some (.agg [.int .u64 d, .str c, .sl .aval (.may false) l, .sl .str (.may false) b, .int .i64 e], [some [.int .u64 d, .str c, .sl .aval (.may false) l, .sl .str (.may false) b, .int .i64 e], some [.int .u64 d, .str c, .sl .aval (.may false) l, .sl .str .own b, .int .i64 e]]))) (
 some (.agg [.int .u64 d, .str c, .sl .aval (.may false) a, .sl .str (.may false) b, .int .i64 e], [some [.int .u64 d, .str c, .sl .aval (.may false) a, .sl .str (.may false) b, .int .i64 e], some [.int .u64 d, .str c, .sl .aval .own a, .sl .str .own b, .int .i64 e]]))) (
 let u : Int := (↑(List.length b) : Int)
 let v : Int := (IntKind.wrap .i64 (u - 1))
 w (0, v, m, n, o, p, q, d, c, a, b, e)))))))
def mw (N : Nat) (x : mt) : Ro := oF N (fun z => aQ N (mv N) z) x
def acp (N : Nat) : List (Nat × (St → Ro)) := (ba ck N nB (fin ez) ++ [])
theorem akI (N : Nat) : ∀ (x : mt), qB N (il x) = mw N x := by
 intro x
 have hX : ∀ C : Nat → St → Ro, bQ C ck N nB (fin ez) (il x) = oF N (fun z => C 1000001 (im z)) x := by
  intro C
  kernel_rfl
 have h : qB N (il x) = oF N (fun z => bg N (qA N) (im z)) x := (ch (C := dA (acp N)) (bO (aX (l := (acp N)) (by kernel_rfl))) rfl _).trans ((hX _).trans (by kernel_rfl))
 have e2 : (fun z => bg N (qA N) (im z)) = (fun z => aQ N (mv N) z) := funext fun z => bc (im) (qA N) (mv N) (akH N) N z
 rw [h, e2]
 rfl
def wa (N : Nat) : St → Ro := fun s => run ck N oE (vZ (run ck N)) s
def oG (N : Nat) (q : mt → Ro) : ms → Ro := fun (n, o, m, h, i, j, k, l, b, c, a, d, e) =>
 cond m (
 let r : Int := (IntKind.wrap .u8 (Int.tdiv n 3))
 let p : Int := (↑(List.length a) : Int)
 chk (!(p == 0)) (
 let g : Int := (Int.tmod (IntKind.wrap .i64 r) p)
 chk (decide (0 < List.length a)) (
 chk (decide (0 ≤ g) && decide (g < ↑(List.length a))) (
 chk (decide ((Int.toNat g) < List.length a)) (
 let s : aB := (List.getD a (Int.toNat g) (aC .aval))
 let t : Int := (IntKind.wrap .u8 (Int.tdiv n 3))
 aH (jt (reA s) t o) (fun (u : aB) =>
 chk (decide (0 ≤ g) && decide (g < ↑(List.length a))) (
 chk (decide ((Int.toNat g) < List.length a)) (
 let f : List aB := (List.set a (Int.toNat g) (reA u))
 chk (Nat.beq (List.length a) (List.length f)) (
 some (.agg [.int .u64 b, .str c, .sl .aval (.may false) f, .sl .str (.may false) d, .int .i64 e], [some [.int .u64 b, .str c, .sl .aval (.may false) f, .sl .str (.may false) d, .int .i64 e], some [.int .u64 b, .str c, .sl .aval .own f, .sl .str .own d, .int .i64 e], none, none])))))))))) (
 q (o, h, i, j, k, l, b, c, a, d, e))
def qC (N : Nat) (x : ms) : Ro := oG N (fun z => mw N z) x
def wb (N : Nat) : List (Nat × (St → Ro)) := (ba ck N oE (vZ (run ck N)) ++ (ba ck N tm (fin ez) ++ []))
theorem akJ (N : Nat) : ∀ (x : ms), wa N (li x) = qC N x := by
 intro x
 have hX : ∀ C : Nat → St → Ro, bQ C ck N oE (vZ (bQ C ck N)) (li x) = oG N (fun z => C 1000002 (il z)) x := by
  intro C
  kernel_rfl
 have h : wa N (li x) = oG N (fun z => qB N (il z)) x := (ch (C := dA (wb N)) (bO (aX (l := (wb N)) (by kernel_rfl))) (eq (bO (da (aX (l := (wb N)) (by kernel_rfl)))) rfl) _).trans ((hX _).trans (by kernel_rfl))
 have e1 : (fun z => qB N (il z)) = (fun z => mw N z) := funext fun z => akI N z
 rw [h, e1]
 rfl
def nC (N : Nat) (a : aB) (b d : Int) (e : ms → Ro) : Ro :=
 chk (decide ((List.length ([] : List aB) + List.length a.l) * 80 ≤ 140737488355328)) (
 let c : List aB := (([] : List aB) ++ a.l)
 chk (decide ((List.length ([] : Bss) + List.length a.keys) * 16 ≤ 140737488355328)) (
 let f : Bss := (([] : Bss) ++ a.keys)
 let g : Int := (↑(List.length c) : Int)
 cond (decide (0 < g)) (
 let h : Bool := decide (0 < (Int.tmod b 3))
 e (b, d, h, 0, ([] : Bs), ([] : List aB), ([] : Bss), 0, a.n, a.s, c, f, a.branch)) (
 e (b, d, false, 0, ([] : Bs), ([] : List aB), ([] : Bss), 0, a.n, a.s, c, f, a.branch))))
def xK (N : Nat) (a : aB) (b c : Int) : Ro := nC N a b c (fun z => qC N z)
def aqf (N : Nat) : List (Nat × (St → Ro)) := ba ck N xJ (fin ez) ++ []
theorem amA (N : Nat) (a : aB) (c d : Int) : aW ck N 128 ez xJ [.agg (enc .aval a), .int .u8 c, .int .u64 d] [] = xK N a c d :=
 (bL (aqf N) (by kernel_rfl) rfl (fun C => nC N a c d (fun z => C 1000000 (li z))) (fun C => by kernel_rfl)).trans (Eq.trans (b := nC N a c d (fun z => wa N (li z))) (by kernel_rfl) (congrArg (nC N a c d) (funext fun z => akJ N z)))
theorem amB (N : Nat) (a : aB) (b c : Int) (h : Tot (xK N a b c) (fun z => ∃ (d : aB) (rest : List aK), z.1.dimR = .agg (enc .aval d) ∧ z.2 = rest ∧ ik a b c (d))) : ∃ r, jt a b c r := by
 obtain ⟨⟨v, hp⟩, hz, d, rest, e1, e2, hq⟩ := h
 simp only at e1 e2
 subst e2
 exact ⟨(d), aI.dimR (aol.pure (amA N a b c) hz) e1, hq⟩
end Go.Proofs.Ytdpajabhmmmjoaa
end
