import Derived.KernelRfl
import Derived.Test.YtdpajabhmmmjoaaZ02
import Derived.Test.YtdpajabhmmmjoaaZ03
import Derived.Test.YtdpajabhmmmjoaaZ04
import Derived.Test.YtdpajabhmmmjoaaZ06
noncomputable section
namespace Go.Proofs.Ytdpajabhmmmjoaa
open Go.AM
set_option autoImplicit false
set_option linter.unusedVariables false
set_option linter.unusedSimpArgs false
set_option maxRecDepth 100000
theorem aaC {P : Program} {f : FuncId} {vs : List V} {R : Type} {ret : R → V} {r0 : R} (h : (∀ x ∈ vs, x.fits) → ∃ r, aI P f vs (ret r) ∧ r = r0) : ∃ r, aI P f vs (ret r) ∧ r = r0 :=
 ⟨r0, aI.fits fun hf => by obtain ⟨r, h1, rfl⟩ := h hf; exact h1, rfl⟩
theorem anZ (s : List UInt8) : ∃ r, me s r := by
 refine aaC (ret := fun r => .bool r) fun hf => ?_
 have hs : s.length ≤ 9223372036854775807 := hf (.str s) (by simp)
 have hp : ∀ t : List UInt8, ∃ r, mg t r := fun t => by
  refine aaC (ret := fun (r : Int × Int) => .tup [.int .u32 r.1, .int .i64 r.2]) fun hf => ?_
  have ht : t.length ≤ 9223372036854775807 := hf (.str t) (by simp)
  exact adp 100 t ⟨_, abf 95 t ht, _, _, _, rfl, rfl, rfl⟩
 refine ank (s.length + 1) s ?_
 unfold z1 qT
 refine bq (fun x => x.length ≤ s.length ∧ dj x = dj s) (fun x => x.length) ?_ _ _ ⟨Nat.le_refl _, rfl⟩ (by omega)
 rintro again t ⟨h1, h2⟩ ih
 unfold tD
 dsimp only
 cases t with
 | nil =>
   simp only [List.length_nil]
   exact aE (fun h => by simp at h) (fun _ => aH ⟨_, _, rfl, rfl, h2⟩)
 | cons c t =>
   refine aE (fun _ => ?_) (fun h => by simp only [List.length_cons, decide_eq_false_iff_not] at h; omega)
   refine aF (hp _) ?_
   rintro ⟨c', n'⟩ ⟨-, hp'⟩
   have hle := anT (c :: t)
   have hv := aiS c t
   have hp' : (c', n') = eg (c :: t) := hp'
   rw [← hp'] at hle
   have hn : n' = ((fb (c :: t)).2 : Int) := congrArg Prod.snd hp'
   simp only [List.length_cons] at hle h1
   dsimp only at hle ⊢
   repeat' (first | (with_reducible refine aE ?_ ?_ <;> (intro hb; (try simp only [bnl] at hb); (try revert hb; intro _))) | with_reducible refine aU ?_ ?_ | with_reducible refine aH ?_ | fail)
   ·rename_i h
    rw [if_pos (by omega)] at hv
    exact ⟨_, _, rfl, rfl, by rw [wF, ← h2, hv]⟩
   ·simp only [bnl, List.length_cons]; exact hle
   ·rename_i h
    rw [if_neg (by omega)] at hv
    refine ih _ ⟨?_, ?_⟩ ?_
    ·simp only [List.length_drop, List.length_take, List.length_cons]; omega
    ·rw [List.take_length, hn, Int.toNat_natCast, ← hv, h2]
    ·simp only [List.length_drop, List.length_take, List.length_cons]; omega
def oo (ts : List aA) (kind items : Int) (fields : List aM) (l : List aB) (i : Nat) : Bool :=
 cond (kind == 9) (lA ts (fields.drop i) (l.drop i)) (bO ts items (l.drop i))
theorem at2 {α : Type} {l : List α} {i : Nat} {x d : α} (h : l[i]? = some x) : l.getD i d = x := by
 rw [List.getD_eq_getElem?_getD, h]; rfl
def ad0 (ts : List aA) (n : Nat) : Prop := ∀ (t m : Int) (s : List UInt8) (l : List aB) (ks : List (List UInt8)) (b : Int), szL l + 1 ≤ n → ∃ r, eV ts t m s l ks b r
theorem ae8 (ts : List aA) (n : Nat) (hF : ad0 ts n) (N : Nat) (k0 k3 : Int) (k8 : List aM) (l : List aB) (hl : l.length ≤ 9223372036854775807) (hN : l.length < N) (hs : szL l ≤ n) (hr : k0 = 9 → l.length = k8.length) (Q : V × List aL → Prop) (hQ : Q (.bool (oo ts k0 k3 k8 l 0), []))
  (B : ((List aA × Int × List UInt8 × List (List UInt8) × Int × List (List UInt8) × Bool × List UInt8 × Int × List aM × List Int × Int × List UInt8 × List aB × List (List UInt8) × Int × Int) → Option (V × List aL)) → (List aA × Int × List UInt8 × List (List UInt8) × Int × List (List UInt8) × Bool × List UInt8 × Int × List aM × List Int × Int × List UInt8 × List aB × List (List UInt8) × Int × Int) → Option (V × List aL))
  (hB : B = kT N ∨ B = nw N)
  (k1 : List UInt8) (k2 : List (List UInt8)) (k4 : List (List UInt8)) (k5 : Bool) (k6 : List UInt8) (k7 : Int) (k9 : List Int) (m : Int) (s : List UInt8) (ks : List (List UInt8)) (b : Int) :
  Tot (aS N B (ts, k0, k1, k2, k3, k4, k5, k6, k7, k8, k9, m, s, l, ks, b, 0)) Q := by
 refine bq (fun x => match x with | (ts', v0, v1, v2, v3, v4, v5, v6, v7, v8, v9, m', s', l', ks', b', i) => ts' = ts ∧ v0 = k0 ∧ v3 = k3 ∧ v8 = k8 ∧ l' = l ∧ 0 ≤ i ∧ i ≤ (l.length : Int) ∧ oo ts k0 k3 k8 l i.toNat = oo ts k0 k3 k8 l 0)
  (fun x => ((l.length : Int) - x.2.2.2.2.2.2.2.2.2.2.2.2.2.2.2.2).toNat) ?_ _ _ ⟨rfl, rfl, rfl, rfl, rfl, by simp, by simp, rfl⟩ (by simp; omega)
 rintro again ⟨ts', v0, v1, v2, v3, v4, v5, v6, v7, v8, v9, m', s', l', ks', b', i⟩ ⟨rfl, rfl, rfl, rfl, rfl, i1, i2, i3⟩ ih
 dsimp only at ih
 have eqB : B again (ts', v0, v1, v2, v3, v4, v5, v6, v7, v8, v9, m', s', l', ks', b', i) = kT N again (ts', v0, v1, v2, v3, v4, v5, v6, v7, v8, v9, m', s', l', ks', b', i) := by
  rcases hB with rfl | rfl <;> rfl
 rw [eqB]
 unfold kT
 dsimp only
 refine aE (fun h => ?_) (fun h => ?_)
 ·have h := of_decide_eq_true h
  have hil : i.toNat < l'.length := by omega
  have hsz := ac5 l' i.toNat hil
  have hsz2 := yK (l'.getD i.toNat (aC .aval))
  have ew : IntKind.i64.wrap (i + 1) = i + 1 := aJ (i + 1) (by omega)
  have et : (i + 1).toNat = i.toNat + 1 := by omega
  have next : oo ts' v0 v3 v8 l' (i.toNat + 1) = oo ts' v0 v3 v8 l' 0 → Tot (again (ts', v0, v1, v2, v3, v4, v5, v6, v7, v8, v9, m', s', l', ks', b', IntKind.i64.wrap (i + 1))) _ := fun hh => ih (ts', v0, v1, v2, v3, v4, v5, v6, v7, v8, v9, m', s', l', ks', b', IntKind.i64.wrap (i + 1))
   (by simp only [ew, et]; exact ⟨trivial, trivial, trivial, trivial, trivial, by omega, by omega, hh⟩) (by simp only [ew]; omega)
  have hd := gl l' i.toNat (aC .aval) hil
  refine aE (fun h9 => ?_) (fun h9 => ?_)
  ·have h9' : v0 = 9 := by simpa using h9
   have hlen := hr h9'
   refine vck (vck ?_)
   refine aF (hF _ _ _ _ _ _ (by omega)) ?_
   rintro _ ⟨-, rfl⟩
   have hfd := gl v8 i.toNat (aC .afield) (by omega)
   have step : oo ts' v0 v3 v8 l' i.toNat = (bu ts' (v8.getD i.toNat (aC .afield)).typ (l'.getD i.toNat (aC .aval)) && oo ts' v0 v3 v8 l' (i.toNat + 1)) := by
    simp only [oo, h9, cond_true]
    rw [hd, hfd]
    simp only [lA, List.headD_cons, List.tail_cons]
   rw [aB.eta]
   refine aE (fun hb => aH ?_) (fun hb => ?_)
   ·have hb' : bu ts' (v8.getD i.toNat (aC .afield)).typ (l'.getD i.toNat (aC .aval)) = false := by simpa using hb
    rw [step, hb', Bool.false_and] at i3
    rw [← i3] at hQ; exact hQ
   ·have hb' : bu ts' (v8.getD i.toNat (aC .afield)).typ (l'.getD i.toNat (aC .aval)) = true := by simpa using hb
    rw [step, hb', Bool.true_and] at i3
    exact next i3
  ·refine vck ?_
   refine aF (hF _ _ _ _ _ _ (by omega)) ?_
   rintro _ ⟨-, rfl⟩
   have step : oo ts' v0 v3 v8 l' i.toNat = (bu ts' v3 (l'.getD i.toNat (aC .aval)) && oo ts' v0 v3 v8 l' (i.toNat + 1)) := by
    simp only [oo, h9, cond_false]
    rw [hd]
    simp only [bO]
   rw [aB.eta]
   refine aE (fun hb => aH ?_) (fun hb => ?_)
   ·have hb' : bu ts' v3 (l'.getD i.toNat (aC .aval)) = false := by simpa using hb
    rw [step, hb', Bool.false_and] at i3
    rw [← i3] at hQ; exact hQ
   ·have hb' : bu ts' v3 (l'.getD i.toNat (aC .aval)) = true := by simpa using hb
    rw [step, hb', Bool.true_and] at i3
    exact next i3
 ·have h := of_decide_eq_false h
  have : i.toNat = l'.length := by omega
  rw [this] at i3
  have e : oo ts' v0 v3 v8 l' l'.length = true := by
   simp only [oo, List.drop_length]
   cases v0 == 9 <;> simp [lA, bO]
  rw [e] at i3
  refine aH ?_
  rw [← i3] at hQ; exact hQ
theorem atl (ts : List aA) (n : Nat) (hF : ad0 ts n) (k0 : Int) (k1 : List UInt8) (k2 : List (List UInt8)) (k3 : Int) (k4 : List (List UInt8)) (k5 : Bool) (k6 : List UInt8) (k7 : Int) (k8 : List aM) (k9 : List Int) (m : Int) (s : List UInt8) (l : List aB) (ks : List (List UInt8)) (b : Int) (hs : szL l ≤ n) :
  ∃ r, mV ts k0 k1 k2 k3 k4 k5 k6 k7 k8 k9 m s l ks b r := by
 refine aaC (ret := fun r => .bool r) fun hf => ?_
 have hl : l.length ≤ 9223372036854775807 := hf (.agg [.int .u64 m, .str s, .sl .aval (.may false) l, .sl .str (.may false) ks, .int .i64 b]) (by simp) (.sl .aval (.may false) l) (by simp)
 have hk : ks.length ≤ 9223372036854775807 := hf (.agg [.int .u64 m, .str s, .sl .aval (.may false) l, .sl .str (.may false) ks, .int .i64 b]) (by simp) (.sl .str (.may false) ks) (by simp)
 refine alE (l.length + ks.length + 2) _ _ _ _ _ _ _ _ _ _ _ _ _ _ _ _ ?_
 generalize hN : l.length + ks.length + 2 = N
 unfold yh pD
 dsimp only
 refine aE (fun h9 => aE (fun hb => aH ⟨_, _, rfl, rfl, ?_⟩) (fun hb => ?_)) (fun h9 => aE (fun h13 => aE (fun hb => aH ⟨_, _, rfl, rfl, ?_⟩) (fun hb => ?_)) (fun h13 => aE (fun h14 => ?_) (fun h14 => ?_)))
 ·have : ¬ l.length = k8.length := by simp at hb; omega
  simp only [dw, aaY, h9, cond_true, this, decide_false, Bool.false_and]
 ·have : l.length = k8.length := by simp at hb; omega
  refine ae8 ts n hF N k0 k3 k8 l hl (by omega) hs (fun _ => this) _ ⟨_, _, rfl, rfl, ?_⟩ _ (.inl rfl) _ _ _ _ _ _ _ _ _ _ _
  simp only [dw, aaY, oo, h9, cond_true, this, decide_true, Bool.true_and, List.drop_zero]
 ·have : ¬ (ks.length : Int) = l.length := by simp at hb; omega
  simp only [dw, aaY, h9, h13, cond_true, cond_false, beq_eq_false_iff_ne.2 this, Bool.false_and]
 ·have hlk : (l.length : Int) = ks.length := by simpa using hb
  have goalE : ∀ r : Bool, r = (eP ks && bO ts k3 l) → dw ts k0 k1 k2 k3 k4 k5 k6 k7 k8 k9 m s l ks b r := by
   intro r hr
   simp only [dw, aaY, h9, h13, cond_true, cond_false, hlk.symm, beq_self_eq_true, Bool.true_and]
   exact hr
  refine bq (fun x => match x with | (ts', v0, v1, v2, v3, v4, v5, v6, v7, v8, v9, m', s', l', ks', b', i) => ts' = ts ∧ v0 = k0 ∧ v3 = k3 ∧ v8 = k8 ∧ l' = l ∧ ks' = ks ∧ 0 ≤ i ∧ i ≤ (ks.length : Int) ∧ nP ks i.toNat = eP ks)
   (fun x => ((ks.length : Int) - x.2.2.2.2.2.2.2.2.2.2.2.2.2.2.2.2).toNat) ?_ _ _ ⟨rfl, rfl, rfl, rfl, rfl, rfl, by simp, by simp, rfl⟩ (by simp; omega)
  rintro again ⟨ts', v0, v1, v2, v3, v4, v5, v6, v7, v8, v9, m', s', l', ks', b', i⟩ ⟨rfl, rfl, rfl, rfl, rfl, rfl, i1, i2, i3⟩ ih
  dsimp only at ih
  unfold rY qj
  dsimp only
  refine aE (fun h => ?_) (fun h => ?_)
  ·have h := of_decide_eq_true h
   have ew : IntKind.i64.wrap (i + 1) = i + 1 := aJ (i + 1) (by omega)
   have et : (i + 1).toNat = i.toNat + 1 := by omega
   have hst := afn ks' i.toNat (by omega)
   rw [i3] at hst
   have next : nP ks' (i.toNat + 1) = eP ks' → Tot (again (ts', v0, v1, v2, v3, v4, v5, v6, v7, v8, v9, m', s', l', ks', b', IntKind.i64.wrap (i + 1))) _ := fun hh => ih (ts', v0, v1, v2, v3, v4, v5, v6, v7, v8, v9, m', s', l', ks', b', IntKind.i64.wrap (i + 1))
    (by simp only [ew, et]; exact ⟨trivial, trivial, trivial, trivial, trivial, trivial, by omega, by omega, hh⟩) (by simp only [ew]; omega)
   refine vck ?_
   refine aF (anZ _) ?_
   rintro _ ⟨-, rfl⟩
   change Tot (cond (!dj (ks'.getD i.toNat [])) _ _) _
   refine aE (fun hv => aH ⟨_, _, rfl, rfl, goalE _ ?_⟩) (fun hv => ?_)
   ·have hv : dj (ks'.getD i.toNat []) = false := by simpa using hv
    rw [hst, hv]; rfl
   ·have hv : dj (ks'.getD i.toNat []) = true := by simpa using hv
    rw [hv, Bool.true_and] at hst
    refine aE (fun hp => ?_) (fun hp => ?_)
    ·have hp := of_decide_eq_true hp
     have em : IntKind.i64.wrap (i - 1) = i - 1 := aJ (i - 1) (by omega)
     have e1 : (i - 1).toNat = i.toNat - 1 := by omega
     have hz : decide (i.toNat = 0) = false := decide_eq_false (by omega)
     rw [hz, Bool.false_or] at hst
     rw [em, e1]
     refine vck (vck ?_)
     change Tot (cond (Op.bytesLess (ks'.getD i.toNat []) (ks'.getD (i.toNat - 1) []) || decide (ks'.getD i.toNat [] = ks'.getD (i.toNat - 1) [])) _ _) _
     rw [aes]
     refine aE (fun hv => aH ⟨_, _, rfl, rfl, goalE _ ?_⟩) (fun hv => ?_)
     ·have hv : Op.bytesLess (ks'.getD (i.toNat - 1) []) (ks'.getD i.toNat []) = false := by simpa using hv
      rw [hst, hv]; rfl
     ·have hv : Op.bytesLess (ks'.getD (i.toNat - 1) []) (ks'.getD i.toNat []) = true := by simpa using hv
      rw [hv, Bool.true_and] at hst
      exact next hst.symm
    ·have hp := of_decide_eq_false hp
     have hz : decide (i.toNat = 0) = true := decide_eq_true (by omega)
     rw [hz, Bool.true_or, Bool.true_and] at hst
     exact next hst.symm
  ·have h := of_decide_eq_false h
   have hi : i.toNat = ks'.length := by omega
   rw [hi, ag7] at i3
   refine ae8 ts' n hF N v0 v3 v8 l' hl (by omega) hs (fun h => by simp [h] at h9) _ ⟨_, _, rfl, rfl, goalE _ ?_⟩ _ (.inr rfl) _ _ _ _ _ _ _ _ _ _ _
   rw [← i3, Bool.true_and]
   simp only [oo, h9, cond_false, List.drop_zero]
 ·
  have goalE : ∀ r : Bool, r = (decide (0 ≤ b) && (decide (b < (k9.length : Int)) && (((l.length : Int) == 1) && bO ts (k9.getD b.toNat 0) l))) → dw ts k0 k1 k2 k3 k4 k5 k6 k7 k8 k9 m s l ks b r := by
   intro r hr
   simp only [dw, aaY, h9, h13, h14, cond_true, cond_false]
   exact hr
  refine aE (fun hb => aE (fun hb2 => aE (fun hb3 => ?_) (fun hb3 => aH ⟨_, _, rfl, rfl, goalE _ ?_⟩)) (fun hb2 => aH ⟨_, _, rfl, rfl, goalE _ ?_⟩)) (fun hb => aH ⟨_, _, rfl, rfl, goalE _ ?_⟩)
  ·have hb1 := of_decide_eq_true hb
   have hb2' := of_decide_eq_true hb2
   have hb3' : (l.length : Int) = 1 := by simpa using hb3
   obtain ⟨v, rfl⟩ : ∃ v, l = [v] := by
    match l, hb3' with
    | [v], _ => exact ⟨v, rfl⟩
   have hsz := yK v
   simp only [szL] at hs
   refine vck (aU (by simp) ?_)
   refine aF (hF _ _ _ _ _ _ (by simp only [Int.toNat_zero, List.getD_cons_zero]; omega)) ?_
   rintro _ ⟨-, rfl⟩
   refine aH ⟨_, _, rfl, rfl, goalE _ ?_⟩
   simp only [hb, hb2, hb3, Bool.true_and, Int.toNat_zero, List.getD_cons_zero, aB.eta, bO, Bool.and_true]
   rfl
  ·rw [hb3]; simp
  ·rw [hb2]; simp
  ·rw [hb]; simp
 ·refine ae8 ts n hF N k0 k3 k8 l hl (by omega) hs (fun h => by simp [h] at h9) _ ⟨_, _, rfl, rfl, ?_⟩ _ (.inl rfl) _ _ _ _ _ _ _ _ _ _ _
  simp only [dw, aaY, oo, h9, h13, h14, cond_false, List.drop_zero]
def vl (kind n : Int) (s : List UInt8) (l : List aB) (ks : List (List UInt8)) (b : Int) (num txt prt ok : Bool) : Bool :=
 cond (!(kind == 13) && decide ((0 : Int) < (ks.length : Int))) false (cond (!(kind == 14) && !(b == 0)) false (ok && ((num || (n == 0)) && ((txt || decide (s = [])) && (prt || ((l.length : Int) == 0))))))
theorem anl (ks : List (List UInt8)) : (((ks.length : Int)) == 0) = !decide ((0 : Int) < (ks.length : Int)) := by
 cases ks with
 | nil => rfl
 | cons a l => simp; omega
theorem lt0 : decide ((0 : Int) < 0) = false := rfl
theorem vm (kind m : Int) (s : List UInt8) (l : List aB) (ks : List (List UInt8)) (b : Int) (ok : Bool) (h1 : kind ≠ 13) (h2 : kind ≠ 14) : vl kind m s l ks b true false false ok = (ok && ca 0 s l ks b) := by
 simp only [vl, ca, beq_eq_false_iff_ne.2 h1, beq_eq_false_iff_ne.2 h2, anl ks, Bool.not_false, Bool.not_true, Bool.true_and, Bool.false_and, Bool.true_or, Bool.false_or, beq_self_eq_true, decide_true, List.length_nil, Int.ofNat_zero, Int.natCast_zero, Bool.and_true, cond_false, lt0]
 generalize decide ((0 : Int) < (ks.length : Int)) = p
 generalize (b == 0) = q
 generalize (m == 0) = r
 generalize decide (s = []) = t
 generalize ((l.length : Int) == 0) = u
 cases ok <;> cases p <;> cases q <;> cases r <;> cases t <;> cases u <;> rfl
theorem aj3 (kind m : Int) (s : List UInt8) (l : List aB) (ks : List (List UInt8)) (b : Int) (ok : Bool) (h1 : kind ≠ 13) (h2 : kind ≠ 14) : vl kind m s l ks b false true false ok = (ok && ca m [] l ks b) := by
 simp only [vl, ca, beq_eq_false_iff_ne.2 h1, beq_eq_false_iff_ne.2 h2, anl ks, Bool.not_false, Bool.not_true, Bool.true_and, Bool.false_and, Bool.true_or, Bool.false_or, beq_self_eq_true, decide_true, List.length_nil, Int.ofNat_zero, Int.natCast_zero, Bool.and_true, cond_false, lt0]
 generalize decide ((0 : Int) < (ks.length : Int)) = p
 generalize (b == 0) = q
 generalize (m == 0) = r
 generalize decide (s = []) = t
 generalize ((l.length : Int) == 0) = u
 cases ok <;> cases p <;> cases q <;> cases r <;> cases t <;> cases u <;> rfl
theorem atm (m : Int) (s : List UInt8) (l : List aB) (ks : List (List UInt8)) (b : Int) : vl 1 m s l ks b false false false true = (ca m s l ks b) := by
 simp only [vl, ca, Int.reduceBEq, anl ks, Bool.not_false, Bool.not_true, Bool.true_and, Bool.false_and, Bool.true_or, Bool.false_or, beq_self_eq_true, decide_true, List.length_nil, Int.ofNat_zero, Int.natCast_zero, Bool.and_true, cond_false, lt0]
 generalize decide ((0 : Int) < (ks.length : Int)) = p
 generalize (b == 0) = q
 generalize (m == 0) = r
 generalize decide (s = []) = t
 generalize ((l.length : Int) == 0) = u
 cases p <;> cases q <;> cases r <;> cases t <;> cases u <;> rfl
theorem aqQ (kind m : Int) (s : List UInt8) (l : List aB) (ks : List (List UInt8)) (b : Int) (ok : Bool) (h1 : kind ≠ 13) (h2 : kind ≠ 14) : vl kind m s l ks b false false true ok = (ok && ca m s [] ks b) := by
 simp only [vl, ca, beq_eq_false_iff_ne.2 h1, beq_eq_false_iff_ne.2 h2, anl ks, Bool.not_false, Bool.not_true, Bool.true_and, Bool.false_and, Bool.true_or, Bool.false_or, beq_self_eq_true, decide_true, List.length_nil, Int.ofNat_zero, Int.natCast_zero, Bool.and_true, cond_false, lt0]
 generalize decide ((0 : Int) < (ks.length : Int)) = p
 generalize (b == 0) = q
 generalize (m == 0) = r
 generalize decide (s = []) = t
 generalize ((l.length : Int) == 0) = u
 cases ok <;> cases p <;> cases q <;> cases r <;> cases t <;> cases u <;> rfl
theorem at3 (m : Int) (s : List UInt8) (l : List aB) (ks : List (List UInt8)) (b : Int) (ok : Bool) : vl 13 m s l ks b false false true ok = (ok && ca m s [] [] b) := by
 simp only [vl, ca, Int.reduceBEq, anl ks, Bool.not_false, Bool.not_true, Bool.true_and, Bool.false_and, Bool.true_or, Bool.false_or, beq_self_eq_true, decide_true, List.length_nil, Int.ofNat_zero, Int.natCast_zero, Bool.and_true, cond_false, lt0]
 generalize decide ((0 : Int) < (ks.length : Int)) = p
 generalize (b == 0) = q
 generalize (m == 0) = r
 generalize decide (s = []) = t
 generalize ((l.length : Int) == 0) = u
 cases ok <;> cases p <;> cases q <;> cases r <;> cases t <;> cases u <;> rfl
theorem at4 (m : Int) (s : List UInt8) (l : List aB) (ks : List (List UInt8)) (b : Int) (ok : Bool) : vl 14 m s l ks b false false true ok = (ok && ca m s [] ks 0) := by
 simp only [vl, ca, Int.reduceBEq, anl ks, Bool.not_false, Bool.not_true, Bool.true_and, Bool.false_and, Bool.true_or, Bool.false_or, beq_self_eq_true, decide_true, List.length_nil, Int.ofNat_zero, Int.natCast_zero, Bool.and_true, cond_false, lt0]
 generalize decide ((0 : Int) < (ks.length : Int)) = p
 generalize (b == 0) = q
 generalize (m == 0) = r
 generalize decide (s = []) = t
 generalize ((l.length : Int) == 0) = u
 cases ok <;> cases p <;> cases q <;> cases r <;> cases t <;> cases u <;> rfl
theorem auC (m : Int) (h : 0 ≤ m ∧ m ≤ 18446744073709551615) : (m == IntKind.wrap .u64 (IntKind.wrap .i64 (IntKind.wrap .i32 (IntKind.wrap .u32 m)))) = (decide ((-2147483648) ≤ IntKind.wrap .i64 m) && decide (IntKind.wrap .i64 m < 2147483648)) := by
 rw [Bool.eq_iff_iff]
 simp only [beq_iff_eq, Bool.and_eq_true, decide_eq_true_eq]
 rw [apK, ajx, ajx, apM, apL]
 omega
theorem atn (m : Int) (h : 0 ≤ m ∧ m ≤ 18446744073709551615) : (eS .u64 m 32 == 0) = decide (m < 4294967296) := by
 rw [Bool.eq_iff_iff]
 simp only [beq_iff_eq, decide_eq_true_eq, eS, IntKind.bits]
 rw [show (2 : Int) ^ (min (Int.toNat 32) 64) = 4294967296 by decide, Int.fdiv_eq_ediv_of_nonneg _ (by decide)]
 omega
theorem ato (ts : List aA) (hts : fx ts) (n : Nat) (hF : ad0 ts n) : ad0 ts (n + 1) := by
 intro t m s l ks b hs
 refine aaC (ret := fun r => .bool r) fun hf => ?_
 have hm := apQ (hf (.agg [.int .u64 m, .str s, .sl .aval (.may false) l, .sl .str (.may false) ks, .int .i64 b]) (by simp)) m (by simp)
 refine ang 1 _ _ _ _ _ _ _ ?_
 unfold zZ qS
 dsimp only
 have last : ∀ (num txt prt ok : Bool), Tot (pB 1 (m, s, l, ks, b, num, txt, prt, ok)) (fun z => z = (.bool (ok && ((num || (m == 0)) && ((txt || decide (s = [])) && (prt || ((l.length : Int) == 0))))), [])) := by
  intro num txt prt ok
  unfold pB
  dsimp only
  repeat' (first | (with_reducible refine aE ?_ ?_ <;> (intro hb; (try simp only [bnl] at hb); (try revert hb; intro _))) | with_reducible refine aU ?_ ?_ | with_reducible refine aH ?_ | fail)
  all_goals simp [*]
 have zero : ∀ (k0 : Int) (k1 : List UInt8) (k2 : List (List UInt8)) (k3 : Int) (k4 : List (List UInt8)) (k5 : Bool) (k6 : List UInt8) (k7 : Int) (k8 : List aM) (k9 : List Int) (num txt prt ok : Bool), vl k0 m s l ks b num txt prt ok = bu ts t (.mk m s l ks b) →
   Tot (pC 1 (m, s, l, ks, b, k0, k1, k2, k3, k4, k5, k6, k7, k8, k9, num, txt, prt, ok)) (fun z => ∃ (y0 : Bool) (rest : List aL), z.1.dimR = .bool y0 ∧ z.2 = rest ∧ rJ ts t m s l ks b y0) := by
  intro k0 k1 k2 k3 k4 k5 k6 k7 k8 k9 num txt prt ok hr
  have key : Tot (pC 1 (m, s, l, ks, b, k0, k1, k2, k3, k4, k5, k6, k7, k8, k9, num, txt, prt, ok)) (fun z => z = (.bool (vl k0 m s l ks b num txt prt ok), [])) := by
   have last := last num txt prt ok
   unfold pC rV
   dsimp only
   simp only [vl]
   cases hA : (k0 == 13) <;> cases hB : decide ((0 : Int) < (ks.length : Int)) <;> cases hC : (k0 == 14) <;> cases hD : (b == 0) <;>
    simp only [Bool.not_true, Bool.not_false, cond_true, cond_false, Bool.true_and, Bool.false_and, Bool.and_true, Bool.and_false] <;> first | exact last | exact aH rfl
  refine atO key ?_
  rintro _ rfl
  exact ⟨_, _, rfl, rfl, hr⟩
 refine aF (aqI ts t) ?_
 rintro _ ⟨-, rfl⟩
 refine aE (fun h => aH ⟨_, _, rfl, rfl, ?_⟩) (fun h => ?_)
 ·have h : isT ts t = false := by simpa using h
  simp only [rJ, bu, h, Bool.false_and]
 have h : isT ts t = true := by simpa using h
 have hr : 0 ≤ t ∧ t < ts.length := by simpa [isT] using h
 have hl : t.toNat < ts.length := by omega
 have hK := (hts.2 ts[t.toNat] (List.getElem_mem hl)).kind
 have hg : ts.getD t.toNat (aC .atype) = ts[t.toNat] := at2 (List.getElem?_eq_getElem hl)
 refine vck ?_
 have hfit : bu ts t (.mk m s l ks b) = bu ts t (.mk m s l ks b) := rfl
 conv at hfit => rhs; rw [bu, h, Bool.true_and]
 rw [hg] at hfit ⊢
 generalize ts[t.toNat] = k at hfit hK
 obtain ⟨k0, k1, k2, k3, k4, k5, k6, k7, k8, k9⟩ := k
 dsimp only at hK hfit ⊢
 have hcases : k0 = 1 ∨ k0 = 2 ∨ k0 = 3 ∨ k0 = 4 ∨ k0 = 5 ∨ k0 = 6 ∨ k0 = 7 ∨ k0 = 8 ∨ k0 = 9 ∨ k0 = 10 ∨ k0 = 11 ∨ k0 = 12 ∨ k0 = 13 ∨ k0 = 14 := by omega
 have hin := atl ts n hF k0 k1 k2 k3 k4 k5 k6 k7 k8 k9 m s l ks b (by omega)
 rcases hcases with rfl | rfl | rfl | rfl | rfl | rfl | rfl | rfl | rfl | rfl | rfl | rfl | rfl | rfl
 all_goals simp only [Int.reduceBEq, Bool.or_true, Bool.true_or, Bool.or_false, Bool.false_or, cond_true, cond_false] at hfit ⊢
 ·exact zero _ _ _ _ _ _ _ _ _ _ _ _ _ _ (by rw [hfit, atm])
 ·exact zero _ _ _ _ _ _ _ _ _ _ _ _ _ _ (by rw [hfit, vm _ _ _ _ _ _ _ (by decide) (by decide)]; rfl)
 ·have e := auC m hm
  refine aE (fun hx => zero _ _ _ _ _ _ _ _ _ _ _ _ _ _ ?_) (fun hx => zero _ _ _ _ _ _ _ _ _ _ _ _ _ _ ?_)
  ·rw [hfit, vm _ _ _ _ _ _ _ (by decide) (by decide)]
   simp only [re, Int.reduceBEq, cond_true, cond_false, e, hx, Bool.true_and]
  ·rw [hfit, vm _ _ _ _ _ _ _ (by decide) (by decide)]
   simp only [re, Int.reduceBEq, cond_true, cond_false, e, hx, Bool.false_and]
 ·exact zero _ _ _ _ _ _ _ _ _ _ _ _ _ _ (by rw [hfit, vm _ _ _ _ _ _ _ (by decide) (by decide)]; rfl)
 ·exact zero _ _ _ _ _ _ _ _ _ _ _ _ _ _ (by rw [hfit, vm _ _ _ _ _ _ _ (by decide) (by decide)]; simp only [re, Int.reduceBEq, cond_true, cond_false, atn m hm])
 ·exact zero _ _ _ _ _ _ _ _ _ _ _ _ _ _ (by rw [hfit, vm _ _ _ _ _ _ _ (by decide) (by decide)]; rfl)
 ·exact zero _ _ _ _ _ _ _ _ _ _ _ _ _ _ (by rw [hfit, aj3 _ _ _ _ _ _ _ (by decide) (by decide)]; rfl)
 ·refine aF (anZ s) ?_
  rintro _ ⟨-, rfl⟩
  exact zero _ _ _ _ _ _ _ _ _ _ _ _ _ _ (by rw [hfit, aj3 _ _ _ _ _ _ _ (by decide) (by decide)]; rfl)
 ·refine aF hin ?_
  rintro _ ⟨-, rfl⟩
  exact zero _ _ _ _ _ _ _ _ _ _ _ _ _ _ (by rw [hfit, aqQ _ _ _ _ _ _ _ (by decide) (by decide)]; rfl)
 ·exact zero _ _ _ _ _ _ _ _ _ _ _ _ _ _ (by rw [hfit, vm _ _ _ _ _ _ _ (by decide) (by decide)]; rfl)
 ·exact zero _ _ _ _ _ _ _ _ _ _ _ _ _ _ (by rw [hfit, aj3 _ _ _ _ _ _ _ (by decide) (by decide)]; rfl)
 ·refine aF hin ?_
  rintro _ ⟨-, rfl⟩
  exact zero _ _ _ _ _ _ _ _ _ _ _ _ _ _ (by rw [hfit, aqQ _ _ _ _ _ _ _ (by decide) (by decide)]; rfl)
 ·refine aF hin ?_
  rintro _ ⟨-, rfl⟩
  exact zero _ _ _ _ _ _ _ _ _ _ _ _ _ _ (by rw [hfit, at3]; rfl)
 ·refine aF hin ?_
  rintro _ ⟨-, rfl⟩
  exact zero _ _ _ _ _ _ _ _ _ _ _ _ _ _ (by rw [hfit, at4]; rfl)
theorem aqR (ts : List aA) (hts : fx ts) : ∀ n, ad0 ts n
 | 0 => fun _ _ _ _ _ _ h => by omega
 | n + 1 => ato ts hts n (aqR ts hts n)
theorem atp (ts : List aA) (hts : fx ts) (t m : Int) (s : List UInt8) (l : List aB) (ks : List (List UInt8)) (b : Int) : ∃ r, eV ts t m s l ks b r := aqR ts hts (szL l + 1) t m s l ks b (Nat.le_refl _)
end Go.Proofs.Ytdpajabhmmmjoaa
end
noncomputable section
namespace Go.Proofs.Ytdpajabhmmmjoaa
open Go.AM
set_option autoImplicit false
set_option linter.unusedVariables false
def rk (r : List Int) (t : Int) : Int := r.getD t.toNat 0
structure w9 (k : aA) (r : List Int) (m : Int) : Prop where
 pos : 1 ≤ m
 uni : k.kind = 14 → ∃ b ∈ k.branches, 0 ≤ rk r b ∧ rk r b < m
 rcd : k.kind ≠ 14 → ∀ f ∈ k.fields, 0 ≤ rk r f.typ ∧ rk r f.typ < m
 pre : 2 ≤ m → ∃ j : Nat, j < r.length ∧ r.getD j 0 + 1 = m
structure iB (ts : List aA) (r : List Int) (m : Int) : Prop where
 len : r.length = ts.length
 low : ∀ i, i < r.length → -1 ≤ r.getD i 0
 top : ∀ i, i < r.length → r.getD i 0 ≤ m
 ok : ∀ i, i < r.length → 1 ≤ r.getD i 0 → w9 (ts.getD i (aC .atype)) r (r.getD i 0)
 nul : ∀ i, i < r.length → r.getD i 0 = 0 → (ts.getD i (aC .atype)).kind ≠ 9 ∧ (ts.getD i (aC .atype)).kind ≠ 14
def brT (k : aA) (j : Nat) : Int := k.branches.getD j 0
structure abp (k : aA) (r : List Int) (b : Int) : Prop where
 nn : 0 ≤ b
 lt : b < k.branches.length
 least : ∀ j, j < k.branches.length → 0 ≤ rk r (brT k j) → 0 ≤ rk r (brT k b.toNat) ∧ rk r (brT k b.toNat) ≤ rk r (brT k j)
 first : ∀ j, j < b.toNat → 0 ≤ rk r (brT k j) → rk r (brT k b.toNat) < rk r (brT k j)
def mt (w : List Int) : List aM → Int
 | [] => 0
 | f :: l => rk w f.typ + mt w l
structure le (k : aA) (r w : List Int) (m : Int) : Prop where
 pos : 1 ≤ m
 top : m ≤ 1000000
 rcd : k.kind = 9 → 1 + mt w k.fields ≤ m ∨ m = 1000000
 uni : k.kind = 14 → ∀ b, abp k r b → 1 + rk w (brT k b.toNat) ≤ m ∨ m = 1000000
structure vN (ts : List aA) (r w : List Int) : Prop where
 len : w.length = ts.length
 ok : ∀ i, i < r.length → 0 ≤ r.getD i 0 → le (ts.getD i (aC .atype)) r w (w.getD i 0)
def tT (ts : List aA) (t : Int) (r : List Int) (m : Int) : Prop := m = -1 ∨ w9 (ts.getD t.toNat (aC .atype)) r m
def vn (ts : List aA) (r : List Int) : Prop := iB ts r ts.length
def aal (k : aA) (r : List Int) (b : Int) : Prop := abp k r b
def s8 (ts : List aA) (r w : List Int) : Prop := vN ts r w
end Go.Proofs.Ytdpajabhmmmjoaa
end
noncomputable section
namespace Go.Proofs.Ytdpajabhmmmjoaa
open Go.AM
set_option autoImplicit false
set_option linter.unusedVariables false
set_option linter.unusedSimpArgs false
theorem mX {α : Type} (l : List α) (i : Nat) (x d : α) (h : i < l.length) : (l.set i x).getD i d = x := by
 simp [List.getD_eq_getElem?_getD, List.getElem?_set, h]
theorem jE {α : Type} (l : List α) (i j : Nat) (x d : α) (h : i ≠ j) : (l.set i x).getD j d = l.getD j d := by
 simp [List.getD_eq_getElem?_getD, List.getElem?_set, h]
theorem iH {α : Type} (l : List α) (i : Nat) (d : α) (h : i < l.length) : l.getD i d ∈ l := by
 rw [List.getD_eq_getElem?_getD, List.getElem?_eq_getElem h]; exact List.getElem_mem h
theorem w9.mono {k : aA} {r r' : List Int} {m : Int} (h : w9 k r m) (hl : r'.length = r.length) (hr : ∀ i, 0 ≤ r.getD i 0 → r'.getD i 0 = r.getD i 0) : w9 k r' m where
 pos := h.pos
 uni h14 := by
  obtain ⟨b, hb, h0, h1⟩ := h.uni h14
  exact ⟨b, hb, by unfold rk at *; rw [hr _ h0]; exact h0, by unfold rk at *; rw [hr _ h0]; exact h1⟩
 rcd h14 f hf := by
  obtain ⟨h0, h1⟩ := h.rcd h14 f hf
  exact ⟨by unfold rk at *; rw [hr _ h0]; exact h0, by unfold rk at *; rw [hr _ h0]; exact h1⟩
 pre h2 := by
  obtain ⟨j, hj, e⟩ := h.pre h2
  exact ⟨j, by omega, by rw [hr _ (by omega)]; exact e⟩
theorem iB.step {ts : List aA} {r next : List Int} {m : Int} (h : iB ts r m) (hm : 0 ≤ m) (hl : next.length = ts.length) (h1 : ∀ j, j < ts.length → 0 ≤ r.getD j 0 → next.getD j 0 = r.getD j 0)
  (h2 : ∀ j, j < ts.length → r.getD j 0 < 0 → next.getD j 0 = -1 ∨ w9 (ts.getD j (aC .atype)) r (next.getD j 0)) : iB ts next (m + 1) := by
 have hrl := h.len
 have hmono : ∀ i, 0 ≤ r.getD i 0 → next.getD i 0 = r.getD i 0 := fun i hi => by
  by_cases hil : i < ts.length
  ·exact h1 i hil hi
  ·simp [List.getD_eq_getElem?_getD, List.getElem?_eq_none (show next.length ≤ i by omega), List.getElem?_eq_none (show r.length ≤ i by omega)]
 refine ⟨hl, fun i hi => ?_, fun i hi => ?_, fun i hi h' => ?_, fun i hi h' => ?_⟩
 ·by_cases h0 : 0 ≤ r.getD i 0
  ·rw [hmono i h0]; omega
  ·rcases h2 i (by omega) (by omega) with e | e
   ·omega
   ·have := e.pos; omega
 ·by_cases h0 : 0 ≤ r.getD i 0
  ·rw [hmono i h0]; have := h.top i (by omega); omega
  ·rcases h2 i (by omega) (by omega) with e | e
   ·omega
   ·by_cases hp : 2 ≤ next.getD i 0
    ·obtain ⟨j, hj, ej⟩ := e.pre hp
     have := h.top j hj; omega
    ·omega
 ·by_cases h0 : 0 ≤ r.getD i 0
  ·rw [hmono i h0] at h' ⊢; exact (h.ok i (by omega) h').mono (by omega) hmono
  ·rcases h2 i (by omega) (by omega) with e | e
   ·omega
   ·exact e.mono (by omega) hmono
 ·by_cases h0 : 0 ≤ r.getD i 0
  ·rw [hmono i h0] at h'; exact h.nul i (by omega) h'
  ·rcases h2 i (by omega) (by omega) with e | e
   ·omega
   ·have := e.pos; omega
def xa (n : Int) : List Int → Nat
 | [] => 0
 | x :: l => (if 1 ≤ x ∧ x ≤ n then 1 else 0) + xa n l
theorem arY (n : Int) : ∀ l, xa n l ≤ l.length
 | [] => by simp [xa]
 | x :: l => by have := arY n l; simp only [xa, List.length_cons]; split <;> omega
theorem an0 (n : Int) : ∀ l, xa n l ≤ xa (n + 1) l
 | [] => by simp [xa]
 | x :: l => by have := an0 n l; simp only [xa]; split <;> split <;> omega
theorem ah0 (n : Int) (hn : 0 ≤ n) : ∀ (l : List Int) (j : Nat), j < l.length → l.getD j 0 = n + 1 → xa n l + 1 ≤ xa (n + 1) l
 | [], j, h, _ => by simp at h
 | x :: l, 0, h, e => by
   have := an0 n l
   simp only [List.getD_cons_zero] at e
   simp only [xa]
   rw [if_neg (by omega), if_pos (by omega)]; omega
 | x :: l, j + 1, h, e => by
   have := ah0 n hn l j (by simpa using h) (by simpa using e)
   simp only [xa]; split <;> split <;> omega
theorem iB.chain {ts : List aA} {r : List Int} {m : Int} (h : iB ts r m) : ∀ (n j : Nat), j < r.length → r.getD j 0 = (n : Int) + 1 → n + 1 ≤ xa ((n : Int) + 1) r
 | 0, j, hj, e => by have := ah0 0 (by omega) r j hj (by simpa using e); simpa using (by omega : 1 ≤ xa (0 + 1) r)
 | n + 1, j, hj, e => by
   obtain ⟨j', hj', e'⟩ := (h.ok j hj (by omega)).pre (by omega)
   have ih := iB.chain h n j' hj' (by omega)
   have := ah0 ((n : Int) + 1) (by omega) r j hj (by omega)
   have ec : (((n + 1 : Nat) : Int) + 1) = (n : Int) + 1 + 1 := by omega
   rw [ec]; omega
theorem iB.fin {ts : List aA} {r : List Int} {m : Int} (h : iB ts r m) : iB ts r ts.length := by
 refine ⟨h.len, h.low, fun i hi => ?_, h.ok, h.nul⟩
 by_cases h1 : 1 ≤ r.getD i 0
 ·have := h.chain ((r.getD i 0).toNat - 1) i hi (by omega)
  have h2 := arY ((((r.getD i 0).toNat - 1 : Nat) : Int) + 1) r
  have := h.len
  omega
 ·omega
theorem zd {ts : List aA} {r : List Int} {m : Int} {k : aA} {q : Int} (h : w9 k r q) (h14 : k.kind = 14) {b : Int} (hb : abp k r b) : 0 ≤ rk r (brT k b.toNat) ∧ rk r (brT k b.toNat) < q := by
 obtain ⟨x, hx, h0, h1⟩ := h.uni h14
 obtain ⟨j, hj, rfl⟩ := List.mem_iff_getElem.1 hx
 have e : brT k j = k.branches[j] := by simp [brT, List.getD_eq_getElem?_getD, List.getElem?_eq_getElem hj]
 have := hb.least j hj (by rw [e]; exact h0)
 rw [e] at this
 omega
theorem aj4 (w : List Int) (i : Nat) (x : Int) : ∀ l : List aM, (∀ f ∈ l, f.typ.toNat ≠ i) → mt (w.set i x) l = mt w l
 | [], _ => rfl
 | f :: l, h => by
   have := aj4 w i x l fun f hf => h f (by simp [hf])
   simp only [mt, this, rk]
   rw [jE _ _ _ _ _ (fun e => h f (by simp) e.symm)]
theorem le.set {ts : List aA} {r w : List Int} {m : Int} (hR : iB ts r m) {i j : Nat} {x : Int} (hj : j < r.length) (hr : 0 ≤ r.getD j 0) (hle : r.getD j 0 ≤ r.getD i 0) (hne : i ≠ j)
  (h : le (ts.getD j (aC .atype)) r w (w.getD j 0)) : le (ts.getD j (aC .atype)) r (w.set i x) ((w.set i x).getD j 0) := by
 rw [jE _ _ _ _ _ hne]
 refine ⟨h.pos, h.top, fun h9 => ?_, fun h14 b hb => ?_⟩
 ·have hk : 1 ≤ r.getD j 0 := by
   by_cases h0 : r.getD j 0 = 0
   ·exact absurd h9 (hR.nul j hj h0).1
   ·omega
  rw [aj4 w i x _ fun f hf e => ?_]
  ·exact h.rcd h9
  ·have := (hR.ok j hj hk).rcd (by omega) f hf
   unfold rk at this
   rw [e] at this; omega
 ·have hk : 1 ≤ r.getD j 0 := by
   by_cases h0 : r.getD j 0 = 0
   ·exact absurd h14 (hR.nul j hj h0).2
   ·omega
  have hc := zd (ts := ts) (m := m) (hR.ok j hj hk) h14 hb
  have hu := h.uni h14 b hb
  unfold rk at hc hu ⊢
  rw [jE _ _ _ _ _ (fun e => by rw [← e] at hc; omega)]
  exact hu
theorem ajj {w : List Int} : ∀ {l : List aM}, (∀ f ∈ l, 0 ≤ rk w f.typ) → 0 ≤ mt w l
 | [], _ => by simp [mt]
 | f :: l, h => by
   have h1 := h f (by simp)
   have := ajj (w := w) (l := l) fun f hf => h f (by simp [hf])
   simp only [mt]; omega
theorem aj5 {w : List Int} : ∀ {l : List aM}, (∀ f ∈ l, 0 ≤ rk w f.typ) → ∀ f ∈ l, rk w f.typ ≤ mt w l
 | [], _ => fun f hf => by simp at hf
 | g :: l, h => fun f hf => by
   have h1 := h g (by simp)
   have h2 := ajj (w := w) (l := l) fun f hf => h f (by simp [hf])
   simp only [mt]
   rcases List.mem_cons.1 hf with rfl | hf
   ·omega
   ·have := aj5 (w := w) (l := l) (fun f hf => h f (by simp [hf])) f hf; omega
theorem aj6 (w : List Int) : ∀ l m : List aM, mt w (l ++ m) = mt w l + mt w m
 | [], m => by simp [mt]
 | f :: l, m => by simp only [List.cons_append, mt, aj6 w l m]; omega
theorem ace {α : Type} (l : List α) (i : Nat) (d : α) (h : i < l.length) : l.take (i + 1) = l.take i ++ [l.getD i d] := by
 rw [List.take_add_one, List.getElem?_eq_getElem h, List.getD_eq_getElem?_getD, List.getElem?_eq_getElem h]; rfl
end Go.Proofs.Ytdpajabhmmmjoaa
end
noncomputable section
namespace Go.Proofs.Ytdpajabhmmmjoaa
open Go.AM
set_option autoImplicit false
set_option linter.unusedVariables false
set_option maxRecDepth 100000
abbrev ad1 : FuncId := 124
abbrev ad2 : FuncId := 123
abbrev afT : FuncId := 83
abbrev acf : FuncId := 84
abbrev apc := List Int
noncomputable def mY (a : List aA) (r : apc) : Prop := aI Try.prog afT [.agg [.sl .atype (.may false) a]] (.sl (.num .i64) (.may false) r) ∧ vn a r
noncomputable def apd : dm Try.prog := ⟨83, fun us => match us with
 | [.agg [.sl .atype (.may _) a]] => let r := pick (mY a); some (can (mY a), .sl (.num .i64) (.may false) r)
 | _ => none, by
 intro _ _ h; split at h; exact bV h (fun h => h.1.dim rfl) rfl rfl; cases h⟩
abbrev alG := List Int
noncomputable def iv (a : List aA) (b : List Int) (r : alG) : Prop := aI Try.prog acf [.agg [.sl .atype (.may false) a], .sl (.num .i64) (.may false) b] (.sl (.num .i64) (.may false) r) ∧ s8 a b r
noncomputable def alH : dm Try.prog := ⟨84, fun us => match us with
 | [.agg [.sl .atype (.may _) a], .sl (.num .i64) (.may _) b] => let r := pick (iv a b); some (can (iv a b), .sl (.num .i64) (.may false) r)
 | _ => none, by
 intro _ _ h; split at h; exact bV h (fun h => h.1.dim rfl) rfl rfl; cases h⟩
abbrev anm := Int
noncomputable def pF (a : List aA) (b : Int) (c : List Int) (r : anm) : Prop := aI Try.prog ad2 [.agg [.sl .atype (.may false) a], .int .i64 b, .sl (.num .i64) (.may false) c] (.int .i64 r) ∧ tT a b c r
noncomputable def ann : dm Try.prog := ⟨123, fun us => match us with
 | [.agg [.sl .atype (.may _) a], .int .i64 b, .sl (.num .i64) (.may _) c] => let r := pick (pF a b c); some (can (pF a b c), .int .i64 r)
 | _ => none, by
 intro _ _ h; split at h; exact bV h (fun h => h.1.dim rfl) rfl rfl; cases h⟩
abbrev ano := Int
noncomputable def l7 (a : aA) (b : List Int) (r : ano) : Prop := aI Try.prog ad1 [.agg (enc .atype a), .sl (.num .i64) (.may false) b] (.int .i64 r) ∧ aal a b r
noncomputable def ad3 : dm Try.prog := ⟨124, fun us => match us with
 | [.agg [.int .i64 a, .str b, .sl .str (.may _) c, .int .i64 d, .sl .str (.may _) e, .bool f, .str g, .int .i64 i, .sl .afield (.may _) j, .sl (.num .i64) (.may _) k], .sl (.num .i64) (.may _) l] => let r := pick (l7 (⟨a, b, c, d, e, f, g, i, j, k⟩) l); some (can (l7 (⟨a, b, c, d, e, f, g, i, j, k⟩) l), .int .i64 r)
 | _ => none, by
 intro _ _ h; split at h; exact bV h (fun h => h.1.dim rfl) rfl rfl; cases h⟩
end Go.Proofs.Ytdpajabhmmmjoaa
end
noncomputable section
namespace Go.Proofs.Ytdpajabhmmmjoaa
open Go.AM
set_option autoImplicit false
set_option linter.unusedVariables false
set_option maxRecDepth 100000
noncomputable def jF : aO := tab (P := Try.prog) [] [] [] []
def aam : IR := Sq (Rs [Mv 22 9, Fa 23 9 7, Lq 24 23, Ll 25 24, Bi 26 .lss 22 25] (Cn 26 .skip (.exit 0))) (Sq (.block 1 (Rs [Mv 29 2, Fa 30 9 7, Lq 31 30, Mv 32 9, Ix 33 (.num .i64) 31 32, Lq 34 33, Ix 35 (.num .i64) 29 34, Lq 36 35, Mv 10 36] (Rs [Mv 37 10, Bc 38 .geq 37 0, Mv 39 38, Gt 39 (.mov 40 8), Gt 39 (.bin 41 .lss 40 (kI 0)), Gt 39 (.mov 42 41), Gf 42 (.mov 43 10), Gf 42 (.mov 44 8), Gf 42 (.bin 45 .lss 43 44), Gt 39 (.pick 46 42 (kB true) 45), Pa 47 39 46] (Cn 47 (Rg [Mv 48 10, Mv 8 48]) .skip)))) (Rg [Mv 27 9, Bc 28 .add 27 1, Mv 9 28]))
def ze : IR := Sq (Rs [Mv 49 8, Bc 50 .lss 49 0] (Cn 50 (Rs [Mi 6 (-1)] .ret) .skip)) (Rs [Mv 51 8, Bc 52 .add 51 1, Mv 6 52] .ret)
def zf : IR := Sq (Rs [Mv 53 12, Fa 54 8 7, Lq 55 54, Ll 56 55, Bi 57 .lss 53 56] (Cn 57 .skip (.exit 2))) (Sq (.block 3 (Rs [Mv 60 2, Fa 61 8 7, Lq 62 61, Mv 63 12, Ix 64 .afield 62 63, Fa 65 2 64, Lo 66 65, Ix 67 (.num .i64) 60 66, Lq 68 67, Mv 13 68] (Sq (Rs [Mv 69 13, Bc 70 .lss 69 0] (Cn 70 (Rs [Mi 6 (-1)] .ret) .skip)) (Rg [Mv 71 11, Mv 72 13, Pp (.mx 73 false 71 72), Mv 11 73])))) (Rg [Mv 58 12, Bc 59 .add 58 1, Mv 12 59]))
def zg : IR := Rs [Mv 74 11, Bc 75 .add 74 1, Mv 6 75] .ret
def zh : IR := Rs [Mi 11 0] (Sq (Rs [Mi 12 0] (.block 2 (.loop [2, 7, 11, 12, 1000001] 0 zf))) zg)
def xb : IR := Rs [Bx 3 0, Mi 6 0] (Rs [Fa 14 0 3, Lq 15 14, Mv 16 1, Ix 17 .atype 15 16, Ld 18 10 true 17, Pp (.alr 7 10), Fz 7 10 18] (Sq (Rs [Fa 19 0 7, Lq 20 19, Bc 21 .eql 20 14] (Cn 21 (Rs [Mi 8 (-1)] (Sq (Rs [Mi 9 0] (.block 0 (.loop [2, 7, 8, 9, 1000000] 0 aam))) ze)) .skip)) zh))
def nA : List RV := [.t 6]
theorem alI : FnC Try.prog jF [] 0 ad2 Try.f123 xb nA := fnC (by kernel_rfl) Try.func123 (by kernel_rfl) (by kernel_rfl) (by decide)
def aj7 (R : IR → (Ex → St → Ro) → St → Ro) (a : St → Ro) : Ex → St → Ro := (bM a [2, 7, 8, 9, 1000000] 0 (aT 0 (bx (R ze) (bx (R zh) (fin nA)))))
abbrev mu : Type := (List Int × aA × Int × Int)
def lm : mu → St := fun (a, b, c, d) => { env := (.undef :: .undef :: .sl (.num .i64) (.may false) a :: (U 4 (.ea (enc .atype b) :: .int .i64 c :: .int .i64 d :: (U 66 [])))), hp := [] }
def vo (N : Nat) : (St → Ro) → St → Ro := fun a s => run jF N aam (aj7 (run jF N) a) s
def qk (N : Nat) (a : mu → Ro) : mu → Ro := fun (d, c, e, b) =>
 let h : Int := (↑(List.length c.branches) : Int)
 cond (decide (b < h)) (
 chk ((decide (0 ≤ b) && decide (b < ↑(List.length c.branches)))) (
 let g : Int := List.getD c.branches (Int.toNat b) (aC (.num .i64))
 chk ((decide (0 ≤ g) && decide (g < ↑(List.length d)))) (
 let f : Int := List.getD d (Int.toNat g) (aC (.num .i64))
 cond (decide (0 ≤ f)) (
 cond (decide (e < 0)) (
 let i : Int := (IntKind.wrap .i64 (b + 1))
 a (d, c, f, i)) (
 cond (decide (f < e)) (
 let j : Int := (IntKind.wrap .i64 (b + 1))
 a (d, c, f, j)) (
 let k : Int := (IntKind.wrap .i64 (b + 1))
 a (d, c, e, k)))) (
 let l : Int := (IntKind.wrap .i64 (b + 1))
 a (d, c, e, l))))) (
 cond (decide (e < 0)) (
 some (.int .i64 (-1), [])) (
 let m : Int := (IntKind.wrap .i64 (e + 1))
 some (.int .i64 m, [])))
theorem aiz (N : Nat) : ∀ (a : St → Ro) (x : mu), vo N a (lm x) = qk N (fun y => a (lm y)) x := by
 intro a x
 kernel_rfl
def aj8 (R : IR → (Ex → St → Ro) → St → Ro) (a : St → Ro) : Ex → St → Ro := (bM a [2, 7, 11, 12, 1000001] 0 (aT 2 (bx (R zg) (fin nA))))
abbrev mv : Type := (List Int × aA × Int × Int)
def ln : mv → St := fun (a, b, c, d) => { env := (.undef :: .undef :: .sl (.num .i64) (.may false) a :: (U 4 (.ea (enc .atype b) :: (U 3 (.int .i64 c :: .int .i64 d :: (U 63 [])))))), hp := [] }
def vp (N : Nat) : (St → Ro) → St → Ro := fun a s => run jF N zf (aj8 (run jF N) a) s
def ql (N : Nat) (b : mv → Ro) : mv → Ro := fun (g, f, c, a) =>
 let h : Int := (↑(List.length f.fields) : Int)
 cond (decide (a < h)) (
 chk ((decide (0 ≤ a) && decide (a < ↑(List.length f.fields)))) (
 let d : aM := (List.getD f.fields (Int.toNat a) (aC .afield))
 chk ((decide (0 ≤ d.typ) && decide (d.typ < ↑(List.length g)))) (
 let e : Int := List.getD g (Int.toNat d.typ) (aC (.num .i64))
 cond (decide (e < 0)) (
 some (.int .i64 (-1), [])) (
 let i : Int := (if c < e then e else c)
 let j : Int := (IntKind.wrap .i64 (a + 1))
 b (g, f, i, j))))) (
 let k : Int := (IntKind.wrap .i64 (c + 1))
 some (.int .i64 k, []))
theorem aiA (N : Nat) : ∀ (a : St → Ro) (x : mv), vp N a (ln x) = ql N (fun y => a (ln y)) x := by
 intro a x
 kernel_rfl
def nB (N : Nat) (a : List aA) (b : Int) (d : List Int) (e : mu → Ro) (f : mv → Ro) : Ro :=
 chk ((decide (0 ≤ b) && decide (b < ↑(List.length a)))) (
 let c : aA := (List.getD a (Int.toNat b) (aC .atype))
 cond (c.kind == 14) (
 e (d, c, (-1), 0)) (
 f (d, c, 0, 0)))
def xc (N : Nat) (a : List aA) (b : Int) (c : List Int) : Ro := nB N a b c (fun z => aS N (qk N) z) (fun z => aS N (ql N) z)
def anp (N : Nat) : List (Nat × (St → Ro)) := ba jF N xb (fin nA) ++ []
theorem aj9 (N : Nat) (a : List aA) (c : Int) (d : List Int) : bc jF N 76 nA xb [.agg [.sl .atype (.may false) a], .int .i64 c, .sl (.num .i64) (.may false) d] [] = xc N a c d :=
 (bU (anp N) (by kernel_rfl) rfl (fun C => nB N a c d (fun z => C 1000000 (lm z)) (fun z => C 1000001 (ln z))) (fun C => by kernel_rfl)).trans (Eq.trans (b := nB N a c d (fun z => bo N (vo N) (lm z)) (fun z => bo N (vp N) (ln z))) (by kernel_rfl) (congr (congrArg (nB N a c d) (funext fun z => bj (lm) (vo N) (qk N) (aiz N) N z)) (funext fun z => bj (ln) (vp N) (ql N) (aiA N) N z)))
theorem aka (N : Nat) (a : List aA) (b : Int) (c : List Int) (h : Tot (xc N a b c) (fun z => ∃ (d : Int) (rest : List aL), z.1.dimR = .int .i64 d ∧ z.2 = rest ∧ tT a b c (d))) : ∃ r, pF a b c r := by
 obtain ⟨⟨v, hp⟩, hz, d, rest, e1, e2, hq⟩ := h
 simp only at e1 e2
 subst e2
 exact ⟨(d), aI.dimR (alI.pure (aj9 N a b c) hz) e1, hq⟩
noncomputable def pG : aO := tab (P := Try.prog) [] [] [] []
def aan : IR := Sq (Rs [Mv 7 6, Fa 8 9 2, Lq 9 8, Ll 10 9, Bi 11 .lss 7 10] (Cn 11 .skip (.exit 0))) (Sq (.block 1 (Sq (.reg [Mv 14 1, Fa 15 9 2, Lq 16 15, Mv 17 6, Ix 18 (.num .i64) 16 17, Lq 19 18, Ix 20 (.num .i64) 14 19, Lq 21 20, Bc 22 .geq 21 0, Mv 23 22, Gt 23 (.mov 24 1), Gt 23 (.fad 25 9 2), Gt 23 (.lde 26 1 false 25), Gt 23 (.mov 27 5), Gt 23 (.ixa 28 (.num .i64) 26 27), Gt 23 (.lde 29 1 false 28), Gt 23 (.ixa 30 (.num .i64) 24 29), Gt 23 (.lde 31 1 false 30), Gt 23 (.bin 32 .lss 31 (kI 0)), Gt 23 (.mov 33 32), Gf 33 (.mov 34 1), Gf 33 (.fad 35 9 2), Gf 33 (.lde 36 1 false 35), Gf 33 (.mov 37 6), Gf 33 (.ixa 38 (.num .i64) 36 37), Gf 33 (.lde 39 1 false 38), Gf 33 (.ixa 40 (.num .i64) 34 39), Gf 33 (.lde 41 1 false 40), Gf 33 (.mov 42 1), Gf 33 (.fad 43 9 2), Gf 33 (.lde 44 1 false 43), Gf 33 (.mov 45 5), Gf 33 (.ixa 46 (.num .i64) 44 45), Gf 33 (.lde 47 1 false 46), Gf 33 (.ixa 48 (.num .i64) 42 47), Gf 33 (.lde 49 1 false 48), Gf 33 (.bin 50 .lss 41 49), Gt 23 (.pick 51 33 (kB true) 50), Pa 52 23 51] [[], [], [1], [], [1, 2, 3], rg 1 4, rg 0 5, rg 0 6, rg 0 7, rg 0 8, rg 0 9, rg 0 9, rg 0 9 ++ [11], rg 0 9, rg 0 9 ++ [11, 12, 13], rg 0 9 ++ rg 11 14, rg 0 15, rg 0 16, rg 0 17, rg 0 18, rg 0 19, rg 0 19, rg 0 19 ++ [21], rg 0 19, rg 0 19 ++ [21, 22, 23], rg 0 19 ++ rg 21 24, rg 0 25, rg 0 26, rg 0 19, rg 0 19, rg 0 19 ++ [29], rg 0 19, rg 0 19 ++ [29, 30, 31], rg 0 19 ++ rg 29 32, rg 0 19 ++ rg 28 33, rg 0 19 ++ rg 28 34, rg 0 35, rg 0 36, rg 0 37]) (Cn 52 (Rg [Mv 53 6, Mv 5 53]) .skip))) (Rg [Mv 12 6, Bc 13 .add 12 1, Mv 6 13]))
def aao : IR := Rs [Mv 54 5, Mv 4 54] .ret
def xd : IR := Rs [Bx 2 0, Mi 4 0] (Rs [Mi 5 0] (Sq (Rs [Mi 6 0] (.block 0 (.loop [1, 2, 5, 6, 1000000] 0 aan))) aao))
def rZ : List RV := [.t 4]
theorem alJ : FnC Try.prog pG [] 0 ad1 Try.f124 xd rZ := fnC (by kernel_rfl) Try.func124 (by kernel_rfl) (by kernel_rfl) (by decide)
def akb (R : IR → (Ex → St → Ro) → St → Ro) (a : St → Ro) : Ex → St → Ro := (bM a [1, 2, 5, 6, 1000000] 0 (aT 0 (bx (R aao) (fin rZ))))
abbrev mw : Type := (List Int × aA × Int × Int)
def lp : mw → St := fun (a, b, c, d) => { env := (.undef :: .sl (.num .i64) (.may false) a :: .ea (enc .atype b) :: .undef :: .undef :: .int .i64 c :: .int .i64 d :: (U 48 [])), hp := [] }
def vq (N : Nat) : (St → Ro) → St → Ro := fun a s => run pG N aan (akb (run pG N) a) s
def qm (N : Nat) (a : mw → Ro) : mw → Ro := fun (d, b, e, c) =>
 let n : Int := (↑(List.length b.branches) : Int)
 cond (decide (c < n)) (
 chk ((decide (0 ≤ c) && decide (c < ↑(List.length b.branches)))) (
 let f : Int := List.getD b.branches (Int.toNat c) (aC (.num .i64))
 chk ((decide (0 ≤ f) && decide (f < ↑(List.length d)))) (
 let o : Int := List.getD d (Int.toNat f) (aC (.num .i64))
 cond (decide (0 ≤ o)) (
 chk ((decide (0 ≤ e) && decide (e < ↑(List.length b.branches)))) (
 let g : Int := List.getD b.branches (Int.toNat e) (aC (.num .i64))
 chk ((decide (0 ≤ g) && decide (g < ↑(List.length d)))) (
 let p : Int := List.getD d (Int.toNat g) (aC (.num .i64))
 cond (decide (p < 0)) (
 let q : Int := (IntKind.wrap .i64 (c + 1))
 a (d, b, c, q)) (
 chk ((decide (0 ≤ c) && decide (c < ↑(List.length b.branches)))) (
 let h : Int := List.getD b.branches (Int.toNat c) (aC (.num .i64))
 chk ((decide (0 ≤ h) && decide (h < ↑(List.length d)))) (
 let r : Int := List.getD d (Int.toNat h) (aC (.num .i64))
 chk ((decide (0 ≤ e) && decide (e < ↑(List.length b.branches)))) (
 let i : Int := List.getD b.branches (Int.toNat e) (aC (.num .i64))
 chk ((decide (0 ≤ i) && decide (i < ↑(List.length d)))) (
 let j : Int := List.getD d (Int.toNat i) (aC (.num .i64))
 cond (decide (r < j)) (
 let k : Int := (IntKind.wrap .i64 (c + 1))
 a (d, b, c, k)) (
 let l : Int := (IntKind.wrap .i64 (c + 1))
 a (d, b, e, l)))))))))) (
 let m : Int := (IntKind.wrap .i64 (c + 1))
 a (d, b, e, m))))) (
 some (.int .i64 e, []))
theorem aiB (N : Nat) : ∀ (a : St → Ro) (x : mw), vq N a (lp x) = qm N (fun y => a (lp y)) x := by
 intro a x
 kernel_rfl
def nC (N : Nat) (a : aA) (b : List Int) (c : mw → Ro) : Ro :=
 c (b, a, 0, 0)
def xe (N : Nat) (a : aA) (b : List Int) : Ro := nC N a b (fun z => aS N (qm N) z)
def anq (N : Nat) : List (Nat × (St → Ro)) := ba pG N xd (fin rZ) ++ []
theorem akc (N : Nat) (a : aA) (c : List Int) : bc pG N 55 rZ xd [.agg (enc .atype a), .sl (.num .i64) (.may false) c] [] = xe N a c :=
 (bU (anq N) (by kernel_rfl) rfl (fun C => nC N a c (fun z => C 1000000 (lp z))) (fun C => by kernel_rfl)).trans (Eq.trans (b := nC N a c (fun z => bo N (vq N) (lp z))) (by kernel_rfl) (congrArg (nC N a c) (funext fun z => bj (lp) (vq N) (qm N) (aiB N) N z)))
theorem akd (N : Nat) (a : aA) (b : List Int) (h : Tot (xe N a b) (fun z => ∃ (c : Int) (rest : List aL), z.1.dimR = .int .i64 c ∧ z.2 = rest ∧ aal a b (c))) : ∃ r, l7 a b r := by
 obtain ⟨⟨v, hp⟩, hz, c, rest, e1, e2, hq⟩ := h
 simp only at e1 e2
 subst e2
 exact ⟨(c), aI.dimR (alJ.pure (akc N a b) hz) e1, hq⟩
noncomputable def b8 : aO := tab (P := Try.prog) [] [] [123] [ann]
def qn : IR := Sq (Rs [Mv 12 4, Mv 13 3, Pp (.lnw 14 13), Bi 15 .lss 12 14] (Cn 15 .skip (.exit 0))) (Sq (.block 1 (Sq (.gh (.opn (.slot 3)) (.ghp (.cls (.slot 3)) (Rg [Mv 18 3, Mv 19 4, Pp (.ixw 20 (.num .i64) 18 19), Pp (.stw none 1 20 (kI (-1)))]))) (Rs [Fa 21 0 1, Lq 22 21, Mv 23 4, Ix 24 .atype 22 23, Fa 25 0 24, Lo 26 25, Bc 27 .neq 26 9, Mv 28 27, Gt 28 (.fad 29 0 1), Gt 28 (.lde 30 1 false 29), Gt 28 (.mov 31 4), Gt 28 (.ixa 32 .atype 30 31), Gt 28 (.fad 33 0 32), Gt 28 (.ld 34 1 false false 33), Gt 28 (.bin 35 .neq 34 (kI 14)), Pa 36 28 35] (Cn 36 (.gh (.opn (.slot 3)) (.ghp (.cls (.slot 3)) (Rg [Mv 37 3, Mv 38 4, Pp (.ixw 39 (.num .i64) 37 38), Pp (.stw none 1 39 (kI 0))]))) .skip)))) (Rg [Mv 16 4, Bc 17 .add 16 1, Mv 4 17]))
def aap : IR := Sq (Rs [Mv 49 7, Mv 50 3, Pp (.lnw 51 50), Bi 52 .lss 49 51] (Cn 52 .skip (.exit 4))) (Sq (.block 5 (Sq (Sq (.gh (.opn (.slot 3)) (.ghp (.cls (.slot 3)) (Rg [Mv 55 3, Mv 56 7, Pp (.ixw 57 (.num .i64) 55 56), Pp (.ldw 58 1 false 57), Bc 59 .geq 58 0]))) (Cn 59 (.exit 5) .skip)) (.gh (.opn (.slot 3)) (.gh (.opn (.slot 6)) (.ghp (.cls (.slot 3)) (.ghp (.cls (.slot 6)) (Rg [Mv 60 6, Mv 61 7, Ld 62 1 true 1, Mv 63 7, Mv 64 3, Ca 65 123 [62, 63, 64], Pp (.ixw 66 (.num .i64) 60 61), Pp (.stw none 1 66 65)]))))))) (Rg [Mv 53 7, Bc 54 .add 53 1, Mv 7 54]))
def aaq : IR := Rg [Pp (.mov 67 (.tk 6)), Pp (.mov 3 (.tk 67))]
def aar : IR := Rg [Mv 44 5, Bc 45 .add 44 1, Mv 5 45]
def oq : IR := Sq (Rs [Mv 40 5, Mv 41 3, Pp (.lnw 42 41), Bi 43 .leq 40 42] (Cn 43 .skip (.exit 2))) (Sq (.block 3 (Sq (.gh (.opn (.slot 3)) (.ghp (.cls (.slot 3)) (Rg [Pp (.blu 46 (.num .i64)), Mv 47 3, Pp (.apw 48 (.num .i64) (.tk 46) 47), Pp (.mov 6 (.tk 48))]))) (Sq (Rs [Mi 7 0] (.block 4 (.loop [1, 3, 5, 6, 7, 1000001] 0 aap))) aaq))) aar)
def tU : IR := Rs [Pp (.mov 68 (.tk 3)), Pp (.mov 2 (.tk 68))] (.gh (.fz (.slot 2)) .ret)
def tV : IR := Sq (Rs [Mi 5 0] (.block 2 (.loop [1, 3, 5, 1000002] 0 oq))) tU
def yj : IR := Rs [Bx 1 0, Pp (.mov 2 (.c (.ul (.num .i64) ([] : List Int))))] (Rs [Fa 8 0 1, Lq 9 8, Ll 10 9, Pp (.mku 11 (.num .i64) 10), Pp (.mov 3 (.tk 11))] (Sq (Rs [Mi 4 0] (.block 0 (.loop [1, 3, 4, 1000000] 0 qn))) tV))
def jG : List RV := [.t 2]
theorem anr : FnC Try.prog b8 [123, 2000123] 0 afT Try.f83 yj jG := fnC (by kernel_rfl) Try.func83 (by kernel_rfl) (by kernel_rfl) (by decide)
def xf (R : IR → (Ex → St → Ro) → St → Ro) (a : St → Ro) : Ex → St → Ro := (bM a [1, 3, 4, 1000000] 0 (aT 0 (bx (R tV) (fin jG))))
abbrev iw : Type := (List aA × List Int × Int)
def dZ : iw → St := fun (a, b, c) => { env := (.undef :: .ea [.sl .atype (.may false) a] :: .undef :: .ul (.num .i64) b :: .int .i64 c :: (U 64 [])), hp := [] }
def sa (R : IR → (Ex → St → Ro) → St → Ro) (a : St → Ro) : Ex → St → Ro := (bM a [1, 3, 5, 1000002] 0 (aT 2 (bx (R tU) (fin jG))))
abbrev fA : Type := (List aA × List Int × Int)
def cr : fA → St := fun (a, b, c) => { env := (.undef :: .ea [.sl .atype (.may false) a] :: .undef :: .ul (.num .i64) b :: .undef :: .int .i64 c :: (U 63 [])), hp := [] }
def alK (R : IR → (Ex → St → Ro) → St → Ro) (a b : St → Ro) : Ex → St → Ro := (bM b [1, 3, 5, 6, 7, 1000001] 0 (aT 4 (bx (R aaq) (aT 3 (bx (R aar) (sa R a))))))
abbrev nD : Type := (List aA × List Int × Int × List Int × Int)
def jH : nD → St := fun (a, b, c, d, e) => { env := (.undef :: .ea [.sl .atype (.may false) a] :: .undef :: .ul (.num .i64) b :: .undef :: .int .i64 c :: .ul (.num .i64) d :: .int .i64 e :: (U 61 [])), hp := [] }
def sb (N : Nat) (a : St → Ro) : (St → Ro) → St → Ro := fun b s => run b8 N aap (alK (run b8 N) a b) s
def nE (N : Nat) (e : fA → Ro) (b : nD → Ro) : nD → Ro := fun (c, a, h, f, d) =>
 let i : Int := (↑(List.length a) : Int)
 cond (decide (d < i)) (
 chk (decide (0 < List.length a)) (
 chk ((decide (0 ≤ d) && decide (d < ↑(List.length a)))) (
 chk (decide ((Int.toNat d) < List.length a)) (
 let j : Int := List.getD a (Int.toNat d) (aC (.num .i64))
 chk (Nat.beq (List.length a) (List.length a)) (
 cond (decide (0 ≤ j)) (
 let k : Int := (IntKind.wrap .i64 (d + 1))
 b (c, a, h, f, k)) (
 chk (decide (0 < List.length a)) (
 chk (decide (0 < List.length f)) (
 apo (pF c d a) ((Nat.beq (List.length a) (List.length a) && true)) (fun (n : Int) =>
 chk ((decide (0 ≤ d) && decide (d < ↑(List.length f)))) (
 chk (decide ((Int.toNat d) < List.length f)) (
 let g : List Int := (List.set f (Int.toNat d) n)
 chk (Nat.beq (List.length f) (List.length g)) (
 chk (Nat.beq (List.length a) (List.length a)) (
 let l : Int := (IntKind.wrap .i64 (d + 1))
 b (c, a, h, g, l)))))))))))))) (
 let m : Int := (IntKind.wrap .i64 (h + 1))
 e (c, f, m))
theorem ake (N : Nat) (b : St → Ro) : ∀ (a : St → Ro) (x : nD), sb N b a (jH x) = nE N (fun y => b (cr y)) (fun y => a (jH y)) x := by
 intro a x
 kernel_rfl
def nF (N : Nat) : (St → Ro) → St → Ro := fun a s => run b8 N oq (sa (run b8 N) a) s
def qo (N : Nat) (c : fA → Ro) (f : nD → Ro) : fA → Ro := fun (b, a, e) =>
 let d : Int := (↑(List.length a) : Int)
 cond (decide (e ≤ d)) (
 chk (decide (0 < List.length a)) (
 chk (Nat.beq (List.length a) (List.length a) && decide ((List.length ([] : List Int) + List.length a) * 8 ≤ 140737488355328)) (
 chk (Nat.beq (List.length a) (List.length a)) (
 f (b, a, e, (([] : List Int) ++ a), 0))))) (
 some (.sl (.num .i64) .own a, []))
def kV (N : Nat) (a : fA → Ro) (x : fA) : Ro := qo N a (fun z => aS N (nE N a) z) x
def xg (N : Nat) (a : St → Ro) : List (Nat × (St → Ro)) := (ba b8 N oq (sa (run b8 N) a) ++ (ba b8 N tU (fin jG) ++ []))
theorem akf (N : Nat) : ∀ (a : St → Ro) (x : fA), nF N a (cr x) = kV N (fun y => a (cr y)) x := by
 intro a x
 have hX : ∀ C : Nat → St → Ro, bT C b8 N oq (sa (bT C b8 N) a) (cr x) = qo N (fun y => a (cr y)) (fun z => C 1000001 (jH z)) x := by
  intro C
  kernel_rfl
 have h : nF N a (cr x) = qo N (fun y => a (cr y)) (fun z => bo N (sb N a) (jH z)) x := (cp (C := dM (xg N a)) (bR (aX (l := (xg N a)) (by kernel_rfl))) (oJ (cD (eF (bR (dl (aX (l := (xg N a)) (by kernel_rfl)))) rfl))) _).trans ((hX _).trans (by kernel_rfl))
 have e2 : (fun z => bo N (sb N a) (jH z)) = (fun z => aS N (nE N (fun y => a (cr y))) z) := funext fun z => bj (jH) (sb N a) (nE N (fun y => a (cr y))) (ake N a) N z
 rw [h, e2]
 rfl
def sc (N : Nat) : (St → Ro) → St → Ro := fun a s => run b8 N qn (xf (run b8 N) a) s
def qp (N : Nat) (b : iw → Ro) (h : fA → Ro) : iw → Ro := fun (a, e, c) =>
 let i : Int := (↑(List.length e) : Int)
 cond (decide (c < i)) (
 chk (decide (0 < List.length e)) (
 chk ((decide (0 ≤ c) && decide (c < ↑(List.length e)))) (
 chk (decide ((Int.toNat c) < List.length e)) (
 let d : List Int := (List.set e (Int.toNat c) (-1))
 chk (Nat.beq (List.length e) (List.length d)) (
 chk ((decide (0 ≤ c) && decide (c < ↑(List.length a)))) (
 let j : aA := (List.getD a (Int.toNat c) (aC .atype))
 cond (!(j.kind == 9)) (
 chk ((decide (0 ≤ c) && decide (c < ↑(List.length a)))) (
 let k : aA := (List.getD a (Int.toNat c) (aC .atype))
 cond (!(k.kind == 14)) (
 chk (decide (0 < List.length d)) (
 chk ((decide (0 ≤ c) && decide (c < ↑(List.length d)))) (
 chk (decide ((Int.toNat c) < List.length d)) (
 let g : List Int := (List.set d (Int.toNat c) 0)
 chk (Nat.beq (List.length d) (List.length g)) (
 let l : Int := (IntKind.wrap .i64 (c + 1))
 b (a, g, l)))))) (
 let m : Int := (IntKind.wrap .i64 (c + 1))
 b (a, d, m)))) (
 let f : Int := (IntKind.wrap .i64 (c + 1))
 b (a, d, f)))))))) (
 h (a, e, 0))
def sd (N : Nat) (a : iw → Ro) (x : iw) : Ro := qp N a (fun z => aS N (kV N) z) x
def xh (N : Nat) (a : St → Ro) : List (Nat × (St → Ro)) := (ba b8 N qn (xf (run b8 N) a) ++ (ba b8 N tV (fin jG) ++ []))
theorem akg (N : Nat) : ∀ (a : St → Ro) (x : iw), sc N a (dZ x) = sd N (fun y => a (dZ y)) x := by
 intro a x
 have hX : ∀ C : Nat → St → Ro, bT C b8 N qn (xf (bT C b8 N) a) (dZ x) = qp N (fun y => a (dZ y)) (fun z => C 1000002 (cr z)) x := by
  intro C
  kernel_rfl
 have h : sc N a (dZ x) = qp N (fun y => a (dZ y)) (fun z => bo N (nF N) (cr z)) x := (cp (C := dM (xh N a)) (bR (aX (l := (xh N a)) (by kernel_rfl))) (oJ (cD (eF (bR (dl (aX (l := (xh N a)) (by kernel_rfl)))) rfl))) _).trans ((hX _).trans (by kernel_rfl))
 have e1 : (fun z => bo N (nF N) (cr z)) = (fun z => aS N (kV N) z) := funext fun z => bj (cr) (nF N) (kV N) (akf N) N z
 rw [h, e1]
 rfl
def pH (N : Nat) (a : List aA) (c : iw → Ro) : Ro :=
 let b : Int := (↑(List.length a) : Int)
 chk ((decide (0 ≤ b) && decide (b * 8 ≤ 140737488355328))) (
 let d : List Int := (List.replicate (Int.toNat b) (aC (.num .i64)))
 c (a, d, 0))
def yk (N : Nat) (a : List aA) : Ro := pH N a (fun z => aS N (sd N) z)
def ape (N : Nat) : List (Nat × (St → Ro)) := ba b8 N yj (fin jG) ++ []
theorem alL (N : Nat) (a : List aA) : bc b8 N 69 jG yj [.agg [.sl .atype (.may false) a]] [] = yk N a :=
 (bU (ape N) (by kernel_rfl) rfl (fun C => pH N a (fun z => C 1000000 (dZ z))) (fun C => by kernel_rfl)).trans (Eq.trans (b := pH N a (fun z => bo N (sc N) (dZ z))) (by kernel_rfl) (congrArg (pH N a) (funext fun z => bj (dZ) (sc N) (sd N) (akg N) N z)))
theorem alM (N : Nat) (a : List aA) (h : Tot (yk N a) (fun z => ∃ (b : List Int) (rest : List aL), z.1.dimR = .sl (.num .i64) (.may false) b ∧ z.2 = rest ∧ vn a (b))) : ∃ r, mY a r := by
 obtain ⟨⟨v, hp⟩, hz, b, rest, e1, e2, hq⟩ := h
 simp only at e1 e2
 subst e2
 exact ⟨(b), aI.dimR (anr.pure (alL N a) hz) e1, hq⟩
noncomputable def bA : aO := tab (P := Try.prog) [] [] [] [ad3]
def zi : IR := Sq (Rs [Mv 61 9, Fa 62 8 8, Lq 63 62, Ll 64 63, Bi 65 .lss 61 64] (Cn 65 .skip (.exit 4))) (Sq (.block 5 (.gh (.opn (.slot 5)) (.ghp (.cls (.slot 5)) (.reg [Mv 68 5, Mv 69 7, Mv 70 5, Mv 71 7, Pp (.ixw 72 (.num .i64) 70 71), Fo [0] [] (.ldw 73 1 false 72), Mv 74 5, Fa 75 8 8, Lq 76 75, Mv 77 9, Ix 78 .afield 76 77, Fa 79 2 78, Fo [] [] (.ld 80 1 false false 79), Pp (.ixw 81 (.num .i64) 74 80), Fo [0] [] (.ldw 82 1 false 81), Bi 83 .add 73 82, Pp (.mx 84 true 83 (kI 1000000)), Pp (.ixw 85 (.num .i64) 68 69), Fo [] [0] (.stw none 1 85 84)] [[], [], [], [], [2, 3], [2, 3, 4], [], [], [7], [], [7, 8, 9], rg 7 10, rg 7 11, rg 6 12, rg 6 13, rg 2 14, rg 2 15, rg 0 16, rg 0 17])))) (Rg [Mv 66 9, Bc 67 .add 66 1, Mv 9 67]))
def xH : IR := Rg [Mv 23 7, Bc 24 .add 23 1, Mv 7 24]
def mL : IR := Sq (Rs [Mv 19 7, Mv 20 1, Ll 21 20, Bi 22 .lss 19 21] (Cn 22 .skip (.exit 2))) (Sq (.block 3 (Sq (Rs [Mv 25 1, Mv 26 7, Ix 27 (.num .i64) 25 26, Lq 28 27, Mv 29 6, Bi 30 .neq 28 29] (Cn 30 (.exit 3) .skip)) (Sq (.gh (.opn (.slot 5)) (.ghp (.cls (.slot 5)) (Rg [Mv 31 5, Mv 32 7, Pp (.ixw 33 (.num .i64) 31 32), Pp (.stw none 1 33 (kI 1))]))) (Rs [Fa 34 0 2, Lq 35 34, Mv 36 7, Ix 37 .atype 35 36, Ld 38 10 true 37, Pp (.alr 8 10), Fz 8 10 38] (Sq (Rs [Fa 39 0 8, Lq 40 39, Bc 41 .eql 40 14] (Cn 41 (.gh (.opn (.slot 5)) (.ghp (.cls (.slot 5)) (.reg [Mv 42 5, Mv 43 7, Mv 44 5, Mv 45 7, Pp (.ixw 46 (.num .i64) 44 45), Fo [2] [] (.ldw 47 1 false 46), Mv 48 5, Fa 49 9 8, Lq 50 49, Ld 51 10 true 8, Mv 52 1, Ca 53 124 [51, 52], Ix 54 (.num .i64) 50 53, Lq 55 54, Pp (.ixw 56 (.num .i64) 48 55), Fo [2] [] (.ldw 57 1 false 56), Bi 58 .add 47 57, Pp (.mx 59 true 58 (kI 1000000)), Pp (.ixw 60 (.num .i64) 42 43), Fo [] [2] (.stw none 1 60 59)] [[], [], [], [], [2, 3], [2, 3, 4], [], [], [7], [], [], [9, 10], rg 7 11, rg 7 12, rg 6 13, rg 6 14, rg 2 15, rg 2 16, rg 0 17, rg 0 18]))) .skip)) (Rs [Mi 9 0] (.block 4 (.loop [1, 2, 5, 6, 7, 8, 9, 1000000] 0 zi)))))))) xH)
def rz : IR := Rg [Mv 17 6, Bc 18 .add 17 1, Mv 6 18]
def mM : IR := Sq (Rs [Mv 13 6, Mv 14 1, Ll 15 14, Bi 16 .leq 13 15] (Cn 16 .skip (.exit 0))) (Sq (.block 1 (Rs [Mi 7 0] (.block 2 (.loop [1, 2, 5, 6, 7, 1000001] 0 mL)))) rz)
def mN : IR := Rs [Pp (.mov 86 (.tk 5)), Pp (.mov 4 (.tk 86))] (.gh (.fz (.slot 4)) .ret)
def vr : IR := Rs [Bx 2 0, Pp (.mov 4 (.c (.ul (.num .i64) ([] : List Int))))] (Rs [Mv 10 1, Ll 11 10, Pp (.mku 12 (.num .i64) 11), Pp (.mov 5 (.tk 12))] (Sq (Rs [Mi 6 0] (.block 0 (.loop [1, 2, 5, 6, 1000002] 0 mM))) mN))
def jI : List RV := [.t 4]
theorem akh : FnC Try.prog bA [] 0 acf Try.f84 vr jI := fnC (by kernel_rfl) Try.func84 (by kernel_rfl) (by kernel_rfl) (by decide)
def lq (R : IR → (Ex → St → Ro) → St → Ro) (a : St → Ro) : Ex → St → Ro := (bM a [1, 2, 5, 6, 1000002] 0 (aT 0 (bx (R mN) (fin jI))))
abbrev di : Type := (List Int × List aA × List Int × Int)
def bD : di → St := fun (a, b, c, d) => { env := (.undef :: .sl (.num .i64) (.may false) a :: .ea [.sl .atype (.may false) b] :: .undef :: .undef :: .ul (.num .i64) c :: .int .i64 d :: (U 80 [])), hp := [] }
def ot (R : IR → (Ex → St → Ro) → St → Ro) (a b : St → Ro) : Ex → St → Ro := (bM b [1, 2, 5, 6, 7, 1000001] 0 (aT 2 (aT 1 (bx (R rz) (lq R a)))))
abbrev eC : Type := (List Int × List aA × List Int × Int × Int)
def ce : eC → St := fun (a, b, c, d, e) => { env := (.undef :: .sl (.num .i64) (.may false) a :: .ea [.sl .atype (.may false) b] :: .undef :: .undef :: .ul (.num .i64) c :: .int .i64 d :: .int .i64 e :: (U 79 [])), hp := [] }
def aiC (R : IR → (Ex → St → Ro) → St → Ro) (a b c : St → Ro) : Ex → St → Ro := (bM c [1, 2, 5, 6, 7, 8, 9, 1000000] 0 (aT 4 (aT 3 (bx (R xH) (ot R a b)))))
abbrev lr : Type := (List Int × List aA × List Int × Int × Int × aA × Int)
def gK : lr → St := fun (a, b, c, d, e, f, g) => { env := (.undef :: .sl (.num .i64) (.may false) a :: .ea [.sl .atype (.may false) b] :: .undef :: .undef :: .ul (.num .i64) c :: .int .i64 d :: .int .i64 e :: .ea (enc .atype f) :: .int .i64 g :: (U 77 [])), hp := [] }
def ou (N : Nat) (a b : St → Ro) : (St → Ro) → St → Ro := fun c s => run bA N zi (aiC (run bA N) a b c) s
def fq (N : Nat) (j : di → Ro) (c : eC → Ro) (d : lr → Ro) : lr → Ro := fun (r, f, a, s, b, k, g) =>
 let l : Int := (↑(List.length k.fields) : Int)
 cond (decide (g < l)) (
 chk (decide (0 < List.length a)) (
 chk ((decide (0 ≤ b) && decide (b < ↑(List.length a)))) (
 chk (decide ((Int.toNat b) < List.length a)) (
 let m : Int := List.getD a (Int.toNat b) (aC (.num .i64))
 chk ((decide (0 ≤ g) && decide (g < ↑(List.length k.fields)))) (
 let e : aM := (List.getD k.fields (Int.toNat g) (aC .afield))
 chk ((decide (0 ≤ e.typ) && decide (e.typ < ↑(List.length a)))) (
 chk (decide ((Int.toNat e.typ) < List.length a)) (
 let n : Int := List.getD a (Int.toNat e.typ) (aC (.num .i64))
 let h : Int := (IntKind.wrap .i64 (m + n))
 let o : Int := (if 1000000 < h then 1000000 else h)
 chk ((decide (0 ≤ b) && decide (b < ↑(List.length a)))) (
 chk (decide ((Int.toNat b) < List.length a)) (
 let i : List Int := (List.set a (Int.toNat b) o)
 chk (Nat.beq (List.length a) (List.length i)) (
 let p : Int := (IntKind.wrap .i64 (g + 1))
 d (r, f, i, s, b, k, p))))))))))) (
 let q : Int := (IntKind.wrap .i64 (b + 1))
 c (r, f, a, s, q))
theorem ah1 (N : Nat) (b c : St → Ro) : ∀ (a : St → Ro) (x : lr), ou N b c a (gK x) = fq N (fun y => b (bD y)) (fun y => c (ce y)) (fun y => a (gK y)) x := by
 intro a x
 kernel_rfl
def lu (N : Nat) (a : St → Ro) : (St → Ro) → St → Ro := fun b s => run bA N mL (ot (run bA N) a b) s
def nG (N : Nat) (d : di → Ro) (e : eC → Ro) (q : lr → Ro) : eC → Ro := fun (g, b, h, j, a) =>
 let r : Int := (↑(List.length g) : Int)
 cond (decide (a < r)) (
 chk ((decide (0 ≤ a) && decide (a < ↑(List.length g)))) (
 let s : Int := List.getD g (Int.toNat a) (aC (.num .i64))
 cond (!(s == j)) (
 let t : Int := (IntKind.wrap .i64 (a + 1))
 e (g, b, h, j, t)) (
 chk (decide (0 < List.length h)) (
 chk ((decide (0 ≤ a) && decide (a < ↑(List.length h)))) (
 chk (decide ((Int.toNat a) < List.length h)) (
 let c : List Int := (List.set h (Int.toNat a) 1)
 chk (Nat.beq (List.length h) (List.length c)) (
 chk ((decide (0 ≤ a) && decide (a < ↑(List.length b)))) (
 let i : aA := (List.getD b (Int.toNat a) (aC .atype))
 cond (i.kind == 14) (
 chk (decide (0 < List.length c)) (
 chk ((decide (0 ≤ a) && decide (a < ↑(List.length c)))) (
 chk (decide ((Int.toNat a) < List.length c)) (
 let u : Int := List.getD c (Int.toNat a) (aC (.num .i64))
 aG (l7 i g) (fun (m : Int) =>
 chk ((decide (0 ≤ m) && decide (m < ↑(List.length i.branches)))) (
 let f : Int := List.getD i.branches (Int.toNat m) (aC (.num .i64))
 chk ((decide (0 ≤ f) && decide (f < ↑(List.length c)))) (
 chk (decide ((Int.toNat f) < List.length c)) (
 let n : Int := List.getD c (Int.toNat f) (aC (.num .i64))
 let k : Int := (IntKind.wrap .i64 (u + n))
 let o : Int := (if 1000000 < k then 1000000 else k)
 chk ((decide (0 ≤ a) && decide (a < ↑(List.length c)))) (
 chk (decide ((Int.toNat a) < List.length c)) (
 let l : List Int := (List.set c (Int.toNat a) o)
 chk (Nat.beq (List.length c) (List.length l)) (
 q (g, b, l, j, a, i, 0)))))))))))) (
 q (g, b, c, j, a, i, 0)))))))))) (
 let p : Int := (IntKind.wrap .i64 (j + 1))
 d (g, b, h, p))
def lv (N : Nat) (a : di → Ro) (b : eC → Ro) (x : eC) : Ro := nG N a b (fun z => aS N (fq N a b) z) x
def oz (N : Nat) (a b : St → Ro) : List (Nat × (St → Ro)) := (ba bA N mL (ot (run bA N) a b) ++ (ba bA N rz (lq (run bA N) a) ++ (ba bA N mN (fin jI) ++ [])))
theorem ah2 (N : Nat) (b : St → Ro) : ∀ (a : St → Ro) (x : eC), lu N b a (ce x) = lv N (fun y => b (bD y)) (fun y => a (ce y)) x := by
 intro a x
 have hX : ∀ C : Nat → St → Ro, bT C bA N mL (ot (bT C bA N) b a) (ce x) = nG N (fun y => b (bD y)) (fun y => a (ce y)) (fun z => C 1000000 (gK z)) x := by
  intro C
  kernel_rfl
 have h : lu N b a (ce x) = nG N (fun y => b (bD y)) (fun y => a (ce y)) (fun z => bo N (ou N b a) (gK z)) x := (cp (C := dM (oz N b a)) (bR (aX (l := (oz N b a)) (by kernel_rfl))) (oJ (cD (cD (eF (bR (dl (aX (l := (oz N b a)) (by kernel_rfl)))) (oJ (cD (eF (bR (dl (dl (aX (l := (oz N b a)) (by kernel_rfl))))) rfl))))))) _).trans ((hX _).trans (by kernel_rfl))
 have e2 : (fun z => bo N (ou N b a) (gK z)) = (fun z => aS N (fq N (fun y => b (bD y)) (fun y => a (ce y))) z) := funext fun z => bj (gK) (ou N b a) (fq N (fun y => b (bD y)) (fun y => a (ce y))) (ah1 N b a) N z
 rw [h, e2]
 rfl
def oA (N : Nat) : (St → Ro) → St → Ro := fun a s => run bA N mM (lq (run bA N) a) s
def nH (N : Nat) (b : di → Ro) (f : eC → Ro) : di → Ro := fun (c, a, d, e) =>
 let g : Int := (↑(List.length c) : Int)
 cond (decide (e ≤ g)) (
 f (c, a, d, e, 0)) (
 some (.sl (.num .i64) .own d, []))
def oB (N : Nat) (a : di → Ro) (x : di) : Ro := nH N a (fun z => aS N (lv N a) z) x
def tW (N : Nat) (a : St → Ro) : List (Nat × (St → Ro)) := (ba bA N mM (lq (run bA N) a) ++ (ba bA N mN (fin jI) ++ []))
theorem ah3 (N : Nat) : ∀ (a : St → Ro) (x : di), oA N a (bD x) = oB N (fun y => a (bD y)) x := by
 intro a x
 have hX : ∀ C : Nat → St → Ro, bT C bA N mM (lq (bT C bA N) a) (bD x) = nH N (fun y => a (bD y)) (fun z => C 1000001 (ce z)) x := by
  intro C
  kernel_rfl
 have h : oA N a (bD x) = nH N (fun y => a (bD y)) (fun z => bo N (lu N a) (ce z)) x := (cp (C := dM (tW N a)) (bR (aX (l := (tW N a)) (by kernel_rfl))) (oJ (cD (eF (bR (dl (aX (l := (tW N a)) (by kernel_rfl)))) rfl))) _).trans ((hX _).trans (by kernel_rfl))
 have e1 : (fun z => bo N (lu N a) (ce z)) = (fun z => aS N (lv N (fun y => a (bD y))) z) := funext fun z => bj (ce) (lu N a) (lv N (fun y => a (bD y))) (ah2 N a) N z
 rw [h, e1]
 rfl
def my (N : Nat) (a : List aA) (c : List Int) (d : di → Ro) : Ro :=
 let b : Int := (↑(List.length c) : Int)
 chk ((decide (0 ≤ b) && decide (b * 8 ≤ 140737488355328))) (
 let e : List Int := (List.replicate (Int.toNat b) (aC (.num .i64)))
 d (c, a, e, 0))
def vt (N : Nat) (a : List aA) (b : List Int) : Ro := my N a b (fun z => aS N (oB N) z)
def alN (N : Nat) : List (Nat × (St → Ro)) := ba bA N vr (fin jI) ++ []
theorem aiD (N : Nat) (a : List aA) (c : List Int) : bc bA N 87 jI vr [.agg [.sl .atype (.may false) a], .sl (.num .i64) (.may false) c] [] = vt N a c :=
 (bU (alN N) (by kernel_rfl) rfl (fun C => my N a c (fun z => C 1000002 (bD z))) (fun C => by kernel_rfl)).trans (Eq.trans (b := my N a c (fun z => bo N (oA N) (bD z))) (by kernel_rfl) (congrArg (my N a c) (funext fun z => bj (bD) (oA N) (oB N) (ah3 N) N z)))
theorem aiE (N : Nat) (a : List aA) (b : List Int) (h : Tot (vt N a b) (fun z => ∃ (c : List Int) (rest : List aL), z.1.dimR = .sl (.num .i64) (.may false) c ∧ z.2 = rest ∧ s8 a b (c))) : ∃ r, iv a b r := by
 obtain ⟨⟨v, hp⟩, hz, c, rest, e1, e2, hq⟩ := h
 simp only at e1 e2
 subst e2
 exact ⟨(c), aI.dimR (akh.pure (aiD N a b) hz) e1, hq⟩
end Go.Proofs.Ytdpajabhmmmjoaa
end
noncomputable section
namespace Go.Proofs.Ytdpajabhmmmjoaa
open Go.AM
set_option autoImplicit false
set_option linter.unusedVariables false
set_option linter.unusedSimpArgs false
set_option maxRecDepth 100000
theorem fx.at {ts : List aA} (hs : fx ts) {i : Nat} (h : i < ts.length) : je ts.length (ts.getD i (aC .atype)) := hs.2 _ (iH _ _ _ h)
theorem asC (ts : List aA) (hs : fx ts) (t : Int) (ht : 0 ≤ t ∧ t < ts.length) (r : List Int) (hr : r.length = ts.length) (hb : ∀ i, i < r.length → -1 ≤ r.getD i 0 ∧ r.getD i 0 ≤ 100) : ∃ m, pF ts t r m := by
 apply aka 1000
 unfold xc nB
 dsimp only
 have hk := hs.at (i := t.toNat) (by omega)
 have hpost : ∀ m, tT ts t r m = (m = -1 ∨ w9 (ts.getD t.toNat (aC .atype)) r m) := fun _ => rfl
 simp only [hpost]
 generalize ts.getD t.toNat (aC .atype) = k at hk
 have hn := hs.1
 refine vck ?_
 refine aE (fun h14 => ?_) (fun h14 => ?_)
 ·simp only [bnl] at h14
  refine bq (fun x => match x with
   | (r', k', best, i) => r' = r ∧ k' = k ∧ 0 ≤ i ∧ i ≤ (k.branches.length : Int) ∧ -1 ≤ best ∧ best ≤ 100 ∧ (0 ≤ best → ∃ b ∈ k.branches, rk r b = best))
   (fun x => ((k.branches.length : Int) - x.2.2.2).toNat) ?_ _ _ ⟨rfl, rfl, by simp, by simp, by simp, by simp, by simp⟩ (by have := hk.nb; simp; omega)
  rintro again ⟨r', k', best, i⟩ ⟨rfl, rfl, i1, i2, i3, i4, i5⟩ ih
  dsimp only at ih
  unfold qk
  dsimp only
  have hnb := hk.nb
  refine aE (fun h => ?_) (fun h => ?_)
  ·have h := of_decide_eq_true h
   have hi : i.toNat < k'.branches.length := by omega
   have hbr := hk.branches _ (iH k'.branches i.toNat 0 hi)
   have ew : IntKind.i64.wrap (i + 1) = i + 1 := aJ (i + 1) (by omega)
   refine vck ?_
   change Tot (chk (decide (0 ≤ k'.branches.getD i.toNat 0) && decide (k'.branches.getD i.toNat 0 < (r'.length : Int))) _) _
   have hm := iH k'.branches i.toNat 0 hi
   have hq := hb (k'.branches.getD i.toNat 0).toNat (by omega)
   refine vck ?_
   have nx : ∀ b : Int, (b = best ∨ (0 ≤ rk r' (k'.branches.getD i.toNat 0) ∧ b = rk r' (k'.branches.getD i.toNat 0))) → Tot (again (r', k', b, IntKind.i64.wrap (i + 1))) _ := fun b hb' => ih (r', k', b, IntKind.i64.wrap (i + 1)) (by
    simp only [ew]
    rcases hb' with rfl | ⟨h0, rfl⟩
    ·exact ⟨trivial, trivial, by omega, by omega, i3, i4, i5⟩
    ·exact ⟨trivial, trivial, by omega, by omega, hq.1, hq.2, fun _ => ⟨_, hm, rfl⟩⟩) (by simp only [ew]; omega)
   refine aE (fun h0 => ?_) (fun h0 => nx _ (.inl rfl))
   have h0 := of_decide_eq_true h0
   refine aE (fun _ => nx _ (.inr ⟨h0, rfl⟩)) (fun _ => aE (fun _ => nx _ (.inr ⟨h0, rfl⟩)) (fun _ => nx _ (.inl rfl)))
  ·refine aE (fun h1 => aH ⟨_, _, rfl, rfl, .inl rfl⟩) (fun h1 => ?_)
   have h1 := of_decide_eq_false h1
   obtain ⟨b, hbm, hbe⟩ := i5 (by omega)
   have hbr := hk.branches b hbm
   refine aH ⟨_, _, rfl, rfl, .inr ?_⟩
   rw [aJ _ (by omega)]
   refine ⟨by omega, fun _ => ⟨b, hbm, by omega, by omega⟩, fun hne => absurd h14 hne, fun _ => ⟨b.toNat, by omega, ?_⟩⟩
   have : r'.getD b.toNat 0 = best := hbe
   omega
 ·simp only [bnl] at h14
  refine bq (fun x => match x with
   | (r', k', most, i) => r' = r ∧ k' = k ∧ 0 ≤ i ∧ i ≤ (k.fields.length : Int) ∧ 0 ≤ most ∧ most ≤ 100 ∧ (∀ f ∈ k.fields.take i.toNat, 0 ≤ rk r f.typ ∧ rk r f.typ ≤ most) ∧ (1 ≤ most → ∃ j, j < r.length ∧ r.getD j 0 = most))
   (fun x => ((k.fields.length : Int) - x.2.2.2).toNat) ?_ _ _ ⟨rfl, rfl, by simp, by simp, by simp, by simp, by simp, by simp⟩ (by have := hk.nf; simp; omega)
  rintro again ⟨r', k', most, i⟩ ⟨rfl, rfl, i1, i2, i3, i4, i5, i6⟩ ih
  dsimp only at ih
  unfold ql
  dsimp only
  have hnf := hk.nf
  refine aE (fun h => ?_) (fun h => ?_)
  ·have h := of_decide_eq_true h
   have hi : i.toNat < k'.fields.length := by omega
   have hm := iH k'.fields i.toNat (aC .afield) hi
   have hf := hk.fields _ hm
   have ew : IntKind.i64.wrap (i + 1) = i + 1 := aJ (i + 1) (by omega)
   have ht := ace k'.fields i.toNat (aC .afield) hi
   generalize k'.fields.getD i.toNat (aC .afield) = f at *
   refine vck (vck ?_)
   have hq := hb f.typ.toNat (by omega)
   refine aE (fun h0 => aH ⟨_, _, rfl, rfl, .inl rfl⟩) (fun h0 => ?_)
   have h0 : ¬ r'.getD f.typ.toNat 0 < 0 := of_decide_eq_false h0
   refine ih (r', k', _, _) ?_ (by simp only [ew]; omega)
   simp only [ew]
   have ei : (i + 1).toNat = i.toNat + 1 := by omega
   have em : (if most < r'.getD f.typ.toNat (aC (.num .i64)) then r'.getD f.typ.toNat (aC (.num .i64)) else most) = (if most < r'.getD f.typ.toNat 0 then r'.getD f.typ.toNat 0 else most) := rfl
   rw [em, ei, ht]
   refine ⟨trivial, trivial, by omega, by omega, by split <;> omega, by split <;> omega, fun g hg => ?_, fun h1 => ?_⟩
   ·rcases List.mem_append.1 hg with hg | hg
    ·have := i5 g hg; split <;> omega
    ·rw [List.mem_singleton] at hg
     subst hg
     have : rk r' g.typ = r'.getD g.typ.toNat 0 := rfl
     rw [this]; split <;> omega
   ·split
    ·exact ⟨f.typ.toNat, by omega, rfl⟩
    ·rename_i hh; rw [if_neg hh] at h1; exact i6 h1
  ·have h := of_decide_eq_false h
   refine aH ⟨_, _, rfl, rfl, .inr ?_⟩
   rw [aJ _ (by omega)]
   rw [List.take_of_length_le (by omega)] at i5
   refine ⟨by omega, fun h' => absurd h' h14, fun _ f hf => by have := i5 f hf; omega, fun h2 => ?_⟩
   obtain ⟨j, hj, e⟩ := i6 (by omega)
   exact ⟨j, hj, by omega⟩
theorem alO (k : aA) (m : Nat) (hk : je m k) (h14 : k.kind = 14) (r : List Int) (hr : r.length = m) : ∃ b, l7 k r b := by
 apply akd 1000
 unfold xe nC
 have hne : k.branches ≠ [] := hk.done h14
 have hlen : 0 < k.branches.length := List.length_pos_iff.2 hne
 have hnb := hk.nb
 refine bq (fun x => match x with
  | (r', k', b, i) => r' = r ∧ k' = k ∧ 0 ≤ i ∧ i ≤ (k.branches.length : Int) ∧ 0 ≤ b ∧ b < k.branches.length ∧ (b ≤ i) ∧ (∀ j : Nat, (j : Int) < i → 0 ≤ rk r (brT k j) → 0 ≤ rk r (brT k b.toNat) ∧ rk r (brT k b.toNat) ≤ rk r (brT k j)) ∧
    (∀ j, j < b.toNat → 0 ≤ rk r (brT k j) → rk r (brT k b.toNat) < rk r (brT k j)))
  (fun x => ((k.branches.length : Int) - x.2.2.2).toNat) ?_ _ _ ⟨rfl, rfl, by simp, by simp, by simp, by omega, by simp, fun j hj => by omega, fun j hj => by simp at hj⟩ (by simp; omega)
 rintro again ⟨r', k', b, i⟩ ⟨rfl, rfl, i1, i2, i3, i4, i7, i5, i6⟩ ih
 dsimp only at ih
 unfold qm
 dsimp only
 refine aE (fun h => ?_) (fun h => ?_)
 ·have h := of_decide_eq_true h
  have hi : i.toNat < k'.branches.length := by omega
  have hbr := hk.branches _ (iH k'.branches i.toNat 0 hi)
  have hbb := hk.branches _ (iH k'.branches b.toNat 0 (by omega))
  have ew : IntKind.i64.wrap (i + 1) = i + 1 := aJ (i + 1) (by omega)
  have keep : (0 ≤ rk r' (brT k' i.toNat) → 0 ≤ rk r' (brT k' b.toNat) ∧ rk r' (brT k' b.toNat) ≤ rk r' (brT k' i.toNat)) → Tot (again (r', k', b, IntKind.i64.wrap (i + 1))) _ := fun hk' => ih (r', k', b, IntKind.i64.wrap (i + 1)) (by
   simp only [ew]
   refine ⟨trivial, trivial, by omega, by omega, i3, i4, by omega, fun j hj h0 => ?_, i6⟩
   by_cases hji : (j : Int) < i
   ·exact i5 j hji h0
   ·have e : j = i.toNat := by omega
    rw [e] at h0 ⊢; exact hk' h0) (by simp only [ew]; omega)
  have turn : 0 ≤ rk r' (brT k' i.toNat) → (0 ≤ rk r' (brT k' b.toNat) → rk r' (brT k' i.toNat) < rk r' (brT k' b.toNat)) → Tot (again (r', k', i, IntKind.i64.wrap (i + 1))) _ := fun h0 hlt => ih (r', k', i, IntKind.i64.wrap (i + 1)) (by
   simp only [ew]
   refine ⟨trivial, trivial, by omega, by omega, i1, h, by omega, fun j hj h0' => ?_, fun j hj h0' => ?_⟩
   ·by_cases hji : (j : Int) < i
    ·have := i5 j hji h0'
     have := hlt this.1
     omega
    ·have e : j = i.toNat := by omega
     rw [e]; exact ⟨h0, Int.le_refl _⟩
   ·have := i5 j (by omega) h0'
    have := hlt this.1
    omega) (by simp only [ew]; omega)
  refine vck ?_
  change Tot (chk (decide (0 ≤ brT k' i.toNat) && decide (brT k' i.toNat < (r'.length : Int))) (cond (decide (0 ≤ rk r' (brT k' i.toNat))) (chk _ (chk (decide (0 ≤ brT k' b.toNat) && decide (brT k' b.toNat < (r'.length : Int))) (cond (decide (rk r' (brT k' b.toNat) < 0)) _
   (chk _ (chk (decide (0 ≤ brT k' i.toNat) && decide (brT k' i.toNat < (r'.length : Int))) (chk _ (chk (decide (0 ≤ brT k' b.toNat) && decide (brT k' b.toNat < (r'.length : Int))) (cond (decide (rk r' (brT k' i.toNat) < rk r' (brT k' b.toNat))) _ _)))))))) _)) _
  have hbr : 0 ≤ brT k' i.toNat ∧ brT k' i.toNat < (m : Int) := hbr
  have hbb : 0 ≤ brT k' b.toNat ∧ brT k' b.toNat < (m : Int) := hbb
  refine vck (aE (fun h0 => ?_) (fun h0 => keep fun h0' => absurd h0' (of_decide_eq_false h0)))
  have h0 := of_decide_eq_true h0
  refine vck (vck (aE (fun h1 => turn h0 fun h1' => absurd h1' (Int.not_le.2 (of_decide_eq_true h1))) (fun h1 => ?_)))
  have h1 := of_decide_eq_false h1
  refine vck (vck (vck (vck (aE (fun h2 => turn h0 fun _ => of_decide_eq_true h2) (fun h2 => keep fun _ => ?_)))))
  have h2 := of_decide_eq_false h2
  omega
 ·have h := of_decide_eq_false h
  exact aH ⟨_, _, rfl, rfl, i3, i4, fun j hj => i5 j (by omega), i6⟩
theorem an1 (ts : List aA) (hs : fx ts) : ∃ r, mY ts r := by
 apply alM 1000
 unfold yk pH
 dsimp only
 obtain ⟨⟨hn0, hn⟩, hall⟩ := hs
 have hs : fx ts := ⟨⟨hn0, hn⟩, hall⟩
 refine vck ?_
 have rounds : ∀ r, iB ts r 0 → Tot (aS 1000 (kV 1000) (ts, r, 0)) (fun z => ∃ (y0 : List Int) (rest : List aL), z.1.dimR = .sl (.num .i64) (.may false) y0 ∧ z.2 = rest ∧ vn ts y0) := by
  intro r hr
  refine bq (fun x => match x with | (ts', r, n) => ts' = ts ∧ 0 ≤ n ∧ n ≤ (ts.length : Int) + 1 ∧ iB ts r n)
   (fun x => ((ts.length : Int) + 1 - x.2.2).toNat) ?_ _ _ ⟨rfl, by simp, by omega, hr⟩ (by simp only; omega)
  rintro again ⟨ts', r, n⟩ ⟨rfl, i1, i2, i3⟩ ih
  dsimp only at ih
  unfold kV qo
  dsimp only
  have hrl := i3.len
  refine aE (fun h => ?_) (fun h => aH ⟨_, _, rfl, rfl, i3.fin⟩)
  have h := of_decide_eq_true h
  have ew : IntKind.i64.wrap (n + 1) = n + 1 := aJ (n + 1) (by omega)
  refine vck (vck (vck ?_))
  refine bq (fun x => match x with | (ts2, r2, n2, next, i) => ts2 = ts' ∧ r2 = r ∧ n2 = n ∧ 0 ≤ i ∧ i ≤ (ts'.length : Int) ∧ next.length = ts'.length ∧ (∀ j, j < ts'.length → (0 ≤ r.getD j 0 ∨ i ≤ (j : Int)) → next.getD j 0 = r.getD j 0) ∧
    (∀ j, j < ts'.length → (j : Int) < i → r.getD j 0 < 0 → next.getD j 0 = -1 ∨ w9 (ts'.getD j (aC .atype)) r (next.getD j 0)))
   (fun x => ((ts'.length : Int) - x.2.2.2.2).toNat) ?_ _ _ ⟨rfl, rfl, rfl, by simp, by simp, by simpa using hrl, fun j _ _ => rfl, fun j _ hj => by omega⟩ (by simp; omega)
  rintro again2 ⟨ts2, r2, n2, next, i⟩ ⟨rfl, rfl, rfl, j1, j2, j3, j4, j5⟩ ih2
  dsimp only at ih2
  unfold nE
  dsimp only
  refine aE (fun h' => ?_) (fun h' => ?_)
  ·have h' := of_decide_eq_true h'
   have ei : IntKind.i64.wrap (i + 1) = i + 1 := aJ (i + 1) (by omega)
   have hil : i.toNat < ts2.length := by omega
   refine vck (vck (vck (vck ?_)))
   refine aE (fun h0 => ?_) (fun h0 => ?_)
   ·have h0 : 0 ≤ r2.getD i.toNat 0 := of_decide_eq_true h0
    refine ih2 (ts2, r2, n2, next, _) ?_ (by simp only [ei]; omega)
    simp only [ei]
    refine ⟨trivial, trivial, trivial, by omega, by omega, j3, fun j hj hc => j4 j hj (by omega), fun j hj hji hneg => ?_⟩
    by_cases hh : (j : Int) < i
    ·exact j5 j hj hh hneg
    ·have : j = i.toNat := by omega
     rw [this] at hneg; omega
   ·have h0 : ¬ 0 ≤ r2.getD i.toNat 0 := of_decide_eq_false h0
    refine vck (vck ?_)
    refine arQ (by simp) (asC ts2 hs i (by omega) r2 hrl fun q hq => ⟨i3.low q hq, by have := i3.top q hq; omega⟩) ?_
    rintro (q : Int) ⟨-, hq⟩
    refine vck (vck (vck (vck ?_)))
    refine ih2 (ts2, r2, n2, _, _) ?_ (by simp only [ei]; omega)
    simp only [ei]
    refine ⟨trivial, trivial, trivial, by omega, by omega, by simpa using j3, fun j hj hc => ?_, fun j hj hji hneg => ?_⟩
    ·have hne : i.toNat ≠ j := fun e => by rw [e] at h0; omega
     rw [jE _ _ _ _ _ hne]
     exact j4 j hj (by omega)
    ·by_cases hh : (j : Int) < i
     ·rw [jE _ _ _ _ _ (by omega)]
      exact j5 j hj hh hneg
     ·have e : j = i.toNat := by omega
      rw [e, mX _ _ _ _ (by omega)]
      exact hq
  ·have h' := of_decide_eq_false h'
   refine ih (ts2, next, _) ?_ (by simp only [ew]; omega)
   simp only [ew]
   exact ⟨trivial, by omega, by omega, i3.step i1 j3 (fun j hj h0 => j4 j hj (.inl h0)) fun j hj h0 => j5 j hj (by omega) h0⟩
 refine bq (fun x => match x with | (ts', r, i) => ts' = ts ∧ 0 ≤ i ∧ i ≤ (ts.length : Int) ∧ r.length = ts.length ∧ ∀ j, j < ts.length → (j : Int) < i → r.getD j 0 = -1 ∨ (r.getD j 0 = 0 ∧ (ts.getD j (aC .atype)).kind ≠ 9 ∧ (ts.getD j (aC .atype)).kind ≠ 14))
  (fun x => ((ts.length : Int) - x.2.2).toNat) ?_ _ _ ⟨rfl, by simp, by simp, by simp, fun j _ hj => by omega⟩ (by simp; omega)
 rintro again ⟨ts', r, i⟩ ⟨rfl, i1, i2, i3, i4⟩ ih
 dsimp only at ih
 unfold sd qp
 dsimp only
 refine aE (fun h => ?_) (fun h => ?_)
 ·have h := of_decide_eq_true h
  have ei : IntKind.i64.wrap (i + 1) = i + 1 := aJ (i + 1) (by omega)
  have hil : i.toNat < ts'.length := by omega
  have put : ∀ l : List Int, l.length = ts'.length → (∀ j, j < ts'.length → i.toNat ≠ j → l.getD j 0 = r.getD j 0) → (l.getD i.toNat 0 = -1 ∨ (l.getD i.toNat 0 = 0 ∧ (ts'.getD i.toNat (aC .atype)).kind ≠ 9 ∧ (ts'.getD i.toNat (aC .atype)).kind ≠ 14)) → Tot (again (ts', l, IntKind.i64.wrap (i + 1))) _ := fun l h1 h2 h3 => ih (ts', l, IntKind.i64.wrap (i + 1)) (by
   simp only [ei]
   refine ⟨trivial, by omega, by omega, h1, fun j hj hji => ?_⟩
   by_cases hh : i.toNat = j
   ·rw [← hh]; exact h3
   ·rw [h2 j hj hh]; exact i4 j hj (by omega)) (by simp only [ei]; omega)
  refine vck (vck (vck (vck (vck ?_))))
  refine aE (fun h9 => ?_) (fun h9 => ?_)
  ·refine vck (aE (fun h14 => ?_) (fun h14 => ?_))
   ·simp only [bnl] at h9 h14
    refine vck (vck (vck (vck ?_)))
    refine put _ (by simpa using i3) (fun j hj hne => by rw [jE _ _ _ _ _ hne, jE _ _ _ _ _ hne]) (.inr ⟨mX _ _ _ _ (by simp; omega), h9, h14⟩)
   ·exact put _ (by simpa using i3) (fun j hj hne => by rw [jE _ _ _ _ _ hne]) (.inl (mX _ _ _ _ (by omega)))
  ·exact put _ (by simpa using i3) (fun j hj hne => by rw [jE _ _ _ _ _ hne]) (.inl (mX _ _ _ _ (by omega)))
 ·have h := of_decide_eq_false h
  refine rounds r ⟨i3, fun j hj => ?_, fun j hj => ?_, fun j hj h1 => ?_, fun j hj h0 => ?_⟩
  all_goals have := i4 j (by omega) (by omega)
  ·omega
  ·omega
  ·omega
  ·rcases this with e | ⟨-, e⟩
   ·omega
   ·exact e
structure avj (ts : List aA) (r w : List Int) (k i : Int) : Prop where
 len : w.length = ts.length
 low : ∀ j, j < ts.length → 0 ≤ w.getD j 0 ∧ w.getD j 0 ≤ 1000000
 ok : ∀ j, j < ts.length → 0 ≤ r.getD j 0 → (r.getD j 0 < k ∨ (r.getD j 0 = k ∧ (j : Int) < i)) → le (ts.getD j (aC .atype)) r w (w.getD j 0)
theorem ajk (ts : List aA) (hs : fx ts) (r : List Int) (hR : iB ts r ts.length) : ∃ w, iv ts r w := by
 apply aiE 1000
 unfold vt my
 dsimp only
 have hrl := hR.len
 have hn := hs.1
 refine vck ?_
 refine bq (fun x => match x with | (r', ts', w, k) => r' = r ∧ ts' = ts ∧ 0 ≤ k ∧ k ≤ (ts.length : Int) + 1 ∧ avj ts r w k 0)
  (fun x => ((ts.length : Int) + 1 - x.2.2.2).toNat) ?_ _ _ ⟨rfl, rfl, by simp, by omega, by simp [hrl], fun j hj => ?_, fun j hj h0 hc => by omega⟩ (by simp only; omega)
 rotate_left
 ·have : (List.replicate (r.length : Int).toNat (aC (.num .i64))).getD j 0 = 0 := by
   simp [List.getD_eq_getElem?_getD, List.getElem?_replicate, hrl, hj]; rfl
  rw [this]; omega
 rintro again ⟨r', ts', w, k⟩ ⟨rfl, rfl, i1, i2, i3⟩ ih
 dsimp only at ih
 unfold oB nH
 dsimp only
 refine aE (fun h => ?_) (fun h => ?_)
 rotate_left
 ·have h := of_decide_eq_false h
  refine aH ⟨_, _, rfl, rfl, i3.len, fun j hj h0 => i3.ok j (by omega) h0 (.inl ?_)⟩
  have := hR.top j hj
  omega
 have h := of_decide_eq_true h
 have ek : IntKind.i64.wrap (k + 1) = k + 1 := aJ (k + 1) (by omega)
 refine bq (fun x => match x with | (r2, ts2, w, k2, i) => r2 = r' ∧ ts2 = ts' ∧ k2 = k ∧ 0 ≤ i ∧ i ≤ (ts'.length : Int) ∧ avj ts' r' w k i)
  (fun x => ((ts'.length : Int) - x.2.2.2.2).toNat) ?_ _ _ ⟨rfl, rfl, rfl, by simp, by simp, i3⟩ (by simp; omega)
 rintro again2 ⟨r2, ts2, w, k2, i⟩ ⟨rfl, rfl, rfl, j1, j2, j3⟩ ih2
 dsimp only at ih2
 unfold lv nG
 dsimp only
 have jl := j3.len
 refine aE (fun h1 => ?_) (fun h1 => ?_)
 rotate_left
 ·have h1 := of_decide_eq_false h1
  refine ih (r2, ts2, w, _) ?_ (by simp only [ek]; omega)
  simp only [ek]
  exact ⟨trivial, trivial, by omega, by omega, j3.len, j3.low, fun j hj h0 hc => j3.ok j hj h0 (by omega)⟩
 have h1 := of_decide_eq_true h1
 have ei : IntKind.i64.wrap (i + 1) = i + 1 := aJ (i + 1) (by omega)
 have hil : i.toNat < ts2.length := by omega
 refine vck (aE (fun hne => ?_) (fun heq => ?_))
 ·have hne : ¬ r2.getD i.toNat 0 = k2 := by simp only [bnl] at hne; exact hne
  refine ih2 (r2, ts2, w, k2, _) ?_ (by simp only [ei]; omega)
  simp only [ei]
  refine ⟨trivial, trivial, trivial, by omega, by omega, j3.len, j3.low, fun j hj h0 hc => j3.ok j hj h0 ?_⟩
  by_cases hji : i.toNat = j
  ·rw [hji] at hne; omega
  ·omega
 have heq : r2.getD i.toNat 0 = k2 := by simp only [bnl] at heq; exact heq
 have hty := hs.at hil
 have hz0 : ∀ (w1 : List Int) (l : List aM) (x : Int), 1 ≤ x → 1 + mt w1 (List.take (Int.toNat 0) l) ≤ x := fun w1 l x hx => by
  have h0 : mt w1 (List.take (Int.toNat 0) l) = 0 := rfl
  rw [h0]; omega
 have inner : ∀ w1 : List Int, w1.length = ts2.length → (∀ j, j < ts2.length → 0 ≤ w1.getD j 0 ∧ w1.getD j 0 ≤ 1000000) → 1 ≤ w1.getD i.toNat 0 →
   (∀ j, j < ts2.length → 0 ≤ r2.getD j 0 → (r2.getD j 0 < k2 ∨ (r2.getD j 0 = k2 ∧ (j : Int) < i)) → le (ts2.getD j (aC .atype)) r2 w1 (w1.getD j 0)) →
   ((ts2.getD i.toNat (aC .atype)).kind = 14 → ∀ b, abp (ts2.getD i.toNat (aC .atype)) r2 b → 1 + rk w1 (brT (ts2.getD i.toNat (aC .atype)) b.toNat) ≤ w1.getD i.toNat 0 ∨ w1.getD i.toNat 0 = 1000000) →
   Tot (aS 1000 (fq 1000 again again2) (r2, ts2, w1, k2, i, ts2.getD i.toNat (aC .atype), 0)) (fun z => ∃ (y0 : List Int) (rest : List aL), z.1.dimR = .sl (.num .i64) (.may false) y0 ∧ z.2 = rest ∧ s8 ts2 r2 y0) := by
  intro w1 q1 q2 q3 q4 q5
  generalize hkk : ts2.getD i.toNat (aC .atype) = kk at hty q5
  have hnf := hty.nf
  refine bq (fun x => match x with | (r3, ts3, w1, k3, i9, kk3, m) => r3 = r2 ∧ ts3 = ts2 ∧ k3 = k2 ∧ i9 = i ∧ kk3 = kk ∧ 0 ≤ m ∧ m ≤ (kk.fields.length : Int) ∧ w1.length = ts2.length ∧ (∀ j, j < ts2.length → 0 ≤ w1.getD j 0 ∧ w1.getD j 0 ≤ 1000000) ∧ 1 ≤ w1.getD i.toNat 0 ∧
    (∀ j, j < ts2.length → 0 ≤ r2.getD j 0 → (r2.getD j 0 < k2 ∨ (r2.getD j 0 = k2 ∧ (j : Int) < i)) → le (ts2.getD j (aC .atype)) r2 w1 (w1.getD j 0)) ∧
    (kk.kind = 14 → ∀ b, abp kk r2 b → 1 + rk w1 (brT kk b.toNat) ≤ w1.getD i.toNat 0 ∨ w1.getD i.toNat 0 = 1000000) ∧
    (kk.kind = 9 → 1 + mt w1 (kk.fields.take m.toNat) ≤ w1.getD i.toNat 0 ∨ w1.getD i.toNat 0 = 1000000))
   (fun x => ((kk.fields.length : Int) - x.2.2.2.2.2.2).toNat) ?_ _ _ ⟨rfl, rfl, rfl, rfl, rfl, by simp, by simp, q1, q2, q3, q4, q5, fun _ => .inl (hz0 w1 kk.fields _ q3)⟩ (by simp; omega)
  rintro again3 ⟨r3, ts3, w1, k3, i9, kk3, m⟩ ⟨rfl, rfl, rfl, rfl, rfl, m1, m2, q1, q2, q3, q4, q5, q6⟩ ih3
  dsimp only at ih3
  unfold fq
  dsimp only
  have hri : 0 ≤ r3.getD i9.toNat 0 := by omega
  refine aE (fun h2 => ?_) (fun h2 => ?_)
  ·have h2 := of_decide_eq_true h2
   have hm : m.toNat < kk3.fields.length := by omega
   have hf := hty.fields _ (iH kk3.fields m.toNat (aC .afield) hm)
   have em : IntKind.i64.wrap (m + 1) = m + 1 := aJ (m + 1) (by omega)
   have ht := ace kk3.fields m.toNat (aC .afield) hm
   have hmem := iH kk3.fields m.toNat (aC .afield) hm
   generalize kk3.fields.getD m.toNat (aC .afield) = f at *
   have a1 := q2 i9.toNat hil
   have a2 := q2 f.typ.toNat (by omega)
   refine vck (vck (vck (vck (vck (vck (vck (vck (vck ?_))))))))
   have ewr : IntKind.i64.wrap (w1.getD i9.toNat (aC (.num .i64)) + w1.getD f.typ.toNat (aC (.num .i64))) = w1.getD i9.toNat 0 + w1.getD f.typ.toNat 0 := aJ _ (by
    have e1 : w1.getD i9.toNat (aC (.num .i64)) = w1.getD i9.toNat 0 := rfl
    have e2 : w1.getD f.typ.toNat (aC (.num .i64)) = w1.getD f.typ.toNat 0 := rfl
    rw [e1, e2]; omega)
   rw [ewr]
   refine ih3 (r3, ts3, _, k3, i9, kk3, _) ?_ (by simp only [em]; omega)
   simp only [em]
   have emt : (m + 1).toNat = m.toNat + 1 := by omega
   generalize hx : (if 1000000 < w1.getD i9.toNat 0 + w1.getD f.typ.toNat 0 then (1000000 : Int) else w1.getD i9.toNat 0 + w1.getD f.typ.toNat 0) = x
   have hx1 : w1.getD i9.toNat 0 ≤ x ∧ x ≤ 1000000 ∧ (x = 1000000 ∨ x = w1.getD i9.toNat 0 + w1.getD f.typ.toNat 0) := by
    rw [← hx]; split <;> omega
   refine ⟨trivial, trivial, trivial, trivial, trivial, by omega, by omega, by simpa using q1, fun j hj => ?_, ?_, fun j hj h0 hc => ?_, fun h14 b hb => ?_, fun h9 => ?_⟩
   ·by_cases hji : i9.toNat = j
    ·rw [← hji, mX _ _ _ _ (by omega)]; omega
    ·rw [jE _ _ _ _ _ hji]; exact q2 j hj
   ·rw [mX _ _ _ _ (by omega)]; omega
   ·have hji : i9.toNat ≠ j := fun e => by
     rcases hc with hc | ⟨_, hc⟩
     ·rw [← e] at hc; omega
     ·omega
    exact le.set hR (by omega) h0 (by omega) hji (q4 j hj h0 hc)
   ·rw [mX _ _ _ _ (by omega)]
    have hk1 : 1 ≤ r3.getD i9.toNat 0 := by
     by_cases h0 : r3.getD i9.toNat 0 = 0
     ·exact absurd h14 (by have := (hR.nul i9.toNat (by omega) h0).2; rw [hkk] at this; exact this)
     ·omega
    have hro := hR.ok i9.toNat (by omega) hk1
    rw [hkk] at hro
    have hc := zd (ts := ts3) (m := 0) hro h14 hb
    have hu := q5 h14 b hb
    unfold rk at hc hu ⊢
    rw [jE _ _ _ _ _ (fun e => by rw [← e] at hc; omega)]
    omega
   ·rw [mX _ _ _ _ (by omega), emt, ht, aj6]
    have hk1 : 1 ≤ r3.getD i9.toNat 0 := by
     by_cases h0 : r3.getD i9.toNat 0 = 0
     ·exact absurd h9 (by have := (hR.nul i9.toNat (by omega) h0).1; rw [hkk] at this; exact this)
     ·omega
    have hro := hR.ok i9.toNat (by omega) hk1
    rw [hkk] at hro
    have hne : ∀ g ∈ kk3.fields, g.typ.toNat ≠ i9.toNat := fun g hg e => by
     have := hro.rcd (by omega) g hg
     unfold rk at this
     rw [e] at this; omega
    rw [aj4 _ _ _ _ (fun g hg => hne g (List.mem_of_mem_take hg))]
    have e1 : mt (w1.set i9.toNat x) [f] = w1.getD f.typ.toNat 0 := by
     simp only [mt, rk]
     rw [jE _ _ _ _ _ (fun e => hne f hmem e.symm)]; omega
    rw [e1]
    have := q6 h9
    omega
  ·have h2 := of_decide_eq_false h2
   refine ih2 (r3, ts3, w1, k3, _) ?_ (by simp only [ei]; omega)
   simp only [ei]
   refine ⟨trivial, trivial, trivial, by omega, by omega, q1, q2, fun j hj h0 hc => ?_⟩
   by_cases hji : i9.toNat = j
   ·rw [← hji, hkk]
    rw [List.take_of_length_le (by omega)] at q6
    exact ⟨q3, (q2 _ hil).2, q6, q5⟩
   ·exact q4 j hj h0 (by omega)
 have hset : ∀ (l : List Int) (x : Int), l.length = ts2.length → (∀ j, j < ts2.length → 0 ≤ l.getD j 0 ∧ l.getD j 0 ≤ 1000000) → 1 ≤ x ∧ x ≤ 1000000 →
   (∀ j, j < ts2.length → 0 ≤ r2.getD j 0 → (r2.getD j 0 < k2 ∨ (r2.getD j 0 = k2 ∧ (j : Int) < i)) → le (ts2.getD j (aC .atype)) r2 l (l.getD j 0)) →
   (l.set i.toNat x).length = ts2.length ∧ (∀ j, j < ts2.length → 0 ≤ (l.set i.toNat x).getD j 0 ∧ (l.set i.toNat x).getD j 0 ≤ 1000000) ∧ 1 ≤ (l.set i.toNat x).getD i.toNat 0 ∧
   (∀ j, j < ts2.length → 0 ≤ r2.getD j 0 → (r2.getD j 0 < k2 ∨ (r2.getD j 0 = k2 ∧ (j : Int) < i)) → le (ts2.getD j (aC .atype)) r2 (l.set i.toNat x) ((l.set i.toNat x).getD j 0)) := by
  intro l x h1 h2 h3 h4
  refine ⟨by simpa using h1, fun j hj => ?_, ?_, fun j hj h0 hc => ?_⟩
  ·by_cases hji : i.toNat = j
   ·rw [← hji, mX _ _ _ _ (by omega)]; omega
   ·rw [jE _ _ _ _ _ hji]; exact h2 j hj
  ·rw [mX _ _ _ _ (by omega)]; omega
  ·have hji : i.toNat ≠ j := fun e => by
    rcases hc with hc | ⟨_, hc⟩
    ·rw [← e] at hc; omega
    ·omega
   exact le.set hR (by omega) h0 (by omega) hji (h4 j hj h0 hc)
 obtain ⟨s1, s2, s3, s4⟩ := hset w 1 jl j3.low (by omega) j3.ok
 refine vck (vck (vck (vck (vck ?_))))
 refine aE (fun h14 => ?_) (fun h14 => ?_)
 rotate_left
 ·simp only [bnl] at h14
  exact inner _ s1 s2 s3 s4 fun h => absurd h h14
 have h14 : (ts2.getD i.toNat (aC .atype)).kind = 14 := by simp only [bnl] at h14; exact h14
 refine vck (vck (vck ?_))
 refine aF (alO _ _ hty h14 r2 hrl) ?_
 rintro (b : Int) ⟨-, hb⟩
 have hb' := hb
 obtain ⟨b1, b2, b3, b4⟩ := hb'
 have hbm := hty.branches _ (iH _ b.toNat 0 (by omega))
 have hbm : 0 ≤ brT (ts2.getD i.toNat (aC .atype)) b.toNat ∧ brT (ts2.getD i.toNat (aC .atype)) b.toNat < (ts2.length : Int) := hbm
 refine vck ?_
 change Tot (chk (decide (0 ≤ brT (ts2.getD i.toNat (aC .atype)) b.toNat) && decide (brT (ts2.getD i.toNat (aC .atype)) b.toNat < ((w.set i.toNat 1).length : Int))) (chk (decide ((brT (ts2.getD i.toNat (aC .atype)) b.toNat).toNat < (w.set i.toNat 1).length)) _)) _
 refine vck (vck (vck (vck (vck ?_))))
 have a1 := s2 i.toNat hil
 have a2 := s2 (brT (ts2.getD i.toNat (aC .atype)) b.toNat).toNat (by omega)
 have e1 : (w.set i.toNat 1).getD i.toNat 0 = 1 := mX _ _ _ _ (by omega)
 have ewr : IntKind.i64.wrap ((w.set i.toNat 1).getD i.toNat (aC (.num .i64)) + (w.set i.toNat 1).getD (brT (ts2.getD i.toNat (aC .atype)) b.toNat).toNat (aC (.num .i64))) = 1 + (w.set i.toNat 1).getD (brT (ts2.getD i.toNat (aC .atype)) b.toNat).toNat 0 := by
  have e2 : (w.set i.toNat 1).getD i.toNat (aC (.num .i64)) = 1 := e1
  have e3 : (w.set i.toNat 1).getD (brT (ts2.getD i.toNat (aC .atype)) b.toNat).toNat (aC (.num .i64)) = (w.set i.toNat 1).getD (brT (ts2.getD i.toNat (aC .atype)) b.toNat).toNat 0 := rfl
  rw [e2, e3]
  exact aJ _ (by omega)
 change Tot (aS 1000 (fq 1000 again again2) (r2, ts2, (w.set i.toNat 1).set i.toNat (if 1000000 < IntKind.i64.wrap ((w.set i.toNat 1).getD i.toNat (aC (.num .i64)) + (w.set i.toNat 1).getD (brT (ts2.getD i.toNat (aC .atype)) b.toNat).toNat (aC (.num .i64))) then 1000000 else IntKind.i64.wrap ((w.set i.toNat 1).getD i.toNat (aC (.num .i64)) + (w.set i.toNat 1).getD (brT (ts2.getD i.toNat (aC .atype)) b.toNat).toNat (aC (.num .i64)))), k2, i, ts2.getD i.toNat (aC .atype), 0)) _
 rw [ewr]
 generalize hx : (if 1000000 < 1 + (w.set i.toNat 1).getD (brT (ts2.getD i.toNat (aC .atype)) b.toNat).toNat 0 then (1000000 : Int) else 1 + (w.set i.toNat 1).getD (brT (ts2.getD i.toNat (aC .atype)) b.toNat).toNat 0) = x
 have hx1 : 1 ≤ x ∧ x ≤ 1000000 ∧ (x = 1000000 ∨ x = 1 + (w.set i.toNat 1).getD (brT (ts2.getD i.toNat (aC .atype)) b.toNat).toNat 0) := by rw [← hx]; split <;> omega
 obtain ⟨u1, u2, u3, u4⟩ := hset _ x s1 s2 ⟨hx1.1, hx1.2.1⟩ s4
 refine inner _ u1 u2 u3 u4 fun _ b' hb'' => ?_
 have hk1 : 1 ≤ r2.getD i.toNat 0 := by
  by_cases h0 : r2.getD i.toNat 0 = 0
  ·exact absurd h14 (hR.nul i.toNat (by omega) h0).2
  ·omega
 have hro := hR.ok i.toNat (by omega) hk1
 have hc := zd (ts := ts2) (m := 0) hro h14 hb
 have hc' := zd (ts := ts2) (m := 0) hro h14 hb''
 have hbl := hb.lt
 have hbn := hb.nn
 have ebb : b' = b := by
  have n' := hb''.nn
  have l' := hb''.lt
  have l1 := (hb.least b'.toNat (by omega) hc'.1).2
  have l2 := (hb''.least b.toNat (by omega) hc.1).2
  by_cases h1 : b' < b
  ·exact absurd (hb.first b'.toNat (by omega) hc'.1) (Int.not_lt.2 l2)
  ·by_cases h2 : b < b'
   ·exact absurd (hb''.first b.toNat (by omega) hc.1) (Int.not_lt.2 l1)
   ·omega
 rw [ebb]
 rw [mX _ _ _ _ (by simp; omega)]
 have hne : ¬ i.toNat = (brT (ts2.getD i.toNat (aC .atype)) b.toNat).toNat := fun e => by
  unfold rk at hc
  rw [← e] at hc
  exact absurd hc.2 (Int.lt_irrefl _)
 have e5 : rk ((w.set i.toNat 1).set i.toNat x) (brT (ts2.getD i.toNat (aC .atype)) b.toNat) = (w.set i.toNat 1).getD (brT (ts2.getD i.toNat (aC .atype)) b.toNat).toNat 0 := jE _ _ _ _ _ hne
 rw [e5]
 omega
end Go.Proofs.Ytdpajabhmmmjoaa
end
noncomputable section
namespace Go.Proofs.Ytdpajabhmmmjoaa
open Go.AM
set_option autoImplicit false
set_option linter.unusedVariables false
def rkS (ts : List aA) : List Int := pick (mY ts)
def wtS (ts : List aA) : List Int := pick (iv ts (rkS ts))
def vu (ts : List aA) (t : Int) : Bool := isT ts t && (decide (0 ≤ rk (rkS ts) t) && decide (rk (wtS ts) t ≤ 2000))
def asD (ts : List aA) (t : Int) (v : aB) (m : Nat) : Prop := bu ts t v = true ∧ wV v ≤ m
def bW : Nat → Nat
 | 0 => 12000000
 | k + 1 => 8 * bW k + 1000
def abq (ts : List aA) (t : Int) (r : List Int) (v : Int × List UInt8 × Bool × List aB × Bool × List (List UInt8) × Int) : Prop :=
 bu ts t (.mk v.1 v.2.1 v.2.2.2.1 v.2.2.2.2.2.1 v.2.2.2.2.2.2) = true ∧ ((ts.getD t.toNat (aC .atype)).kind ≠ 9 → v.2.2.1 = true ∧ ((ts.getD t.toNat (aC .atype)).kind ≠ 14 → v.2.2.2.1 = [] ∧ v.2.2.2.2.2.1 = [])) ∧
 ∀ w, vN ts r w → rk w t ≤ 2000 → (wV (.mk v.1 v.2.1 v.2.2.2.1 v.2.2.2.2.2.1 v.2.2.2.2.2.2) : Int) ≤ 6000 * rk w t
def abr (ts : List aA) (t : Int) (v : Int × List UInt8 × Bool × List aB × Bool × List (List UInt8) × Int × Bool) : Prop :=
 v.2.2.2.2.2.2.2 = vu ts t ∧ (v.2.2.2.2.2.2.2 = true → asD ts t (.mk v.1 v.2.1 v.2.2.2.1 v.2.2.2.2.2.1 v.2.2.2.2.2.2.1) 12000000 ∧ ((ts.getD t.toNat (aC .atype)).kind ≠ 9 → v.2.2.1 = true ∧ ((ts.getD t.toNat (aC .atype)).kind ≠ 14 → v.2.2.2.1 = [] ∧ v.2.2.2.2.2.1 = [])))
def cR (l : List UInt8) (n : Int) (ts : List aA) (t deep : Int) (r : aB × Bool × List UInt8 × Int) : Prop :=
 r.2.1 = vu ts t ∧ (r.2.1 = true → asD ts t r.1 (bW (6 - deep.toNat))) ∧ r.2.2.1 = l ∧ fp l r.2.2.2
end Go.Proofs.Ytdpajabhmmmjoaa
end
noncomputable section
namespace Go.Proofs.Ytdpajabhmmmjoaa
open Go.AM
set_option autoImplicit false
set_option linter.unusedVariables false
set_option maxRecDepth 100000
abbrev aas : FuncId := 26
abbrev afU : FuncId := 58
abbrev afV : FuncId := 85
abbrev aiF := aB × Bool × Bs × Int
noncomputable def cM (a : Bs) (b : Int) (c : List aA) (d e : Int) (r : aiF) : Prop := bl Try.prog aas [.ptr 0 0, .agg [.sl .atype (.may false) c], .int .i64 d, .int .i64 e] [[.sl .u8 (.may false) a, .int .i64 b]] (.tup [.agg (enc .aval r.1), .bool r.2.1]) [[.sl .u8 (.may false) r.2.2.1, .int .i64 r.2.2.2]] ∧ cR a b c d e r
noncomputable def aat : fI Try.prog := ⟨26, fun us css => match us, css with
 | [.ptr 0 0, .agg [.sl .atype (.may _) a], .int .i64 d, .int .i64 e], [[.sl .u8 (.may false) b, .int .i64 c]] => let r := pick (cM b c a d e); some (can (cM b c a d e), .tup [.agg (enc .aval r.1), .bool r.2.1], [[.sl .u8 (.may false) r.2.2.1, .int .i64 r.2.2.2]])
 | _, _ => none, by
 intro _ _ _ _ h; split at h; exact dB h fun h => h.1.dim rfl; cases h⟩
abbrev apf := Int × Bs × Bool × List aB × Bool × Bss × Int × Bool
noncomputable def qU (a : List aA) (b : Int) (r : apf) : Prop := aI Try.prog afU [.agg [.sl .atype (.may false) a], .int .i64 b] (.tup [.agg [.int .u64 r.1, .str r.2.1, .sl .aval (.may r.2.2.1) r.2.2.2.1, .sl .str (.may r.2.2.2.2.1) r.2.2.2.2.2.1, .int .i64 r.2.2.2.2.2.2.1], .bool r.2.2.2.2.2.2.2]) ∧ abr a b r
noncomputable def apg : dm Try.prog := ⟨58, fun us => match us with
 | [.agg [.sl .atype (.may _) a], .int .i64 b] => let r := pick (qU a b); some (can (qU a b), .tup [.agg [.int .u64 r.1, .str r.2.1, .sl .aval (.may r.2.2.1) r.2.2.2.1, .sl .str (.may r.2.2.2.2.1) r.2.2.2.2.2.1, .int .i64 r.2.2.2.2.2.2.1], .bool r.2.2.2.2.2.2.2])
 | _ => none, by
 intro _ _ h; split at h; exact bV h (fun h => h.1.dim rfl) rfl rfl; cases h⟩
abbrev aph := Int × Bs × Bool × List aB × Bool × Bss × Int
noncomputable def iI (a : List aA) (b : Int) (c : List Int) (r : aph) : Prop := aI Try.prog afV [.agg [.sl .atype (.may false) a], .int .i64 b, .sl (.num .i64) (.may false) c] (.agg [.int .u64 r.1, .str r.2.1, .sl .aval (.may r.2.2.1) r.2.2.2.1, .sl .str (.may r.2.2.2.2.1) r.2.2.2.2.2.1, .int .i64 r.2.2.2.2.2.2]) ∧ abq a b c r
noncomputable def afW : dm Try.prog := ⟨85, fun us => match us with
 | [.agg [.sl .atype (.may _) a], .int .i64 b, .sl (.num .i64) (.may _) c] => let r := pick (iI a b c); some (can (iI a b c), .agg [.int .u64 r.1, .str r.2.1, .sl .aval (.may r.2.2.1) r.2.2.2.1, .sl .str (.may r.2.2.2.2.1) r.2.2.2.2.2.1, .int .i64 r.2.2.2.2.2.2])
 | _ => none, by
 intro _ _ h; split at h; exact bV h (fun h => h.1.dim rfl) rfl rfl; cases h⟩
end Go.Proofs.Ytdpajabhmmmjoaa
end
noncomputable section
namespace Go.Proofs.Ytdpajabhmmmjoaa
open Go.AM
set_option autoImplicit false
set_option linter.unusedVariables false
set_option maxRecDepth 100000
noncomputable def qV : aO := tab (P := Try.prog) [] [] [] [afW, ad3]
def abt : IR := Sq (Rs [Mv 28 9, Fa 29 8 7, Lq 30 29, Ll 31 30, Bi 32 .lss 28 31] (Cn 32 .skip (.exit 1))) (Sq (.block 2 (.reg [Fa 35 2 8, Fo [] [1] (.ld 36 1 false true 35), Ld 37 1 true 3, Fa 38 8 7, Lq 39 38, Mv 40 9, Ix 41 .afield 39 40, Fa 42 2 41, Fo [] [] (.ld 43 1 false false 42), Mv 44 2, Ca 45 85 [37, 43, 44], Pp (.bsl 46 .aval [45] true), Pp (.app 47 .aval (.tk 36) 46), Fa 48 2 8, Fo [] [1] (.st none 1 48 (.tk 47))] [[], [0], [], [], [3], [], [3, 4, 5], rg 3 6, rg 3 7, [], rg 2 9, rg 2 10, rg 0 11, rg 0 12, rg 0 13])) (Rg [Mv 33 9, Bc 34 .add 33 1, Mv 9 34]))
def abu : IR := Rs [Pp (.ld 49 5 true false 8), Sv 5 6 49] .ret
def aau : IR := Rs [Pp (.bld 66 [vU 0, vS, fu .aval true, fu .str true, vI 0] []), Sv 5 6 66] .ret
def yl : IR := Rs [Bx 3 0, Pp (.new 6 [vU 0, vS, nl .aval, nl .str, vI 0])] (Rs [Fa 11 0 3, Lq 12 11, Mv 13 1, Ix 14 .atype 12 13, Ld 15 10 true 14, Pp (.alr 7 10), Fz 7 10 15] (Sq (Rs [Fa 16 0 7, Lq 17 16] (.block 0 (Rs [Bc 19 .eql 17 11, Mv 18 19] (Cn 18 (Rs [Fa 20 7 7, Lq 21 20, Pp (.mks 22 .u8 21), Pp (.b2s 23 22), Pp (.bld 24 [vU 0, vS, fu .aval true, fu .str true, vI 0] [(1, 1, 23)]), Sv 5 6 24] .ret) (Rs [Bc 26 .eql 17 9, Mv 25 26] (Cn 25 (Rs [Pp (.bld 27 [vU 0, vS, nl .aval, nl .str, vI 0] []), Pp (.new 8 [vU 0, vS, nl .aval, nl .str, vI 0]), Sv 5 8 27] (Sq (Rs [Mi 9 0] (.block 1 (.loop [2, 3, 6, 7, 8, 9, 1000000] 2 abt))) abu)) (Rs [Bc 51 .eql 17 14, Mv 50 51] (Cn 50 (Rs [Ld 52 10 true 7, Mv 53 2, Ca 54 124 [52, 53], Mv 10 54] (Sq (.reg [Mv 55 10, Ld 56 1 true 3, Fa 57 9 7, Lq 58 57, Mv 59 10, Ix 60 (.num .i64) 58 59, Lq 61 60, Mv 62 2, Ca 63 85 [56, 61, 62], Pp (.bsl 64 .aval [63] true), Pp (.bld 65 [vU 0, vS, fu .aval true, fu .str true, vI 0] [(4, 1, 55), (2, 1, 64)]), Fo [] [0] (.st none 5 6 65)] [[], [], [], [2], [], [2, 3, 4], rg 2 5, [], rg 1 7, rg 1 8, rg 0 9, rg 0 10]) .ret)) .skip)))))))) aau))
def tE : List RV := [.cell 6 5 true]
theorem ans : FnC Try.prog qV [] 0 afV Try.f85 yl tE := fnC (by kernel_rfl) Try.func85 (by kernel_rfl) (by kernel_rfl) (by decide)
def alP (R : IR → (Ex → St → Ro) → St → Ro) (a : St → Ro) : Ex → St → Ro := (bM a [2, 3, 6, 7, 8, 9, 1000000] 2 (aT 1 (bx (R abu) (aT 0 (bx (R aau) (fin tE))))))
abbrev nI : Type := (List Int × List aA × aA × Int × Int × Bs × List aB × Bss × Int × Int × Bs × List aB × Bss × Int)
def mz : nI → St := fun (e, f, g, h, i, j, k, l, m, n, a, b, c, d) => { env := (.undef :: .undef :: .sl (.num .i64) (.may false) e :: .ea [.sl .atype (.may false) f] :: .undef :: .undef :: .ptr 0 0 :: .ea (enc .atype g) :: .ptr 1 0 :: .int .i64 h :: (U 57 [])), hp := [some [.int .u64 i, .str j, .sl .aval .own k, .sl .str .own l, .int .i64 m], some [.int .u64 n, .str a, .sl .aval .own b, .sl .str .own c, .int .i64 d]] }
def xi (N : Nat) : (St → Ro) → St → Ro := fun a s => run qV N abt (alP (run qV N) a) s
def se (N : Nat) (g : nI → Ro) : nI → Ro := fun (p, h, o, i, j, k, l, m, n, b, c, a, d, e) =>
 let q : Int := (↑(List.length o.fields) : Int)
 cond (decide (i < q)) (
 chk ((decide (0 ≤ i) && decide (i < ↑(List.length o.fields)))) (
 let r : aM := (List.getD o.fields (Int.toNat i) (aC .afield))
 aG (iI h r.typ p) (fun f =>
 chk (decide ((List.length a + List.length ([⟨f.1, f.2.1, f.2.2.2.1, f.2.2.2.2.2.1, f.2.2.2.2.2.2⟩] : List aB)) * 80 ≤ 140737488355328)) (
 let s : List aB := (a ++ ([⟨f.1, f.2.1, f.2.2.2.1, f.2.2.2.2.2.1, f.2.2.2.2.2.2⟩] : List aB))
 let t : Int := (IntKind.wrap .i64 (i + 1))
 g (p, h, o, t, j, k, l, m, n, b, c, s, d, e))))) (
 some (.agg [.int .u64 b, .str c, .sl .aval (.may false) a, .sl .str (.may false) d, .int .i64 e], [some [.int .u64 b, .str c, .sl .aval (.may false) a, .sl .str (.may false) d, .int .i64 e], some [.int .u64 b, .str c, .sl .aval .own a, .sl .str .own d, .int .i64 e]]))
theorem aki (N : Nat) : ∀ (a : St → Ro) (x : nI), xi N a (mz x) = se N (fun y => a (mz y)) x := by
 intro a x
 kernel_rfl
def pI (N : Nat) (a : List aA) (e : Int) (f : List Int) (h : nI → Ro) : Ro :=
 chk ((decide (0 ≤ e) && decide (e < ↑(List.length a)))) (
 let b : aA := (List.getD a (Int.toNat e) (aC .atype))
 cond (b.kind == 11) (
 chk ((decide (0 ≤ b.size) && decide (b.size * 1 ≤ 140737488355328))) (
 let g : Bs := (List.replicate (Int.toNat b.size) (aC .u8))
 some (.agg [.int .u64 0, .str g, .sl .aval (.may true) ([] : List aB), .sl .str (.may true) ([] : Bss), .int .i64 0], [some [.int .u64 0, .str g, .sl .aval (.may true) ([] : List aB), .sl .str (.may true) ([] : Bss), .int .i64 0]]))) (
 cond (b.kind == 9) (
 h (f, a, b, 0, 0, ([] : Bs), ([] : List aB), ([] : Bss), 0, 0, ([] : Bs), ([] : List aB), ([] : Bss), 0)) (
 cond (b.kind == 14) (
 aG (l7 b f) (fun (d : Int) =>
 chk ((decide (0 ≤ d) && decide (d < ↑(List.length b.branches)))) (
 let i : Int := List.getD b.branches (Int.toNat d) (aC (.num .i64))
 aG (iI a i f) (fun c =>
 some (.agg [.int .u64 0, .str ([] : Bs), .sl .aval (.may true) ([⟨c.1, c.2.1, c.2.2.2.1, c.2.2.2.2.2.1, c.2.2.2.2.2.2⟩] : List aB), .sl .str (.may true) ([] : Bss), .int .i64 d], [some [.int .u64 0, .str ([] : Bs), .sl .aval (.may true) ([⟨c.1, c.2.1, c.2.2.2.1, c.2.2.2.2.2.1, c.2.2.2.2.2.2⟩] : List aB), .sl .str (.may true) ([] : Bss), .int .i64 d]]))))) (
 some (.agg [.int .u64 0, .str ([] : Bs), .sl .aval (.may true) ([] : List aB), .sl .str (.may true) ([] : Bss), .int .i64 0], [some [.int .u64 0, .str ([] : Bs), .sl .aval (.may true) ([] : List aB), .sl .str (.may true) ([] : Bss), .int .i64 0]])))))
def ym (N : Nat) (a : List aA) (b : Int) (c : List Int) : Ro := pI N a b c (fun z => aS N (se N) z)
def api (N : Nat) : List (Nat × (St → Ro)) := ba qV N yl (fin tE) ++ []
theorem alQ (N : Nat) (a : List aA) (c : Int) (d : List Int) : bc qV N 67 tE yl [.agg [.sl .atype (.may false) a], .int .i64 c, .sl (.num .i64) (.may false) d] [] = ym N a c d :=
 (bU (api N) (by kernel_rfl) rfl (fun C => pI N a c d (fun z => C 1000000 (mz z))) (fun C => by kernel_rfl)).trans (Eq.trans (b := pI N a c d (fun z => bo N (xi N) (mz z))) (by kernel_rfl) (congrArg (pI N a c d) (funext fun z => bj (mz) (xi N) (se N) (aki N) N z)))
theorem alR (N : Nat) (a : List aA) (b : Int) (c : List Int) (h : Tot (ym N a b c) (fun z => ∃ (d : Int) (e : Bs) (f : Bool) (g : List aB) (i : Bool) (j : Bss) (k : Int) (rest : List aL), z.1 = .agg [.int .u64 d, .str e, .sl .aval (.may f) g, .sl .str (.may i) j, .int .i64 k] ∧ z.2 = rest ∧ abq a b c (d, e, f, g, i, j, k))) : ∃ r, iI a b c r := by
 obtain ⟨⟨v, hp⟩, hz, d, e, f, g, i, j, k, rest, e1, e2, hq⟩ := h
 simp only at e1 e2
 subst e2
 subst e1
 exact ⟨(d, e, f, g, i, j, k), ans.pure (alQ N a b c) hz, hq⟩
noncomputable def afX : aO := tab (P := Try.prog) [] [] [] [aet, apd, alH, afW]
def ad4 : IR := Rs [Bx 2 0, Pp (.new 4 [vU 0, vS, nl .aval, nl .str, vI 0]), Mb 5 false] (Rs [Ld 7 1 true 2, Ca 8 83 [7], Mv 6 8] (Sq (Rs [Ld 9 1 true 2, Mv 10 1, Ca 11 45 [9, 10], Un 12 11, Mv 13 12, Gf 13 (.mov 14 6), Gf 13 (.mov 15 1), Gf 13 (.ixa 16 (.num .i64) 14 15), Gf 13 (.lde 17 1 false 16), Gf 13 (.bin 18 .lss 17 (kI 0)), Po 19 13 18, Mv 20 19, Gf 20 (.lde 21 1 true 2), Gf 20 (.mov 22 6), Gf 20 (.call 23 84 [21, 22]), Gf 20 (.mov 24 1), Gf 20 (.ixa 25 (.num .i64) 23 24), Gf 20 (.lde 26 1 false 25), Gf 20 (.bin 27 .gtr 26 (kI 2000)), Po 28 20 27] (Cn 28 (Rs [Pp (.bld 29 [vU 0, vS, fu .aval true, fu .str true, vI 0] []), Sv 5 4 29, Mb 5 false] .ret) .skip)) (Rs [Ld 30 1 true 2, Mv 31 1, Mv 32 6, Ca 33 85 [30, 31, 32], Sv 5 4 33, Mb 5 true] .ret)))
def ad5 : List RV := [.cell 4 5 true, .t 5]
theorem ant : FnC Try.prog afX [] 0 afU Try.f58 ad4 ad5 := fnC (by kernel_rfl) Try.func58 (by kernel_rfl) (by kernel_rfl) (by decide)
def ad6 (N : Nat) (a : List aA) (c : Int)  : Ro :=
 aG (mY a) (fun (d : List Int) =>
 aG (nh a c) (fun (f : Bool) =>
 cond (!f) (
 some (.tup [.agg [.int .u64 0, .str ([] : Bs), .sl .aval (.may true) ([] : List aB), .sl .str (.may true) ([] : Bss), .int .i64 0], .bool false], [some [.int .u64 0, .str ([] : Bs), .sl .aval (.may true) ([] : List aB), .sl .str (.may true) ([] : Bss), .int .i64 0]])) (
 chk ((decide (0 ≤ c) && decide (c < ↑(List.length d)))) (
 let g : Int := List.getD d (Int.toNat c) (aC (.num .i64))
 cond (decide (g < 0)) (
 some (.tup [.agg [.int .u64 0, .str ([] : Bs), .sl .aval (.may true) ([] : List aB), .sl .str (.may true) ([] : Bss), .int .i64 0], .bool false], [some [.int .u64 0, .str ([] : Bs), .sl .aval (.may true) ([] : List aB), .sl .str (.may true) ([] : Bss), .int .i64 0]])) (
 aG (iv a d) (fun (e : List Int) =>
 chk ((decide (0 ≤ c) && decide (c < ↑(List.length e)))) (
 let h : Int := List.getD e (Int.toNat c) (aC (.num .i64))
 cond (decide (2000 < h)) (
 some (.tup [.agg [.int .u64 0, .str ([] : Bs), .sl .aval (.may true) ([] : List aB), .sl .str (.may true) ([] : Bss), .int .i64 0], .bool false], [some [.int .u64 0, .str ([] : Bs), .sl .aval (.may true) ([] : List aB), .sl .str (.may true) ([] : Bss), .int .i64 0]])) (
 aG (iI a c d) (fun b =>
 some (.tup [.agg [.int .u64 b.1, .str b.2.1, .sl .aval (.may b.2.2.1) b.2.2.2.1, .sl .str (.may b.2.2.2.2.1) b.2.2.2.2.2.1, .int .i64 b.2.2.2.2.2.2], .bool true], [some [.int .u64 b.1, .str b.2.1, .sl .aval (.may b.2.2.1) b.2.2.2.1, .sl .str (.may b.2.2.2.2.1) b.2.2.2.2.2.1, .int .i64 b.2.2.2.2.2.2]]))))))))))
def yn (N : Nat) (a : List aA) (b : Int) : Ro := ad6 N a b
theorem alS (N : Nat) (a : List aA) (b : Int) : bc afX N 34 ad5 ad4 [.agg [.sl .atype (.may false) a], .int .i64 b] [] = yn N a b := by kernel_rfl
theorem alT (N : Nat) (a : List aA) (b : Int) (h : Tot (yn N a b) (fun z => ∃ (c : Int) (d : Bs) (e : Bool) (f : List aB) (g : Bool) (i : Bss) (j : Int) (k : Bool) (rest : List aL), z.1 = .tup [.agg [.int .u64 c, .str d, .sl .aval (.may e) f, .sl .str (.may g) i, .int .i64 j], .bool k] ∧ z.2 = rest ∧ abr a b (c, d, e, f, g, i, j, k))) : ∃ r, qU a b r := by
 obtain ⟨⟨v, hp⟩, hz, c, d, e, f, g, i, j, k, rest, e1, e2, hq⟩ := h
 simp only at e1 e2
 subst e2
 subst e1
 exact ⟨(c, d, e, f, g, i, j, k), ant.pure (alS N a b) hz, hq⟩
end Go.Proofs.Ytdpajabhmmmjoaa
end
noncomputable section
namespace Go.Proofs.Ytdpajabhmmmjoaa
open Go.AM
set_option autoImplicit false
set_option linter.unusedVariables false
set_option linter.unusedSimpArgs false
set_option maxRecDepth 100000
theorem arZ {R R' : Type} {Q : R → Prop} [Inhabited R'] {C : R' → Prop} {K : R' → Option R} (h : ∃ r, C r) (hK : C (pick C) → Tot (K (pick C)) Q) : Tot (aG C K) Q := aU (akD h) (hK (acV h))
theorem asE {m : Nat} {k : aA} (hk : je m k) : k.kind = 1 ∨ k.kind = 2 ∨ k.kind = 3 ∨ k.kind = 4 ∨ k.kind = 5 ∨ k.kind = 6 ∨ k.kind = 7 ∨ k.kind = 8 ∨ k.kind = 9 ∨ k.kind = 10 ∨ k.kind = 11 ∨ k.kind = 12 ∨ k.kind = 13 ∨ k.kind = 14 := by
 have := hk.kind; omega
theorem alU {ts : List aA} {t : Int} (h : 0 ≤ t ∧ t < ts.length) : isT ts t = true := by
 simp only [isT, Bool.and_eq_true, decide_eq_true_eq]; exact h
theorem atq {m : Nat} (ts : List aA) (t : Int) (ht : isT ts t = true) (hk : je m (ts.getD t.toNat (aC .atype))) (h9 : (ts.getD t.toNat (aC .atype)).kind ≠ 9) (h11 : (ts.getD t.toNat (aC .atype)).kind ≠ 11) (h14 : (ts.getD t.toNat (aC .atype)).kind ≠ 14) :
  bu ts t (.mk 0 [] [] [] 0) = true := by
 rw [bu, ht]
 simp only [Bool.true_and]
 generalize ts.getD t.toNat (aC .atype) = k at *
 have he := hk.enum
 have hns := hk.ns
 rcases asE hk with e | e | e | e | e | e | e | e | e | e | e | e | e | e
 all_goals first | exact absurd e h9 | exact absurd e h11 | exact absurd e h14 | skip
 all_goals rw [e]
 all_goals first | rfl | skip
 ·have h0 : 0 < k.syms.length := List.length_pos_iff.2 (he e)
  have hw : IntKind.wrap .u64 (k.syms.length : Int) = (k.syms.length : Int) := qZ _ (by omega)
  show ((decide ((0 : Int) < IntKind.wrap .u64 (k.syms.length : Int))) && true) = true
  rw [hw]; simp; omega
theorem asF {m : Nat} (ts : List aA) (t : Int) (ht : isT ts t = true) (hk : je m (ts.getD t.toNat (aC .atype))) (h11 : (ts.getD t.toNat (aC .atype)).kind = 11) (s : List UInt8) (hs : (s.length : Int) = (ts.getD t.toNat (aC .atype)).size) :
  bu ts t (.mk 0 s [] [] 0) = true := by
 rw [bu, ht]
 simp only [Bool.true_and]
 rw [h11, ← hs]
 show (((s.length : Int) == (s.length : Int)) && true) = true
 simp
theorem aqS (ts : List aA) (t : Int) (ht : isT ts t = true) (h9 : (ts.getD t.toNat (aC .atype)).kind = 9) (l : List aB) (hl : l.length = (ts.getD t.toNat (aC .atype)).fields.length) (hf : lA ts (ts.getD t.toNat (aC .atype)).fields l = true) :
  bu ts t (.mk 0 [] l [] 0) = true := by
 rw [bu, ht]
 simp only [Bool.true_and]
 rw [h9]
 show ((decide (l.length = (ts.getD t.toNat (aC .atype)).fields.length) && lA ts (ts.getD t.toNat (aC .atype)).fields l) && true) = true
 rw [hf, hl]; simp
theorem aqT (ts : List aA) (t : Int) (ht : isT ts t = true) (h14 : (ts.getD t.toNat (aC .atype)).kind = 14) (b : Int) (v : aB) (hb : 0 ≤ b ∧ b < (ts.getD t.toNat (aC .atype)).branches.length) (hv : bu ts ((ts.getD t.toNat (aC .atype)).branches.getD b.toNat 0) v = true) :
  bu ts t (.mk 0 [] [v] [] b) = true := by
 rw [bu, ht]
 simp only [Bool.true_and]
 rw [h14]
 show ((decide (0 ≤ b) && (decide (b < ((ts.getD t.toNat (aC .atype)).branches.length : Int)) && (((([v] : List aB).length : Int) == 1) && bO ts ((ts.getD t.toNat (aC .atype)).branches.getD b.toNat 0) [v]))) && true) = true
 generalize ts.getD t.toNat (aC .atype) = k at *
 simp only [bO, hv, decide_eq_true hb.1, decide_eq_true hb.2, Bool.and_true, Bool.true_and, List.length_singleton]
 rfl
theorem ah4 (ts : List aA) : ∀ (fs : List aM) (l : List aB) (f : aM) (v : aB), fs.length = l.length → lA ts fs l = true → bu ts f.typ v = true → lA ts (fs ++ [f]) (l ++ [v]) = true
 | [], [], f, v, _, _, hv => by simp [lA, hv]
 | f' :: fs, v' :: l, f, v, hl, h, hv => by
   simp only [lA, List.headD_cons, List.tail_cons, Bool.and_eq_true] at h
   simp [lA, h.1, ah4 ts fs l f v (by simpa using hl) h.2 hv]
theorem yo : fJ [] = 0 := rfl
theorem ah5 (ts : List aA) (hs : fx ts) (r : List Int) (hR : iB ts r ts.length) : ∀ (n : Nat) (t : Int), 0 ≤ t ∧ t < ts.length → 0 ≤ rk r t → rk r t < n → ∃ v, iI ts t r v
 | 0 => fun t _ h1 h2 => by omega
 | n + 1 => by
   intro t ht h1 h2
   have hrl := hR.len
   have hk := hs.at (i := t.toNat) (by omega)
   have hT := alU ht
   have hok := hR.ok t.toNat (by omega)
   have hnul := hR.nul t.toNat (by omega)
   have ewt : r.getD t.toNat 0 = rk r t := rfl
   rw [ewt] at hok hnul
   have hw : ∀ w, vN ts r w → le (ts.getD t.toNat (aC .atype)) r w (rk w t) := fun w hw => hw.ok t.toNat (by omega) h1
   apply alR 1000
   unfold ym pI
   dsimp only
   refine vck (aE (fun h11 => ?_) (fun h11 => aE (fun h9 => ?_) (fun h9 => aE (fun h14 => ?_) (fun h14 => ?_))))
   ·have h11 : (ts.getD t.toNat (aC .atype)).kind = 11 := by simp only [bnl] at h11; exact h11
    have hz := hk.size
    refine vck ?_
    refine aH ⟨_, _, _, _, _, _, _, _, rfl, rfl, asF ts t hT hk h11 _ (by rw [List.length_replicate]; omega), fun _ => ⟨rfl, fun _ => ⟨rfl, rfl⟩⟩, fun w hwo _ => ?_⟩
    have := (hw w hwo).pos
    simp only [wV, wL, yo, List.length_replicate]
    omega
   ·have h9 : (ts.getD t.toNat (aC .atype)).kind = 9 := by simp only [bnl] at h9; exact h9
    have h1' : 1 ≤ rk r t := by
     by_cases h0 : rk r t = 0
     ·exact absurd h9 (hnul h0).1
     ·omega
    have hro := hok h1'
    have hrc := hro.rcd (by omega)
    have hnf := hk.nf
    generalize hkk : ts.getD t.toNat (aC .atype) = k at *
    refine bq (fun x => match x with
     | (r', ts', k', i, a0, a1, a2, a3, a4, b0, b1, l, ks, b4) => r' = r ∧ ts' = ts ∧ k' = k ∧ 0 ≤ i ∧ i ≤ (k.fields.length : Int) ∧ b0 = 0 ∧ b1 = [] ∧ ks = [] ∧ b4 = 0 ∧ (l.length : Int) = i ∧ lA ts (k.fields.take i.toNat) l = true ∧
       ∀ w, vN ts r w → rk w t ≤ 2000 → (wL l : Int) ≤ 6000 * mt w (k.fields.take i.toNat))
     (fun x => ((k.fields.length : Int) - x.2.2.2.1).toNat) ?_ _ _ ⟨rfl, rfl, rfl, by simp, by simp, rfl, rfl, rfl, rfl, rfl, rfl, fun w _ _ => by simp [wL, mt]⟩ (by simp; omega)
    rintro again ⟨r', ts', k', i, a0, a1, a2, a3, a4, b0, b1, l, ks, b4⟩ ⟨rfl, rfl, rfl, i1, i2, rfl, rfl, rfl, rfl, i3, i4, i5⟩ ih
    dsimp only at ih
    unfold se
    dsimp only
    refine aE (fun h => ?_) (fun h => ?_)
    ·have h := of_decide_eq_true h
     have hi : i.toNat < k'.fields.length := by omega
     have hmem := iH k'.fields i.toNat (aC .afield) hi
     have hf := hk.fields _ hmem
     have hfr := hrc _ hmem
     have htk := ace k'.fields i.toNat (aC .afield) hi
     generalize k'.fields.getD i.toNat (aC .afield) = f at *
     refine vck ?_
     refine aF (ah5 ts' hs r' hR n f.typ ⟨hf.1, hf.2.1⟩ hfr.1 (by omega)) ?_
     rintro ⟨v0, v1, vf, v2, vg, v3, v4⟩ ⟨-, q1, q2, q3⟩
     dsimp only at q1 q3 ⊢
     have ei : IntKind.i64.wrap (i + 1) = i + 1 := aJ (i + 1) (by omega)
     have eit : (i + 1).toNat = i.toNat + 1 := by omega
     refine vck ?_
     refine ih (r', ts', k', _, a0, a1, a2, a3, a4, 0, [], _, [], 0) ?_ (by simp only [ei]; omega)
     simp only [ei]
     rw [eit, htk]
     refine ⟨trivial, trivial, trivial, by omega, by omega, trivial, trivial, trivial, trivial, by simp; omega, ah4 ts' _ _ _ _ (by simp; omega) i4 q1, fun w hw1 hw2 => ?_⟩
     rw [aj6, abg]
     have := i5 w hw1 hw2
     have hwf := hw w hw1
     have hsum := hwf.rcd h9
     have hpos : ∀ g ∈ k'.fields, 0 ≤ rk w g.typ := fun g hg => by
      have hg1 := hrc g hg
      have hg2 := hk.fields g hg
      have := (hw1.ok g.typ.toNat (by omega) hg1.1).pos
      unfold rk; omega
     have hle := aj5 hpos f hmem
     have hq := q3 w hw1 (by omega)
     simp only [wL, mt] at hq ⊢
     omega
    ·have h := of_decide_eq_false h
     rw [List.take_of_length_le (by omega)] at i4 i5
     refine aH ⟨_, _, _, _, _, _, _, _, rfl, rfl, aqS ts' t hT (by rw [hkk]; exact h9) l (by rw [hkk]; omega) (by rw [hkk]; exact i4), fun hh => absurd h9 (by rw [hkk] at hh; exact hh), fun w hw1 hw2 => ?_⟩
     have hwf := hw w hw1
     have hsum := hwf.rcd h9
     have := i5 w hw1 hw2
     simp only [wV, yo, List.length_nil]
     omega
   ·have h14 : (ts.getD t.toNat (aC .atype)).kind = 14 := by simp only [bnl] at h14; exact h14
    have h1' : 1 ≤ rk r t := by
     by_cases h0 : rk r t = 0
     ·exact absurd h14 (hnul h0).2
     ·omega
    have hro := hok h1'
    refine aF (alO _ _ hk h14 r hrl) ?_
    rintro (b : Int) ⟨-, hb⟩
    have hbl := hb.lt
    have hbn := hb.nn
    have hbm := hk.branches _ (iH _ b.toNat 0 (by omega))
    have hc := zd (ts := ts) (m := 0) hro h14 hb
    refine vck ?_
    refine aF (ah5 ts hs r hR n (brT (ts.getD t.toNat (aC .atype)) b.toNat) hbm hc.1 (by omega)) ?_
    rintro ⟨v0, v1, vf, v2, vg, v3, v4⟩ ⟨-, q1, q2, q3⟩
    dsimp only at q1 q3 ⊢
    refine aH ⟨_, _, _, _, _, _, _, _, rfl, rfl, aqT ts t hT h14 b _ ⟨hbn, hbl⟩ q1, fun _ => ⟨rfl, fun h => absurd h14 h⟩, fun w hw1 hw2 => ?_⟩
    have hwf := hw w hw1
    have hu := hwf.uni h14 b hb
    have q3 : ∀ w, vN ts r w → rk w (brT (ts.getD t.toNat (aC .atype)) b.toNat) ≤ 2000 → (wV (.mk v0 v1 v2 v3 v4) : Int) ≤ 6000 * rk w (brT (ts.getD t.toNat (aC .atype)) b.toNat) := q3
    have hq := q3 w hw1 (by omega)
    simp only [wV, wL, yo, List.length_nil] at hq ⊢
    omega
   ·have h11 : (ts.getD t.toNat (aC .atype)).kind ≠ 11 := by simp only [bnl] at h11; exact h11
    have h9 : (ts.getD t.toNat (aC .atype)).kind ≠ 9 := by simp only [bnl] at h9; exact h9
    have h14 : (ts.getD t.toNat (aC .atype)).kind ≠ 14 := by simp only [bnl] at h14; exact h14
    refine aH ⟨_, _, _, _, _, _, _, _, rfl, rfl, atq ts t hT hk h9 h11 h14, fun _ => ⟨rfl, fun _ => ⟨rfl, rfl⟩⟩, fun w hwo _ => ?_⟩
    have := (hw w hwo).pos
    simp only [wV, wL, yo, List.length_nil]
    omega
theorem aqU (ts : List aA) (hs : fx ts) : iB ts (rkS ts) ts.length := (acV (an1 ts hs)).2
theorem atr (ts : List aA) (hs : fx ts) : vN ts (rkS ts) (wtS ts) := (acV (ajk ts hs (rkS ts) (aqU ts hs))).2
theorem att (ts : List aA) (hs : fx ts) (t : Int) : ∃ v, qU ts t v := by
 apply alT 1
 unfold yn ad6
 have hR := aqU ts hs
 have hW := atr ts hs
 refine arZ (an1 ts hs) ?_
 rintro -
 change Tot (aG (nh ts t) _) _
 refine aF (aqI ts t) ?_
 rintro r ⟨-, hr⟩
 have hr : r = isT ts t := hr
 have hrl := hR.len
 have hwl := hW.len
 refine aE (fun h => aH ⟨_, _, _, _, _, _, _, _, _, rfl, rfl, ?_, fun hh => by cases hh⟩) (fun h => ?_)
 ·have : isT ts t = false := by rw [← hr]; simpa using h
  simp [vu, this]
 have hT : isT ts t = true := by rw [← hr]; simpa using h
 have ht : 0 ≤ t ∧ t < (ts.length : Int) := by simpa [isT] using hT
 change Tot (chk (decide (0 ≤ t) && decide (t < ((rkS ts).length : Int))) (cond (decide (rk (rkS ts) t < 0)) _ (aG (iv ts (rkS ts)) _))) _
 refine vck (aE (fun h0 => aH ⟨_, _, _, _, _, _, _, _, _, rfl, rfl, ?_, fun hh => by cases hh⟩) (fun h0 => ?_))
 ·have h0 := of_decide_eq_true h0
  simp only [vu]
  rw [decide_eq_false (show ¬ 0 ≤ rk (rkS ts) t by omega)]; simp
 have h0 := of_decide_eq_false h0
 refine arZ (ajk ts hs (rkS ts) hR) ?_
 rintro -
 change Tot (chk (decide (0 ≤ t) && decide (t < ((wtS ts).length : Int))) (cond (decide (2000 < rk (wtS ts) t)) _ (aG (iI ts t (rkS ts)) _))) _
 refine vck (aE (fun h1 => aH ⟨_, _, _, _, _, _, _, _, _, rfl, rfl, ?_, fun hh => by cases hh⟩) (fun h1 => ?_))
 ·have h1 := of_decide_eq_true h1
  simp only [vu]
  rw [decide_eq_false (show ¬ rk (wtS ts) t ≤ 2000 by omega)]; simp
 have h1 := of_decide_eq_false h1
 have hrt := hR.top t.toNat (by omega)
 have e : rk (rkS ts) t = (rkS ts).getD t.toNat 0 := rfl
 refine aF (ah5 ts hs (rkS ts) hR 100 t ht (by omega) (by have := hs.1; omega)) ?_
 rintro ⟨v0, v1, vf, v2, vg, v3, v4⟩ ⟨-, q1, q2, q3⟩
 refine aH ⟨_, _, _, _, _, _, _, _, _, rfl, rfl, ?_, fun _ => ⟨⟨q1, ?_⟩, q2⟩⟩
 ·simp only [vu, hT]
  rw [decide_eq_true (show 0 ≤ rk (rkS ts) t by omega), decide_eq_true (show rk (wtS ts) t ≤ 2000 by omega)]; rfl
 ·have := q3 (wtS ts) hW (by omega)
  dsimp only at this ⊢
  omega
end Go.Proofs.Ytdpajabhmmmjoaa
end
noncomputable section
namespace Go.Proofs.Ytdpajabhmmmjoaa
open Go.AM
set_option autoImplicit false
set_option linter.unusedVariables false
set_option maxRecDepth 100000
noncomputable def ft : aO := tab (P := Try.prog) [] [aat, aaa, mf] [] [apg, ai9]
def xj : IR := Sq (Rs [Mv 139 16, Fa 140 8 12, Lq 141 140, Ll 142 141, Bi 143 .lss 139 142] (Cn 143 .skip (.exit 1))) (Sq (.block 2 (Sq (.reg [Mv 147 0, Ld 148 1 true 5, Fa 149 8 12, Lq 150 149, Mv 151 16, Ix 152 .afield 150 151, Fa 153 2 152, Fo [] [] (.ld 154 1 false false 153), Mv 155 3, Bc 156 .add 155 1, Fo [] [0] (.call 157 26 [147, 148, 154, 156]), Mv 146 157, Ex_ 158 0 146, Ex_ 159 1 146, Pp (.alr 17 5), Fz 17 5 158, Mv 18 159] [[], [], [], [2], [], [2, 3, 4], rg 2 5, rg 2 6, [], [8], rg 0 9, rg 0 10, rg 0 11, rg 0 11, [], rg 0 12 ++ [14], rg 0 15]) (Rg [Fa 160 2 10, Pp (.ld 161 1 false true 160), Ld 162 5 true 17, Pp (.bsl 163 .aval [162] true), Pp (.app 164 .aval (.tk 161) 163), Fa 165 2 10, Sk 1 165 164]))) (Rg [Mv 144 16, Bc 145 .add 144 1, Mv 16 145]))
def vO : IR := Sq (Rs [Mv 171 19, Bc 172 .gtr 171 0] (Cn 172 .skip (.exit 3))) (Sq (.block 4 (Rs [Mv 176 0, Ld 177 1 true 5, Fa 178 3 12, Lq 179 178, Mv 180 3, Bc 181 .add 180 1, Ca 182 26 [176, 177, 179, 181], Mv 175 182, Ex_ 183 0 175, Ex_ 184 1 175, Pp (.alr 20 5), Fz 20 5 183, Mv 21 184] (Sq (Rs [Mv 185 21, Un 186 185] (Cn 186 (.exit 3) .skip)) (Rs [Fa 187 0 12, Lq 188 187, Bc 189 .eql 188 12] (Cn 189 (Rg [Fa 190 2 10, Pp (.ld 191 1 false true 190), Ld 192 5 true 20, Pp (.bsl 193 .aval [192] true), Pp (.app 194 .aval (.tk 191) 193), Fa 195 2 10, Sk 1 195 194]) (.reg [Fo [2] [] (.ld 196 5 true false 10), Mv 197 0, Fo [] [0] (.call 198 60 [197, kI 5]), Pp (.bin 199 .add (kI 97) 198), Pp (.cvi 200 .u8 199), Pp (.bsl 201 .u8 [200] true), Pp (.b2s 202 201), Pp (.bin 203 .add (kS [107]) 202), Ld 204 5 true 20, Ca 205 61 [196, 203, 204], Fo [] [2] (.st none 5 10 205)] [[], [], [1], [1, 2], [1, 2, 3], rg 1 4, rg 1 5, rg 1 6, [], rg 0 8, rg 0 9])))))) (Rg [Mv 173 19, Bc 174 .sub 173 1, Mv 19 174]))
def pJ : IR := Rs [Pp (.ld 206 5 true false 10), Sv 5 8 206, Mb 9 true] .ret
def s9 : IR := Rs [Bx 5 1, Pp (.new 8 [vU 0, vS, nl .aval, nl .str, vI 0]), Mb 9 false] (Rs [Ld 23 1 true 5, Mv 24 2, Ca 25 58 [23, 24], Mv 22 25, Ex_ 26 0 22, Ex_ 27 1 22, Pp (.new 10 [vU 0, vS, nl .aval, nl .str, vI 0]), Sv 5 10 26, Mv 11 27] (Sq (Rs [Mv 28 11, Un 29 28, Mv 30 29, Gf 30 (.mov 31 3), Gf 30 (.bin 32 .gtr 31 (kI 5)), Po 33 30 32, Mv 34 33, Gf 34 (.mov 35 0), Gf 34 (.call 36 59 [35]), Po 37 34 36] (Cn 37 (Rs [Pp (.ld 38 5 true false 10), Mv 39 11, Sv 5 8 38, Mv 9 39] .ret) .skip)) (Rs [Fa 40 0 5, Lq 41 40, Mv 42 2, Ix 43 .atype 41 42, Ld 44 10 true 43, Pp (.alr 12 10), Fz 12 10 44] (Sq (Rs [Fa 45 0 12, Lq 46 45] (.block 0 (Rs [Bc 48 .eql 46 2, Mv 47 48] (Cn 47 (Rg [Mv 49 0, Ca 50 60 [49, kI 2], Pp (.cvi 51 .u64 50), Fa 52 0 10, Sv 1 52 51]) (Rs [Bc 54 .eql 46 3, Mv 53 54] (Cn 53 (Rg [Pp (.bsl 55 (.num .u64) [kU 0, kU 1, kU 18446744073709551615, kU 300, kU 2147483647, kU 18446744071562067968, kU 16777217] true), Mv 56 0, Ca 57 60 [56, kI 7], Ix 58 (.num .u64) 55 57, Lq 59 58, Fa 60 0 10, Sv 1 60 59]) (Rs [Bc 62 .eql 46 4, Mv 61 62] (Cn 61 (Rg [Pp (.bsl 63 (.num .u64) [kU 0, kU 1, kU 18446744073709551615, kU 1099511627776, kU 9223372036854775807, kU 9223372036854775808, kU 9007199254740993] true), Mv 64 0, Ca 65 60 [64, kI 7], Ix 66 (.num .u64) 63 65, Lq 67 66, Fa 68 0 10, Sv 1 68 67]) (Rs [Bc 70 .eql 46 5, Mv 69 70] (Cn 69 (Rg [Pp (.bsl 71 (.num .u64) [kU 0, kU 1065353216, kU 2139095040, kU 1, kU 3212836864, kU 2143289345, kU 2147483648] true), Mv 72 0, Ca 73 60 [72, kI 7], Ix 74 (.num .u64) 71 73, Lq 75 74, Fa 76 0 10, Sv 1 76 75]) (Rs [Bc 78 .eql 46 6, Mv 77 78] (Cn 77 (Rg [Pp (.bsl 79 (.num .u64) [kU 0, kU 4607182418800017408, kU 1, kU 9223372036854775808, kU 9218868437227405312] true), Mv 80 0, Ca 81 60 [80, kI 5], Ix 82 (.num .u64) 79 81, Lq 83 82, Fa 84 0 10, Sv 1 84 83]) (Rs [Bc 86 .eql 46 8, Mv 85 86] (Cn 85 (Rg [Pp (.bsl 87 .str [kS [], kS [97], kS [195, 164], kS [116, 101, 120, 116]] true), Mv 88 0, Ca 89 60 [88, kI 4], Ix 90 .str 87 89, Lq 91 90, Fa 92 1 10, Sv 1 92 91]) (Rs [Bc 94 .eql 46 7, Mv 93 94] (Cn 93 (Rg [Pp (.bsl 95 .str [kS [], kS [255], kS [0], kS [98]] true), Mv 96 0, Ca 97 60 [96, kI 4], Ix 98 .str 95 97, Lq 99 98, Fa 100 1 10, Sv 1 100 99]) (Rs [Bc 102 .eql 46 10, Mv 101 102] (Cn 101 (Rg [Mv 103 0, Fa 104 4 12, Lq 105 104, Ll 106 105, Ca 107 60 [103, 106], Pp (.cvi 108 .u64 107), Fa 109 0 10, Sv 1 109 108]) (Rs [Bc 111 .eql 46 14, Mv 110 111] (Cn 110 (Rs [Mv 112 0, Fa 113 9 12, Lq 114 113, Ll 115 114, Ca 116 60 [112, 115], Mv 13 116] (Sq (.reg [Mv 118 0, Ld 119 1 true 5, Fa 120 9 12, Lq 121 120, Mv 122 13, Ix 123 (.num .i64) 121 122, Lq 124 123, Mv 125 3, Bc 126 .add 125 1, Fo [] [0] (.call 127 26 [118, 119, 124, 126]), Mv 117 127, Ex_ 128 0 117, Ex_ 129 1 117, Pp (.alr 14 5), Fz 14 5 128, Mv 15 129] [[], [], [], [2], [], [2, 3, 4], rg 2 5, [], [7], rg 0 8, rg 0 9, rg 0 10, rg 0 10, [], rg 0 11 ++ [13], rg 0 14]) (Rs [Mv 130 15] (Cn 130 (.reg [Mv 131 13, Ld 132 5 true 14, Pp (.bsl 133 .aval [132] true), Fa 134 4 10, Fo [] [2] (.st none 1 134 131), Fa 135 2 10, Fo [] [2] (.st none 1 135 (.tk 133))] [[], [], [1], [0], [0, 3], rg 0 4, rg 0 5]) .skip)))) (Rs [Bc 137 .eql 46 9, Mv 136 137] (Cn 136 (Rs [Fa 138 2 10, Pp (.st none 1 138 (.c (nl .aval)))] (Rs [Mi 16 0] (.block 1 (.loop [0, 3, 5, 8, 10, 12, 16, 1000000] 3 xj)))) (Sq (Rs [Bc 167 .eql 46 12, Mv 166 167] (Cn 166 .skip (Rg [Bc 168 .eql 46 13, Mv 166 168]))) (Cn 166 (Rs [Mv 169 0, Ca 170 60 [169, kI 4], Mv 19 170] (.block 3 (.loop [0, 3, 5, 8, 10, 12, 19, 1000001] 3 vO))) .skip)))))))))))))))))))))))) pJ))))
def kt : List RV := [.cell 8 5 true, .t 9]
theorem ah6 : FnC Try.prog ft [26, 59, 60, 2000026, 2000059, 2000060] 1 aas Try.f26 s9 kt := fnC (by kernel_rfl) Try.func26 (by kernel_rfl) (by kernel_rfl) (by decide)
def agu (R : IR → (Ex → St → Ro) → St → Ro) (a : St → Ro) : Ex → St → Ro := (bM a [0, 3, 5, 8, 10, 12, 16, 1000000] 3 (aT 1 (aT 0 (bx (R pJ) (fin kt)))))
abbrev jt : Type := (Int × List aA × aA × Int × Bs × Int × Int × Bs × List aB × Bss × Int × Int × Bs × List aB × Bool × Bss × Int)
def ix : jt → St := fun (h, i, j, k, l, m, n, o, p, q, a, b, c, d, e, f, g) => { env := (.ptr 0 0 :: .undef :: .undef :: .int .i64 h :: .undef :: .ea [.sl .atype (.may false) i] :: .undef :: .undef :: .ptr 1 0 :: .undef :: .ptr 2 0 :: .undef :: .ea (enc .atype j) :: (U 3 (.int .i64 k :: (U 190 [])))), hp := [some [.sl .u8 (.may false) l, .int .i64 m], some [.int .u64 n, .str o, .sl .aval .own p, .sl .str .own q, .int .i64 a], some [.int .u64 b, .str c, .sl .aval .own d, .sl .str (.may e) f, .int .i64 g]] }
def rA (N : Nat) : (St → Ro) → St → Ro := fun a s => run ft N xj (agu (run ft N) a) s
def ju (N : Nat) (h : jt → Ro) : jt → Ro := fun (x, k, i, g, l, m, n, o, p, q, r, c, d, b, a, e, f) =>
 let s : Int := (↑(List.length i.fields) : Int)
 cond (decide (g < s)) (
 chk ((decide (0 ≤ g) && decide (g < ↑(List.length i.fields)))) (
 let t : aM := (List.getD i.fields (Int.toNat g) (aC .afield))
 let u : Int := (IntKind.wrap .i64 (x + 1))
 aG (cM l m k t.typ u) (fun j =>
 chk (decide ((List.length b + List.length ([(reA j.1)] : List aB)) * 80 ≤ 140737488355328)) (
 let v : List aB := (b ++ ([(reA j.1)] : List aB))
 let w : Int := (IntKind.wrap .i64 (g + 1))
 h (x, k, i, w, j.2.2.1, j.2.2.2, n, o, p, q, r, c, d, v, a, e, f))))) (
 some (.tup [.agg [.int .u64 c, .str d, .sl .aval (.may false) b, .sl .str (.may a) e, .int .i64 f], .bool true], [some [.sl .u8 (.may false) l, .int .i64 m], some [.int .u64 c, .str d, .sl .aval (.may false) b, .sl .str (.may a) e, .int .i64 f], some [.int .u64 c, .str d, .sl .aval .own b, .sl .str (.may a) e, .int .i64 f]]))
theorem ae9 (N : Nat) : ∀ (a : St → Ro) (x : jt), rA N a (ix x) = ju N (fun y => a (ix y)) x := by
 intro a x
 kernel_rfl
def agv (R : IR → (Ex → St → Ro) → St → Ro) (a : St → Ro) : Ex → St → Ro := (bM a [0, 3, 5, 8, 10, 12, 19, 1000001] 3 (aT 3 (aT 0 (bx (R pJ) (fin kt)))))
abbrev jv : Type := (Int × List aA × aA × Int × Bs × Int × Int × Bs × List aB × Bss × Int × Int × Bs × Bool × List aB × Bool × Bss × Int) ⊕ (Int × List aA × aA × Int × Bs × Int × Int × Bs × List aB × Bss × Int × Int × Bs × List aB × Bool × Bss × Int) ⊕ (Int × List aA × aA × Int × Bs × Int × Int × Bs × List aB × Bss × Int × Int × Bs × List aB × Bss × Int)
def acO : (Int × List aA × aA × Int × Bs × Int × Int × Bs × List aB × Bss × Int × Int × Bs × Bool × List aB × Bool × Bss × Int) → St := fun (i, j, k, l, m, n, o, p, q, r, a, b, c, d, e, f, g, h) => { env := (.ptr 0 0 :: .undef :: .undef :: .int .i64 i :: .undef :: .ea [.sl .atype (.may false) j] :: .undef :: .undef :: .ptr 1 0 :: .undef :: .ptr 2 0 :: .undef :: .ea (enc .atype k) :: (U 6 (.int .i64 l :: (U 187 [])))), hp := [some [.sl .u8 (.may false) m, .int .i64 n], some [.int .u64 o, .str p, .sl .aval .own q, .sl .str .own r, .int .i64 a], some [.int .u64 b, .str c, .sl .aval (.may d) e, .sl .str (.may f) g, .int .i64 h]] }
def acP : (Int × List aA × aA × Int × Bs × Int × Int × Bs × List aB × Bss × Int × Int × Bs × List aB × Bool × Bss × Int) → St := fun (h, i, j, k, l, m, n, o, p, q, a, b, c, d, e, f, g) => { env := (.ptr 0 0 :: .undef :: .undef :: .int .i64 h :: .undef :: .ea [.sl .atype (.may false) i] :: .undef :: .undef :: .ptr 1 0 :: .undef :: .ptr 2 0 :: .undef :: .ea (enc .atype j) :: (U 6 (.int .i64 k :: (U 187 [])))), hp := [some [.sl .u8 (.may false) l, .int .i64 m], some [.int .u64 n, .str o, .sl .aval .own p, .sl .str .own q, .int .i64 a], some [.int .u64 b, .str c, .sl .aval .own d, .sl .str (.may e) f, .int .i64 g]] }
def acQ : (Int × List aA × aA × Int × Bs × Int × Int × Bs × List aB × Bss × Int × Int × Bs × List aB × Bss × Int) → St := fun (g, h, i, j, k, l, m, n, o, p, a, b, c, d, e, f) => { env := (.ptr 0 0 :: .undef :: .undef :: .int .i64 g :: .undef :: .ea [.sl .atype (.may false) h] :: .undef :: .undef :: .ptr 1 0 :: .undef :: .ptr 2 0 :: .undef :: .ea (enc .atype i) :: (U 6 (.int .i64 j :: (U 187 [])))), hp := [some [.sl .u8 (.may false) k, .int .i64 l], some [.int .u64 m, .str n, .sl .aval .own o, .sl .str .own p, .int .i64 a], some [.int .u64 b, .str c, .sl .aval (.may false) d, .sl .str (.may false) e, .int .i64 f]] }
def iy : jv → St
 | (Sum.inl x) => acO x
 | (Sum.inr (Sum.inl x)) => acP x
 | (Sum.inr (Sum.inr x)) => acQ x
def rB (N : Nat) : (St → Ro) → St → Ro := fun a s => run ft N vO (agv (run ft N) a) s
def eE (N : Nat) (j : jv → Ro) (x : jv) : Ro :=
 match x with
 | (Sum.inl (v3, h, m, w, o, p, q, r, t, u, v, c, d, g, a, b, e, f)) =>
   cond (decide (0 < w)) (
    let aj : Int := (IntKind.wrap .i64 (v3 + 1))
    aG (cM o p h m.items aj) (fun i =>
     cond (!i.2.1) (
      some (.tup [.agg [.int .u64 c, .str d, .sl .aval (.may g) a, .sl .str (.may b) e, .int .i64 f], .bool true], [some [.sl .u8 (.may false) i.2.2.1, .int .i64 i.2.2.2], some [.int .u64 c, .str d, .sl .aval (.may g) a, .sl .str (.may b) e, .int .i64 f], some [.int .u64 c, .str d, .sl .aval (.may g) a, .sl .str (.may b) e, .int .i64 f]])) (
      cond (m.kind == 12) (
       chk ((g && decide (0 < List.length ([(reA i.1)] : List aB))) && decide ((List.length a + List.length ([(reA i.1)] : List aB)) * 80 ≤ 140737488355328)) (
        let ak : List aB := (a ++ ([(reA i.1)] : List aB))
        let al : Int := (IntKind.wrap .i64 (w - 1))
        j (Sum.inr (Sum.inl (v3, h, m, al, i.2.2.1, i.2.2.2, q, r, t, u, v, c, d, ak, b, e, f))))) (
       aG (aQ i.2.2.1 i.2.2.2 5) (fun ad =>
        let ag : Int := (IntKind.wrap .i64 (97 + ad.1))
        chk (decide (List.length ([107] : Bs) + List.length ([(UInt8.ofNat (Int.toNat (IntKind.wrap .u8 ag)))] : Bs) ≤ 9223372036854775807)) (
         let am : Bs := (([107] : Bs) ++ ([(UInt8.ofNat (Int.toNat (IntKind.wrap .u8 ag)))] : Bs))
         aG (jO c d a e f am i.1.n i.1.s i.1.l i.1.keys i.1.branch) (fun z =>
          let an : Int := (IntKind.wrap .i64 (w - 1))
          j (Sum.inr (Sum.inr (v3, h, m, an, ad.2.1, ad.2.2, q, r, t, u, v, z.1, z.2.1, z.2.2.1, z.2.2.2.1, z.2.2.2.2)))))))))) (
    some (.tup [.agg [.int .u64 c, .str d, .sl .aval (.may g) a, .sl .str (.may b) e, .int .i64 f], .bool true], [some [.sl .u8 (.may false) o, .int .i64 p], some [.int .u64 c, .str d, .sl .aval (.may g) a, .sl .str (.may b) e, .int .i64 f], some [.int .u64 c, .str d, .sl .aval (.may g) a, .sl .str (.may b) e, .int .i64 f]]))
 | (Sum.inr (Sum.inl (v3, h, m, w, o, p, q, r, t, u, v, c, d, a, b, e, f))) =>
   cond (decide (0 < w)) (
    let ao : Int := (IntKind.wrap .i64 (v3 + 1))
    aG (cM o p h m.items ao) (fun k =>
     cond (!k.2.1) (
      some (.tup [.agg [.int .u64 c, .str d, .sl .aval (.may false) a, .sl .str (.may b) e, .int .i64 f], .bool true], [some [.sl .u8 (.may false) k.2.2.1, .int .i64 k.2.2.2], some [.int .u64 c, .str d, .sl .aval (.may false) a, .sl .str (.may b) e, .int .i64 f], some [.int .u64 c, .str d, .sl .aval .own a, .sl .str (.may b) e, .int .i64 f]])) (
      cond (m.kind == 12) (
       chk (decide ((List.length a + List.length ([(reA k.1)] : List aB)) * 80 ≤ 140737488355328)) (
        let ap : List aB := (a ++ ([(reA k.1)] : List aB))
        let aq : Int := (IntKind.wrap .i64 (w - 1))
        j (Sum.inr (Sum.inl (v3, h, m, aq, k.2.2.1, k.2.2.2, q, r, t, u, v, c, d, ap, b, e, f))))) (
       aG (aQ k.2.2.1 k.2.2.2 5) (fun ae =>
        let ah : Int := (IntKind.wrap .i64 (97 + ae.1))
        chk (decide (List.length ([107] : Bs) + List.length ([(UInt8.ofNat (Int.toNat (IntKind.wrap .u8 ah)))] : Bs) ≤ 9223372036854775807)) (
         let ar : Bs := (([107] : Bs) ++ ([(UInt8.ofNat (Int.toNat (IntKind.wrap .u8 ah)))] : Bs))
         aG (jO c d a e f ar k.1.n k.1.s k.1.l k.1.keys k.1.branch) (fun aa =>
          let au : Int := (IntKind.wrap .i64 (w - 1))
          j (Sum.inr (Sum.inr (v3, h, m, au, ae.2.1, ae.2.2, q, r, t, u, v, aa.1, aa.2.1, aa.2.2.1, aa.2.2.2.1, aa.2.2.2.2)))))))))) (
    some (.tup [.agg [.int .u64 c, .str d, .sl .aval (.may false) a, .sl .str (.may b) e, .int .i64 f], .bool true], [some [.sl .u8 (.may false) o, .int .i64 p], some [.int .u64 c, .str d, .sl .aval (.may false) a, .sl .str (.may b) e, .int .i64 f], some [.int .u64 c, .str d, .sl .aval .own a, .sl .str (.may b) e, .int .i64 f]]))
 | (Sum.inr (Sum.inr (v3, h, m, w, o, p, q, r, t, u, v, c, d, a, e, f))) =>
   cond (decide (0 < w)) (
    let av : Int := (IntKind.wrap .i64 (v3 + 1))
    aG (cM o p h m.items av) (fun y =>
     cond (!y.2.1) (
      some (.tup [.agg [.int .u64 c, .str d, .sl .aval (.may false) a, .sl .str (.may false) e, .int .i64 f], .bool true], [some [.sl .u8 (.may false) y.2.2.1, .int .i64 y.2.2.2], some [.int .u64 c, .str d, .sl .aval (.may false) a, .sl .str (.may false) e, .int .i64 f], some [.int .u64 c, .str d, .sl .aval (.may false) a, .sl .str (.may false) e, .int .i64 f]])) (
      cond (m.kind == 12) (
       none) (
       aG (aQ y.2.2.1 y.2.2.2 5) (fun af =>
        let ai : Int := (IntKind.wrap .i64 (97 + af.1))
        chk (decide (List.length ([107] : Bs) + List.length ([(UInt8.ofNat (Int.toNat (IntKind.wrap .u8 ai)))] : Bs) ≤ 9223372036854775807)) (
         let aw : Bs := (([107] : Bs) ++ ([(UInt8.ofNat (Int.toNat (IntKind.wrap .u8 ai)))] : Bs))
         aG (jO c d a e f aw y.1.n y.1.s y.1.l y.1.keys y.1.branch) (fun ab =>
          let ax : Int := (IntKind.wrap .i64 (w - 1))
          j (Sum.inr (Sum.inr (v3, h, m, ax, af.2.1, af.2.2, q, r, t, u, v, ab.1, ab.2.1, ab.2.2.1, ab.2.2.2.1, ab.2.2.2.2)))))))))) (
    some (.tup [.agg [.int .u64 c, .str d, .sl .aval (.may false) a, .sl .str (.may false) e, .int .i64 f], .bool true], [some [.sl .u8 (.may false) o, .int .i64 p], some [.int .u64 c, .str d, .sl .aval (.may false) a, .sl .str (.may false) e, .int .i64 f], some [.int .u64 c, .str d, .sl .aval (.may false) a, .sl .str (.may false) e, .int .i64 f]]))
theorem afa (N : Nat) : ∀ (a : St → Ro) (x : jv), rB N a (iy x) = eE N (fun y => a (iy y)) x := by
 intro a x
 rcases x with x | x | x <;> kernel_rfl
def ku (N : Nat) (g : Bs) (h : Int) (c : List aA) (t l : Int) (q0 : jt → Ro) (q1 : jv → Ro) : Ro :=
 aG (qU c t) (fun a =>
 cond (!a.2.2.2.2.2.2.2) (
 some (.tup [.agg [.int .u64 a.1, .str a.2.1, .sl .aval (.may a.2.2.1) a.2.2.2.1, .sl .str (.may a.2.2.2.2.1) a.2.2.2.2.2.1, .int .i64 a.2.2.2.2.2.2.1], .bool a.2.2.2.2.2.2.2], [some [.sl .u8 (.may false) g, .int .i64 h], some [.int .u64 a.1, .str a.2.1, .sl .aval (.may a.2.2.1) a.2.2.2.1, .sl .str (.may a.2.2.2.2.1) a.2.2.2.2.2.1, .int .i64 a.2.2.2.2.2.2.1], some [.int .u64 a.1, .str a.2.1, .sl .aval (.may a.2.2.1) a.2.2.2.1, .sl .str (.may a.2.2.2.2.1) a.2.2.2.2.2.1, .int .i64 a.2.2.2.2.2.2.1]])) (
 cond (decide (5 < l)) (
 some (.tup [.agg [.int .u64 a.1, .str a.2.1, .sl .aval (.may a.2.2.1) a.2.2.2.1, .sl .str (.may a.2.2.2.2.1) a.2.2.2.2.2.1, .int .i64 a.2.2.2.2.2.2.1], .bool a.2.2.2.2.2.2.2], [some [.sl .u8 (.may false) g, .int .i64 h], some [.int .u64 a.1, .str a.2.1, .sl .aval (.may a.2.2.1) a.2.2.2.1, .sl .str (.may a.2.2.2.2.1) a.2.2.2.2.2.1, .int .i64 a.2.2.2.2.2.2.1], some [.int .u64 a.1, .str a.2.1, .sl .aval (.may a.2.2.1) a.2.2.2.1, .sl .str (.may a.2.2.2.2.1) a.2.2.2.2.2.1, .int .i64 a.2.2.2.2.2.2.1]])) (
 aG (iA g h) (fun b =>
 cond b.1 (
 some (.tup [.agg [.int .u64 a.1, .str a.2.1, .sl .aval (.may a.2.2.1) a.2.2.2.1, .sl .str (.may a.2.2.2.2.1) a.2.2.2.2.2.1, .int .i64 a.2.2.2.2.2.2.1], .bool a.2.2.2.2.2.2.2], [some [.sl .u8 (.may false) b.2.1, .int .i64 b.2.2], some [.int .u64 a.1, .str a.2.1, .sl .aval (.may a.2.2.1) a.2.2.2.1, .sl .str (.may a.2.2.2.2.1) a.2.2.2.2.2.1, .int .i64 a.2.2.2.2.2.2.1], some [.int .u64 a.1, .str a.2.1, .sl .aval (.may a.2.2.1) a.2.2.2.1, .sl .str (.may a.2.2.2.2.1) a.2.2.2.2.2.1, .int .i64 a.2.2.2.2.2.2.1]])) (
 chk ((decide (0 ≤ t) && decide (t < ↑(List.length c)))) (
 let d : aA := (List.getD c (Int.toNat t) (aC .atype))
 cond (d.kind == 2) (
 aG (aQ b.2.1 b.2.2 2) (fun m =>
 some (.tup [.agg [.int .u64 (IntKind.wrap .u64 m.1), .str a.2.1, .sl .aval (.may a.2.2.1) a.2.2.2.1, .sl .str (.may a.2.2.2.2.1) a.2.2.2.2.2.1, .int .i64 a.2.2.2.2.2.2.1], .bool true], [some [.sl .u8 (.may false) m.2.1, .int .i64 m.2.2], some [.int .u64 (IntKind.wrap .u64 m.1), .str a.2.1, .sl .aval (.may a.2.2.1) a.2.2.2.1, .sl .str (.may a.2.2.2.2.1) a.2.2.2.2.2.1, .int .i64 a.2.2.2.2.2.2.1], some [.int .u64 (IntKind.wrap .u64 m.1), .str a.2.1, .sl .aval (.may a.2.2.1) a.2.2.2.1, .sl .str (.may a.2.2.2.2.1) a.2.2.2.2.2.1, .int .i64 a.2.2.2.2.2.2.1]]))) (
 cond (d.kind == 3) (
 aG (aQ b.2.1 b.2.2 7) (fun n =>
 chk ((decide (0 ≤ n.1) && decide (n.1 < ↑(List.length ([0, 1, 18446744073709551615, 300, 2147483647, 18446744071562067968, 16777217] : List Int))))) (
 let u : Int := List.getD ([0, 1, 18446744073709551615, 300, 2147483647, 18446744071562067968, 16777217] : List Int) (Int.toNat n.1) (aC (.num .u64))
 some (.tup [.agg [.int .u64 u, .str a.2.1, .sl .aval (.may a.2.2.1) a.2.2.2.1, .sl .str (.may a.2.2.2.2.1) a.2.2.2.2.2.1, .int .i64 a.2.2.2.2.2.2.1], .bool true], [some [.sl .u8 (.may false) n.2.1, .int .i64 n.2.2], some [.int .u64 u, .str a.2.1, .sl .aval (.may a.2.2.1) a.2.2.2.1, .sl .str (.may a.2.2.2.2.1) a.2.2.2.2.2.1, .int .i64 a.2.2.2.2.2.2.1], some [.int .u64 u, .str a.2.1, .sl .aval (.may a.2.2.1) a.2.2.2.1, .sl .str (.may a.2.2.2.2.1) a.2.2.2.2.2.1, .int .i64 a.2.2.2.2.2.2.1]])))) (
 cond (d.kind == 4) (
 aG (aQ b.2.1 b.2.2 7) (fun o =>
 chk ((decide (0 ≤ o.1) && decide (o.1 < ↑(List.length ([0, 1, 18446744073709551615, 1099511627776, 9223372036854775807, 9223372036854775808, 9007199254740993] : List Int))))) (
 let v : Int := List.getD ([0, 1, 18446744073709551615, 1099511627776, 9223372036854775807, 9223372036854775808, 9007199254740993] : List Int) (Int.toNat o.1) (aC (.num .u64))
 some (.tup [.agg [.int .u64 v, .str a.2.1, .sl .aval (.may a.2.2.1) a.2.2.2.1, .sl .str (.may a.2.2.2.2.1) a.2.2.2.2.2.1, .int .i64 a.2.2.2.2.2.2.1], .bool true], [some [.sl .u8 (.may false) o.2.1, .int .i64 o.2.2], some [.int .u64 v, .str a.2.1, .sl .aval (.may a.2.2.1) a.2.2.2.1, .sl .str (.may a.2.2.2.2.1) a.2.2.2.2.2.1, .int .i64 a.2.2.2.2.2.2.1], some [.int .u64 v, .str a.2.1, .sl .aval (.may a.2.2.1) a.2.2.2.1, .sl .str (.may a.2.2.2.2.1) a.2.2.2.2.2.1, .int .i64 a.2.2.2.2.2.2.1]])))) (
 cond (d.kind == 5) (
 aG (aQ b.2.1 b.2.2 7) (fun p =>
 chk ((decide (0 ≤ p.1) && decide (p.1 < ↑(List.length ([0, 1065353216, 2139095040, 1, 3212836864, 2143289345, 2147483648] : List Int))))) (
 let w : Int := List.getD ([0, 1065353216, 2139095040, 1, 3212836864, 2143289345, 2147483648] : List Int) (Int.toNat p.1) (aC (.num .u64))
 some (.tup [.agg [.int .u64 w, .str a.2.1, .sl .aval (.may a.2.2.1) a.2.2.2.1, .sl .str (.may a.2.2.2.2.1) a.2.2.2.2.2.1, .int .i64 a.2.2.2.2.2.2.1], .bool true], [some [.sl .u8 (.may false) p.2.1, .int .i64 p.2.2], some [.int .u64 w, .str a.2.1, .sl .aval (.may a.2.2.1) a.2.2.2.1, .sl .str (.may a.2.2.2.2.1) a.2.2.2.2.2.1, .int .i64 a.2.2.2.2.2.2.1], some [.int .u64 w, .str a.2.1, .sl .aval (.may a.2.2.1) a.2.2.2.1, .sl .str (.may a.2.2.2.2.1) a.2.2.2.2.2.1, .int .i64 a.2.2.2.2.2.2.1]])))) (
 cond (d.kind == 6) (
 aG (aQ b.2.1 b.2.2 5) (fun q =>
 chk ((decide (0 ≤ q.1) && decide (q.1 < ↑(List.length ([0, 4607182418800017408, 1, 9223372036854775808, 9218868437227405312] : List Int))))) (
 let x : Int := List.getD ([0, 4607182418800017408, 1, 9223372036854775808, 9218868437227405312] : List Int) (Int.toNat q.1) (aC (.num .u64))
 some (.tup [.agg [.int .u64 x, .str a.2.1, .sl .aval (.may a.2.2.1) a.2.2.2.1, .sl .str (.may a.2.2.2.2.1) a.2.2.2.2.2.1, .int .i64 a.2.2.2.2.2.2.1], .bool true], [some [.sl .u8 (.may false) q.2.1, .int .i64 q.2.2], some [.int .u64 x, .str a.2.1, .sl .aval (.may a.2.2.1) a.2.2.2.1, .sl .str (.may a.2.2.2.2.1) a.2.2.2.2.2.1, .int .i64 a.2.2.2.2.2.2.1], some [.int .u64 x, .str a.2.1, .sl .aval (.may a.2.2.1) a.2.2.2.1, .sl .str (.may a.2.2.2.2.1) a.2.2.2.2.2.1, .int .i64 a.2.2.2.2.2.2.1]])))) (
 cond (d.kind == 8) (
 aG (aQ b.2.1 b.2.2 4) (fun r =>
 chk ((decide (0 ≤ r.1) && decide (r.1 < ↑(List.length ([([] : Bs), ([97] : Bs), ([195, 164] : Bs), ([116, 101, 120, 116] : Bs)] : Bss))))) (
 let y : Bs := List.getD ([([] : Bs), ([97] : Bs), ([195, 164] : Bs), ([116, 101, 120, 116] : Bs)] : Bss) (Int.toNat r.1) (aC .str)
 some (.tup [.agg [.int .u64 a.1, .str y, .sl .aval (.may a.2.2.1) a.2.2.2.1, .sl .str (.may a.2.2.2.2.1) a.2.2.2.2.2.1, .int .i64 a.2.2.2.2.2.2.1], .bool true], [some [.sl .u8 (.may false) r.2.1, .int .i64 r.2.2], some [.int .u64 a.1, .str y, .sl .aval (.may a.2.2.1) a.2.2.2.1, .sl .str (.may a.2.2.2.2.1) a.2.2.2.2.2.1, .int .i64 a.2.2.2.2.2.2.1], some [.int .u64 a.1, .str y, .sl .aval (.may a.2.2.1) a.2.2.2.1, .sl .str (.may a.2.2.2.2.1) a.2.2.2.2.2.1, .int .i64 a.2.2.2.2.2.2.1]])))) (
 cond (d.kind == 7) (
 aG (aQ b.2.1 b.2.2 4) (fun s =>
 chk ((decide (0 ≤ s.1) && decide (s.1 < ↑(List.length ([([] : Bs), ([255] : Bs), ([0] : Bs), ([98] : Bs)] : Bss))))) (
 let z : Bs := List.getD ([([] : Bs), ([255] : Bs), ([0] : Bs), ([98] : Bs)] : Bss) (Int.toNat s.1) (aC .str)
 some (.tup [.agg [.int .u64 a.1, .str z, .sl .aval (.may a.2.2.1) a.2.2.2.1, .sl .str (.may a.2.2.2.2.1) a.2.2.2.2.2.1, .int .i64 a.2.2.2.2.2.2.1], .bool true], [some [.sl .u8 (.may false) s.2.1, .int .i64 s.2.2], some [.int .u64 a.1, .str z, .sl .aval (.may a.2.2.1) a.2.2.2.1, .sl .str (.may a.2.2.2.2.1) a.2.2.2.2.2.1, .int .i64 a.2.2.2.2.2.2.1], some [.int .u64 a.1, .str z, .sl .aval (.may a.2.2.1) a.2.2.2.1, .sl .str (.may a.2.2.2.2.1) a.2.2.2.2.2.1, .int .i64 a.2.2.2.2.2.2.1]])))) (
 cond (d.kind == 10) (
 let x8 : Int := (↑(List.length d.syms) : Int)
 aG (aQ b.2.1 b.2.2 x8) (fun i =>
 let x9 : Int := (IntKind.wrap .u64 i.1)
 some (.tup [.agg [.int .u64 x9, .str a.2.1, .sl .aval (.may a.2.2.1) a.2.2.2.1, .sl .str (.may a.2.2.2.2.1) a.2.2.2.2.2.1, .int .i64 a.2.2.2.2.2.2.1], .bool true], [some [.sl .u8 (.may false) i.2.1, .int .i64 i.2.2], some [.int .u64 x9, .str a.2.1, .sl .aval (.may a.2.2.1) a.2.2.2.1, .sl .str (.may a.2.2.2.2.1) a.2.2.2.2.2.1, .int .i64 a.2.2.2.2.2.2.1], some [.int .u64 x9, .str a.2.1, .sl .aval (.may a.2.2.1) a.2.2.2.1, .sl .str (.may a.2.2.2.2.1) a.2.2.2.2.2.1, .int .i64 a.2.2.2.2.2.2.1]]))) (
 cond (d.kind == 14) (
 let ab : Int := (↑(List.length d.branches) : Int)
 aG (aQ b.2.1 b.2.2 ab) (fun e =>
 chk ((decide (0 ≤ e.1) && decide (e.1 < ↑(List.length d.branches)))) (
 let ac : Int := List.getD d.branches (Int.toNat e.1) (aC (.num .i64))
 let ad : Int := (IntKind.wrap .i64 (l + 1))
 aG (cM e.2.1 e.2.2 c ac ad) (fun f =>
 cond f.2.1 (
 some (.tup [.agg [.int .u64 a.1, .str a.2.1, .sl .aval (.may true) ([(reA f.1)] : List aB), .sl .str (.may a.2.2.2.2.1) a.2.2.2.2.2.1, .int .i64 e.1], .bool true], [some [.sl .u8 (.may false) f.2.2.1, .int .i64 f.2.2.2], some [.int .u64 a.1, .str a.2.1, .sl .aval (.may true) ([(reA f.1)] : List aB), .sl .str (.may a.2.2.2.2.1) a.2.2.2.2.2.1, .int .i64 e.1], some [.int .u64 a.1, .str a.2.1, .sl .aval (.may true) ([(reA f.1)] : List aB), .sl .str (.may a.2.2.2.2.1) a.2.2.2.2.2.1, .int .i64 e.1]])) (
 some (.tup [.agg [.int .u64 a.1, .str a.2.1, .sl .aval (.may a.2.2.1) a.2.2.2.1, .sl .str (.may a.2.2.2.2.1) a.2.2.2.2.2.1, .int .i64 a.2.2.2.2.2.2.1], .bool true], [some [.sl .u8 (.may false) f.2.2.1, .int .i64 f.2.2.2], some [.int .u64 a.1, .str a.2.1, .sl .aval (.may a.2.2.1) a.2.2.2.1, .sl .str (.may a.2.2.2.2.1) a.2.2.2.2.2.1, .int .i64 a.2.2.2.2.2.2.1], some [.int .u64 a.1, .str a.2.1, .sl .aval (.may a.2.2.1) a.2.2.2.1, .sl .str (.may a.2.2.2.2.1) a.2.2.2.2.2.1, .int .i64 a.2.2.2.2.2.2.1]])))))) (
 cond (d.kind == 9) (
 q0 (l, c, d, 0, b.2.1, b.2.2, 0, ([] : Bs), ([] : List aB), ([] : Bss), 0, a.1, a.2.1, ([] : List aB), a.2.2.2.2.1, a.2.2.2.2.2.1, a.2.2.2.2.2.2.1)) (
 cond (d.kind == 12) (
 cond (d.kind == 12) (
 aG (aQ b.2.1 b.2.2 4) (fun j =>
 q1 (Sum.inl (l, c, d, j.1, j.2.1, j.2.2, 0, ([] : Bs), ([] : List aB), ([] : Bss), 0, a.1, a.2.1, a.2.2.1, a.2.2.2.1, a.2.2.2.2.1, a.2.2.2.2.2.1, a.2.2.2.2.2.2.1)))) (
 some (.tup [.agg [.int .u64 a.1, .str a.2.1, .sl .aval (.may a.2.2.1) a.2.2.2.1, .sl .str (.may a.2.2.2.2.1) a.2.2.2.2.2.1, .int .i64 a.2.2.2.2.2.2.1], .bool true], [some [.sl .u8 (.may false) b.2.1, .int .i64 b.2.2], some [.int .u64 a.1, .str a.2.1, .sl .aval (.may a.2.2.1) a.2.2.2.1, .sl .str (.may a.2.2.2.2.1) a.2.2.2.2.2.1, .int .i64 a.2.2.2.2.2.2.1], some [.int .u64 a.1, .str a.2.1, .sl .aval (.may a.2.2.1) a.2.2.2.1, .sl .str (.may a.2.2.2.2.1) a.2.2.2.2.2.1, .int .i64 a.2.2.2.2.2.2.1]]))) (
 cond (d.kind == 13) (
 aG (aQ b.2.1 b.2.2 4) (fun k =>
 q1 (Sum.inl (l, c, d, k.1, k.2.1, k.2.2, 0, ([] : Bs), ([] : List aB), ([] : Bss), 0, a.1, a.2.1, a.2.2.1, a.2.2.2.1, a.2.2.2.2.1, a.2.2.2.2.2.1, a.2.2.2.2.2.2.1)))) (
 some (.tup [.agg [.int .u64 a.1, .str a.2.1, .sl .aval (.may a.2.2.1) a.2.2.2.1, .sl .str (.may a.2.2.2.2.1) a.2.2.2.2.2.1, .int .i64 a.2.2.2.2.2.2.1], .bool true], [some [.sl .u8 (.may false) b.2.1, .int .i64 b.2.2], some [.int .u64 a.1, .str a.2.1, .sl .aval (.may a.2.2.1) a.2.2.2.1, .sl .str (.may a.2.2.2.2.1) a.2.2.2.2.2.1, .int .i64 a.2.2.2.2.2.2.1], some [.int .u64 a.1, .str a.2.1, .sl .aval (.may a.2.2.1) a.2.2.2.1, .sl .str (.may a.2.2.2.2.1) a.2.2.2.2.2.1, .int .i64 a.2.2.2.2.2.2.1]])))))))))))))))))))
def ta (N : Nat) (a : Bs) (b : Int) (c : List aA) (d e : Int) : Ro := ku N a b c d e (fun z => aS N (ju N) z) (fun z => aS N (eE N) z)
def aiG (N : Nat) : List (Nat × (St → Ro)) := ba ft N s9 (fin kt) ++ []
theorem agw (N : Nat) (a : Bs) (c : Int) (d : List aA) (e f : Int) : bc ft N 207 kt s9 [.ptr 0 0, .agg [.sl .atype (.may false) d], .int .i64 e, .int .i64 f] [some [.sl .u8 (.may false) a, .int .i64 c]] = ta N a c d e f :=
 (bU (aiG N) (by kernel_rfl) rfl (fun C => ku N a c d e f (fun z => C 1000000 (ix z)) (fun z => C 1000001 (iy z))) (fun C => by kernel_rfl)).trans (Eq.trans (b := ku N a c d e f (fun z => bo N (rA N) (ix z)) (fun z => bo N (rB N) (iy z))) (by kernel_rfl) (congr (congrArg (ku N a c d e f) (funext fun z => bj (ix) (rA N) (ju N) (ae9 N) N z)) (funext fun z => bj (iy) (rB N) (eE N) (afa N) N z)))
theorem agx (N : Nat) (a : Bs) (b : Int) (c : List aA) (f g : Int) (h : Tot (ta N a b c f g) (fun z => ∃ (i : aB) (j : Bool) (d : Bs) (e : Int) (rest : List aL), z.1.dimR = .tup [.agg (enc .aval i), .bool j] ∧ z.2 = some [.sl .u8 (.may false) d, .int .i64 e] :: rest ∧ cR a b c f g (i, j, d, e))) : ∃ r, cM a b c f g r := by
 obtain ⟨⟨v, hp⟩, hz, i, j, d, e, rest, e1, e2, hq⟩ := h
 simp only at e1 e2
 subst e2
 exact ⟨(i, j, d, e), bl.dimR (FnC.objs (css := [[.sl .u8 (.may false) a, .int .i64 b]]) (css' := [[.sl .u8 (.may false) d, .int .i64 e]]) ah6 (agw N a b c f g) hz rfl) e1, hq⟩
end Go.Proofs.Ytdpajabhmmmjoaa
end
noncomputable section
namespace Go.Proofs.Ytdpajabhmmmjoaa
open Go.AM
set_option autoImplicit false
set_option linter.unusedVariables false
set_option linter.unusedSimpArgs false
set_option maxRecDepth 100000
theorem apq : ∀ k, 12000000 ≤ bW k
 | 0 => Nat.le_refl _
 | k + 1 => by have := apq k; simp only [bW]; omega
theorem atu : ∀ l : List aB, 40 * l.length ≤ wL l
 | [] => by simp
 | .mk n s l ks b :: m => by have := atu m; simp only [wL, wV, List.length_cons]; omega
theorem ah7 {a b c : Bool} (h : (a && b) = true) (hc : c = true) : (c && b) = true := by
 cases a <;> cases b <;> simp_all
section
variable {ts : List aA} {t : Int}
theorem at5 {m : Nat} (hk : je m (ts.getD t.toNat (aC .atype))) (hq : (ts.getD t.toNat (aC .atype)).kind = 2 ∨ (ts.getD t.toNat (aC .atype)).kind = 3 ∨ (ts.getD t.toNat (aC .atype)).kind = 4 ∨ (ts.getD t.toNat (aC .atype)).kind = 5 ∨ (ts.getD t.toNat (aC .atype)).kind = 6 ∨ (ts.getD t.toNat (aC .atype)).kind = 10)
  {n x : Int} {s : List UInt8} {l : List aB} {ks : List (List UInt8)} {b : Int} (h : bu ts t (.mk n s l ks b) = true) (hx : re (ts.getD t.toNat (aC .atype)).kind (ts.getD t.toNat (aC .atype)).syms x = true) : bu ts t (.mk x s l ks b) = true := by
 rw [bu, Bool.and_eq_true] at h ⊢
 refine ⟨h.1, ?_⟩
 have h := h.2
 generalize ts.getD t.toNat (aC .atype) = k at *
 rcases hq with e | e | e | e | e | e <;> simp only [e] at h hx ⊢
 ·exact ah7 (a := re 2 k.syms n) (b := ca 0 s l ks b) h hx
 ·exact ah7 (a := re 3 k.syms n) (b := ca 0 s l ks b) h hx
 ·exact ah7 (a := re 4 k.syms n) (b := ca 0 s l ks b) h hx
 ·exact ah7 (a := re 5 k.syms n) (b := ca 0 s l ks b) h hx
 ·exact ah7 (a := re 6 k.syms n) (b := ca 0 s l ks b) h hx
 ·exact ah7 (a := re 10 k.syms n) (b := ca 0 s l ks b) h hx
theorem atv {m : Nat} (hk : je m (ts.getD t.toNat (aC .atype))) (hq : (ts.getD t.toNat (aC .atype)).kind = 7 ∨ (ts.getD t.toNat (aC .atype)).kind = 8)
  {n : Int} {s x : List UInt8} {l : List aB} {ks : List (List UInt8)} {b : Int} (h : bu ts t (.mk n s l ks b) = true) (hx : wd (ts.getD t.toNat (aC .atype)).kind (ts.getD t.toNat (aC .atype)).size x = true) : bu ts t (.mk n x l ks b) = true := by
 rw [bu, Bool.and_eq_true] at h ⊢
 refine ⟨h.1, ?_⟩
 have h := h.2
 generalize ts.getD t.toNat (aC .atype) = k at *
 rcases hq with e | e <;> simp only [e] at h hx ⊢
 ·exact ah7 (a := wd 7 k.size s) (b := ca n [] l ks b) h hx
 ·exact ah7 (a := wd 8 k.size s) (b := ca n [] l ks b) h hx
theorem aih {n : Int} {s : List UInt8} {l : List aB} {ks : List (List UInt8)} {b : Int} (h : ca n s l ks b = true) : n = 0 ∧ s = [] ∧ l = [] ∧ ks = [] ∧ b = 0 := by
 simp only [ca, Bool.and_eq_true, beq_iff_eq, decide_eq_true_eq] at h
 obtain ⟨h1, h2, h3, h4, h5⟩ := h
 exact ⟨h1, h2, List.length_eq_zero_iff.1 (by omega), List.length_eq_zero_iff.1 (by omega), h5⟩
theorem avk (e : (ts.getD t.toNat (aC .atype)).kind = 9) {n : Int} {s : List UInt8} {l : List aB} {ks : List (List UInt8)} {b : Int} (h : bu ts t (.mk n s l ks b) = true) : n = 0 ∧ s = [] ∧ ks = [] ∧ b = 0 := by
 rw [bu, Bool.and_eq_true] at h
 have h := h.2
 simp only [e] at h
 have h : ((decide (l.length = (ts.getD t.toNat (aC .atype)).fields.length) && lA ts (ts.getD t.toNat (aC .atype)).fields l) && ca n s [] ks b) = true := h
 have := aih (Bool.and_eq_true_iff.1 h).2
 exact ⟨this.1, this.2.1, this.2.2.2.1, this.2.2.2.2⟩
theorem auD (e : (ts.getD t.toNat (aC .atype)).kind = 12) {n : Int} {s : List UInt8} {l : List aB} {ks : List (List UInt8)} {b : Int} (h : bu ts t (.mk n s l ks b) = true) : n = 0 ∧ s = [] ∧ ks = [] ∧ b = 0 := by
 rw [bu, Bool.and_eq_true] at h
 have h := h.2
 simp only [e] at h
 have h : (bO ts (ts.getD t.toNat (aC .atype)).items l && ca n s [] ks b) = true := h
 have := aih (Bool.and_eq_true_iff.1 h).2
 exact ⟨this.1, this.2.1, this.2.2.2.1, this.2.2.2.2⟩
theorem auE (e : (ts.getD t.toNat (aC .atype)).kind = 13) {n : Int} {s : List UInt8} {l : List aB} {ks : List (List UInt8)} {b : Int} (h : bu ts t (.mk n s l ks b) = true) : n = 0 ∧ s = [] ∧ b = 0 := by
 rw [bu, Bool.and_eq_true] at h
 have h := h.2
 simp only [e] at h
 have h : ((((ks.length : Int) == (l.length : Int)) && (eP ks && bO ts (ts.getD t.toNat (aC .atype)).items l)) && ca n s [] [] b) = true := h
 have := aih (Bool.and_eq_true_iff.1 h).2
 exact ⟨this.1, this.2.1, this.2.2.2.2⟩
theorem auF (e : (ts.getD t.toNat (aC .atype)).kind = 14) {n : Int} {s : List UInt8} {l : List aB} {ks : List (List UInt8)} {b : Int} (h : bu ts t (.mk n s l ks b) = true) : n = 0 ∧ s = [] ∧ ks = [] := by
 rw [bu, Bool.and_eq_true] at h
 have h := h.2
 simp only [e] at h
 have h : ((decide (0 ≤ b) && (decide (b < ((ts.getD t.toNat (aC .atype)).branches.length : Int)) && (((l.length : Int) == 1) && bO ts ((ts.getD t.toNat (aC .atype)).branches.getD b.toNat 0) l))) && ca n s [] ks 0) = true := h
 have := aih (Bool.and_eq_true_iff.1 h).2
 exact ⟨this.1, this.2.1, this.2.2.2.1⟩
theorem at6 (ht : isT ts t = true) (e : (ts.getD t.toNat (aC .atype)).kind = 12) {l : List aB} (h : bO ts (ts.getD t.toNat (aC .atype)).items l = true) : bu ts t (.mk 0 [] l [] 0) = true := by
 rw [bu, ht]
 simp only [Bool.true_and]
 rw [e]
 show (bO ts (ts.getD t.toNat (aC .atype)).items l && true) = true
 rw [h]; rfl
theorem at7 (ht : isT ts t = true) (e : (ts.getD t.toNat (aC .atype)).kind = 13) {l : List aB} {ks : List (List UInt8)} (hl : ks.length = l.length) (hk : eP ks = true) (h : bO ts (ts.getD t.toNat (aC .atype)).items l = true) : bu ts t (.mk 0 [] l ks 0) = true := by
 rw [bu, ht]
 simp only [Bool.true_and]
 rw [e]
 show ((((ks.length : Int) == (l.length : Int)) && (eP ks && bO ts (ts.getD t.toNat (aC .atype)).items l)) && true) = true
 rw [h, hk, hl]; simp
end
theorem alV {ts : List aA} {t : Int} (h : vu ts t = true) : 0 ≤ t ∧ t < ts.length ∧ 0 ≤ rk (rkS ts) t ∧ rk (wtS ts) t ≤ 2000 := by
 simp only [vu, isT, Bool.and_eq_true, decide_eq_true_eq] at h; omega
theorem asG {ts : List aA} (hs : fx ts) {t : Int} (h : vu ts t = true) (h9 : (ts.getD t.toNat (aC .atype)).kind = 9) {f : aM} (hf : f ∈ (ts.getD t.toNat (aC .atype)).fields) : vu ts f.typ = true := by
 obtain ⟨h1, h2, h3, h4⟩ := alV h
 have hR := aqU ts hs
 have hW := atr ts hs
 have hrl := hR.len
 have hk := hs.at (i := t.toNat) (by omega)
 have h3' : 0 ≤ (rkS ts).getD t.toNat 0 := h3
 have hp : 1 ≤ (rkS ts).getD t.toNat 0 := by
  by_cases h0 : (rkS ts).getD t.toNat 0 = 0
  ·exact absurd h9 (hR.nul t.toNat (by omega) h0).1
  ·omega
 have hro := hR.ok t.toNat (by omega) hp
 have hrc := hro.rcd (by omega)
 have hty := hk.fields f hf
 have hpos : ∀ g ∈ (ts.getD t.toNat (aC .atype)).fields, 0 ≤ rk (wtS ts) g.typ := fun g hg => by
  have hg1 := hrc g hg
  have hg2 := hk.fields g hg
  have := (hW.ok g.typ.toNat (by omega) hg1.1).pos
  unfold rk; omega
 have hle := aj5 hpos f hf
 have hwt := (hW.ok t.toNat (by omega) h3').rcd h9
 have h4' : (wtS ts).getD t.toNat 0 ≤ 2000 := h4
 have hfr := (hrc f hf).1
 simp only [vu, isT, Bool.and_eq_true, decide_eq_true_eq]
 exact ⟨⟨hty.1, hty.2.1⟩, hfr, by omega⟩
theorem an2 (m : Int) (h : 0 ≤ m ∧ m < 5) : dj (([107] : List UInt8) ++ [UInt8.ofNat (Int.toNat (IntKind.wrap .u8 (IntKind.wrap .i64 (97 + m))))]) = true := by
 have : m = 0 ∨ m = 1 ∨ m = 2 ∨ m = 3 ∨ m = 4 := by omega
 rcases this with rfl | rfl | rfl | rfl | rfl <;> decide
def ad7 (ts : List aA) (deep : Int) : Prop := ∀ (l : List UInt8) (n t : Int), fp l n → ∃ r, cM l n ts t deep r
theorem at8 (ts : List aA) (hs : fx ts) (deep : Int) (hd : 0 ≤ deep ∧ deep ≤ 5) (hV : ad7 ts (deep + 1)) (t : Int) (hL : vu ts t = true) (h9 : (ts.getD t.toNat (aC .atype)).kind = 9) (a0 a4 : Int) (a1 : List UInt8) (a2 : List aB) (a3 : List (List UInt8)) (kf : Bool) (l : List UInt8) (n : Int) (hp : fp l n) :
  Tot (aS 1000 (ju 1000) (deep, ts, ts.getD t.toNat (aC .atype), 0, l, n, a0, a1, a2, a3, a4, 0, [], [], kf, [], 0)) (fun z => ∃ (y0 : aB) (y1 : Bool) (y2 : Bs) (y3 : Int) (rest : List aL), z.1.dimR = .tup [.agg (enc .aval y0), .bool y1] ∧ z.2 = some [.sl .u8 (.may false) y2, .int .i64 y3] :: rest ∧ cR l n ts t deep (y0, y1, y2, y3)) := by
 obtain ⟨t1, t2, -, -⟩ := alV hL
 have hk := hs.at (i := t.toNat) (by omega)
 have hnf := hk.nf
 have hfl : ∀ f ∈ (ts.getD t.toNat (aC .atype)).fields, vu ts f.typ = true := fun f hf => asG hs hL h9 hf
 have ed : IntKind.i64.wrap (deep + 1) = deep + 1 := aJ (deep + 1) (by omega)
 generalize hkk : ts.getD t.toNat (aC .atype) = k at *
 have hbw : bW (6 - deep.toNat) = 8 * bW (6 - (deep + 1).toNat) + 1000 := by
  have : 6 - deep.toNat = (6 - (deep + 1).toNat) + 1 := by omega
  rw [this]; rfl
 refine bq (fun x => match x with
  | (d, ts', k', i, l', n', b0, b1, b2, b3, b4, c0, c1, c2, cf, c3, c4) => d = deep ∧ ts' = ts ∧ k' = k ∧ 0 ≤ i ∧ i ≤ (k.fields.length : Int) ∧ l' = l ∧ fp l n' ∧ c0 = 0 ∧ c1 = [] ∧ c3 = [] ∧ c4 = 0 ∧ (c2.length : Int) = i ∧ lA ts (k.fields.take i.toNat) c2 = true ∧ wL c2 ≤ i.toNat * bW (6 - (deep + 1).toNat))
  (fun x => ((k.fields.length : Int) - x.2.2.2.1).toNat) ?_ _ _ ⟨rfl, rfl, rfl, by simp, by simp, rfl, hp, rfl, rfl, rfl, rfl, rfl, rfl, by simp [wL]⟩ (by simp; omega)
 rintro again ⟨d, ts', k', i, l', n', b0, b1, b2, b3, b4, c0, c1, c2, cf, c3, c4⟩ ⟨rfl, rfl, rfl, i1, i2, rfl, i3, rfl, rfl, rfl, rfl, i4, i5, i6⟩ ih
 dsimp only at ih
 unfold ju
 dsimp only
 rw [ed]
 refine aE (fun h => ?_) (fun h => ?_)
 ·have h := of_decide_eq_true h
  have hi : i.toNat < k'.fields.length := by omega
  have hmem := iH k'.fields i.toNat (aC .afield) hi
  have htk := ace k'.fields i.toNat (aC .afield) hi
  have hff := hfl _ hmem
  generalize k'.fields.getD i.toNat (aC .afield) = f at *
  refine vck ?_
  refine aF (hV l' n' f.typ i3) ?_
  rintro ⟨v, is, l2, n2⟩ ⟨-, q1, q2, q3, q4⟩
  dsimp only at q1 q2 q3 q4 ⊢
  subst q3
  obtain ⟨q5, q6⟩ := q2 (by rw [q1]; exact hff)
  have ei : IntKind.i64.wrap (i + 1) = i + 1 := aJ (i + 1) (by omega)
  have eit : (i + 1).toNat = i.toNat + 1 := by omega
  refine vck ?_
  refine ih (d, ts', k', _, l2, n2, b0, b1, b2, b3, b4, 0, [], _, cf, [], 0) ?_ (by simp only [ei]; omega)
  simp only [ei, qv]
  rw [eit, htk]
  refine ⟨trivial, trivial, trivial, by omega, by omega, trivial, q4, trivial, trivial, trivial, trivial, by simp; omega, ah4 ts' _ _ _ _ (by simp; omega) i5 q5, ?_⟩
  rw [abg, Nat.add_mul]
  simp only [wL]; omega
 ·have h := of_decide_eq_false h
  rw [List.take_of_length_le (by omega)] at i5
  refine aH ⟨.mk 0 [] c2 [] 0, _, _, _, _, rfl, rfl, hL.symm, fun _ => ⟨aqS ts' t (alU ⟨t1, t2⟩) (by rw [hkk]; exact h9) c2 (by rw [hkk]; omega) (by rw [hkk]; exact i5), ?_⟩, rfl, i3⟩
  have : i.toNat * bW (6 - (d + 1).toNat) ≤ 8 * bW (6 - (d + 1).toNat) := Nat.mul_le_mul_right _ (by omega)
  simp only [wV, yo, List.length_nil]
  omega
theorem alW (ts : List aA) (hs : fx ts) (deep : Int) (hd : 0 ≤ deep ∧ deep ≤ 5) (hV : ad7 ts (deep + 1)) (t : Int) (hL : vu ts t = true) (hkd : (ts.getD t.toNat (aC .atype)).kind = 12 ∨ (ts.getD t.toNat (aC .atype)).kind = 13) (a0 a4 : Int) (a1 : List UInt8) (a2 : List aB) (a3 : List (List UInt8)) (kf : Bool) (l : List UInt8) (n m : Int) (hm : 0 ≤ m ∧ m ≤ 3) (hp : fp l n) :
  Tot (aS 1000 (eE 1000) (Sum.inl (deep, ts, ts.getD t.toNat (aC .atype), m, l, n, a0, a1, a2, a3, a4, 0, [], true, [], kf, [], 0))) (fun z => ∃ (y0 : aB) (y1 : Bool) (y2 : Bs) (y3 : Int) (rest : List aL), z.1.dimR = .tup [.agg (enc .aval y0), .bool y1] ∧ z.2 = some [.sl .u8 (.may false) y2, .int .i64 y3] :: rest ∧ cR l n ts t deep (y0, y1, y2, y3)) := by
 obtain ⟨t1, t2, -, -⟩ := alV hL
 have hT := alU ⟨t1, t2⟩
 have hk := hs.at (i := t.toNat) (by omega)
 have ed : IntKind.i64.wrap (deep + 1) = deep + 1 := aJ (deep + 1) (by omega)
 generalize hkk : ts.getD t.toNat (aC .atype) = k at *
 have hbw : bW (6 - deep.toNat) = 8 * bW (6 - (deep + 1).toNat) + 1000 := by
  have : 6 - deep.toNat = (6 - (deep + 1).toNat) + 1 := by omega
  rw [this]; rfl
 have hbg := apq (6 - (deep + 1).toNat)
 generalize hB : bW (6 - (deep + 1).toNat) = W at *
 have fin : ∀ (c2 : List aB) (c3 : List (List UInt8)), ((k.kind = 12 ∧ c3 = []) ∨ (k.kind = 13 ∧ c3.length = c2.length ∧ eP c3 = true)) → bO ts k.items c2 = true → wL c2 ≤ 3 * W → fJ c3 ≤ 100 → asD ts t (.mk 0 [] c2 c3 0) (bW (6 - deep.toNat)) := fun c2 c3 h1 h2 h3 h4 => by
  refine ⟨?_, ?_⟩
  ·rcases h1 with ⟨e, rfl⟩ | ⟨e, h5, h6⟩
   ·exact at6 hT (by rw [hkk]; exact e) (by rw [hkk]; exact h2)
   ·exact at7 hT (by rw [hkk]; exact e) h5 h6 (by rw [hkk]; exact h2)
  ·rw [hbw]; simp only [wV, List.length_nil]; omega
 have hkey : ∀ c : UInt8, fJ [([107] : List UInt8) ++ [c]] = 12 := fun c => rfl
 refine bq (fun x => match x with
  | .inl (d, ts', k', i, l', n', b0, b1, b2, b3, b4, c0, c1, lf, c2, cf, c3, c4) => d = deep ∧ ts' = ts ∧ k' = k ∧ 0 ≤ i ∧ i ≤ 3 ∧ l' = l ∧ fp l n' ∧ c0 = 0 ∧ c1 = [] ∧ c4 = 0 ∧ lf = true ∧ c2 = [] ∧ c3 = []
  | .inr (.inl (d, ts', k', i, l', n', b0, b1, b2, b3, b4, c0, c1, c2, cf, c3, c4)) => d = deep ∧ ts' = ts ∧ k' = k ∧ 0 ≤ i ∧ i ≤ 3 ∧ l' = l ∧ fp l n' ∧ c0 = 0 ∧ c1 = [] ∧ c4 = 0 ∧ k.kind = 12 ∧ c3 = [] ∧ (c2.length : Int) + i ≤ 3 ∧ bO ts k.items c2 = true ∧ wL c2 + i.toNat * W ≤ 3 * W
  | .inr (.inr (d, ts', k', i, l', n', b0, b1, b2, b3, b4, c0, c1, c2, c3, c4)) => d = deep ∧ ts' = ts ∧ k' = k ∧ 0 ≤ i ∧ i ≤ 3 ∧ l' = l ∧ fp l n' ∧ c0 = 0 ∧ c1 = [] ∧ c4 = 0 ∧ k.kind = 13 ∧ c3.length = c2.length ∧ (c2.length : Int) + i ≤ 3 ∧ bO ts k.items c2 = true ∧ wL c2 + i.toNat * W ≤ 3 * W ∧ eP c3 = true ∧ fJ c3 + 12 * i.toNat ≤ 36)
  (fun x => match x with
  | .inl (d, ts', k', i, _) => i.toNat
  | .inr (.inl (d, ts', k', i, _)) => i.toNat
  | .inr (.inr (d, ts', k', i, _)) => i.toNat) ?_ _ _ ⟨rfl, rfl, rfl, hm.1, hm.2, rfl, hp, rfl, rfl, rfl, rfl, rfl, rfl⟩ (by simp only; omega)
 have mulW : ∀ i : Int, 0 < i → (i - 1).toNat * W + W = i.toNat * W := fun i hi => by
  have : i.toNat = (i - 1).toNat + 1 := by omega
  rw [this, Nat.add_mul]; omega
 rintro again (⟨d, ts', k', i, l', n', b0, b1, b2, b3, b4, c0, c1, lf, c2, cf, c3, c4⟩ | ⟨d, ts', k', i, l', n', b0, b1, b2, b3, b4, c0, c1, c2, cf, c3, c4⟩ | ⟨d, ts', k', i, l', n', b0, b1, b2, b3, b4, c0, c1, c2, c3, c4⟩)
 ·rintro ⟨rfl, rfl, rfl, i1, i2, rfl, i3, rfl, rfl, rfl, rfl, rfl, rfl⟩ ih
  dsimp only at ih
  unfold eE
  dsimp only
  rw [ed]
  have finish : ∀ (n2 : Int), fp l' n2 → cR l' n ts' t d (.mk 0 [] [] [] 0, true, l', n2) := fun n2 h2 => ⟨hL.symm, fun _ => fin [] [] (by rcases hkd with e | e; exact .inl ⟨e, rfl⟩; exact .inr ⟨e, rfl, rfl⟩) rfl (by simp [wL]) (by simp [fJ]), rfl, h2⟩
  refine aE (fun h => ?_) (fun h => aH ⟨.mk 0 [] [] [] 0, _, _, _, _, rfl, rfl, finish _ i3⟩)
  have h0 := of_decide_eq_true h
  refine aF (hV l' n' k'.items i3) ?_
  rintro ⟨v, is, l2, n2⟩ ⟨-, q1, q2, q3, q4⟩
  dsimp only at q1 q2 q3 q4 ⊢
  subst q3
  refine aE (fun hn => aH ⟨.mk 0 [] [] [] 0, _, _, _, _, rfl, rfl, finish _ q4⟩) (fun hy => ?_)
  simp only [bnl] at hy
  obtain ⟨q5, q6⟩ := q2 hy
  rw [hB] at q6
  have ei : IntKind.i64.wrap (i - 1) = i - 1 := aJ (i - 1) (by omega)
  have hmw := mulW i h0
  have h3w : i.toNat * W ≤ 3 * W := Nat.mul_le_mul_right _ (by omega)
  refine aE (fun h12 => ?_) (fun h12 => ?_)
  ·simp only [bnl] at h12
   refine aU (by simp) ?_
   refine ih (.inr (.inl (d, ts', k', _, l2, n2, b0, b1, b2, b3, b4, 0, [], _, cf, [], 0))) ?_ (by simp only [ei]; omega)
   simp only [ei, qv, List.nil_append]
   refine ⟨trivial, trivial, trivial, by omega, by omega, trivial, q4, trivial, trivial, trivial, h12, trivial, by simp; omega, by simp [bO, q5], by simp only [wL]; omega⟩
  ·simp only [bnl] at h12
   have h13 : k'.kind = 13 := by rcases hkd with e | e; exact absurd e h12; exact e
   refine aF (dQ l2 n2 5 q4 (by omega) (by omega)) ?_
   rintro ⟨m2, l3, n3⟩ ⟨-, p1, p2, p3, p4⟩
   dsimp only at p1 p2 p3 p4 ⊢
   subst p3
   refine aU (by simp) ?_
   have hkv := an2 m2 ⟨p1, p2⟩
   refine aF (aif 0 [] [] [] 0 _ _ _ _ _ _ rfl (by simp)) ?_
   rintro ⟨x0, x1, x2, x3, x4⟩ ⟨-, r1, r2, r3, r4, r5, r6, r7, r8, r9⟩
   dsimp only at r1 r2 r3 r4 r5 r6 r7 r8 r9 ⊢
   subst r3; subst r4; subst r5
   refine ih (.inr (.inr (d, ts', k', _, l3, n3, b0, b1, b2, b3, b4, 0, [], x2, x3, 0))) ?_ (by simp only [ei]; omega)
   simp only [ei]
   have hrv : (aB.mk v.n v.s v.l v.keys v.branch) = v := qv v
   rw [hrv] at r6 r9
   simp only [List.length_nil, wL, fJ, List.length_append, List.length_cons] at r2 r6 r7
   refine ⟨trivial, trivial, trivial, by omega, by omega, trivial, p4, trivial, trivial, trivial, h13, r1, by omega, r9 _ _ rfl q5, by omega, r8 rfl hkv, by omega⟩
 ·rintro ⟨rfl, rfl, rfl, i1, i2, rfl, i3, rfl, rfl, rfl, h12, rfl, i4, i5, i6⟩ ih
  dsimp only at ih
  unfold eE
  dsimp only
  rw [ed]
  have finish : ∀ (n2 : Int), fp l' n2 → cR l' n ts' t d (.mk 0 [] c2 [] 0, true, l', n2) := fun n2 h2 => ⟨hL.symm, fun _ => fin c2 [] (.inl ⟨h12, rfl⟩) i5 (by omega) (by simp [fJ]), rfl, h2⟩
  refine aE (fun h => ?_) (fun h => aH ⟨.mk 0 [] c2 [] 0, _, _, _, _, rfl, rfl, finish _ i3⟩)
  have h0 := of_decide_eq_true h
  refine aF (hV l' n' k'.items i3) ?_
  rintro ⟨v, is, l2, n2⟩ ⟨-, q1, q2, q3, q4⟩
  dsimp only at q1 q2 q3 q4 ⊢
  subst q3
  refine aE (fun hn => aH ⟨.mk 0 [] c2 [] 0, _, _, _, _, rfl, rfl, finish _ q4⟩) (fun hy => ?_)
  simp only [bnl] at hy
  obtain ⟨q5, q6⟩ := q2 hy
  rw [hB] at q6
  have ei : IntKind.i64.wrap (i - 1) = i - 1 := aJ (i - 1) (by omega)
  have hmw := mulW i h0
  refine aE (fun _ => ?_) (fun hc => absurd h12 (by simp only [bnl] at hc; exact hc))
  refine vck ?_
  refine ih (.inr (.inl (d, ts', k', _, l2, n2, b0, b1, b2, b3, b4, 0, [], _, cf, [], 0))) ?_ (by simp only [ei]; omega)
  simp only [ei, qv]
  refine ⟨trivial, trivial, trivial, by omega, by omega, trivial, q4, trivial, trivial, trivial, h12, trivial, by simp; omega, by rw [aca, i5]; simp [bO, q5], by rw [abg]; simp only [wL]; omega⟩
 ·rintro ⟨rfl, rfl, rfl, i1, i2, rfl, i3, rfl, rfl, rfl, h13, i7, i4, i5, i6, i8, i9⟩ ih
  dsimp only at ih
  unfold eE
  dsimp only
  rw [ed]
  have finish : ∀ (n2 : Int), fp l' n2 → cR l' n ts' t d (.mk 0 [] c2 c3 0, true, l', n2) := fun n2 h2 => ⟨hL.symm, fun _ => fin c2 c3 (.inr ⟨h13, i7, i8⟩) i5 (by omega) (by omega), rfl, h2⟩
  refine aE (fun h => ?_) (fun h => aH ⟨.mk 0 [] c2 c3 0, _, _, _, _, rfl, rfl, finish _ i3⟩)
  have h0 := of_decide_eq_true h
  refine aF (hV l' n' k'.items i3) ?_
  rintro ⟨v, is, l2, n2⟩ ⟨-, q1, q2, q3, q4⟩
  dsimp only at q1 q2 q3 q4 ⊢
  subst q3
  refine aE (fun hn => aH ⟨.mk 0 [] c2 c3 0, _, _, _, _, rfl, rfl, finish _ q4⟩) (fun hy => ?_)
  simp only [bnl] at hy
  obtain ⟨q5, q6⟩ := q2 hy
  rw [hB] at q6
  have ei : IntKind.i64.wrap (i - 1) = i - 1 := aJ (i - 1) (by omega)
  have hmw := mulW i h0
  refine aE (fun hc => ?_) (fun _ => ?_)
  ·simp only [bnl] at hc; omega
  refine aF (dQ l2 n2 5 q4 (by omega) (by omega)) ?_
  rintro ⟨m2, l3, n3⟩ ⟨-, p1, p2, p3, p4⟩
  dsimp only at p1 p2 p3 p4 ⊢
  subst p3
  refine aU (by simp) ?_
  have hkv := an2 m2 ⟨p1, p2⟩
  refine aF (aif 0 [] c2 c3 0 _ _ _ _ _ _ i7 (by omega)) ?_
  rintro ⟨x0, x1, x2, x3, x4⟩ ⟨-, r1, r2, r3, r4, r5, r6, r7, r8, r9⟩
  dsimp only at r1 r2 r3 r4 r5 r6 r7 r8 r9 ⊢
  subst r3; subst r4; subst r5
  refine ih (.inr (.inr (d, ts', k', _, l3, n3, b0, b1, b2, b3, b4, 0, [], x2, x3, 0))) ?_ (by simp only [ei]; omega)
  simp only [ei]
  have hrv : (aB.mk v.n v.s v.l v.keys v.branch) = v := qv v
  rw [hrv] at r6 r9
  simp only [List.length_append, List.length_cons, List.length_nil] at r7
  refine ⟨trivial, trivial, trivial, by omega, by omega, trivial, p4, trivial, trivial, trivial, h13, r1, by omega, r9 _ _ i5 q5, by omega, r8 i8 hkv, by omega⟩
theorem an3 (ts : List aA) (hs : fx ts) (deep : Int) (hd : 0 ≤ deep ∧ deep ≤ 6) (hV : deep ≤ 5 → ad7 ts (deep + 1)) : ad7 ts deep := by
 intro l n t hp
 have ed : IntKind.i64.wrap (deep + 1) = deep + 1 := aJ (deep + 1) (by omega)
 apply agx 1000
 unfold ta ku
 refine aF (att ts hs t) ?_
 rintro ⟨n0, s0, lf, l0, kf, ks0, b0, is⟩ ⟨-, g1, g2⟩
 dsimp only at g1 g2 ⊢
 have hbg := apq (6 - deep.toNat)
 refine aE (fun h0 => ?_) (fun h0 => ?_)
 ·simp only [bnl] at h0
  exact aH ⟨.mk n0 s0 l0 ks0 b0, _, _, _, _, rfl, rfl, g1, fun hh => absurd hh (by simp [h0]), rfl, hp⟩
 simp only [bnl] at h0
 obtain ⟨⟨g3, g4⟩, g5⟩ := g2 h0
 have keep : asD ts t (.mk n0 s0 l0 ks0 b0) (bW (6 - deep.toNat)) := ⟨g3, by omega⟩
 have hL : vu ts t = true := by rw [← g1]; exact h0
 refine aE (fun h5 => aH ⟨.mk n0 s0 l0 ks0 b0, _, _, _, _, rfl, rfl, g1, fun _ => keep, rfl, hp⟩) (fun h5 => ?_)
 have h5 := of_decide_eq_false h5
 have hV := hV (by omega)
 refine aF (aqF l n) ?_
 rintro ⟨ov, l2, n2⟩ ⟨-, o1, o2⟩
 dsimp only at o1 o2 ⊢
 subst o1; subst o2
 refine aE (fun _ => aH ⟨.mk n0 s0 l0 ks0 b0, _, _, _, _, rfl, rfl, g1, fun _ => keep, rfl, hp⟩) (fun _ => ?_)
 obtain ⟨t1, t2, -, -⟩ := alV hL
 have hT := alU ⟨t1, t2⟩
 have hk := hs.at (i := t.toNat) (by omega)
 have hbw : bW (6 - deep.toNat) = 8 * bW (6 - (deep + 1).toNat) + 1000 := by
  have : 6 - deep.toNat = (6 - (deep + 1).toNat) + 1 := by omega
  rw [this]; rfl
 have hbg' := apq (6 - (deep + 1).toNat)
 refine vck ?_
 rw [ed]
 have num : ∀ (x n3 : Int), fp l2 n3 → ((ts.getD t.toNat (aC .atype)).kind = 2 ∨ (ts.getD t.toNat (aC .atype)).kind = 3 ∨ (ts.getD t.toNat (aC .atype)).kind = 4 ∨ (ts.getD t.toNat (aC .atype)).kind = 5 ∨ (ts.getD t.toNat (aC .atype)).kind = 6 ∨ (ts.getD t.toNat (aC .atype)).kind = 10) →
   re (ts.getD t.toNat (aC .atype)).kind (ts.getD t.toNat (aC .atype)).syms x = true → cR l2 n2 ts t deep (.mk x s0 l0 ks0 b0, true, l2, n3) := fun x n3 h1 h2 h3 => ⟨hL.symm, fun _ => ⟨at5 hk h2 g3 h3, keep.2⟩, rfl, h1⟩
 have txt : ∀ (x : List UInt8) (n3 : Int), fp l2 n3 → ((ts.getD t.toNat (aC .atype)).kind = 7 ∨ (ts.getD t.toNat (aC .atype)).kind = 8) → x.length ≤ 4 →
   wd (ts.getD t.toNat (aC .atype)).kind (ts.getD t.toNat (aC .atype)).size x = true → cR l2 n2 ts t deep (.mk n0 x l0 ks0 b0, true, l2, n3) := fun x n3 h1 h2 h4 h3 => ⟨hL.symm, fun _ => ⟨atv hk h2 g3 h3, by simp only [wV] at g4 ⊢; omega⟩, rfl, h1⟩
 refine aE (fun h2 => ?_) (fun h2 => aE (fun h3 => ?_) (fun h3 => aE (fun h4 => ?_) (fun h4 => aE (fun h5 => ?_) (fun h5 => aE (fun h6 => ?_) (fun h6 => aE (fun h8 => ?_) (fun h8 => aE (fun h7 => ?_) (fun h7 => aE (fun h10 => ?_) (fun h10 => aE (fun h14 => ?_) (fun h14 => aE (fun h9 => ?_) (fun h9 => aE (fun h12 => ?_) (fun h12 => aE (fun h13 => ?_) (fun h13 => ?_))))))))))))
 ·have h2 : (ts.getD t.toNat (aC .atype)).kind = 2 := by simp only [bnl] at h2; exact h2
  refine aF (dQ l2 n2 2 hp (by omega) (by omega)) ?_
  rintro ⟨m2, l3, n3⟩ ⟨-, p1, p2, p3, p4⟩
  dsimp only at p1 p2 p3 p4 ⊢
  subst p3
  refine aH ⟨.mk (IntKind.wrap .u64 m2) s0 l0 ks0 b0, _, _, _, _, rfl, rfl, num _ _ p4 (by omega) ?_⟩
  rw [h2, qZ _ (by omega)]
  show decide (m2 ≤ 1) = true
  simp; omega
 ·have h3 : (ts.getD t.toNat (aC .atype)).kind = 3 := by simp only [bnl] at h3; exact h3
  refine aF (dQ l2 n2 7 hp (by omega) (by omega)) ?_
  rintro ⟨m2, l3, n3⟩ ⟨-, p1, p2, p3, p4⟩
  dsimp only at p1 p2 p3 p4 ⊢
  subst p3
  refine vck (aH ⟨.mk _ s0 l0 ks0 b0, _, _, _, _, rfl, rfl, num _ _ p4 (by omega) ?_⟩)
  rw [h3]
  have : m2 = 0 ∨ m2 = 1 ∨ m2 = 2 ∨ m2 = 3 ∨ m2 = 4 ∨ m2 = 5 ∨ m2 = 6 := by omega
  rcases this with rfl | rfl | rfl | rfl | rfl | rfl | rfl <;> rfl
 ·have h4 : (ts.getD t.toNat (aC .atype)).kind = 4 := by simp only [bnl] at h4; exact h4
  refine aF (dQ l2 n2 7 hp (by omega) (by omega)) ?_
  rintro ⟨m2, l3, n3⟩ ⟨-, p1, p2, p3, p4⟩
  dsimp only at p1 p2 p3 p4 ⊢
  subst p3
  refine vck (aH ⟨.mk _ s0 l0 ks0 b0, _, _, _, _, rfl, rfl, num _ _ p4 (by omega) ?_⟩)
  rw [h4]; rfl
 ·have h5 : (ts.getD t.toNat (aC .atype)).kind = 5 := by simp only [bnl] at h5; exact h5
  refine aF (dQ l2 n2 7 hp (by omega) (by omega)) ?_
  rintro ⟨m2, l3, n3⟩ ⟨-, p1, p2, p3, p4⟩
  dsimp only at p1 p2 p3 p4 ⊢
  subst p3
  refine vck (aH ⟨.mk _ s0 l0 ks0 b0, _, _, _, _, rfl, rfl, num _ _ p4 (by omega) ?_⟩)
  rw [h5]
  have : m2 = 0 ∨ m2 = 1 ∨ m2 = 2 ∨ m2 = 3 ∨ m2 = 4 ∨ m2 = 5 ∨ m2 = 6 := by omega
  rcases this with rfl | rfl | rfl | rfl | rfl | rfl | rfl <;> rfl
 ·have h6 : (ts.getD t.toNat (aC .atype)).kind = 6 := by simp only [bnl] at h6; exact h6
  refine aF (dQ l2 n2 5 hp (by omega) (by omega)) ?_
  rintro ⟨m2, l3, n3⟩ ⟨-, p1, p2, p3, p4⟩
  dsimp only at p1 p2 p3 p4 ⊢
  subst p3
  refine vck (aH ⟨.mk _ s0 l0 ks0 b0, _, _, _, _, rfl, rfl, num _ _ p4 (by omega) ?_⟩)
  rw [h6]; rfl
 ·have h8 : (ts.getD t.toNat (aC .atype)).kind = 8 := by simp only [bnl] at h8; exact h8
  refine aF (dQ l2 n2 4 hp (by omega) (by omega)) ?_
  rintro ⟨m2, l3, n3⟩ ⟨-, p1, p2, p3, p4⟩
  dsimp only at p1 p2 p3 p4 ⊢
  subst p3
  have hm : m2 = 0 ∨ m2 = 1 ∨ m2 = 2 ∨ m2 = 3 := by omega
  refine vck (aH ⟨.mk n0 _ l0 ks0 b0, _, _, _, _, rfl, rfl, txt _ _ p4 (by omega) ?_ ?_⟩)
  ·rcases hm with rfl | rfl | rfl | rfl <;> decide
  ·rw [h8]
   rcases hm with rfl | rfl | rfl | rfl
   ·show dj [] = true; decide
   ·show dj [97] = true; decide
   ·show dj [195, 164] = true; decide
   ·show dj [116, 101, 120, 116] = true; decide
 ·have h7 : (ts.getD t.toNat (aC .atype)).kind = 7 := by simp only [bnl] at h7; exact h7
  refine aF (dQ l2 n2 4 hp (by omega) (by omega)) ?_
  rintro ⟨m2, l3, n3⟩ ⟨-, p1, p2, p3, p4⟩
  dsimp only at p1 p2 p3 p4 ⊢
  subst p3
  have hm : m2 = 0 ∨ m2 = 1 ∨ m2 = 2 ∨ m2 = 3 := by omega
  refine vck (aH ⟨.mk n0 _ l0 ks0 b0, _, _, _, _, rfl, rfl, txt _ _ p4 (by omega) ?_ ?_⟩)
  ·rcases hm with rfl | rfl | rfl | rfl <;> decide
  ·rw [h7]; rfl
 ·have h10 : (ts.getD t.toNat (aC .atype)).kind = 10 := by simp only [bnl] at h10; exact h10
  have hsy : 0 < (ts.getD t.toNat (aC .atype)).syms.length := List.length_pos_iff.2 (hk.enum h10)
  have hns := hk.ns
  refine aF (dQ l2 n2 _ hp (by omega) (by omega)) ?_
  rintro ⟨m2, l3, n3⟩ ⟨-, p1, p2, p3, p4⟩
  dsimp only at p1 p2 p3 p4 ⊢
  subst p3
  refine aH ⟨.mk (IntKind.wrap .u64 m2) s0 l0 ks0 b0, _, _, _, _, rfl, rfl, num _ _ p4 (by omega) ?_⟩
  rw [h10, qZ _ (by omega)]
  show decide (m2 < IntKind.wrap .u64 ((ts.getD t.toNat (aC .atype)).syms.length : Int)) = true
  rw [qZ _ (by omega)]
  exact decide_eq_true p2
 ·have h14 : (ts.getD t.toNat (aC .atype)).kind = 14 := by simp only [bnl] at h14; exact h14
  have hbr : 0 < (ts.getD t.toNat (aC .atype)).branches.length := List.length_pos_iff.2 (hk.done h14)
  have hnb := hk.nb
  refine aF (dQ l2 n2 _ hp (by omega) (by omega)) ?_
  rintro ⟨m2, l3, n3⟩ ⟨-, p1, p2, p3, p4⟩
  dsimp only at p1 p2 p3 p4 ⊢
  subst p3
  refine vck ?_
  refine aF (hV l3 n3 _ p4) ?_
  rintro ⟨v, is2, l4, n4⟩ ⟨-, q1, q2, q3, q4⟩
  dsimp only at q1 q2 q3 q4 ⊢
  subst q3
  refine aE (fun hy => ?_) (fun hy => aH ⟨.mk n0 s0 l0 ks0 b0, _, _, _, _, rfl, rfl, hL.symm, fun _ => keep, rfl, q4⟩)
  obtain ⟨q5, q6⟩ := q2 hy
  obtain ⟨rfl, rfl, rfl⟩ := auF h14 g3
  refine aH ⟨.mk 0 [] [reA v] [] m2, _, _, _, _, rfl, rfl, hL.symm, fun _ => ⟨?_, ?_⟩, rfl, q4⟩
  ·rw [qv]; exact aqT ts t hT h14 m2 v ⟨p1, p2⟩ q5
  ·rw [qv, hbw]; simp only [wV, wL, yo, List.length_nil]; omega
 ·have h9 : (ts.getD t.toNat (aC .atype)).kind = 9 := by simp only [bnl] at h9; exact h9
  obtain ⟨rfl, rfl, rfl, rfl⟩ := avk h9 g3
  exact at8 ts hs deep ⟨hd.1, by omega⟩ hV t hL h9 0 0 [] [] [] kf l2 n2 hp
 ·have h12 : (ts.getD t.toNat (aC .atype)).kind = 12 := by simp only [bnl] at h12; exact h12
  obtain ⟨rfl, rfl, rfl, rfl⟩ := auD h12 g3
  obtain ⟨g6, g7⟩ := g5 (by omega)
  obtain ⟨g8, -⟩ := g7 (by omega)
  subst g6; subst g8
  refine aE (fun _ => ?_) (fun hc => absurd h12 (by simp only [bnl] at hc; exact hc))
  refine aF (dQ l2 n2 4 hp (by omega) (by omega)) ?_
  rintro ⟨m2, l3, n3⟩ ⟨-, p1, p2, p3, p4⟩
  dsimp only at p1 p2 p3 p4 ⊢
  subst p3
  exact alW ts hs deep ⟨hd.1, by omega⟩ hV t hL (.inl h12) 0 0 [] [] [] kf l3 n3 m2 ⟨p1, by omega⟩ p4
 ·have h13 : (ts.getD t.toNat (aC .atype)).kind = 13 := by simp only [bnl] at h13; exact h13
  obtain ⟨rfl, rfl, rfl⟩ := auE h13 g3
  obtain ⟨g6, g7⟩ := g5 (by omega)
  obtain ⟨g8, g9⟩ := g7 (by omega)
  subst g6; subst g8; subst g9
  refine aF (dQ l2 n2 4 hp (by omega) (by omega)) ?_
  rintro ⟨m2, l3, n3⟩ ⟨-, p1, p2, p3, p4⟩
  dsimp only at p1 p2 p3 p4 ⊢
  subst p3
  exact alW ts hs deep ⟨hd.1, by omega⟩ hV t hL (.inr h13) 0 0 [] [] [] kf l3 n3 m2 ⟨p1, by omega⟩ p4
 ·exact aH ⟨.mk n0 s0 l0 ks0 b0, _, _, _, _, rfl, rfl, hL.symm, fun _ => keep, rfl, hp⟩
theorem aqV (ts : List aA) (hs : fx ts) : ∀ (n : Nat) (deep : Int), deep + n = 6 → 0 ≤ deep → ad7 ts deep
 | 0, deep, h, h1 => an3 ts hs deep (by omega) (fun h' => by omega)
 | n + 1, deep, h, h1 => an3 ts hs deep (by omega) (fun _ => aqV ts hs n (deep + 1) (by omega) (by omega))
theorem at9 (ts : List aA) (hs : fx ts) (l : List UInt8) (n t : Int) (hp : fp l n) : ∃ r, cM l n ts t 0 r := aqV ts hs 6 0 (by omega) (by omega) l n t hp
end Go.Proofs.Ytdpajabhmmmjoaa
end
noncomputable section
namespace Go.Proofs.Ytdpajabhmmmjoaa
open Go.AM
set_option autoImplicit false
set_option linter.unusedVariables false
def anu (ts : List aA) (t : Int) (v : aB) (r : Bool) : Prop := r = bu ts t v
def anv (v w : aB) (r : Bool) : Prop := r = yv v w
def anw (v : aB) (r : Int × Int) : Prop := r = na v
def vv (r : Bool) : Prop := r = true
def iC (v : aB) (how n : Int) (r : aB) : Prop := wV r ≤ wV v + 100
def pK (picks p : List UInt8) (how n : Int) (r : Bool) : Prop := r = true
end Go.Proofs.Ytdpajabhmmmjoaa
end
noncomputable section
namespace Go.Proofs.Ytdpajabhmmmjoaa
open Go.AM
set_option autoImplicit false
set_option linter.unusedVariables false
set_option maxRecDepth 100000
abbrev tb : FuncId := 5
abbrev ad8 : FuncId := 27
abbrev ah8 := Bool
noncomputable def zj (a b : Bs) (c d : Int) (r : ah8) : Prop := aI Try.prog tb [.sl .u8 (.may false) a, .sl .u8 (.may false) b, .int .u8 c, .int .u64 d] (.bool r) ∧ pK a b c d r
abbrev apj := Bool
noncomputable def qW  (r : apj) : Prop := aI Try.prog afe [] (.bool r) ∧ vv  r
noncomputable def apk : dm Try.prog := ⟨19, fun us => match us with
 | [] => let r := pick qW; some (can qW, .bool r)
 | _ => none, by
 intro _ _ h; split at h; exact bV h (fun h => h.1.dim rfl) rfl rfl; cases h⟩
abbrev arC := Bool
noncomputable def oj (a : List aA) (b : Int) (c : aB) (r : arC) : Prop := aI Try.prog nM [.agg [.sl .atype (.may false) a], .int .i64 b, .agg (enc .aval c)] (.bool r) ∧ anu a b c r
noncomputable def ajl : dm Try.prog := ⟨21, fun us => match us with
 | [.agg [.sl .atype (.may _) a], .int .i64 g, .agg [.int .u64 b, .str c, .sl .aval (.may _) d, .sl .str (.may _) e, .int .i64 f]] => let r := pick (oj a g (⟨b, c, d, e, f⟩)); some (can (oj a g (⟨b, c, d, e, f⟩)), .bool r)
 | _ => none, by
 intro _ _ h; split at h; exact bV h (fun h => h.1.dim rfl) rfl rfl; cases h⟩
abbrev arD := Int × Int
noncomputable def yE (a : aB) (r : arD) : Prop := aI Try.prog tZ [.agg (enc .aval a)] (.tup [.int .i64 r.1, .int .i64 r.2]) ∧ anw a r
noncomputable def arE : dm Try.prog := ⟨22, fun us => match us with
 | [.agg [.int .u64 a, .str b, .sl .aval (.may _) c, .sl .str (.may _) d, .int .i64 e]] => let r := pick (yE (⟨a, b, c, d, e⟩)); some (can (yE (⟨a, b, c, d, e⟩)), .tup [.int .i64 r.1, .int .i64 r.2])
 | _ => none, by
 intro _ _ h; split at h; exact bV h (fun h => h.1.dim rfl) rfl rfl; cases h⟩
abbrev arF := Bool
noncomputable def uB (a b : aB) (r : arF) : Prop := aI Try.prog q8 [.agg (enc .aval a), .agg (enc .aval b)] (.bool r) ∧ anv a b r
noncomputable def arG : dm Try.prog := ⟨24, fun us => match us with
 | [.agg [.int .u64 a, .str b, .sl .aval (.may _) c, .sl .str (.may _) d, .int .i64 e], .agg [.int .u64 f, .str g, .sl .aval (.may _) i, .sl .str (.may _) j, .int .i64 k]] => let r := pick (uB (⟨a, b, c, d, e⟩) (⟨f, g, i, j, k⟩)); some (can (uB (⟨a, b, c, d, e⟩) (⟨f, g, i, j, k⟩)), .bool r)
 | _ => none, by
 intro _ _ h; split at h; exact bV h (fun h => h.1.dim rfl) rfl rfl; cases h⟩
abbrev anx := aB
noncomputable def jJ (a : aB) (b c : Int) (r : anx) : Prop := aI Try.prog ad8 [.agg (enc .aval a), .int .u8 b, .int .u64 c] (.agg (enc .aval r)) ∧ iC a b c r
noncomputable def ad9 : dm Try.prog := ⟨27, fun us => match us with
 | [.agg [.int .u64 a, .str b, .sl .aval (.may _) c, .sl .str (.may _) d, .int .i64 e], .int .u8 f, .int .u64 g] => let r := pick (jJ (⟨a, b, c, d, e⟩) f g); some (can (jJ (⟨a, b, c, d, e⟩) f g), .agg (enc .aval r))
 | _ => none, by
 intro _ _ h; split at h; exact bV h (fun h => h.1.dim rfl) rfl rfl; cases h⟩
end Go.Proofs.Ytdpajabhmmmjoaa
end
