import Derived.KernelRfl
import Derived.Test.YtdpajabhmmmjoaaZ02
import Derived.Test.YtdpajabhmmmjoaaZ03
import Derived.Test.YtdpajabhmmmjoaaZ04
import Derived.Test.YtdpajabhmmmjoaaZ07
section
namespace Go.Proofs.Ytdpajabhmmmjoaa
open Go.AM
set_option autoImplicit false
set_option linter.unusedVariables false
set_option linter.unusedSimpArgs false
set_option maxRecDepth 100000
theorem aul : ∀ (a b : List UInt8), (Op.bytesLess a b || decide (a = b)) = !Op.bytesLess b a
 | [], [] => by simp [Op.bytesLess]
 | [], b :: y => by simp [Op.bytesLess]
 | a :: x, [] => by simp [Op.bytesLess]
 | a :: x, b :: y => by
   have ih := aul x y
   simp only [Op.bytesLess]
   by_cases h1 : a < b
   ·have h2 : ¬ b < a := fun h => absurd (UInt8.lt_trans h1 h) (UInt8.lt_irrefl a)
    have h3 : ¬ b = a := fun h => by subst h; exact UInt8.lt_irrefl _ h1
    simp [h1, h2, h3]
   ·by_cases h2 : b < a
    ·have h3 : ¬ a = b := fun h => by subst h; exact UInt8.lt_irrefl _ h2
     simp [h1, h2, h3]
    ·have h3 : a = b := by
      have := UInt8.le_antisymm (UInt8.not_lt.1 h2) (UInt8.not_lt.1 h1)
      exact this
     subst h3
     simp only [h1, decide_false, Bool.false_or, beq_self_eq_true, Bool.true_and, List.cons.injEq, true_and]
     exact ih
theorem rv {P : Program} {f : FuncId} {vs : List V} {R : Type} {ret : R → V} {r0 : R} (h : (∀ x ∈ vs, x.fits) → ∃ r, aj P f vs (ret r) ∧ r = r0) : ∃ r, aj P f vs (ret r) ∧ r = r0 :=
 ⟨r0, aj.fits fun hf => by obtain ⟨r, h1, rfl⟩ := h hf; exact h1, rfl⟩
theorem ax3 (s : List UInt8) : ∃ r, kV s r := by
 refine rv (ret := fun r => .bool r) fun hf => ?_
 have hs : s.length ≤ 9223372036854775807 := hf (.str s) (by simp)
 have hp : ∀ t : List UInt8, ∃ r, kW t r := fun t => by
  refine rv (ret := fun (r : Int × Int) => .tup [.int .u32 r.1, .int .i64 r.2]) fun hf => ?_
  have ht : t.length ≤ 9223372036854775807 := hf (.str t) (by simp)
  exact age 100 t ⟨_, zq 95 t ht, _, _, _, rfl, rfl, rfl⟩
 refine axy (s.length + 1) s ?_
 unfold xF pb
 refine bi (fun x => x.length ≤ s.length ∧ el x = el s) (fun x => x.length) ?_ _ _ ⟨Nat.le_refl _, rfl⟩ (by omega)
 rintro again t ⟨h1, h2⟩ ih
 unfold ru
 dsimp only
 cases t with
 | nil =>
   simp only [List.length_nil]
   exact ah (fun h => by simp at h) (fun _ => ak ⟨_, _, rfl, rfl, h2⟩)
 | cons c t =>
   refine ah (fun _ => ?_) (fun h => by simp only [List.length_cons, decide_eq_false_iff_not] at h; omega)
   refine ag (hp _) ?_
   rintro ⟨c', n'⟩ ⟨-, hp'⟩
   have hle := axX (c :: t)
   have hv := anH c t
   have hp' : (c', n') = dq (c :: t) := hp'
   rw [← hp'] at hle
   have hn : n' = ((eh (c :: t)).2 : Int) := congrArg Prod.snd hp'
   simp only [List.length_cons] at hle h1
   dsimp only at hle ⊢
   repeat' (first | (with_reducible refine ah ?_ ?_ <;> (intro hb; (try simp only [bnl] at hb); (try revert hb; intro _))) | with_reducible refine aq ?_ ?_ | with_reducible refine ak ?_ | fail)
   ·rename_i h
    rw [if_pos (by omega)] at hv
    exact ⟨_, _, rfl, rfl, by rw [uD, ← h2, hv]⟩
   ·simp only [bnl, List.length_cons]; exact hle
   ·rename_i h
    rw [if_neg (by omega)] at hv
    refine ih _ ⟨?_, ?_⟩ ?_
    ·simp only [List.length_drop, List.length_take, List.length_cons]; omega
    ·rw [List.take_length, hn, Int.toNat_natCast, ← hv, h2]
    ·simp only [List.length_drop, List.length_take, List.length_cons]; omega
def mH (ts : List ac) (kind items : Int) (fields : List ao) (l : List ab) (i : Nat) : Bool :=
 cond (kind == 9) (ua ts (fields.drop i) (l.drop i)) (dI ts items (l.drop i))
theorem aEc {α : Type} {l : List α} {i : Nat} {x d : α} (h : l[i]? = some x) : l.getD i d = x := by
 rw [List.getD_eq_getElem?_getD, h]; rfl
def ahJ (ts : List ac) (n : Nat) : Prop := ∀ (t m : Int) (s : List UInt8) (l : List ab) (ks : List (List UInt8)) (b : Int), szL l + 1 ≤ n → ∃ r, dw ts t m s l ks b r
theorem ai6 (ts : List ac) (n : Nat) (hF : ahJ ts n) (N : Nat) (k0 k3 : Int) (k8 : List ao) (l : List ab) (hl : l.length ≤ 9223372036854775807) (hN : l.length < N) (hs : szL l ≤ n) (hr : k0 = 9 → l.length = k8.length) (Q : V × List an → Prop) (hQ : Q (.bool (mH ts k0 k3 k8 l 0), []))
  (B : ((List ac × Int × List UInt8 × List (List UInt8) × Int × List (List UInt8) × Bool × List UInt8 × Int × List ao × List Int × Int × List UInt8 × List ab × List (List UInt8) × Int × Int) → Option (V × List an)) → (List ac × Int × List UInt8 × List (List UInt8) × Int × List (List UInt8) × Bool × List UInt8 × Int × List ao × List Int × Int × List UInt8 × List ab × List (List UInt8) × Int × Int) → Option (V × List an))
  (hB : B = jN N ∨ B = lZ N)
  (k1 : List UInt8) (k2 : List (List UInt8)) (k4 : List (List UInt8)) (k5 : Bool) (k6 : List UInt8) (k7 : Int) (k9 : List Int) (m : Int) (s : List UInt8) (ks : List (List UInt8)) (b : Int) :
  Tot (aB N B (ts, k0, k1, k2, k3, k4, k5, k6, k7, k8, k9, m, s, l, ks, b, 0)) Q := by
 refine bi (fun x => match x with | (ts', v0, v1, v2, v3, v4, v5, v6, v7, v8, v9, m', s', l', ks', b', i) => ts' = ts ∧ v0 = k0 ∧ v3 = k3 ∧ v8 = k8 ∧ l' = l ∧ 0 ≤ i ∧ i ≤ (l.length : Int) ∧ mH ts k0 k3 k8 l i.toNat = mH ts k0 k3 k8 l 0)
  (fun x => ((l.length : Int) - x.2.2.2.2.2.2.2.2.2.2.2.2.2.2.2.2).toNat) ?_ _ _ ⟨rfl, rfl, rfl, rfl, rfl, by simp, by simp, rfl⟩ (by simp; omega)
 rintro again ⟨ts', v0, v1, v2, v3, v4, v5, v6, v7, v8, v9, m', s', l', ks', b', i⟩ ⟨rfl, rfl, rfl, rfl, rfl, i1, i2, i3⟩ ih
 dsimp only at ih
 have eqB : B again (ts', v0, v1, v2, v3, v4, v5, v6, v7, v8, v9, m', s', l', ks', b', i) = jN N again (ts', v0, v1, v2, v3, v4, v5, v6, v7, v8, v9, m', s', l', ks', b', i) := by
  rcases hB with rfl | rfl <;> rfl
 rw [eqB]
 unfold jN
 dsimp only
 refine ah (fun h => ?_) (fun h => ?_)
 ·have h := of_decide_eq_true h
  have hil : i.toNat < l'.length := by omega
  have hsz := tu l' i.toNat hil
  have hsz2 := qa (l'.getD i.toNat (af .aval))
  have ew : IntKind.i64.wrap (i + 1) = i + 1 := ap (i + 1) (by omega)
  have et : (i + 1).toNat = i.toNat + 1 := by omega
  have next : mH ts' v0 v3 v8 l' (i.toNat + 1) = mH ts' v0 v3 v8 l' 0 → Tot (again (ts', v0, v1, v2, v3, v4, v5, v6, v7, v8, v9, m', s', l', ks', b', IntKind.i64.wrap (i + 1))) _ := fun hh => ih (ts', v0, v1, v2, v3, v4, v5, v6, v7, v8, v9, m', s', l', ks', b', IntKind.i64.wrap (i + 1))
   (by simp only [ew, et]; exact ⟨trivial, trivial, trivial, trivial, trivial, by omega, by omega, hh⟩) (by simp only [ew]; omega)
  have hd := dG l' i.toNat (af .aval) hil
  refine ah (fun h9 => ?_) (fun h9 => ?_)
  ·have h9' : v0 = 9 := by simpa using h9
   have hlen := hr h9'
   refine aq (by first | (simp only [bnl, lnl]; done) | (simp only [bnl, lnl]; omega)) (aq (by first | (simp only [bnl, lnl]; done) | (simp only [bnl, lnl]; omega)) ?_)
   refine ag (hF _ _ _ _ _ _ (by omega)) ?_
   rintro _ ⟨-, rfl⟩
   have hfd := dG v8 i.toNat (af .afield) (by omega)
   have step : mH ts' v0 v3 v8 l' i.toNat = (cn ts' (v8.getD i.toNat (af .afield)).typ (l'.getD i.toNat (af .aval)) && mH ts' v0 v3 v8 l' (i.toNat + 1)) := by
    simp only [mH, h9, cond_true]
    rw [hd, hfd]
    simp only [ua, List.headD_cons, List.tail_cons]
   rw [ab.eta]
   refine ah (fun hb => ak ?_) (fun hb => ?_)
   ·have hb' : cn ts' (v8.getD i.toNat (af .afield)).typ (l'.getD i.toNat (af .aval)) = false := by simpa using hb
    rw [step, hb', Bool.false_and] at i3
    rw [← i3] at hQ; exact hQ
   ·have hb' : cn ts' (v8.getD i.toNat (af .afield)).typ (l'.getD i.toNat (af .aval)) = true := by simpa using hb
    rw [step, hb', Bool.true_and] at i3
    exact next i3
  ·refine aq (by first | (simp only [bnl, lnl]; done) | (simp only [bnl, lnl]; omega)) ?_
   refine ag (hF _ _ _ _ _ _ (by omega)) ?_
   rintro _ ⟨-, rfl⟩
   have step : mH ts' v0 v3 v8 l' i.toNat = (cn ts' v3 (l'.getD i.toNat (af .aval)) && mH ts' v0 v3 v8 l' (i.toNat + 1)) := by
    simp only [mH, h9, cond_false]
    rw [hd]
    simp only [dI]
   rw [ab.eta]
   refine ah (fun hb => ak ?_) (fun hb => ?_)
   ·have hb' : cn ts' v3 (l'.getD i.toNat (af .aval)) = false := by simpa using hb
    rw [step, hb', Bool.false_and] at i3
    rw [← i3] at hQ; exact hQ
   ·have hb' : cn ts' v3 (l'.getD i.toNat (af .aval)) = true := by simpa using hb
    rw [step, hb', Bool.true_and] at i3
    exact next i3
 ·have h := of_decide_eq_false h
  have : i.toNat = l'.length := by omega
  rw [this] at i3
  have e : mH ts' v0 v3 v8 l' l'.length = true := by
   simp only [mH, List.drop_length]
   cases v0 == 9 <;> simp [ua, dI]
  rw [e] at i3
  refine ak ?_
  rw [← i3] at hQ; exact hQ
theorem aDx (ts : List ac) (n : Nat) (hF : ahJ ts n) (k0 : Int) (k1 : List UInt8) (k2 : List (List UInt8)) (k3 : Int) (k4 : List (List UInt8)) (k5 : Bool) (k6 : List UInt8) (k7 : Int) (k8 : List ao) (k9 : List Int) (m : Int) (s : List UInt8) (l : List ab) (ks : List (List UInt8)) (b : Int) (hs : szL l ≤ n) :
  ∃ r, lC ts k0 k1 k2 k3 k4 k5 k6 k7 k8 k9 m s l ks b r := by
 refine rv (ret := fun r => .bool r) fun hf => ?_
 have hl : l.length ≤ 9223372036854775807 := hf (.agg [.int .u64 m, .str s, .sl .aval (.may false) l, .sl .str (.may false) ks, .int .i64 b]) (by simp) (.sl .aval (.may false) l) (by simp)
 have hk : ks.length ≤ 9223372036854775807 := hf (.agg [.int .u64 m, .str s, .sl .aval (.may false) l, .sl .str (.may false) ks, .int .i64 b]) (by simp) (.sl .str (.may false) ks) (by simp)
 refine atR (l.length + ks.length + 2) _ _ _ _ _ _ _ _ _ _ _ _ _ _ _ _ ?_
 generalize hN : l.length + ks.length + 2 = N
 unfold vO nI
 dsimp only
 refine ah (fun h9 => ah (fun hb => ak ⟨_, _, rfl, rfl, ?_⟩) (fun hb => ?_)) (fun h9 => ah (fun h13 => ah (fun hb => ak ⟨_, _, rfl, rfl, ?_⟩) (fun hb => ?_)) (fun h13 => ah (fun h14 => ?_) (fun h14 => ?_)))
 ·have : ¬ l.length = k8.length := by simp at hb; omega
  simp only [cG, y9, h9, cond_true, this, decide_false, Bool.false_and]
 ·have : l.length = k8.length := by simp at hb; omega
  refine ai6 ts n hF N k0 k3 k8 l hl (by omega) hs (fun _ => this) _ ⟨_, _, rfl, rfl, ?_⟩ _ (.inl rfl) _ _ _ _ _ _ _ _ _ _ _
  simp only [cG, y9, mH, h9, cond_true, this, decide_true, Bool.true_and, List.drop_zero]
 ·have : ¬ (ks.length : Int) = l.length := by simp at hb; omega
  simp only [cG, y9, h9, h13, cond_true, cond_false, beq_eq_false_iff_ne.2 this, Bool.false_and]
 ·have hlk : (l.length : Int) = ks.length := by simpa using hb
  have goalE : ∀ r : Bool, r = (qO ks && dI ts k3 l) → cG ts k0 k1 k2 k3 k4 k5 k6 k7 k8 k9 m s l ks b r := by
   intro r hr
   simp only [cG, y9, h9, h13, cond_true, cond_false, hlk.symm, beq_self_eq_true, Bool.true_and]
   exact hr
  refine bi (fun x => match x with | (ts', v0, v1, v2, v3, v4, v5, v6, v7, v8, v9, m', s', l', ks', b', i) => ts' = ts ∧ v0 = k0 ∧ v3 = k3 ∧ v8 = k8 ∧ l' = l ∧ ks' = ks ∧ 0 ≤ i ∧ i ≤ (ks.length : Int) ∧ mf ks i.toNat = qO ks)
   (fun x => ((ks.length : Int) - x.2.2.2.2.2.2.2.2.2.2.2.2.2.2.2.2).toNat) ?_ _ _ ⟨rfl, rfl, rfl, rfl, rfl, rfl, by simp, by simp, rfl⟩ (by simp; omega)
  rintro again ⟨ts', v0, v1, v2, v3, v4, v5, v6, v7, v8, v9, m', s', l', ks', b', i⟩ ⟨rfl, rfl, rfl, rfl, rfl, rfl, i1, i2, i3⟩ ih
  dsimp only at ih
  unfold pT oA
  dsimp only
  refine ah (fun h => ?_) (fun h => ?_)
  ·have h := of_decide_eq_true h
   have ew : IntKind.i64.wrap (i + 1) = i + 1 := ap (i + 1) (by omega)
   have et : (i + 1).toNat = i.toNat + 1 := by omega
   have hst := ajh ks' i.toNat (by omega)
   rw [i3] at hst
   have next : mf ks' (i.toNat + 1) = qO ks' → Tot (again (ts', v0, v1, v2, v3, v4, v5, v6, v7, v8, v9, m', s', l', ks', b', IntKind.i64.wrap (i + 1))) _ := fun hh => ih (ts', v0, v1, v2, v3, v4, v5, v6, v7, v8, v9, m', s', l', ks', b', IntKind.i64.wrap (i + 1))
    (by simp only [ew, et]; exact ⟨trivial, trivial, trivial, trivial, trivial, trivial, by omega, by omega, hh⟩) (by simp only [ew]; omega)
   refine aq (by first | (simp only [bnl, lnl]; done) | (simp only [bnl, lnl]; omega)) ?_
   refine ag (ax3 _) ?_
   rintro _ ⟨-, rfl⟩
   change Tot (cond (!el (ks'.getD i.toNat [])) _ _) _
   refine ah (fun hv => ak ⟨_, _, rfl, rfl, goalE _ ?_⟩) (fun hv => ?_)
   ·have hv : el (ks'.getD i.toNat []) = false := by simpa using hv
    rw [hst, hv]; rfl
   ·have hv : el (ks'.getD i.toNat []) = true := by simpa using hv
    rw [hv, Bool.true_and] at hst
    refine ah (fun hp => ?_) (fun hp => ?_)
    ·have hp := of_decide_eq_true hp
     have em : IntKind.i64.wrap (i - 1) = i - 1 := ap (i - 1) (by omega)
     have e1 : (i - 1).toNat = i.toNat - 1 := by omega
     have hz : decide (i.toNat = 0) = false := decide_eq_false (by omega)
     rw [hz, Bool.false_or] at hst
     rw [em, e1]
     refine aq (by first | (simp only [bnl, lnl]; done) | (simp only [bnl, lnl]; omega)) (aq (by first | (simp only [bnl, lnl]; done) | (simp only [bnl, lnl]; omega)) ?_)
     change Tot (cond (Op.bytesLess (ks'.getD i.toNat []) (ks'.getD (i.toNat - 1) []) || decide (ks'.getD i.toNat [] = ks'.getD (i.toNat - 1) [])) _ _) _
     rw [aul]
     refine ah (fun hv => ak ⟨_, _, rfl, rfl, goalE _ ?_⟩) (fun hv => ?_)
     ·have hv : Op.bytesLess (ks'.getD (i.toNat - 1) []) (ks'.getD i.toNat []) = false := by simpa using hv
      rw [hst, hv]; rfl
     ·have hv : Op.bytesLess (ks'.getD (i.toNat - 1) []) (ks'.getD i.toNat []) = true := by simpa using hv
      rw [hv, Bool.true_and] at hst
      exact next hst.symm
    ·have hp := of_decide_eq_false hp
     have hz : decide (i.toNat = 0) = true := decide_eq_true (by omega)
     rw [hz, Bool.true_or, Bool.true_and] at hst
     exact next hst.symm
  ·have h := of_decide_eq_false h
   have hi : i.toNat = ks'.length := by omega
   rw [hi, ak9] at i3
   refine ai6 ts' n hF N v0 v3 v8 l' hl (by omega) hs (fun h => by simp [h] at h9) _ ⟨_, _, rfl, rfl, goalE _ ?_⟩ _ (.inr rfl) _ _ _ _ _ _ _ _ _ _ _
   rw [← i3, Bool.true_and]
   simp only [mH, h9, cond_false, List.drop_zero]
 ·
  have goalE : ∀ r : Bool, r = (decide (0 ≤ b) && (decide (b < (k9.length : Int)) && (((l.length : Int) == 1) && dI ts (k9.getD b.toNat 0) l))) → cG ts k0 k1 k2 k3 k4 k5 k6 k7 k8 k9 m s l ks b r := by
   intro r hr
   simp only [cG, y9, h9, h13, h14, cond_true, cond_false]
   exact hr
  refine ah (fun hb => ah (fun hb2 => ah (fun hb3 => ?_) (fun hb3 => ak ⟨_, _, rfl, rfl, goalE _ ?_⟩)) (fun hb2 => ak ⟨_, _, rfl, rfl, goalE _ ?_⟩)) (fun hb => ak ⟨_, _, rfl, rfl, goalE _ ?_⟩)
  ·have hb1 := of_decide_eq_true hb
   have hb2' := of_decide_eq_true hb2
   have hb3' : (l.length : Int) = 1 := by simpa using hb3
   obtain ⟨v, rfl⟩ : ∃ v, l = [v] := by
    match l, hb3' with
    | [v], _ => exact ⟨v, rfl⟩
   have hsz := qa v
   simp only [szL] at hs
   refine aq (by first | (simp only [bnl, lnl]; done) | (simp only [bnl, lnl]; omega)) (aq (by simp) ?_)
   refine ag (hF _ _ _ _ _ _ (by simp only [Int.toNat_zero, List.getD_cons_zero]; omega)) ?_
   rintro _ ⟨-, rfl⟩
   refine ak ⟨_, _, rfl, rfl, goalE _ ?_⟩
   simp only [hb, hb2, hb3, Bool.true_and, Int.toNat_zero, List.getD_cons_zero, ab.eta, dI, Bool.and_true]
   rfl
  ·rw [hb3]; simp
  ·rw [hb2]; simp
  ·rw [hb]; simp
 ·refine ai6 ts n hF N k0 k3 k8 l hl (by omega) hs (fun h => by simp [h] at h9) _ ⟨_, _, rfl, rfl, ?_⟩ _ (.inl rfl) _ _ _ _ _ _ _ _ _ _ _
  simp only [cG, y9, mH, h9, h13, h14, cond_false, List.drop_zero]
def tj (kind n : Int) (s : List UInt8) (l : List ab) (ks : List (List UInt8)) (b : Int) (num txt prt ok : Bool) : Bool :=
 cond (!(kind == 13) && decide ((0 : Int) < (ks.length : Int))) false (cond (!(kind == 14) && !(b == 0)) false (ok && ((num || (n == 0)) && ((txt || decide (s = [])) && (prt || ((l.length : Int) == 0))))))
theorem axz (ks : List (List UInt8)) : (((ks.length : Int)) == 0) = !decide ((0 : Int) < (ks.length : Int)) := by
 cases ks with
 | nil => rfl
 | cons a l => simp; omega
theorem lt0 : decide ((0 : Int) < 0) = false := rfl
theorem tl (kind m : Int) (s : List UInt8) (l : List ab) (ks : List (List UInt8)) (b : Int) (ok : Bool) (h1 : kind ≠ 13) (h2 : kind ≠ 14) : tj kind m s l ks b true false false ok = (ok && cz 0 s l ks b) := by
 simp only [tj, cz, beq_eq_false_iff_ne.2 h1, beq_eq_false_iff_ne.2 h2, axz ks, Bool.not_false, Bool.not_true, Bool.true_and, Bool.false_and, Bool.true_or, Bool.false_or, beq_self_eq_true, decide_true, List.length_nil, Int.ofNat_zero, Int.natCast_zero, Bool.and_true, cond_false, lt0]
 generalize decide ((0 : Int) < (ks.length : Int)) = p
 generalize (b == 0) = q
 generalize (m == 0) = r
 generalize decide (s = []) = t
 generalize ((l.length : Int) == 0) = u
 cases ok <;> cases p <;> cases q <;> cases r <;> cases t <;> cases u <;> rfl
theorem aqO (kind m : Int) (s : List UInt8) (l : List ab) (ks : List (List UInt8)) (b : Int) (ok : Bool) (h1 : kind ≠ 13) (h2 : kind ≠ 14) : tj kind m s l ks b false true false ok = (ok && cz m [] l ks b) := by
 simp only [tj, cz, beq_eq_false_iff_ne.2 h1, beq_eq_false_iff_ne.2 h2, axz ks, Bool.not_false, Bool.not_true, Bool.true_and, Bool.false_and, Bool.true_or, Bool.false_or, beq_self_eq_true, decide_true, List.length_nil, Int.ofNat_zero, Int.natCast_zero, Bool.and_true, cond_false, lt0]
 generalize decide ((0 : Int) < (ks.length : Int)) = p
 generalize (b == 0) = q
 generalize (m == 0) = r
 generalize decide (s = []) = t
 generalize ((l.length : Int) == 0) = u
 cases ok <;> cases p <;> cases q <;> cases r <;> cases t <;> cases u <;> rfl
theorem aDy (m : Int) (s : List UInt8) (l : List ab) (ks : List (List UInt8)) (b : Int) : tj 1 m s l ks b false false false true = (cz m s l ks b) := by
 simp only [tj, cz, Int.reduceBEq, axz ks, Bool.not_false, Bool.not_true, Bool.true_and, Bool.false_and, Bool.true_or, Bool.false_or, beq_self_eq_true, decide_true, List.length_nil, Int.ofNat_zero, Int.natCast_zero, Bool.and_true, cond_false, lt0]
 generalize decide ((0 : Int) < (ks.length : Int)) = p
 generalize (b == 0) = q
 generalize (m == 0) = r
 generalize decide (s = []) = t
 generalize ((l.length : Int) == 0) = u
 cases p <;> cases q <;> cases r <;> cases t <;> cases u <;> rfl
theorem aBa (kind m : Int) (s : List UInt8) (l : List ab) (ks : List (List UInt8)) (b : Int) (ok : Bool) (h1 : kind ≠ 13) (h2 : kind ≠ 14) : tj kind m s l ks b false false true ok = (ok && cz m s [] ks b) := by
 simp only [tj, cz, beq_eq_false_iff_ne.2 h1, beq_eq_false_iff_ne.2 h2, axz ks, Bool.not_false, Bool.not_true, Bool.true_and, Bool.false_and, Bool.true_or, Bool.false_or, beq_self_eq_true, decide_true, List.length_nil, Int.ofNat_zero, Int.natCast_zero, Bool.and_true, cond_false, lt0]
 generalize decide ((0 : Int) < (ks.length : Int)) = p
 generalize (b == 0) = q
 generalize (m == 0) = r
 generalize decide (s = []) = t
 generalize ((l.length : Int) == 0) = u
 cases ok <;> cases p <;> cases q <;> cases r <;> cases t <;> cases u <;> rfl
theorem aEd (m : Int) (s : List UInt8) (l : List ab) (ks : List (List UInt8)) (b : Int) (ok : Bool) : tj 13 m s l ks b false false true ok = (ok && cz m s [] [] b) := by
 simp only [tj, cz, Int.reduceBEq, axz ks, Bool.not_false, Bool.not_true, Bool.true_and, Bool.false_and, Bool.true_or, Bool.false_or, beq_self_eq_true, decide_true, List.length_nil, Int.ofNat_zero, Int.natCast_zero, Bool.and_true, cond_false, lt0]
 generalize decide ((0 : Int) < (ks.length : Int)) = p
 generalize (b == 0) = q
 generalize (m == 0) = r
 generalize decide (s = []) = t
 generalize ((l.length : Int) == 0) = u
 cases ok <;> cases p <;> cases q <;> cases r <;> cases t <;> cases u <;> rfl
theorem aEe (m : Int) (s : List UInt8) (l : List ab) (ks : List (List UInt8)) (b : Int) (ok : Bool) : tj 14 m s l ks b false false true ok = (ok && cz m s [] ks 0) := by
 simp only [tj, cz, Int.reduceBEq, axz ks, Bool.not_false, Bool.not_true, Bool.true_and, Bool.false_and, Bool.true_or, Bool.false_or, beq_self_eq_true, decide_true, List.length_nil, Int.ofNat_zero, Int.natCast_zero, Bool.and_true, cond_false, lt0]
 generalize decide ((0 : Int) < (ks.length : Int)) = p
 generalize (b == 0) = q
 generalize (m == 0) = r
 generalize decide (s = []) = t
 generalize ((l.length : Int) == 0) = u
 cases ok <;> cases p <;> cases q <;> cases r <;> cases t <;> cases u <;> rfl
theorem aEG (m : Int) (h : 0 ≤ m ∧ m ≤ 18446744073709551615) : (m == IntKind.wrap .u64 (IntKind.wrap .i64 (IntKind.wrap .i32 (IntKind.wrap .u32 m)))) = (decide ((-2147483648) ≤ IntKind.wrap .i64 m) && decide (IntKind.wrap .i64 m < 2147483648)) := by
 rw [Bool.eq_iff_iff]
 simp only [beq_iff_eq, Bool.and_eq_true, decide_eq_true_eq]
 rw [az0, aol, aol, az2, az1]
 omega
theorem aDz (m : Int) (h : 0 ≤ m ∧ m ≤ 18446744073709551615) : (dV .u64 m 32 == 0) = decide (m < 4294967296) := by
 rw [Bool.eq_iff_iff]
 simp only [beq_iff_eq, decide_eq_true_eq, dV, IntKind.bits]
 rw [show (2 : Int) ^ (min (Int.toNat 32) 64) = 4294967296 by decide, Int.fdiv_eq_ediv_of_nonneg _ (by decide)]
 omega
theorem aDA (ts : List ac) (hts : wh ts) (n : Nat) (hF : ahJ ts n) : ahJ ts (n + 1) := by
 intro t m s l ks b hs
 refine rv (ret := fun r => .bool r) fun hf => ?_
 have hm := az6 (hf (.agg [.int .u64 m, .str s, .sl .aval (.may false) l, .sl .str (.may false) ks, .int .i64 b]) (by simp)) m (by simp)
 refine axo 1 _ _ _ _ _ _ _ ?_
 unfold xz oY
 dsimp only
 have last : ∀ (num txt prt ok : Bool), Tot (nG 1 (m, s, l, ks, b, num, txt, prt, ok)) (fun z => z = (.bool (ok && ((num || (m == 0)) && ((txt || decide (s = [])) && (prt || ((l.length : Int) == 0))))), [])) := by
  intro num txt prt ok
  unfold nG
  dsimp only
  repeat' (first | (with_reducible refine ah ?_ ?_ <;> (intro hb; (try simp only [bnl] at hb); (try revert hb; intro _))) | with_reducible refine aq ?_ ?_ | with_reducible refine ak ?_ | fail)
  all_goals simp [*]
 have zero : ∀ (k0 : Int) (k1 : List UInt8) (k2 : List (List UInt8)) (k3 : Int) (k4 : List (List UInt8)) (k5 : Bool) (k6 : List UInt8) (k7 : Int) (k8 : List ao) (k9 : List Int) (num txt prt ok : Bool), tj k0 m s l ks b num txt prt ok = cn ts t (.mk m s l ks b) →
   Tot (nH 1 (m, s, l, ks, b, k0, k1, k2, k3, k4, k5, k6, k7, k8, k9, num, txt, prt, ok)) (fun z => ∃ (y0 : Bool) (rest : List an), z.1.dimR = .bool y0 ∧ z.2 = rest ∧ pE ts t m s l ks b y0) := by
  intro k0 k1 k2 k3 k4 k5 k6 k7 k8 k9 num txt prt ok hr
  have key : Tot (nH 1 (m, s, l, ks, b, k0, k1, k2, k3, k4, k5, k6, k7, k8, k9, num, txt, prt, ok)) (fun z => z = (.bool (tj k0 m s l ks b num txt prt ok), [])) := by
   have last := last num txt prt ok
   unfold nH pQ
   dsimp only
   simp only [tj]
   cases hA : (k0 == 13) <;> cases hB : decide ((0 : Int) < (ks.length : Int)) <;> cases hC : (k0 == 14) <;> cases hD : (b == 0) <;>
    simp only [Bool.not_true, Bool.not_false, cond_true, cond_false, Bool.true_and, Bool.false_and, Bool.and_true, Bool.and_false] <;> first | exact last | exact ak rfl
  refine aDX key ?_
  rintro _ rfl
  exact ⟨_, _, rfl, rfl, hr⟩
 refine ag (aDm ts t) ?_
 rintro _ ⟨-, rfl⟩
 refine ah (fun h => ak ⟨_, _, rfl, rfl, ?_⟩) (fun h => ?_)
 ·have h : isT ts t = false := by simpa using h
  simp only [pE, cn, h, Bool.false_and]
 have h : isT ts t = true := by simpa using h
 have hr : 0 ≤ t ∧ t < ts.length := by simpa [isT] using h
 have hl : t.toNat < ts.length := by omega
 have hK := (hts.2 ts[t.toNat] (List.getElem_mem hl)).kind
 have hg : ts.getD t.toNat (af .atype) = ts[t.toNat] := aEc (List.getElem?_eq_getElem hl)
 refine aq (by first | (simp only [bnl, lnl]; done) | (simp only [bnl, lnl]; omega)) ?_
 have hfit : cn ts t (.mk m s l ks b) = cn ts t (.mk m s l ks b) := rfl
 conv at hfit => rhs; rw [cn, h, Bool.true_and]
 rw [hg] at hfit ⊢
 generalize ts[t.toNat] = k at hfit hK
 obtain ⟨k0, k1, k2, k3, k4, k5, k6, k7, k8, k9⟩ := k
 dsimp only at hK hfit ⊢
 have hcases : k0 = 1 ∨ k0 = 2 ∨ k0 = 3 ∨ k0 = 4 ∨ k0 = 5 ∨ k0 = 6 ∨ k0 = 7 ∨ k0 = 8 ∨ k0 = 9 ∨ k0 = 10 ∨ k0 = 11 ∨ k0 = 12 ∨ k0 = 13 ∨ k0 = 14 := by omega
 have hin := aDx ts n hF k0 k1 k2 k3 k4 k5 k6 k7 k8 k9 m s l ks b (by omega)
 rcases hcases with rfl | rfl | rfl | rfl | rfl | rfl | rfl | rfl | rfl | rfl | rfl | rfl | rfl | rfl
 all_goals simp only [Int.reduceBEq, Bool.or_true, Bool.true_or, Bool.or_false, Bool.false_or, cond_true, cond_false] at hfit ⊢
 ·exact zero _ _ _ _ _ _ _ _ _ _ _ _ _ _ (by rw [hfit, aDy])
 ·exact zero _ _ _ _ _ _ _ _ _ _ _ _ _ _ (by rw [hfit, tl _ _ _ _ _ _ _ (by decide) (by decide)]; rfl)
 ·have e := aEG m hm
  refine ah (fun hx => zero _ _ _ _ _ _ _ _ _ _ _ _ _ _ ?_) (fun hx => zero _ _ _ _ _ _ _ _ _ _ _ _ _ _ ?_)
  ·rw [hfit, tl _ _ _ _ _ _ _ (by decide) (by decide)]
   simp only [adv, Int.reduceBEq, cond_true, cond_false, e, hx, Bool.true_and]
  ·rw [hfit, tl _ _ _ _ _ _ _ (by decide) (by decide)]
   simp only [adv, Int.reduceBEq, cond_true, cond_false, e, hx, Bool.false_and]
 ·exact zero _ _ _ _ _ _ _ _ _ _ _ _ _ _ (by rw [hfit, tl _ _ _ _ _ _ _ (by decide) (by decide)]; rfl)
 ·exact zero _ _ _ _ _ _ _ _ _ _ _ _ _ _ (by rw [hfit, tl _ _ _ _ _ _ _ (by decide) (by decide)]; simp only [adv, Int.reduceBEq, cond_true, cond_false, aDz m hm])
 ·exact zero _ _ _ _ _ _ _ _ _ _ _ _ _ _ (by rw [hfit, tl _ _ _ _ _ _ _ (by decide) (by decide)]; rfl)
 ·exact zero _ _ _ _ _ _ _ _ _ _ _ _ _ _ (by rw [hfit, aqO _ _ _ _ _ _ _ (by decide) (by decide)]; rfl)
 ·refine ag (ax3 s) ?_
  rintro _ ⟨-, rfl⟩
  exact zero _ _ _ _ _ _ _ _ _ _ _ _ _ _ (by rw [hfit, aqO _ _ _ _ _ _ _ (by decide) (by decide)]; rfl)
 ·refine ag hin ?_
  rintro _ ⟨-, rfl⟩
  exact zero _ _ _ _ _ _ _ _ _ _ _ _ _ _ (by rw [hfit, aBa _ _ _ _ _ _ _ (by decide) (by decide)]; rfl)
 ·exact zero _ _ _ _ _ _ _ _ _ _ _ _ _ _ (by rw [hfit, tl _ _ _ _ _ _ _ (by decide) (by decide)]; rfl)
 ·exact zero _ _ _ _ _ _ _ _ _ _ _ _ _ _ (by rw [hfit, aqO _ _ _ _ _ _ _ (by decide) (by decide)]; rfl)
 ·refine ag hin ?_
  rintro _ ⟨-, rfl⟩
  exact zero _ _ _ _ _ _ _ _ _ _ _ _ _ _ (by rw [hfit, aBa _ _ _ _ _ _ _ (by decide) (by decide)]; rfl)
 ·refine ag hin ?_
  rintro _ ⟨-, rfl⟩
  exact zero _ _ _ _ _ _ _ _ _ _ _ _ _ _ (by rw [hfit, aEd]; rfl)
 ·refine ag hin ?_
  rintro _ ⟨-, rfl⟩
  exact zero _ _ _ _ _ _ _ _ _ _ _ _ _ _ (by rw [hfit, aEe]; rfl)
theorem aBb (ts : List ac) (hts : wh ts) : ∀ n, ahJ ts n
 | 0 => fun _ _ _ _ _ _ h => by omega
 | n + 1 => aDA ts hts n (aBb ts hts n)
theorem ax4 (ts : List ac) (hts : wh ts) (t m : Int) (s : List UInt8) (l : List ab) (ks : List (List UInt8)) (b : Int) : ∃ r, dw ts t m s l ks b r := aBb ts hts (szL l + 1) t m s l ks b (Nat.le_refl _)
def axA (n : Nat) : Prop := ∀ (m : Int) (s : List UInt8) (l : List ab) (ks : List (List UInt8)) (b : Int) (m2 : Int) (s2 : List UInt8) (l2 : List ab) (ks2 : List (List UInt8)) (b2 : Int), szL l + 1 ≤ n → ∃ r, kU m s l ks b m2 s2 l2 ks2 b2 r
theorem aCT (l l2 : List ab) (i : Nat) (h : i < l.length) (h2 : i < l2.length) : f9 (l.drop i) (l2.drop i) = (lI (l.getD i (af .aval)) (l2.getD i (af .aval)) && f9 (l.drop (i + 1)) (l2.drop (i + 1))) := by
 rw [dG l i (af .aval) h, dG l2 i (af .aval) h2]
 simp [f9]
theorem aDB (n : Nat) (hS : axA n) : axA (n + 1) := by
 intro m s l ks b m2 s2 l2 ks2 b2 hs
 refine rv (ret := fun r => .bool r) fun hf => ?_
 have hl : l.length ≤ 9223372036854775807 := hf (.agg [.int .u64 m, .str s, .sl .aval (.may false) l, .sl .str (.may false) ks, .int .i64 b]) (by simp) (.sl .aval (.may false) l) (by simp)
 have hk : ks.length ≤ 9223372036854775807 := hf (.agg [.int .u64 m, .str s, .sl .aval (.may false) l, .sl .str (.may false) ks, .int .i64 b]) (by simp) (.sl .str (.may false) ks) (by simp)
 refine axs (l.length + ks.length + 2) _ _ _ _ _ _ _ _ _ _ ?_
 generalize hN : l.length + ks.length + 2 = N
 unfold xB oZ
 dsimp only
 have goal0 : ∀ r : Bool, r = ((m == m2) && (decide (s = s2) && ((b == b2) && (decide (ks = ks2) && f9 l l2)))) → lN m s l ks b m2 s2 l2 ks2 b2 r := by
  intro r hr
  simp only [lN, lI]
  exact hr
 refine ah (fun h => ak ⟨_, _, rfl, rfl, goal0 _ ?_⟩) (fun h1 => ah (fun h => ak ⟨_, _, rfl, rfl, goal0 _ ?_⟩) (fun h2 => ah (fun h => ak ⟨_, _, rfl, rfl, goal0 _ ?_⟩) (fun h3 => ah (fun h => ak ⟨_, _, rfl, rfl, goal0 _ ?_⟩) (fun h4 => ah (fun h => ak ⟨_, _, rfl, rfl, goal0 _ ?_⟩) (fun h5 => ?_)))))
 ·have : (m == m2) = false := by simpa using h
  rw [this]; rfl
 ·have : decide (s = s2) = false := by simpa using h
  rw [this]; simp
 ·have : (b == b2) = false := by simpa using h
  rw [this]; simp
 ·have : ¬ l.length = l2.length := by simp at h; omega
  rw [ala l l2 this]; simp
 ·have : ¬ ks.length = ks2.length := by simp at h; omega
  have : decide (ks = ks2) = false := decide_eq_false fun e => this (by rw [e])
  rw [this]; simp
 have e1 : (m == m2) = true := by simpa using h1
 have e2 : decide (s = s2) = true := by simpa using h2
 have e3 : (b == b2) = true := by simpa using h3
 have e4 : l.length = l2.length := by have : (l.length : Int) = l2.length := by simpa using h4
                                      omega
 have e5 : ks.length = ks2.length := by have : (ks.length : Int) = ks2.length := by simpa using h5
                                        omega
 have goal1 : ∀ r : Bool, r = (adA ks ks2 && f9 l l2) → lN m s l ks b m2 s2 l2 ks2 b2 r := fun r hr => goal0 r (by rw [e1, e2, e3]; simpa [adA] using hr)
 refine bi (fun x => match x with | (n0, t0, l0, k0, c0, n1, t1, l1, k1, c1, i) => l0 = l ∧ k0 = ks ∧ l1 = l2 ∧ k1 = ks2 ∧ 0 ≤ i ∧ i ≤ (ks.length : Int) ∧ adA (ks.drop i.toNat) (ks2.drop i.toNat) = adA ks ks2)
  (fun x => ((ks.length : Int) - x.2.2.2.2.2.2.2.2.2.2).toNat) ?_ _ _ ⟨rfl, rfl, rfl, rfl, by simp, by simp, rfl⟩ (by simp; omega)
 rintro again ⟨n0, t0, l0, k0, c0, n1, t1, l1, k1, c1, i⟩ ⟨rfl, rfl, rfl, rfl, i1, i2, i3⟩ ih
 dsimp only at ih
 unfold rq pV
 dsimp only
 refine ah (fun h => ?_) (fun h => ?_)
 ·have h := of_decide_eq_true h
  have ew : IntKind.i64.wrap (i + 1) = i + 1 := ap (i + 1) (by omega)
  have et : (i + 1).toNat = i.toNat + 1 := by omega
  have hst := axW k0 k1 i.toNat (by omega) (by omega)
  rw [i3] at hst
  refine aq (by first | (simp only [bnl, lnl]; done) | (simp only [bnl, lnl]; omega)) (aq (by first | (simp only [bnl, lnl]; done) | (simp only [bnl, lnl]; omega)) ?_)
  refine ah (fun hb => ak ⟨_, _, rfl, rfl, goal1 _ ?_⟩) (fun hb => ?_)
  ·have hb : decide (k0.getD i.toNat (af .str) = k1.getD i.toNat (af .str)) = false := by simpa using hb
   rw [hst, hb]; rfl
  ·have hb : decide (k0.getD i.toNat (af .str) = k1.getD i.toNat (af .str)) = true := by simpa using hb
   rw [hb, Bool.true_and] at hst
   exact ih (n0, t0, l0, k0, c0, n1, t1, l1, k1, c1, _) (by simp only [ew, et]; exact ⟨trivial, trivial, trivial, trivial, by omega, by omega, hst.symm⟩) (by simp only [ew]; omega)
 ·have h := of_decide_eq_false h
  have hi : i.toNat = k0.length := by omega
  have hk1 : adA k0 k1 = true := by
   rw [← i3, hi, List.drop_length, e5, List.drop_length]; rfl
  refine bi (fun x => match x with | (n0, t0, l0', k0', c0, n1, t1, l1', k1', c1, j) => l0' = l0 ∧ l1' = l1 ∧ 0 ≤ j ∧ j ≤ (l0.length : Int) ∧ f9 (l0.drop j.toNat) (l1.drop j.toNat) = f9 l0 l1)
   (fun x => ((l0.length : Int) - x.2.2.2.2.2.2.2.2.2.2).toNat) ?_ _ _ ⟨rfl, rfl, by simp, by simp, rfl⟩ (by simp; omega)
  rintro again1 ⟨n0, t0, l0', k0', c0, n1, t1, l1', k1', c1, j⟩ ⟨rfl, rfl, j1, j2, j3⟩ ih1
  dsimp only at ih1
  unfold nK
  dsimp only
  refine ah (fun h => ?_) (fun h => ?_)
  ·have h := of_decide_eq_true h
   have ew : IntKind.i64.wrap (j + 1) = j + 1 := ap (j + 1) (by omega)
   have et : (j + 1).toNat = j.toNat + 1 := by omega
   have hst := aCT l0' l1' j.toNat (by omega) (by omega)
   rw [j3] at hst
   have hsz := tu l0' j.toNat (by omega)
   have hsz2 := qa (l0'.getD j.toNat (af .aval))
   refine aq (by first | (simp only [bnl, lnl]; done) | (simp only [bnl, lnl]; omega)) (aq (by first | (simp only [bnl, lnl]; done) | (simp only [bnl, lnl]; omega)) ?_)
   refine ag (hS _ _ _ _ _ _ _ _ _ _ (by omega)) ?_
   rintro _ ⟨-, rfl⟩
   rw [ab.eta, ab.eta]
   refine ah (fun hb => ak ⟨_, _, rfl, rfl, goal1 _ ?_⟩) (fun hb => ?_)
   ·have hb : lI (l0'.getD j.toNat (af .aval)) (l1'.getD j.toNat (af .aval)) = false := by simpa using hb
    rw [hk1, hst, hb]; rfl
   ·have hb : lI (l0'.getD j.toNat (af .aval)) (l1'.getD j.toNat (af .aval)) = true := by simpa using hb
    rw [hb, Bool.true_and] at hst
    exact ih1 (n0, t0, l0', k0', c0, n1, t1, l1', k1', c1, _) (by simp only [ew, et]; exact ⟨trivial, trivial, by omega, by omega, hst.symm⟩) (by simp only [ew]; omega)
  ·have h := of_decide_eq_false h
   have hj : j.toNat = l0'.length := by omega
   have : f9 l0' l1' = true := by
    rw [← j3, hj, List.drop_length, e4, List.drop_length]; rfl
   exact ak ⟨_, _, rfl, rfl, goal1 _ (by rw [hk1, this]; rfl)⟩
theorem aBc : ∀ n, axA n
 | 0 => fun _ _ _ _ _ _ _ _ _ _ h => by omega
 | n + 1 => aDB n (aBc n)
theorem aDC (m : Int) (s : List UInt8) (l : List ab) (ks : List (List UInt8)) (b : Int) (m2 : Int) (s2 : List UInt8) (l2 : List ab) (ks2 : List (List UInt8)) (b2 : Int) : ∃ r, kU m s l ks b m2 s2 l2 ks2 b2 r := aBc (szL l + 1) m s l ks b m2 s2 l2 ks2 b2 (Nat.le_refl _)
theorem aum (v : ab) (l : List ab) (d c : Int) : lk (v :: l) d c = lk l (if d < IntKind.wrap .i64 ((ee v).1 + 1) then IntKind.wrap .i64 ((ee v).1 + 1) else d) (IntKind.wrap .i64 (c + (ee v).2)) := by
 rw [lk]
theorem aDD (l : List ab) : ∀ d e c m n, d ≤ e → lk l d c = (m, n) → d ≤ m ∧ lk l e c = ((if m < e then e else m), n) := by
 induction l with
 | nil =>
   intro d e c m n h hd
   have h1 : d = m := congrArg Prod.fst hd
   have h2 : c = n := congrArg Prod.snd hd
   subst h1; subst h2
   refine ⟨Int.le_refl _, ?_⟩
   show (e, c) = _
   by_cases hd : d < e
   ·rw [if_pos hd]
   ·rw [if_neg hd]; have : d = e := by omega
    rw [this]
 | cons v l ih =>
   intro d e c m n h hd
   rw [aum] at hd ⊢
   revert hd
   generalize IntKind.wrap .i64 ((ee v).1 + 1) = k
   generalize IntKind.wrap .i64 (c + (ee v).2) = c2
   intro hd
   obtain ⟨h1, h2⟩ := ih _ (if e < k then k else e) c2 m n (by split <;> split <;> omega) hd
   rw [h2]
   refine ⟨by revert h1; split <;> omega, ?_⟩
   by_cases h3 : e < k
   ·have h4 : d < k := by omega
    rw [if_pos h4] at h1
    rw [if_pos h3, if_neg (by omega), if_neg (by omega)]
   ·rw [if_neg h3]
theorem aCU (l : List ab) (i : Nat) (d c : Int) (h : i < l.length) : lk (l.drop i) d c = lk (l.drop (i + 1)) (if d < IntKind.wrap .i64 ((ee (l.getD i (af .aval))).1 + 1) then IntKind.wrap .i64 ((ee (l.getD i (af .aval))).1 + 1) else d) (IntKind.wrap .i64 (c + (ee (l.getD i (af .aval))).2)) := by
 rw [dG l i (af .aval) h, aum]
def axB (n : Nat) : Prop := ∀ (m : Int) (s : List UInt8) (l : List ab) (ks : List (List UInt8)) (b : Int), szL l + 1 ≤ n → ∃ r, kT m s l ks b r
theorem aDE (n : Nat) (hS : axB n) : axB (n + 1) := by
 intro m s l ks b hs
 refine rv (ret := fun r : Int × Int => .tup [.int .i64 r.1, .int .i64 r.2]) fun hf => ?_
 have hl : l.length ≤ 9223372036854775807 := hf (.agg [.int .u64 m, .str s, .sl .aval (.may false) l, .sl .str (.may false) ks, .int .i64 b]) (by simp) (.sl .aval (.may false) l) (by simp)
 refine axv (l.length + 2) _ _ _ _ _ ?_
 generalize hN : l.length + 2 = N
 unfold xD pa
 dsimp only
 refine bi (fun x => match x with | (n0, t0, l0, k0, c0, d, c, i) => l0 = l ∧ k0 = ks ∧ 0 ≤ i ∧ i ≤ (l.length : Int) ∧ lk (l.drop i.toNat) d c = lk l 0 1)
  (fun x => ((l.length : Int) - x.2.2.2.2.2.2.2).toNat) ?_ _ _ ⟨rfl, rfl, by simp, by simp, rfl⟩ (by simp; omega)
 rintro again ⟨n0, t0, l0, k0, c0, d, c, i⟩ ⟨rfl, rfl, i1, i2, i3⟩ ih
 dsimp only at ih
 unfold rt
 dsimp only
 refine ah (fun h => ?_) (fun h => ?_)
 ·have h := of_decide_eq_true h
  have ew : IntKind.i64.wrap (i + 1) = i + 1 := ap (i + 1) (by omega)
  have et : (i + 1).toNat = i.toNat + 1 := by omega
  have hsz := tu l0 i.toNat (by omega)
  have hsz2 := qa (l0.getD i.toNat (af .aval))
  have hst := aCU l0 i.toNat d c (by omega)
  rw [i3] at hst
  refine aq (by first | (simp only [bnl, lnl]; done) | (simp only [bnl, lnl]; omega)) ?_
  refine ag (hS _ _ _ _ _ (by omega)) ?_
  rintro _ ⟨-, rfl⟩
  rw [ab.eta]
  exact ih (n0, t0, l0, k0, c0, _, _, _) (by simp only [ew, et]; exact ⟨trivial, trivial, by omega, by omega, hst.symm⟩) (by simp only [ew]; omega)
 ·have h := of_decide_eq_false h
  have hi : i.toNat = l0.length := by omega
  rw [hi, List.drop_length] at i3
  have i3 : lk l0 0 1 = (d, c) := i3.symm
  obtain ⟨h0, hm⟩ := aDD l0 0 1 1 d c (by omega) i3
  have hp : ∀ r : Int × Int, r = (if (1 : Int) < (k0.length : Int) then lk l0 1 1 else lk l0 (k0.length : Int) 1) → lO m s l0 k0 b r := by
   intro r hr
   simp only [lO, ee, hr]
   split <;> rfl
  refine ah (fun hk => ?_) (fun hk => ?_)
  ·have hk := of_decide_eq_true hk
   have hp1 : ∀ r : Int × Int, r = (if d < 1 then 1 else d, c) → lO m s l0 k0 b r := by
    intro r hr
    refine hp r ?_
    by_cases h1 : (1 : Int) < (k0.length : Int)
    ·rw [if_pos h1, hm]; exact hr
    ·have : (k0.length : Int) = 1 := by omega
     rw [if_neg h1, this, hm]; exact hr
   refine ah (fun hd => ?_) (fun hd => ?_)
   ·have hd : d = 0 := by simpa using hd
    exact ak ⟨_, _, _, rfl, rfl, hp1 _ (by subst hd; rfl)⟩
   ·have hd : d ≠ 0 := by simpa using hd
    refine ak ⟨_, _, _, rfl, rfl, hp1 _ ?_⟩
    rw [if_neg (by omega)]
  ·have hk := of_decide_eq_false hk
   refine ak ⟨_, _, _, rfl, rfl, hp _ ?_⟩
   have : (k0.length : Int) = 0 := by omega
   rw [if_neg (by omega), this, i3]
theorem aBd : ∀ n, axB n
 | 0 => fun _ _ _ _ _ h => by omega
 | n + 1 => aDE n (aBd n)
theorem aDF (m : Int) (s : List UInt8) (l : List ab) (ks : List (List UInt8)) (b : Int) : ∃ r, kT m s l ks b r := aBd (szL l + 1) m s l ks b (Nat.le_refl _)
end Go.Proofs.Ytdpajabhmmmjoaa
end
section
namespace Go.Proofs.Ytdpajabhmmmjoaa
open Go.AM
set_option autoImplicit false
set_option linter.unusedVariables false
def axC (ts : List ac) (t n : Int) (s : List UInt8) (l : List ab) (ks : List (List UInt8)) (b : Int) (r : Bool) : Prop := r = cn ts t (.mk n s l ks b)
def axD (n : Int) (s : List UInt8) (l : List ab) (ks : List (List UInt8)) (b : Int) (n2 : Int) (s2 : List UInt8) (l2 : List ab) (ks2 : List (List UInt8)) (b2 : Int) (r : Bool) : Prop := r = lI (.mk n s l ks b) (.mk n2 s2 l2 ks2 b2)
def axE (n : Int) (s : List UInt8) (l : List ab) (ks : List (List UInt8)) (b : Int) (r : Int × Int) : Prop := r = ee (.mk n s l ks b)
def tm (r : Bool) : Prop := r = true
def qL (p : List UInt8) (n : Int) (s : List UInt8) (l : List ab) (ks : List (List UInt8)) (b : Int) (n2 : Int) (s2 : List UInt8) (l2 : List ab) (ks2 : List (List UInt8)) (b2 : Int) (t : Int) (r : Bool) : Prop := r = true
end Go.Proofs.Ytdpajabhmmmjoaa
end
section
namespace Go.Proofs.Ytdpajabhmmmjoaa
open Go.AM
set_option autoImplicit false
set_option linter.unusedVariables false
set_option maxRecDepth 100000
abbrev uZ : FuncId := 4
abbrev ajM : FuncId := 20
abbrev ajN : FuncId := 48
abbrev aun := Bool
noncomputable def ads (a0 : Bs) (a1_0 : Int) (a1_1 : Bs) (a1_2 : List ab) (a1_3 : Bss) (a1_4 : Int) (a2_0 : Int) (a2_1 : Bs) (a2_2 : List ab) (a2_3 : Bss) (a2_4 : Int) (a3 : Int) (r : aun) : Prop := aj Try.prog uZ [.sl .u8 (.may false) a0, .agg [.int .u64 a1_0, .str a1_1, .sl .aval (.may false) a1_2, .sl .str (.may false) a1_3, .int .i64 a1_4], .agg [.int .u64 a2_0, .str a2_1, .sl .aval (.may false) a2_2, .sl .str (.may false) a2_3, .int .i64 a2_4], .int .i64 a3] (.bool r) ∧ qL a0 a1_0 a1_1 a1_2 a1_3 a1_4 a2_0 a2_1 a2_2 a2_3 a2_4 a3 r
abbrev azz := Bool
noncomputable def pc  (r : azz) : Prop := aj Try.prog ai8 [] (.bool r) ∧ tm  r
noncomputable def azA : cN Try.prog := ⟨19, fun us => match us with
 | [] => let r := pick pc; some (can pc, .bool r)
 | _ => none, by
 intro _ _ h; split at h; exact bC h (fun h => h.1.dim rfl) rfl rfl; cases h⟩
abbrev azB := Bool
noncomputable def lF (a0_0 : Int) (a0_1 : Bs) (a0_2 : List ab) (a0_3 : Bss) (a0_4 : Int) (r : azB) : Prop := aj Try.prog ajM [.agg [.int .u64 a0_0, .str a0_1, .sl .aval (.may false) a0_2, .sl .str (.may false) a0_3, .int .i64 a0_4]] (.bool r)
noncomputable def azC : cN Try.prog := ⟨20, fun us => match us with
 | [.agg [.int .u64 a0_0, .str a0_1, .sl .aval (.may _) a0_2, .sl .str (.may _) a0_3, .int .i64 a0_4]] => let r := pick (lF a0_0 a0_1 a0_2 a0_3 a0_4); some (can (lF a0_0 a0_1 a0_2 a0_3 a0_4), .bool r)
 | _ => none, by
 intro _ _ h; split at h; exact bC h (fun h => h.dim rfl) rfl rfl; cases h⟩
abbrev aBV := Bool
noncomputable def mD (a0_0 : List ac) (a1 : Int) (a2_0 : Int) (a2_1 : Bs) (a2_2 : List ab) (a2_3 : Bss) (a2_4 : Int) (r : aBV) : Prop := aj Try.prog mc [.agg [.sl .atype (.may false) a0_0], .int .i64 a1, .agg [.int .u64 a2_0, .str a2_1, .sl .aval (.may false) a2_2, .sl .str (.may false) a2_3, .int .i64 a2_4]] (.bool r) ∧ axC a0_0 a1 a2_0 a2_1 a2_2 a2_3 a2_4 r
noncomputable def an7 : cN Try.prog := ⟨21, fun us => match us with
 | [.agg [.sl .atype (.may _) a0_0], .int .i64 a1, .agg [.int .u64 a2_0, .str a2_1, .sl .aval (.may _) a2_2, .sl .str (.may _) a2_3, .int .i64 a2_4]] => let r := pick (mD a0_0 a1 a2_0 a2_1 a2_2 a2_3 a2_4); some (can (mD a0_0 a1 a2_0 a2_1 a2_2 a2_3 a2_4), .bool r)
 | _ => none, by
 intro _ _ h; split at h; exact bC h (fun h => h.1.dim rfl) rfl rfl; cases h⟩
abbrev aBW := Int × Int
noncomputable def sn (a0_0 : Int) (a0_1 : Bs) (a0_2 : List ab) (a0_3 : Bss) (a0_4 : Int) (r : aBW) : Prop := aj Try.prog rP [.agg [.int .u64 a0_0, .str a0_1, .sl .aval (.may false) a0_2, .sl .str (.may false) a0_3, .int .i64 a0_4]] (.tup [.int .i64 r.1, .int .i64 r.2]) ∧ axE a0_0 a0_1 a0_2 a0_3 a0_4 r
noncomputable def an8 : cN Try.prog := ⟨22, fun us => match us with
 | [.agg [.int .u64 a0_0, .str a0_1, .sl .aval (.may _) a0_2, .sl .str (.may _) a0_3, .int .i64 a0_4]] => let r := pick (sn a0_0 a0_1 a0_2 a0_3 a0_4); some (can (sn a0_0 a0_1 a0_2 a0_3 a0_4), .tup [.int .i64 r.1, .int .i64 r.2])
 | _ => none, by
 intro _ _ h; split at h; exact bC h (fun h => h.1.dim rfl) rfl rfl; cases h⟩
abbrev aBX := Bool
noncomputable def mE (a0_0 : Int) (a0_1 : Bs) (a0_2 : List ab) (a0_3 : Bss) (a0_4 : Int) (a1_0 : Int) (a1_1 : Bs) (a1_2 : List ab) (a1_3 : Bss) (a1_4 : Int) (r : aBX) : Prop := aj Try.prog pg [.agg [.int .u64 a0_0, .str a0_1, .sl .aval (.may false) a0_2, .sl .str (.may false) a0_3, .int .i64 a0_4], .agg [.int .u64 a1_0, .str a1_1, .sl .aval (.may false) a1_2, .sl .str (.may false) a1_3, .int .i64 a1_4]] (.bool r) ∧ axD a0_0 a0_1 a0_2 a0_3 a0_4 a1_0 a1_1 a1_2 a1_3 a1_4 r
noncomputable def an9 : cN Try.prog := ⟨24, fun us => match us with
 | [.agg [.int .u64 a0_0, .str a0_1, .sl .aval (.may _) a0_2, .sl .str (.may _) a0_3, .int .i64 a0_4], .agg [.int .u64 a1_0, .str a1_1, .sl .aval (.may _) a1_2, .sl .str (.may _) a1_3, .int .i64 a1_4]] => let r := pick (mE a0_0 a0_1 a0_2 a0_3 a0_4 a1_0 a1_1 a1_2 a1_3 a1_4); some (can (mE a0_0 a0_1 a0_2 a0_3 a0_4 a1_0 a1_1 a1_2 a1_3 a1_4), .bool r)
 | _ => none, by
 intro _ _ h; split at h; exact bC h (fun h => h.1.dim rfl) rfl rfl; cases h⟩
abbrev azD := Int
noncomputable def fH (a0_0 : Int) (a0_1 : Bs) (a0_2 : List ab) (a0_3 : Bss) (a0_4 : Int) (r : azD) : Prop := aj Try.prog ajN [.agg [.int .u64 a0_0, .str a0_1, .sl .aval (.may false) a0_2, .sl .str (.may false) a0_3, .int .i64 a0_4]] (.int .i64 r)
noncomputable def ajO : cN Try.prog := ⟨48, fun us => match us with
 | [.agg [.int .u64 a0_0, .str a0_1, .sl .aval (.may _) a0_2, .sl .str (.may _) a0_3, .int .i64 a0_4]] => let r := pick (fH a0_0 a0_1 a0_2 a0_3 a0_4); some (can (fH a0_0 a0_1 a0_2 a0_3 a0_4), .int .i64 r)
 | _ => none, by
 intro _ _ h; split at h; exact bC h (fun h => h.dim rfl) rfl rfl; cases h⟩
end Go.Proofs.Ytdpajabhmmmjoaa
end
section
namespace Go.Proofs.Ytdpajabhmmmjoaa
open Go.AM
set_option autoImplicit false
set_option linter.unusedVariables false
set_option maxRecDepth 100000
noncomputable def ajP : au := tab (P := Try.prog) [] [] [] [an7, an8, an9]
noncomputable def aqP : IR := .ret
noncomputable def aqQ : IR := (.seq (.reg [Ld 17 1 true 1, Ld 18 5 true 2, Pp (.call (some 19) 21 [(.t 17), (.c (.int .i64 1)), (.t 18)]), Mv 20 19, Pg (20, true) (.lde 21 1 true (.t 1)), Pg (20, true) (.lde 22 5 true (.t 2)), Pg (20, true) (.call (some 23) 21 [(.t 21), (.c (.int .i64 0)), (.t 22)]), Pg (20, true) (.un 24 .not (.t 23)), Pa 25 20 24, Mv 26 25, Pg (26, true) (.lde 27 5 true (.t 2)), Pg (26, true) (.lde 28 5 true (.t 2)), Pg (26, true) (.call (some 29) 24 [(.t 27), (.t 28)]), Pa 30 26 29, Mv 31 30, Pg (31, true) (.lde 32 5 true (.t 2)), Pg (31, true) (.bld 33 [.int .u64 0, .str ([] : Bs), .sl .aval (.may true) ([] : List ab), .sl .str (.may true) ([] : Bss), .int .i64 0] []), Pg (31, true) (.call (some 34) 24 [(.t 32), (.t 33)]), Pg (31, true) (.un 35 .not (.t 34)), Pa 36 31 35, Mv 37 36, Pg (37, true) (.mov 38 (.t 3)), Pg (37, true) (.bin 39 .eql (.t 38) (.c (.int .i64 1))), Pa 40 37 39, Mv 41 40, Pg (41, true) (.mov 42 (.t 4)), Pg (41, true) (.bin 43 .eql (.t 42) (.c (.int .i64 2))), Pa 44 41 43, Mv 0 44] []) aqP)
noncomputable def aqR : IR := (.seq (.reg [Ld 13 5 true 2, Pp (.call (some 14) 22 [(.t 13)]), Mv 12 14, Ex_ 15 0 12, Ex_ 16 1 12, Mv 3 15, Mv 4 16] []) aqQ)
noncomputable def aqS : IR := (.seq (.reg [Pp (.bld 9 [.int .u64 0, .str ([] : Bs), .sl .aval (.may true) ([] : List ab), .sl .str (.may true) ([] : Bss), .int .i64 0] [(0, 1, (.c (.int .u64 5)))]), Pp (.bsl 10 .aval [(.t 9)] true), Pp (.bld 11 [.int .u64 0, .str ([] : Bs), .sl .aval .own ([] : List ab), .sl .str .own ([] : Bss), .int .i64 0] [(2, 1, (.t 10))]), Pp (.alr 2 5), Pp (.frz none 2 5 (.t 11))] []) aqR)
noncomputable def aqT : IR := (.seq (.reg [Pp (.bld 5 [.int .i64 0, .str ([] : Bs), .sl .str (.may true) ([] : Bss), .int .i64 0, .sl .str (.may true) ([] : Bss), .bool false, .str ([] : Bs), .int .i64 0, .sl .afield (.may true) ([] : List ao), .sl (.num .i64) (.may true) ([] : List Int)] [(0, 1, (.c (.int .i64 3)))]), Pp (.bld 6 [.int .i64 0, .str ([] : Bs), .sl .str (.may true) ([] : Bss), .int .i64 0, .sl .str (.may true) ([] : Bss), .bool false, .str ([] : Bs), .int .i64 0, .sl .afield (.may true) ([] : List ao), .sl (.num .i64) (.may true) ([] : List Int)] [(0, 1, (.c (.int .i64 12)))]), Pp (.bsl 7 .atype [(.t 5), (.t 6)] true), Pp (.bld 8 [.sl .atype .own ([] : List ac)] [(0, 1, (.t 7))]), Pp (.alr 1 1), Pp (.frz none 1 1 (.t 8))] []) aqS)
noncomputable def ahK : IR := (.seq (.reg [Pp (.mov 0 (.c (.bool false)))] []) aqT)
noncomputable def ahL : List RV := [.t 0]
theorem axF : FnC Try.prog ajP [] 0 ai8 Try.f19 ahK ahL := fnC (by kernel_rfl) Try.func19 (by kernel_rfl) (by kernel_rfl) (by decide)
noncomputable def ahM (N : Nat)   : Ro :=
 ai (sn 0 ([] : Bs) ([⟨5, ([] : Bs), ([] : List ab), ([] : Bss), 0⟩] : List ab) ([] : Bss) 0) (fun r1 =>
  ai (mD ([⟨3, ([] : Bs), ([] : Bss), 0, ([] : Bss), false, ([] : Bs), 0, ([] : List ao), ([] : List Int)⟩, ⟨12, ([] : Bs), ([] : Bss), 0, ([] : Bss), false, ([] : Bs), 0, ([] : List ao), ([] : List Int)⟩] : List ac) 1 0 ([] : Bs) ([⟨5, ([] : Bs), ([] : List ab), ([] : Bss), 0⟩] : List ab) ([] : Bss) 0) (fun (r2 : Bool) =>
   cond r2 (
    ai (mD ([⟨3, ([] : Bs), ([] : Bss), 0, ([] : Bss), false, ([] : Bs), 0, ([] : List ao), ([] : List Int)⟩, ⟨12, ([] : Bs), ([] : Bss), 0, ([] : Bss), false, ([] : Bs), 0, ([] : List ao), ([] : List Int)⟩] : List ac) 0 0 ([] : Bs) ([⟨5, ([] : Bs), ([] : List ab), ([] : Bss), 0⟩] : List ab) ([] : Bss) 0) (fun (r3 : Bool) =>
     cond (!r3) (
      ai (mE 0 ([] : Bs) ([⟨5, ([] : Bs), ([] : List ab), ([] : Bss), 0⟩] : List ab) ([] : Bss) 0 0 ([] : Bs) ([⟨5, ([] : Bs), ([] : List ab), ([] : Bss), 0⟩] : List ab) ([] : Bss) 0) (fun (r4 : Bool) =>
       cond r4 (
        ai (mE 0 ([] : Bs) ([⟨5, ([] : Bs), ([] : List ab), ([] : Bss), 0⟩] : List ab) ([] : Bss) 0 0 ([] : Bs) ([] : List ab) ([] : Bss) 0) (fun (r5 : Bool) =>
         cond (!r5) (
          cond (r1.1 == 1) (
           some (.bool (r1.2 == 2), [])) (
           some (.bool false, []))) (
          some (.bool false, [])))) (
        some (.bool false, [])))) (
      some (.bool false, [])))) (
    some (.bool false, []))))
noncomputable def vT (N : Nat)  : Ro := ahM N
theorem auo (N : Nat)  : aE ajP N 45 ahL ahK [] [] = vT N  := by kernel_rfl
theorem aup (N : Nat)  (h : Tot (vT N ) (fun z => ∃ (y0 : Bool) (rest : List an), z.1.dimR = .bool y0 ∧ z.2 = rest ∧ tm  (y0))) : ∃ r, pc  r := by
 obtain ⟨⟨v, hp⟩, hz, y0, rest, e1, e2, hq⟩ := h
 simp only at e1 e2
 subst e2
 exact ⟨(y0), aj.dimR (axF.pure (auo N ) hz) e1, hq⟩
noncomputable def pd : au := tab (P := Try.prog) [] [] [] [ajO]
noncomputable def aqU : IR := (.cond (.t 13) .skip (.exit 0))
noncomputable def aqV : IR := (.reg [Mv 14 4, Bc 15 .add 14 1, Mv 4 15] [])
noncomputable def aqW : IR := (.seq (.block 1 (.reg [Mv 16 3, Fa 17 2 1, Ld 18 1 false 17, Mv 19 4, Pp (.ixa 20 .aval (.t 18) (.t 19)), Ld 21 5 true 20, Pp (.call (some 22) 48 [(.t 21)]), Bi 23 .add 16 22, Mv 3 23] [])) aqV)
noncomputable def aa8 : IR := (.seq (.seq (.reg [Mv 9 4, Fa 10 2 1, Ld 11 1 false 10, Pp (.lenl 12 (.t 11)), Bi 13 .lss 9 12] []) aqU) aqW)
noncomputable def aqX : IR := (.block 0 (.loop [1, 3, 4, 1000000] 0 aa8))
noncomputable def aqY : IR := .ret
noncomputable def aa9 : IR := (.seq (.reg [Mv 24 3, Mv 2 24] []) aqY)
noncomputable def aqZ : IR := (.seq (.seq (.reg [Pp (.mov 4 (.c (.int .i64 0)))] []) aqX) aa9)
noncomputable def aq0 : IR := (.seq (.reg [Fa 5 3 1, Ld 6 1 false 5, Pp (.lenl 7 (.t 6)), Pp (.bin 8 .add (.c (.int .i64 1)) (.t 7)), Mv 3 8] []) aqZ)
noncomputable def vU : IR := (.seq (.reg [Pp (.boxe 1 (.t 0)), Pp (.mov 2 (.c (.int .i64 0)))] []) aq0)
noncomputable def rx : List RV := [.t 2]
theorem axG : FnC Try.prog pd [] 0 ajN Try.f48 vU rx := fnC (by kernel_rfl) Try.func48 (by kernel_rfl) (by kernel_rfl) (by decide)
noncomputable def auq (R : IR → (Ex → St → Ro) → St → Ro) (again0 : St → Ro) : Ex → St → Ro := (br again0 [1, 3, 4, 1000000] 0 (aD 0 (bo (R aa9) (fin rx))))
abbrev l9 : Type := (Int × Bs × List ab × Bss × Int × Int × Int)
noncomputable def lh (x : l9) : St := { env := (.undef :: .ea [.int .u64 x.1, .str x.2.1, .sl .aval (.may false) x.2.2.1, .sl .str (.may false) x.2.2.2.1, .int .i64 x.2.2.2.2.1] :: .undef :: .int .i64 x.2.2.2.2.2.1 :: .int .i64 x.2.2.2.2.2.2 :: (U 20 [])), hp := [] }
noncomputable def u0 (N : Nat) : (St → Ro) → St → Ro := fun again0 s => run pd N aa8 (auq (run pd N) again0) s
noncomputable def pW (N : Nat) (again0 : l9 → Ro) (x : l9) : Ro :=
 let v1_0 : Int := x.1
 let v1_1 : Bs := x.2.1
 let v1_2 : List ab := x.2.2.1
 let v1_3 : Bss := x.2.2.2.1
 let v1_4 : Int := x.2.2.2.2.1
 let v3 : Int := x.2.2.2.2.2.1
 let v4 : Int := x.2.2.2.2.2.2
 let x3 : Int := (↑(List.length v1_2) : Int)
 cond (decide (v4 < x3)) (
  chk ((decide (0 ≤ v4) && decide (v4 < ↑(List.length v1_2)))) (
   let x4 : Int := (List.getD v1_2 (Int.toNat v4) (af .aval)).n
   let x5 : Bs := (List.getD v1_2 (Int.toNat v4) (af .aval)).s
   let x6 : List ab := (List.getD v1_2 (Int.toNat v4) (af .aval)).l
   let x7 : Bss := (List.getD v1_2 (Int.toNat v4) (af .aval)).keys
   let x8 : Int := (List.getD v1_2 (Int.toNat v4) (af .aval)).branch
   ai (fH x4 x5 x6 x7 x8) (fun (r1 : Int) =>
    let x9 : Int := (IntKind.wrap .i64 (v3 + r1))
    let x10 : Int := (IntKind.wrap .i64 (v4 + 1))
    again0 (v1_0, v1_1, v1_2, v1_3, v1_4, x9, x10)))) (
  some (.int .i64 v3, []))
theorem aq1 (N : Nat) : ∀ (again0 : St → Ro) (x : l9), u0 N again0 (lh x) = pW N (fun y => again0 (lh y)) x := by
 intro again0 x
 kernel_rfl
noncomputable def nN (N : Nat) (p0_0 : Int) (p0_1 : Bs) (p0_2 : List ab) (p0_3 : Bss) (p0_4 : Int) (q0 : l9 → Ro) : Ro :=
 let x1 : Int := (↑(List.length p0_3) : Int)
 let x2 : Int := (IntKind.wrap .i64 (1 + x1))
 q0 (p0_0, p0_1, p0_2, p0_3, p0_4, x2, 0)
noncomputable def vV (N : Nat) (p0_0 : Int) (p0_1 : Bs) (p0_2 : List ab) (p0_3 : Bss) (p0_4 : Int) : Ro := nN N p0_0 p0_1 p0_2 p0_3 p0_4 (fun z => aB N (pW N) z)
noncomputable def azE (N : Nat) : List (Nat × (St → Ro)) := aI pd N vU (fin rx) ++ []
theorem aur (N : Nat) (p0_0 : Int) (p0_1 : Bs) (p0_2 : List ab) (p0_3 : Bss) (p0_4 : Int) : aE pd N 25 rx vU [.agg [.int .u64 p0_0, .str p0_1, .sl .aval (.may false) p0_2, .sl .str (.may false) p0_3, .int .i64 p0_4]] [] = vV N p0_0 p0_1 p0_2 p0_3 p0_4 :=
 (bx (azE N) (by kernel_rfl) rfl (fun C => nN N p0_0 p0_1 p0_2 p0_3 p0_4 (fun z => C 1000000 (lh z))) (fun C => by kernel_rfl)).trans (Eq.trans (b := nN N p0_0 p0_1 p0_2 p0_3 p0_4 (fun z => aW N (u0 N) (lh z))) (by kernel_rfl) (congrArg (nN N p0_0 p0_1 p0_2 p0_3 p0_4) (funext fun z => aT (lh) (u0 N) (pW N) (aq1 N) N z)))
theorem aus (N : Nat) (p0_0 : Int) (p0_1 : Bs) (p0_2 : List ab) (p0_3 : Bss) (p0_4 : Int) (h : Tot (vV N p0_0 p0_1 p0_2 p0_3 p0_4) (fun z => ∃ (y0 : Int) (rest : List an), z.1.dimR = .int .i64 y0 ∧ z.2 = rest)) : ∃ r, fH p0_0 p0_1 p0_2 p0_3 p0_4 r := by
 obtain ⟨⟨v, hp⟩, hz, y0, rest, e1, e2⟩ := h
 simp only at e1 e2
 subst e2
 exact ⟨(y0), aj.dimR (axG.pure (aur N p0_0 p0_1 p0_2 p0_3 p0_4) hz) e1⟩
noncomputable def ajQ : au := tab (P := Try.prog) [] [] [] [ajO]
noncomputable def aq2 : IR := .ret
noncomputable def aq3 : IR := (.seq (.reg [Ld 3 5 true 1, Pp (.call (some 4) 48 [(.t 3)]), Bc 5 .leq 4 60, Mv 2 5] []) aq2)
noncomputable def ahN : IR := (.seq (.reg [Pp (.boxe 1 (.t 0)), Pp (.mov 2 (.c (.bool false)))] []) aq3)
noncomputable def ahO : List RV := [.t 2]
theorem axH : FnC Try.prog ajQ [] 0 ajM Try.f20 ahN ahO := fnC (by kernel_rfl) Try.func20 (by kernel_rfl) (by kernel_rfl) (by decide)
noncomputable def ahP (N : Nat) (p0_0 : Int) (p0_1 : Bs) (p0_2 : List ab) (p0_3 : Bss) (p0_4 : Int)  : Ro :=
 ai (fH p0_0 p0_1 p0_2 p0_3 p0_4) (fun (r1 : Int) =>
  some (.bool (decide (r1 ≤ 60)), []))
noncomputable def vW (N : Nat) (p0_0 : Int) (p0_1 : Bs) (p0_2 : List ab) (p0_3 : Bss) (p0_4 : Int) : Ro := ahP N p0_0 p0_1 p0_2 p0_3 p0_4
theorem aut (N : Nat) (p0_0 : Int) (p0_1 : Bs) (p0_2 : List ab) (p0_3 : Bss) (p0_4 : Int) : aE ajQ N 6 ahO ahN [.agg [.int .u64 p0_0, .str p0_1, .sl .aval (.may false) p0_2, .sl .str (.may false) p0_3, .int .i64 p0_4]] [] = vW N p0_0 p0_1 p0_2 p0_3 p0_4 := by kernel_rfl
theorem auu (N : Nat) (p0_0 : Int) (p0_1 : Bs) (p0_2 : List ab) (p0_3 : Bss) (p0_4 : Int) (h : Tot (vW N p0_0 p0_1 p0_2 p0_3 p0_4) (fun z => ∃ (y0 : Bool) (rest : List an), z.1.dimR = .bool y0 ∧ z.2 = rest)) : ∃ r, lF p0_0 p0_1 p0_2 p0_3 p0_4 r := by
 obtain ⟨⟨v, hp⟩, hz, y0, rest, e1, e2⟩ := h
 simp only at e1 e2
 subst e2
 exact ⟨(y0), aj.dimR (axH.pure (aut N p0_0 p0_1 p0_2 p0_3 p0_4) hz) e1⟩
noncomputable def ma : au := tab (P := Try.prog) [aBy] [amQ] [] [alp, azA, azC, an7, an8, alq, an9, als]
noncomputable def ama : IR := .ret
noncomputable def amb : IR := (.cond (.t 17) (.seq (.reg [Pp (.mov 8 (.c (.bool false)))] []) ama) .skip)
noncomputable def amc : IR := .ret
noncomputable def amd : IR := (.cond (.t 30) (.seq (.reg [Pp (.mov 8 (.c (.bool true)))] []) amc) .skip)
noncomputable def ame : IR := .ret
noncomputable def amf : IR := (.cond (.t 38) (.seq (.reg [Pp (.mov 8 (.c (.bool true)))] []) ame) .skip)
noncomputable def amg : IR := (.cond (.t 43) .skip (.exit 0))
noncomputable def amh : IR := .ret
noncomputable def ami : IR := (.cond (.t 54) (.seq (.reg [Pp (.mov 8 (.c (.bool false)))] []) amh) .skip)
noncomputable def amj : IR := (.reg [Mv 44 11, Bc 45 .add 44 1, Mv 11 45] [])
noncomputable def akr : IR := (.seq (.block 1 (.seq (.reg [Ld 46 1 true 9, Mv 47 11, Ld 48 5 true 5, Pp (.call (some 49) 21 [(.t 46), (.t 47), (.t 48)]), Ld 50 1 true 9, Mv 51 11, Ld 52 5 true 5, Pp (.call (some 53) 18 [(.t 50), (.t 51), (.t 52)]), Pp (.beq 54 true (.t 49) (.t 53))] [[], [], [], [0, 1, 2], [], [], [], [0, 1, 2, 3, 4, 5, 6], [0, 1, 2, 3, 4, 5, 6, 7]]) ami)) amj)
noncomputable def vp : IR := (.seq (.seq (.reg [Mv 39 11, Fa 40 0 9, Ld 41 1 false 40, Pp (.lenl 42 (.t 41)), Bi 43 .leq 39 42] []) amg) akr)
noncomputable def aks : IR := (.block 0 (.loop [3, 5, 6, 9, 11, 1000000] 1 vp))
noncomputable def akt : IR := .ret
noncomputable def aku : IR := (.seq (.reg [Ld 65 1 true 9, Mv 66 3, Ld 67 5 true 6, Pp (.call (some 68) 21 [(.t 65), (.t 66), (.t 67)]), Ld 69 1 true 9, Mv 70 3, Ld 71 5 true 6, Pp (.call (some 72) 18 [(.t 69), (.t 70), (.t 71)]), Pp (.beq 73 false (.t 68) (.t 72)), Mv 74 73, Pg (74, true) (.lde 75 5 true (.t 5)), Pg (74, true) (.lde 76 5 true (.t 6)), Pg (74, true) (.call (some 77) 24 [(.t 75), (.t 76)]), Pg (74, true) (.lde 78 5 true (.t 5)), Pg (74, true) (.lde 79 5 true (.t 6)), Pg (74, true) (.call (some 80) 25 [(.t 78), (.t 79)]), Pg (74, true) (.beq 81 false (.t 77) (.t 80)), Pa 82 74 81, Mv 83 82, Pg (83, true) (.lde 84 5 true (.t 5)), Pg (83, true) (.lde 85 5 true (.t 5)), Pg (83, true) (.call (some 86) 24 [(.t 84), (.t 85)]), Pa 87 83 86, Mv 88 87, Pg (88, true) (.mov 89 (.t 12)), Pg (88, true) (.mov 90 (.t 14)), Pg (88, true) (.bin 91 .eql (.t 89) (.t 90)), Pa 92 88 91, Mv 93 92, Pg (93, true) (.mov 94 (.t 13)), Pg (93, true) (.mov 95 (.t 15)), Pg (93, true) (.bin 96 .eql (.t 94) (.t 95)), Pa 97 93 96, Mv 8 97] [[], [], [], [0, 1, 2], [], [], [], [0, 1, 2, 3, 4, 5, 6], [0, 1, 2, 3, 4, 5, 6, 7], [0, 1, 2, 3, 4, 5, 6, 7, 8], [0, 1, 2, 3, 4, 5, 6, 7, 8, 9], [0, 1, 2, 3, 4, 5, 6, 7, 8, 9], [0, 1, 2, 3, 4, 5, 6, 7, 8, 9, 10, 11], [0, 1, 2, 3, 4, 5, 6, 7, 8, 9], [0, 1, 2, 3, 4, 5, 6, 7, 8, 9], [0, 1, 2, 3, 4, 5, 6, 7, 8, 9, 10, 11, 12, 13, 14], [0, 1, 2, 3, 4, 5, 6, 7, 8, 9, 10, 11, 12, 13, 14, 15], [0, 1, 2, 3, 4, 5, 6, 7, 8, 9, 10, 11, 12, 13, 14, 15, 16], [0, 1, 2, 3, 4, 5, 6, 7, 8, 9, 10, 11, 12, 13, 14, 15, 16, 17], [0, 1, 2, 3, 4, 5, 6, 7, 8, 9, 10, 11, 12, 13, 14, 15, 16, 17, 18], [0, 1, 2, 3, 4, 5, 6, 7, 8, 9, 10, 11, 12, 13, 14, 15, 16, 17, 18], [0, 1, 2, 3, 4, 5, 6, 7, 8, 9, 10, 11, 12, 13, 14, 15, 16, 17, 18, 19, 20], [0, 1, 2, 3, 4, 5, 6, 7, 8, 9, 10, 11, 12, 13, 14, 15, 16, 17, 18, 19, 20, 21], [0, 1, 2, 3, 4, 5, 6, 7, 8, 9, 10, 11, 12, 13, 14, 15, 16, 17, 18, 19, 20, 21, 22], [0, 1, 2, 3, 4, 5, 6, 7, 8, 9, 10, 11, 12, 13, 14, 15, 16, 17, 18, 19, 20, 21, 22, 23], [0, 1, 2, 3, 4, 5, 6, 7, 8, 9, 10, 11, 12, 13, 14, 15, 16, 17, 18, 19, 20, 21, 22, 23], [0, 1, 2, 3, 4, 5, 6, 7, 8, 9, 10, 11, 12, 13, 14, 15, 16, 17, 18, 19, 20, 21, 22, 23, 24, 25], [0, 1, 2, 3, 4, 5, 6, 7, 8, 9, 10, 11, 12, 13, 14, 15, 16, 17, 18, 19, 20, 21, 22, 23, 24, 25, 26], [0, 1, 2, 3, 4, 5, 6, 7, 8, 9, 10, 11, 12, 13, 14, 15, 16, 17, 18, 19, 20, 21, 22, 23, 24, 25, 26, 27], [0, 1, 2, 3, 4, 5, 6, 7, 8, 9, 10, 11, 12, 13, 14, 15, 16, 17, 18, 19, 20, 21, 22, 23, 24, 25, 26, 27, 28], [0, 1, 2, 3, 4, 5, 6, 7, 8, 9, 10, 11, 12, 13, 14, 15, 16, 17, 18, 19, 20, 21, 22, 23, 24, 25, 26, 27, 28], [0, 1, 2, 3, 4, 5, 6, 7, 8, 9, 10, 11, 12, 13, 14, 15, 16, 17, 18, 19, 20, 21, 22, 23, 24, 25, 26, 27, 28, 29, 30], [0, 1, 2, 3, 4, 5, 6, 7, 8, 9, 10, 11, 12, 13, 14, 15, 16, 17, 18, 19, 20, 21, 22, 23, 24, 25, 26, 27, 28, 29, 30, 31], [0, 1, 2, 3, 4, 5, 6, 7, 8, 9, 10, 11, 12, 13, 14, 15, 16, 17, 18, 19, 20, 21, 22, 23, 24, 25, 26, 27, 28, 29, 30, 31, 32]]) akt)
noncomputable def akv : IR := (.seq (.reg [Ld 61 5 true 5, Pp (.call (some 62) 23 [(.t 61)]), Mv 60 62, Ex_ 63 0 60, Ex_ 64 1 60, Mv 14 63, Mv 15 64] []) aku)
noncomputable def vq : IR := (.seq (.reg [Ld 56 5 true 5, Pp (.call (some 57) 22 [(.t 56)]), Mv 55 57, Ex_ 58 0 55, Ex_ 59 1 55, Mv 12 58, Mv 13 59] []) akv)
noncomputable def akw : IR := (.seq (.seq (.reg [Pp (.mov 11 (.c (.int .i64 (-1))))] []) aks) vq)
noncomputable def akx : IR := (.seq (.seq (.reg [Mv 37 10, Pp (.un 38 .not (.t 37))] []) amf) akw)
noncomputable def aky : IR := (.seq (.reg [Mv 32 0, Pp (.call (some 33) 14 [(.t 32)]), Pp (.call (some 34) 15 [(.t 33)]), Mv 31 34, Ex_ 35 0 31, Ex_ 36 1 31, Pp (.alr 9 1), Pp (.frz none 9 1 (.t 35)), Mv 10 36] []) akx)
noncomputable def akz : IR := (.seq (.seq (.reg [Mv 18 0, Pp (.lenl 19 (.t 18)), Bc 20 .gtr 19 120, Mv 21 20, Pg (21, false) (.lde 22 5 true (.t 5)), Pg (21, false) (.call (some 23) 20 [(.t 22)]), Pg (21, false) (.un 24 .not (.t 23)), Po 25 21 24, Mv 26 25, Pg (26, false) (.lde 27 5 true (.t 6)), Pg (26, false) (.call (some 28) 20 [(.t 27)]), Pg (26, false) (.un 29 .not (.t 28)), Po 30 26 29] []) amd) aky)
noncomputable def akA : IR := (.seq (.seq (.reg [Pp (.call (some 16) 19 []), Pp (.un 17 .not (.t 16))] []) amb) akz)
noncomputable def tn : IR := (.seq (.reg [Pp (.boxe 5 (.t 1)), Pp (.boxe 6 (.t 2)), Pp (.mov 8 (.c (.bool false)))] []) akA)
noncomputable def oB : List RV := [.t 8]
theorem aq4 : FnC Try.prog ma [14, 15, 2000015] 0 uZ Try.f4 tn oB := fnC (by kernel_rfl) Try.func4 (by kernel_rfl) (by kernel_rfl) (by decide)
noncomputable def anu (R : IR → (Ex → St → Ro) → St → Ro) (again0 : St → Ro) : Ex → St → Ro := (br again0 [3, 5, 6, 9, 11, 1000000] 1 (aD 0 (bo (R vq) (fin oB))))
abbrev kg : Type := (Int × Int × Bs × List ab × Bss × Int × Int × Bs × List ab × Bss × Int × List ac × Int × Bs × Int)
noncomputable def js (x : kg) : St := { env := (U 3 (.int .i64 x.1 :: .undef :: .ea [.int .u64 x.2.1, .str x.2.2.1, .sl .aval (.may false) x.2.2.2.1, .sl .str (.may false) x.2.2.2.2.1, .int .i64 x.2.2.2.2.2.1] :: .ea [.int .u64 x.2.2.2.2.2.2.1, .str x.2.2.2.2.2.2.2.1, .sl .aval (.may false) x.2.2.2.2.2.2.2.2.1, .sl .str (.may false) x.2.2.2.2.2.2.2.2.2.1, .int .i64 x.2.2.2.2.2.2.2.2.2.2.1] :: .undef :: .undef :: .ea [.sl .atype (.may false) x.2.2.2.2.2.2.2.2.2.2.2.1] :: .undef :: .int .i64 x.2.2.2.2.2.2.2.2.2.2.2.2.1 :: (U 86 []))), hp := [some [.sl .u8 (.may false) x.2.2.2.2.2.2.2.2.2.2.2.2.2.1, .int .i64 x.2.2.2.2.2.2.2.2.2.2.2.2.2.2]] }
noncomputable def rM (N : Nat) : (St → Ro) → St → Ro := fun again0 s => run ma N vp (anu (run ma N) again0) s
noncomputable def mI (N : Nat) (again0 : kg → Ro) (x : kg) : Ro :=
 let v3 : Int := x.1
 let v5_0 : Int := x.2.1
 let v5_1 : Bs := x.2.2.1
 let v5_2 : List ab := x.2.2.2.1
 let v5_3 : Bss := x.2.2.2.2.1
 let v5_4 : Int := x.2.2.2.2.2.1
 let v6_0 : Int := x.2.2.2.2.2.2.1
 let v6_1 : Bs := x.2.2.2.2.2.2.2.1
 let v6_2 : List ab := x.2.2.2.2.2.2.2.2.1
 let v6_3 : Bss := x.2.2.2.2.2.2.2.2.2.1
 let v6_4 : Int := x.2.2.2.2.2.2.2.2.2.2.1
 let v9_0 : List ac := x.2.2.2.2.2.2.2.2.2.2.2.1
 let v11 : Int := x.2.2.2.2.2.2.2.2.2.2.2.2.1
 let o0_0 : Bs := x.2.2.2.2.2.2.2.2.2.2.2.2.2.1
 let o0_1 : Int := x.2.2.2.2.2.2.2.2.2.2.2.2.2.2
 let x2 : Int := (↑(List.length v9_0) : Int)
 cond (decide (v11 ≤ x2)) (
  ai (mD v9_0 v11 v5_0 v5_1 v5_2 v5_3 v5_4) (fun (r6 : Bool) =>
   ai (dw v9_0 v11 v5_0 v5_1 v5_2 v5_3 v5_4) (fun (r7 : Bool) =>
    cond (!(r6 == r7)) (
     some (.bool false, [some [.sl .u8 (.may false) o0_0, .int .i64 o0_1]])) (
     let x3 : Int := (IntKind.wrap .i64 (v11 + 1))
     again0 (v3, v5_0, v5_1, v5_2, v5_3, v5_4, v6_0, v6_1, v6_2, v6_3, v6_4, v9_0, x3, o0_0, o0_1))))) (
  ai (sn v5_0 v5_1 v5_2 v5_3 v5_4) (fun r8 =>
   ai (kT v5_0 v5_1 v5_2 v5_3 v5_4) (fun r9 =>
    ai (mD v9_0 v3 v6_0 v6_1 v6_2 v6_3 v6_4) (fun (r10 : Bool) =>
     ai (dw v9_0 v3 v6_0 v6_1 v6_2 v6_3 v6_4) (fun (r11 : Bool) =>
      cond (r10 == r11) (
       ai (mE v5_0 v5_1 v5_2 v5_3 v5_4 v6_0 v6_1 v6_2 v6_3 v6_4) (fun (r12 : Bool) =>
        ai (kU v5_0 v5_1 v5_2 v5_3 v5_4 v6_0 v6_1 v6_2 v6_3 v6_4) (fun (r13 : Bool) =>
         cond (r12 == r13) (
          ai (mE v5_0 v5_1 v5_2 v5_3 v5_4 v5_0 v5_1 v5_2 v5_3 v5_4) (fun (r14 : Bool) =>
           cond r14 (
            cond (r8.1 == r9.1) (
             some (.bool (r8.2 == r9.2), [some [.sl .u8 (.may false) o0_0, .int .i64 o0_1]])) (
             some (.bool false, [some [.sl .u8 (.may false) o0_0, .int .i64 o0_1]]))) (
            some (.bool false, [some [.sl .u8 (.may false) o0_0, .int .i64 o0_1]])))) (
          some (.bool false, [some [.sl .u8 (.may false) o0_0, .int .i64 o0_1]]))))) (
       some (.bool false, [some [.sl .u8 (.may false) o0_0, .int .i64 o0_1]])))))))
theorem amk (N : Nat) : ∀ (again0 : St → Ro) (x : kg), rM N again0 (js x) = mI N (fun y => again0 (js y)) x := by
 intro again0 x
 kernel_rfl
noncomputable def li (N : Nat) (p0 : Bs) (p1_0 : Int) (p1_1 : Bs) (p1_2 : List ab) (p1_3 : Bss) (p1_4 : Int) (p2_0 : Int) (p2_1 : Bs) (p2_2 : List ab) (p2_3 : Bss) (p2_4 : Int) (p3 : Int) (q0 : kg → Ro) : Ro :=
 ai (pc) (fun (r1 : Bool) =>
  cond (!r1) (
   some (.bool false, [])) (
   let x1 : Int := (↑(List.length p0) : Int)
   cond (decide (120 < x1)) (
    some (.bool true, [])) (
    ai (lF p1_0 p1_1 p1_2 p1_3 p1_4) (fun (r2 : Bool) =>
     cond (!r2) (
      some (.bool true, [])) (
      ai (lF p2_0 p2_1 p2_2 p2_3 p2_4) (fun (r3 : Bool) =>
       cond (!r3) (
        some (.bool true, [])) (
        ai (rV p0) (fun r4 =>
         ai (kd r4.1 r4.2) (fun r5 =>
          cond (!r5.2.1) (
           some (.bool true, [some [.sl .u8 (.may false) r5.2.2.1, .int .i64 r5.2.2.2]])) (
           q0 (p3, p1_0, p1_1, p1_2, p1_3, p1_4, p2_0, p2_1, p2_2, p2_3, p2_4, r5.1, (-1), r5.2.2.1, r5.2.2.2)))))))))))
noncomputable def tp (N : Nat) (p0 : Bs) (p1_0 : Int) (p1_1 : Bs) (p1_2 : List ab) (p1_3 : Bss) (p1_4 : Int) (p2_0 : Int) (p2_1 : Bs) (p2_2 : List ab) (p2_3 : Bss) (p2_4 : Int) (p3 : Int) : Ro := li N p0 p1_0 p1_1 p1_2 p1_3 p1_4 p2_0 p2_1 p2_2 p2_3 p2_4 p3 (fun z => aB N (mI N) z)
noncomputable def auv (N : Nat) : List (Nat × (St → Ro)) := aI ma N tn (fin oB) ++ []
theorem anv (N : Nat) (p0 : Bs) (p1_0 : Int) (p1_1 : Bs) (p1_2 : List ab) (p1_3 : Bss) (p1_4 : Int) (p2_0 : Int) (p2_1 : Bs) (p2_2 : List ab) (p2_3 : Bss) (p2_4 : Int) (p3 : Int) : aE ma N 98 oB tn [.sl .u8 (.may false) p0, .agg [.int .u64 p1_0, .str p1_1, .sl .aval (.may false) p1_2, .sl .str (.may false) p1_3, .int .i64 p1_4], .agg [.int .u64 p2_0, .str p2_1, .sl .aval (.may false) p2_2, .sl .str (.may false) p2_3, .int .i64 p2_4], .int .i64 p3] [] = tp N p0 p1_0 p1_1 p1_2 p1_3 p1_4 p2_0 p2_1 p2_2 p2_3 p2_4 p3 :=
 (bx (auv N) (by kernel_rfl) rfl (fun C => li N p0 p1_0 p1_1 p1_2 p1_3 p1_4 p2_0 p2_1 p2_2 p2_3 p2_4 p3 (fun z => C 1000000 (js z))) (fun C => by kernel_rfl)).trans (Eq.trans (b := li N p0 p1_0 p1_1 p1_2 p1_3 p1_4 p2_0 p2_1 p2_2 p2_3 p2_4 p3 (fun z => aW N (rM N) (js z))) (by kernel_rfl) (congrArg (li N p0 p1_0 p1_1 p1_2 p1_3 p1_4 p2_0 p2_1 p2_2 p2_3 p2_4 p3) (funext fun z => aT (js) (rM N) (mI N) (amk N) N z)))
theorem anw (N : Nat) (p0 : Bs) (p1_0 : Int) (p1_1 : Bs) (p1_2 : List ab) (p1_3 : Bss) (p1_4 : Int) (p2_0 : Int) (p2_1 : Bs) (p2_2 : List ab) (p2_3 : Bss) (p2_4 : Int) (p3 : Int) (h : Tot (tp N p0 p1_0 p1_1 p1_2 p1_3 p1_4 p2_0 p2_1 p2_2 p2_3 p2_4 p3) (fun z => ∃ (y0 : Bool) (rest : List an), z.1.dimR = .bool y0 ∧ z.2 = rest ∧ qL p0 p1_0 p1_1 p1_2 p1_3 p1_4 p2_0 p2_1 p2_2 p2_3 p2_4 p3 (y0))) : ∃ r, ads p0 p1_0 p1_1 p1_2 p1_3 p1_4 p2_0 p2_1 p2_2 p2_3 p2_4 p3 r := by
 obtain ⟨⟨v, hp⟩, hz, y0, rest, e1, e2, hq⟩ := h
 simp only at e1 e2
 subst e2
 exact ⟨(y0), aj.dimR (aq4.pure (anv N p0 p1_0 p1_1 p1_2 p1_3 p1_4 p2_0 p2_1 p2_2 p2_3 p2_4 p3) hz) e1, hq⟩
end Go.Proofs.Ytdpajabhmmmjoaa
end
section
namespace Go.Proofs.Ytdpajabhmmmjoaa
open Go.AM
set_option autoImplicit false
set_option linter.unusedVariables false
set_option linter.unusedSimpArgs false
set_option maxRecDepth 100000
theorem adt (ts : List ac) (t m : Int) (s : List UInt8) (l : List ab) (ks : List (List UInt8)) (b : Int) : ∃ r, mD ts t m s l ks b r := ⟨_, aDf ts t m s l ks b, rfl⟩
theorem adu (m : Int) (s : List UInt8) (l : List ab) (ks : List (List UInt8)) (b : Int) (m2 : Int) (s2 : List UInt8) (l2 : List ab) (ks2 : List (List UInt8)) (b2 : Int) : ∃ r, mE m s l ks b m2 s2 l2 ks2 b2 r := ⟨_, aDi m s l ks b m2 s2 l2 ks2 b2, rfl⟩
theorem ax5 (m : Int) (s : List UInt8) (l : List ab) (ks : List (List UInt8)) (b : Int) : ∃ r, sn m s l ks b r := ⟨_, aDj m s l ks b, rfl⟩
theorem ax6 : ∀ (n : Nat) (m : Int) (s : List UInt8) (l : List ab) (ks : List (List UInt8)) (b : Int), szL l + 1 ≤ n → ∃ r, fH m s l ks b r
 | 0 => fun _ _ _ _ _ h => by omega
 | n + 1 => by
   intro m s l ks b hs
   have hfit : ∀ h : ((∀ x ∈ [V.agg [.int .u64 m, .str s, .sl .aval (.may false) l, .sl .str (.may false) ks, .int .i64 b]], x.fits) → ∃ r, fH m s l ks b r), ∃ r, fH m s l ks b r := fun h => by
    by_cases hl : ∀ x ∈ [V.agg [.int .u64 m, .str s, .sl .aval (.may false) l, .sl .str (.may false) ks, .int .i64 b]], x.fits
    ·exact h hl
    ·exact ⟨0, aj.fits fun h => absurd h hl⟩
   refine hfit fun hf => ?_
   have hl : l.length ≤ 9223372036854775807 := hf (.agg [.int .u64 m, .str s, .sl .aval (.may false) l, .sl .str (.may false) ks, .int .i64 b]) (by simp) (.sl .aval (.may false) l) (by simp)
   refine aus (l.length + 2) _ _ _ _ _ ?_
   unfold vV nN
   dsimp only
   refine bi (fun x => match x with | (n0, t0, l0, k0, c0, c, i) => l0 = l ∧ 0 ≤ i ∧ i ≤ (l.length : Int))
    (fun x => ((l.length : Int) - x.2.2.2.2.2.2).toNat) ?_ _ _ ⟨rfl, by simp, by simp⟩ (by simp)
   rintro again ⟨n0, t0, l0, k0, c0, c, i⟩ ⟨rfl, i1, i2⟩ ih
   dsimp only at ih
   unfold pW
   dsimp only
   refine ah (fun h => ?_) (fun h => ak ⟨_, _, rfl, rfl⟩)
   have h := of_decide_eq_true h
   have ew : IntKind.i64.wrap (i + 1) = i + 1 := ap (i + 1) (by omega)
   have hsz := tu l0 i.toNat (by omega)
   have hsz2 := qa (l0.getD i.toNat (af .aval))
   refine aq (by first | (simp only [bnl, lnl]; done) | (simp only [bnl, lnl]; omega)) ?_
   refine ag (ax6 n _ _ _ _ _ (by omega)) ?_
   rintro c' -
   exact ih (n0, t0, l0, k0, c0, _, _) (by simp only [ew]; exact ⟨trivial, by omega, by omega⟩) (by simp only [ew]; omega)
theorem aDG (m : Int) (s : List UInt8) (l : List ab) (ks : List (List UInt8)) (b : Int) : ∃ r, fH m s l ks b r := ax6 (szL l + 1) m s l ks b (Nat.le_refl _)
theorem ax7 (m : Int) (s : List UInt8) (l : List ab) (ks : List (List UInt8)) (b : Int) : ∃ r, lF m s l ks b r := by
 apply auu 1
 unfold vW ahP
 refine ag (aDG _ _ _ _ _) ?_
 intro r _
 exact ak ⟨_, _, rfl, rfl⟩
theorem aDH : ∃ r, pc r := by
 apply aup 1
 unfold vT ahM
 refine ag (ax5 _ _ _ _ _) ?_
 rintro _ ⟨-, rfl⟩
 refine ag (adt _ _ _ _ _ _ _) ?_
 rintro _ ⟨-, rfl⟩
 refine ah (fun _ => ?_) (fun h => absurd h (by decide))
 refine ag (adt _ _ _ _ _ _ _) ?_
 rintro _ ⟨-, rfl⟩
 refine ah (fun _ => ?_) (fun h => absurd h (by decide))
 refine ag (adu _ _ _ _ _ _ _ _ _ _) ?_
 rintro _ ⟨-, rfl⟩
 refine ah (fun _ => ?_) (fun h => absurd h (by decide))
 refine ag (adu _ _ _ _ _ _ _ _ _ _) ?_
 rintro _ ⟨-, rfl⟩
 refine ah (fun _ => ?_) (fun h => absurd h (by decide))
 refine ah (fun _ => ?_) (fun h => absurd h (by decide))
 exact ak ⟨_, _, rfl, rfl, by unfold tm; decide⟩
mutual
theorem auw : ∀ v : ab, lI v v = true
 | .mk n s l ks b => by simp [lI, ab.n, ab.s, ab.l, ab.keys, ab.branch, aux l]
theorem aux : ∀ l : List ab, f9 l l = true
 | [] => rfl
 | v :: l => by simp [f9, auw v, aux l]
end
theorem aBe {b : Bool} (h : (b == b) = false) : False := by cases b <;> simp at h
theorem aDI {b : Int} (h : (b == b) = false) : False := by simp at h
theorem aBY (p : List UInt8) (n : Int) (s : List UInt8) (l : List ab) (ks : List (List UInt8)) (b : Int) (n2 : Int) (s2 : List UInt8) (l2 : List ab) (ks2 : List (List UInt8)) (b2 : Int) (t : Int) :
  ∃ r, ads p n s l ks b n2 s2 l2 ks2 b2 t r := by
 apply anw 100
 unfold tp li
 refine ag aDH ?_
 rintro r ⟨-, hr⟩
 refine ah (fun h => by rw [hr] at h; cases h) (fun _ => ?_)
 refine ah (fun _ => ak ⟨_, _, rfl, rfl, rfl⟩) (fun hp => ?_)
 have hp := of_decide_eq_false hp
 refine ag (ax7 _ _ _ _ _) ?_
 intro r1 _
 refine ah (fun _ => ak ⟨_, _, rfl, rfl, rfl⟩) (fun _ => ?_)
 refine ag (ax7 _ _ _ _ _) ?_
 intro r2 _
 refine ah (fun _ => ak ⟨_, _, rfl, rfl, rfl⟩) (fun _ => ?_)
 refine ag (aD7 _) ?_
 rintro _ ⟨-, rfl⟩
 refine ag (aEb _ _ ⟨by simp, by simp, by dsimp only; omega⟩) ?_
 rintro ⟨ts, is, a', n'⟩ ⟨-, h1, h2, h3⟩
 dsimp only at h1 h2 h3 ⊢
 refine ah (fun _ => ak ⟨_, _, rfl, rfl, rfl⟩) (fun his => ?_)
 simp only [bnl] at his
 have hs := h1 his
 have h60 := hs.1
 refine bi (fun x => match x with | (t', m, s', l', k', c, m2, s2', l2', k2', c2, ts', i, aa, nn) => t' = t ∧ ts' = ts ∧ m = n ∧ s' = s ∧ l' = l ∧ k' = ks ∧ c = b ∧ m2 = n2 ∧ s2' = s2 ∧ l2' = l2 ∧ k2' = ks2 ∧ c2 = b2 ∧ -1 ≤ i ∧ i ≤ (ts.length : Int) + 1)
  (fun x => ((ts.length : Int) + 1 - x.2.2.2.2.2.2.2.2.2.2.2.2.1).toNat) ?_ _ _ ⟨rfl, rfl, rfl, rfl, rfl, rfl, rfl, rfl, rfl, rfl, rfl, rfl, Int.le_refl _, by omega⟩ (by simp only; omega)
 rintro again ⟨t', m, s', l', k', c, m2, s2', l2', k2', c2, ts', i, aa, nn⟩ ⟨rfl, rfl, rfl, rfl, rfl, rfl, rfl, rfl, rfl, rfl, rfl, rfl, i1, i2⟩ ih
 dsimp only at ih
 unfold mI
 dsimp only
 refine ah (fun h => ?_) (fun h => ?_)
 ·have h := of_decide_eq_true h
  refine ag (adt _ _ _ _ _ _ _) ?_
  rintro _ ⟨-, rfl⟩
  refine ag (ax4 _ hs _ _ _ _ _ _) ?_
  rintro _ ⟨-, rfl⟩
  have ew : IntKind.i64.wrap (i + 1) = i + 1 := ap (i + 1) (by omega)
  refine ah (fun hb => by exfalso; simp at hb) (fun _ => ?_)
  exact ih (t', m, s', l', k', c, m2, s2', l2', k2', c2, ts', _, aa, nn) (by simp only [ew]; exact ⟨trivial, trivial, trivial, trivial, trivial, trivial, trivial, trivial, trivial, trivial, trivial, trivial, by omega, by omega⟩) (by simp only [ew]; omega)
 ·refine ag (ax5 _ _ _ _ _) ?_
  rintro _ ⟨-, rfl⟩
  refine ag (aDF _ _ _ _ _) ?_
  rintro _ ⟨-, rfl⟩
  refine ag (adt _ _ _ _ _ _ _) ?_
  rintro _ ⟨-, rfl⟩
  refine ag (ax4 _ hs _ _ _ _ _ _) ?_
  rintro _ ⟨-, rfl⟩
  refine ah (fun _ => ?_) (fun h => (aBe h).elim)
  refine ag (adu _ _ _ _ _ _ _ _ _ _) ?_
  rintro _ ⟨-, rfl⟩
  refine ag (aDC _ _ _ _ _ _ _ _ _ _) ?_
  rintro _ ⟨-, rfl⟩
  refine ah (fun _ => ?_) (fun h => (aBe h).elim)
  refine ag (adu _ _ _ _ _ _ _ _ _ _) ?_
  rintro _ ⟨-, rfl⟩
  refine ah (fun _ => ?_) (fun h => absurd (h.symm.trans (auw _)) (by decide))
  refine ah (fun _ => ?_) (fun h => (aDI h).elim)
  exact ak ⟨_, _, rfl, rfl, by simp [qL]⟩
theorem aBf (p : List UInt8) (n : Int) (s : List UInt8) (l : List ab) (ks : List (List UInt8)) (b : Int) (n2 : Int) (s2 : List UInt8) (l2 : List ab) (ks2 : List (List UInt8)) (b2 : Int) (t : Int) :
  aj Try.prog uZ [.sl .u8 (.may false) p, .agg [.int .u64 n, .str s, .sl .aval (.may false) l, .sl .str (.may false) ks, .int .i64 b], .agg [.int .u64 n2, .str s2, .sl .aval (.may false) l2, .sl .str (.may false) ks2, .int .i64 b2], .int .i64 t] (.bool true) := by
 obtain ⟨r, h, rfl⟩ := aBY p n s l ks b n2 s2 l2 ks2 b2 t
 exact h
end Go.Proofs.Ytdpajabhmmmjoaa
end
