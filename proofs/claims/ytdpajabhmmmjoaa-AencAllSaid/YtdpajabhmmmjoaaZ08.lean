import Derived.KernelRfl
import Derived.Test.YtdpajabhmmmjoaaZ02
import Derived.Test.YtdpajabhmmmjoaaZ03
import Derived.Test.YtdpajabhmmmjoaaZ06
import Derived.Test.YtdpajabhmmmjoaaZ07
noncomputable section
namespace Go.Proofs.Ytdpajabhmmmjoaa
open Go.AM
set_option autoImplicit false
set_option linter.unusedVariables false
set_option linter.unusedSimpArgs false
set_option maxRecDepth 100000
theorem acq : ∀ l : List (List UInt8), 10 * l.length ≤ cL l
 | [] => by simp
 | k :: l => by have := acq l; simp only [cL, List.length_cons]; omega
theorem afC (d : aB) : ∀ (l : List aB) (i : Nat), i < l.length → wV (l.getD i d) ≤ wL l
 | [], i, h => by simp at h
 | v :: l, 0, h => by simp only [List.getD_cons_zero, wL]; omega
 | v :: l, i + 1, h => by have := afC d l i (by simpa using h); simp only [List.getD_cons_succ, wL]; omega
theorem avv (d w : aB) : ∀ (l : List aB) (i : Nat), i < l.length → wL (l.set i w) + wV (l.getD i d) = wL l + wV w
 | [], i, h => by simp at h
 | v :: l, 0, h => by simp only [List.set_cons_zero, List.getD_cons_zero, wL]; omega
 | v :: l, i + 1, h => by have := avv d w l i (by simpa using h); simp only [List.set_cons_succ, List.getD_cons_succ, wL]; omega
theorem adt (d w : List UInt8) : ∀ (l : List (List UInt8)) (i : Nat), i < l.length → cL (l.set i w) + (l.getD i d).length = cL l + w.length
 | [], i, h => by simp at h
 | v :: l, 0, h => by simp only [List.set_cons_zero, List.getD_cons_zero, cL]; omega
 | v :: l, i + 1, h => by have := adt d w l i (by simpa using h); simp only [List.set_cons_succ, List.getD_cons_succ, cL]; omega
theorem avw : ∀ (l : List aB) (i : Nat), wL (l.drop i) ≤ wL l
 | [], i => by simp
 | v :: l, 0 => by simp
 | v :: l, i + 1 => by have := avw l i; simp only [List.drop_succ_cons, wL]; omega
theorem aom : ∀ (m : Nat) (v : aB) (how n : Int), 0 ≤ how ∧ how ≤ 255 → 0 ≤ n → how < m → wV v ≤ 10000000000000 → ∃ r, jt v how n r
 | 0 => fun v how n h1 h2 h3 => by omega
 | m + 1 => by
   intro v how n hh hn hm hw
   obtain ⟨n0, s0, l0, ks0, b0⟩ := v
   have w1 := ajQ l0
   have w2 := acq ks0
   have hw' : 40 + s0.length + cL ks0 + wL l0 ≤ 10000000000000 := by simpa only [wV] using hw
   apply amB 100000000000000
   unfold xK nC
   simp only [aB.n, aB.s, aB.l, aB.keys, aB.branch, List.nil_append]
   have done : ∀ (x0 : Int) (x1 : List UInt8) (x2 : List aB) (x3 : List (List UInt8)) (x4 : Int), x1.length + cL x3 + wL x2 ≤ s0.length + cL ks0 + wL l0 + 100 → ik (.mk n0 s0 l0 ks0 b0) how n (.mk x0 x1 x2 x3 x4) := fun x0 x1 x2 x3 x4 h => by
    simp only [ik, wV]; omega
   have one : ∀ (c0 : Int) (c1 : List UInt8) (c2 : List aB) (c3 : List (List UInt8)) (c4 : Int), Tot (mw 100000000000000 (n, c0, c1, c2, c3, c4, n0, s0, l0, ks0, b0)) (fun z => ∃ (y0 : aB) (rest : List aK), z.1.dimR = .agg (enc .aval y0) ∧ z.2 = rest ∧ ik (.mk n0 s0 l0 ks0 b0) how n y0) := by
    intro c0 c1 c2 c3 c4
    unfold mw oF
    dsimp only
    refine aF (fun _ => aG ⟨.mk _ s0 l0 ks0 b0, _, rfl, rfl, done _ _ _ _ _ (by omega)⟩) (fun _ => aF (fun _ => vck (aG ⟨.mk n0 (s0 ++ [255]) l0 ks0 b0, _, rfl, rfl, done _ _ _ _ _ (by simp; omega)⟩)) (fun _ => aF (fun _ => vck (aG ⟨.mk n0 s0 (l0 ++ [.mk 0 [] [] [] 0]) ks0 b0, _, rfl, rfl, done _ _ _ _ _ ?_⟩)) (fun _ =>
     aF (fun _ => vck (aG ⟨.mk n0 s0 l0 (ks0 ++ [[97]]) b0, _, rfl, rfl, done _ _ _ _ _ ?_⟩)) (fun _ => aF (fun _ => aG ⟨.mk n0 s0 l0 ks0 _, _, rfl, rfl, done _ _ _ _ _ (by omega)⟩) (fun _ => aF (fun _ => aF (fun h => ?_) (fun _ => aG ⟨.mk n0 s0 l0 ks0 b0, _, rfl, rfl, done _ _ _ _ _ (by omega)⟩)) (fun _ => ?_))))))
    ·rw [aca]; simp [wL, wV, cL]; omega
    ·rw [agj]; simp [cL]; omega
    ·have h := of_decide_eq_true h
     refine vck (aG ⟨.mk n0 s0 _ ks0 b0, _, rfl, rfl, done _ _ _ _ _ ?_⟩)
     have := avw (List.take l0.length l0) 1
     rw [List.take_length] at this ⊢
     have e : Int.toNat 1 = 1 := rfl
     rw [e]; omega
    ·refine be (fun x => match x with | (i, k, c0, c1, c2, c3, c4, d0, d1, d2, d3, d4) => 0 ≤ i ∧ k ≤ (ks0.length : Int) - 1 ∧ -1 ≤ k ∧ i ≤ (ks0.length : Int) ∧ d1 = s0 ∧ d2 = l0 ∧ d3.length = ks0.length ∧ cL d3 = cL ks0)
      (fun x => (x.2.1 - x.1).toNat) ?_ _ _ ⟨by simp, ?_, ?_, by simp, rfl, rfl, rfl, rfl⟩ ?_
     ·rintro again ⟨i, k, c0, c1, c2, c3, c4, d0, d1, d2, d3, d4⟩ ⟨i1, i2, i3, i4, rfl, rfl, i5, i6⟩ ih
      dsimp only at ih
      unfold mv
      dsimp only
      refine aF (fun h => ?_) (fun h => aG ⟨.mk d0 d1 d2 d3 d4, _, rfl, rfl, done _ _ _ _ _ (by omega)⟩)
      have h := of_decide_eq_true h
      have e1 : IntKind.i64.wrap (i + 1) = i + 1 := aJ (i + 1) (by omega)
      have e2 : IntKind.i64.wrap (k - 1) = k - 1 := aJ (k - 1) (by omega)
      refine vck (vck (vck (vck (vck (vck (vck (vck (vck (vck ?_)))))))))
      refine ih (_, _, c0, c1, c2, c3, c4, d0, d1, d2, _, d4) ?_ (by simp only [e1, e2]; omega)
      simp only [e1, e2]
      have k1 := adt [] (d3.getD k.toNat []) d3 i.toNat (by omega)
      have k2 := adt [] (d3.getD i.toNat []) (d3.set i.toNat (d3.getD k.toNat [])) k.toNat (by simp; omega)
      rw [jo _ _ _ _ _ (show i.toNat ≠ k.toNat by omega)] at k2
      refine ⟨by omega, by omega, by omega, by omega, trivial, trivial, by simp; omega, ?_⟩
      have k3 : cL ((d3.set i.toNat (d3.getD k.toNat [])).set k.toNat (d3.getD i.toNat [])) = cL ks0 := by omega
      exact k3
     all_goals (try simp only)
     all_goals (rw [aJ _ (by omega)]; omega)
   have zero : ∀ (f : Bool), (f = true → 0 < l0.length ∧ 0 < how) → Tot (qC 100000000000000 (how, n, f, 0, [], [], [], 0, n0, s0, l0, ks0, b0)) (fun z => ∃ (y0 : aB) (rest : List aK), z.1.dimR = .agg (enc .aval y0) ∧ z.2 = rest ∧ ik (.mk n0 s0 l0 ks0 b0) how n y0) := by
    intro f hf
    unfold qC oG
    dsimp only
    refine aF (fun h => ?_) (fun h => one _ _ _ _ _)
    obtain ⟨f1, f2⟩ := hf h
    have e1 : Int.tdiv how 3 = how / 3 := Int.tdiv_eq_ediv_of_nonneg hh.1
    have e2 : IntKind.u8.wrap (how / 3) = how / 3 := lp _ (by omega)
    have e3 : IntKind.i64.wrap (how / 3) = how / 3 := aJ _ (by omega)
    have e4 : Int.tmod (how / 3) (l0.length : Int) = (how / 3) % (l0.length : Int) := Int.tmod_eq_emod_of_nonneg (by omega)
    rw [e1, e2, e3, e4]
    have m1 : 0 ≤ (how / 3) % (l0.length : Int) := Int.emod_nonneg _ (by omega)
    have m2 : (how / 3) % (l0.length : Int) < (l0.length : Int) := Int.emod_lt_of_pos _ (by omega)
    generalize (how / 3) % (l0.length : Int) = j at m1 m2
    have hj : j.toNat < l0.length := by omega
    refine aU (by rw [bf (by omega)]; rfl) (vck (vck (vck ?_)))
    rw [eu]
    have q1 := afC (aC .aval) l0 j.toNat hj
    refine aD (aom m _ (how / 3) n (by omega) hn (by omega) (by omega)) ?_
    rintro (r : aB) ⟨-, hr⟩
    have hr : wV r ≤ wV (l0.getD j.toNat (aC .aval)) + 100 := hr
    have q2 := avv (aC .aval) r l0 j.toNat hj
    refine vck (vck (vck (aG ⟨.mk n0 s0 (l0.set j.toNat (reA r)) ks0 b0, _, rfl, rfl, done _ _ _ _ _ ?_⟩)))
    rw [eu]; omega
   refine vck (vck (aF (fun h => zero _ fun h' => ?_) (fun h => zero _ fun h' => by cases h')))
   have h := of_decide_eq_true h
   have h' := of_decide_eq_true h'
   have e4 : Int.tmod how 3 = how % 3 := Int.tmod_eq_emod_of_nonneg hh.1
   rw [e4] at h'
   exact ⟨by omega, by omega⟩
theorem awb (v : aB) (how n : Int) (h : 0 ≤ how ∧ how ≤ 255) (hn : 0 ≤ n) (hw : wV v ≤ 10000000000000) : ∃ r, jt v how n r := aom 256 v how n h hn (by omega) hw
theorem aw1 (ts : List aA) (t : Int) (v : aB) : ∃ r, zl ts t v r := by
 obtain ⟨n, s, l, ks, b⟩ := v
 exact ⟨_, awE ts t n s l ks b, rfl⟩
end Go.Proofs.Ytdpajabhmmmjoaa
end
noncomputable section
namespace Go.Proofs.Ytdpajabhmmmjoaa
open Go.AM
set_option autoImplicit false
set_option linter.unusedVariables false
def yn (v : Int) (r : List UInt8) : Prop := r = af2 v
def vE (v r : Int) : Prop := r = yA v
def ajS (k v r : Int) : Prop := k = 8 → r = yA v
def aaH (v n : Int) (r : List UInt8) : Prop := r = jz v n
def xL (n : Int) (r : List UInt8) : Prop := r = cd n
def uv (ts : List aA) (t : Int) (v : aB) (r : List UInt8) : Prop := r = bu ts t v
def uw (ts : List aA) (t : Int) (v : aB) (r : List UInt8 × Int) : Prop := r = adK ts t v
def zT (v : Int) (r : List UInt8) : Prop := r = af2 v
def ajT (k v r : Int) : Prop := k = 8 → r = yA v
def yV (n : Int) (r : List UInt8) : Prop := r = cd n
def adu (v n : Int) (r : List UInt8) : Prop := r = jz v n
def afD (s r : List UInt8) : Prop := r = rS s
def xM (ts : List aA) (k : aA) (v : aB) (r : List UInt8) : Prop := r = aey ts k.kind k.items v.keys v.l
def adv (ts : List aA) (t : Int) (v : aB) (r : List UInt8) : Prop := r = bu ts t v
def wc (ts : List aA) (t : Int) (v : aB) (r : List UInt8 × Int) : Prop := r = adK ts t v
def acr (r : Bool) : Prop := r = true
def zU (picks p : List UInt8) (how n t : Int) (r : Bool) : Prop := r = true
end Go.Proofs.Ytdpajabhmmmjoaa
end
noncomputable section
namespace Go.Proofs.Ytdpajabhmmmjoaa
open Go.AM
set_option autoImplicit false
set_option linter.unusedVariables false
set_option maxRecDepth 100000
abbrev ahA : FuncId := 37
abbrev ajU : FuncId := 104
abbrev ajV : FuncId := 107
abbrev als : FuncId := 105
abbrev alt : FuncId := 106
abbrev ajW : FuncId := 70
abbrev aqY : FuncId := 135
abbrev xN : FuncId := 11
abbrev ahB : FuncId := 36
abbrev aon : FuncId := 108
abbrev acs : FuncId := 136
abbrev aqZ : FuncId := 137
abbrev ash : FuncId := 156
abbrev aoo : FuncId := 157
abbrev afE : FuncId := 38
abbrev ajX : FuncId := 109
abbrev afF : FuncId := 71
abbrev adw : FuncId := 134
abbrev aop := Bool
noncomputable def adx (a0 a1 : Bs) (a2 a3 a4 : Int) (r : aop) : Prop := aI Try.prog xN [.sl .u8 (.may false) a0, .sl .u8 (.may false) a1, .int .u8 a2, .int .u64 a3, .int .i64 a4] (.bool r) ∧ zU a0 a1 a2 a3 a4 r
abbrev asi := Bool
noncomputable def rh  (r : asi) : Prop := aI Try.prog ahB [] (.bool r) ∧ acr  r
noncomputable def asj : cb Try.prog := ⟨36, fun us => match us with
 | [] => let r := pick rh; some (can rh, .bool r)
 | _ => none, by
 intro _ _ h; split at h; exact bo h (fun h => h.1.dim rfl) rfl rfl; cases h⟩
abbrev ask := Bs × Int
noncomputable def fT (a0_0 : List aA) (a1 : Int) (a2 : aB) (r : ask) : Prop := aI Try.prog ahA [.agg [.sl .atype (.may false) a0_0], .int .i64 a1, .agg (enc .aval a2)] (.tup [.sl .u8 (.may false) r.1, .int .i64 r.2]) ∧ wc a0_0 a1 a2 r
noncomputable def ahC : cb Try.prog := ⟨37, fun us => match us with
 | [.agg [.sl .atype (.may _) a0_0], .int .i64 a1, .agg [.int .u64 a2_0, .str a2_1, .sl .aval (.may _) a2_2, .sl .str (.may _) a2_3, .int .i64 a2_4]] => let r := pick (fT a0_0 a1 (⟨a2_0, a2_1, a2_2, a2_3, a2_4⟩)); some (can (fT a0_0 a1 (⟨a2_0, a2_1, a2_2, a2_3, a2_4⟩)), .tup [.sl .u8 (.may false) r.1, .int .i64 r.2])
 | _ => none, by
 intro _ _ h; split at h; exact bo h (fun h => h.1.dim rfl) rfl rfl; cases h⟩
abbrev aqg := Bs × Int
noncomputable def ju (a0_0 : List aA) (a1 : Int) (a2 : aB) (r : aqg) : Prop := aI Try.prog afE [.agg [.sl .atype (.may false) a0_0], .int .i64 a1, .agg (enc .aval a2)] (.tup [.sl .u8 (.may false) r.1, .int .i64 r.2]) ∧ uw a0_0 a1 a2 r
noncomputable def aqh : cb Try.prog := ⟨38, fun us => match us with
 | [.agg [.sl .atype (.may _) a0_0], .int .i64 a1, .agg [.int .u64 a2_0, .str a2_1, .sl .aval (.may _) a2_2, .sl .str (.may _) a2_3, .int .i64 a2_4]] => let r := pick (ju a0_0 a1 (⟨a2_0, a2_1, a2_2, a2_3, a2_4⟩)); some (can (ju a0_0 a1 (⟨a2_0, a2_1, a2_2, a2_3, a2_4⟩)), .tup [.sl .u8 (.may false) r.1, .int .i64 r.2])
 | _ => none, by
 intro _ _ h; split at h; exact bo h (fun h => h.1.dim rfl) rfl rfl; cases h⟩
abbrev at0 := Bs
noncomputable def ia (a0_0 : List aA) (a1 : Int) (a2 : aB) (r : at0) : Prop := aI Try.prog ajW [.agg [.sl .atype (.may false) a0_0], .int .i64 a1, .agg (enc .aval a2)] (.str r) ∧ adv a0_0 a1 a2 r
noncomputable def acu : cb Try.prog := ⟨70, fun us => match us with
 | [.agg [.sl .atype (.may _) a0_0], .int .i64 a1, .agg [.int .u64 a2_0, .str a2_1, .sl .aval (.may _) a2_2, .sl .str (.may _) a2_3, .int .i64 a2_4]] => let r := pick (ia a0_0 a1 (⟨a2_0, a2_1, a2_2, a2_3, a2_4⟩)); some (can (ia a0_0 a1 (⟨a2_0, a2_1, a2_2, a2_3, a2_4⟩)), .str r)
 | _ => none, by
 intro _ _ h; split at h; exact bo h (fun h => h.1.dim rfl) rfl rfl; cases h⟩
abbrev aqi := Bs
noncomputable def eR (a0_0 : List aA) (a1 : Int) (a2 : aB) (r : aqi) : Prop := aI Try.prog afF [.agg [.sl .atype (.may false) a0_0], .int .i64 a1, .agg (enc .aval a2)] (.str r) ∧ uv a0_0 a1 a2 r
noncomputable def afG : cb Try.prog := ⟨71, fun us => match us with
 | [.agg [.sl .atype (.may _) a0_0], .int .i64 a1, .agg [.int .u64 a2_0, .str a2_1, .sl .aval (.may _) a2_2, .sl .str (.may _) a2_3, .int .i64 a2_4]] => let r := pick (eR a0_0 a1 (⟨a2_0, a2_1, a2_2, a2_3, a2_4⟩)); some (can (eR a0_0 a1 (⟨a2_0, a2_1, a2_2, a2_3, a2_4⟩)), .str r)
 | _ => none, by
 intro _ _ h; split at h; exact bo h (fun h => h.1.dim rfl) rfl rfl; cases h⟩
abbrev at1 := Bs
noncomputable def my (a0 a1 : Int) (r : at1) : Prop := aI Try.prog ajU [.int .u64 a0, .int .i64 a1] (.str r) ∧ adu a0 a1 r
noncomputable def at2 : cb Try.prog := ⟨104, fun us => match us with
 | [.int .u64 a0, .int .i64 a1] => let r := pick (my a0 a1); some (can (my a0 a1), .str r)
 | _ => none, by
 intro _ _ h; split at h; exact bo h (fun h => h.1.dim rfl) rfl rfl; cases h⟩
abbrev au0 := Bs
noncomputable def fR (a0 : Int) (r : au0) : Prop := aI Try.prog als [.int .i64 a0] (.str r) ∧ yV a0 r
noncomputable def aeg : cb Try.prog := ⟨105, fun us => match us with
 | [.int .i64 a0] => let r := pick (fR a0); some (can (fR a0), .str r)
 | _ => none, by
 intro _ _ h; split at h; exact bo h (fun h => h.1.dim rfl) rfl rfl; cases h⟩
abbrev au1 := Bs
noncomputable def oj (a0 : Bs) (r : au1) : Prop := aI Try.prog alt [.str a0] (.str r) ∧ afD a0 r
noncomputable def alu : cb Try.prog := ⟨106, fun us => match us with
 | [.str a0] => let r := pick (oj a0); some (can (oj a0), .str r)
 | _ => none, by
 intro _ _ h; split at h; exact bo h (fun h => h.1.dim rfl) rfl rfl; cases h⟩
abbrev at3 := Bs
noncomputable def pL (a0_0 : List aA) (a1 : aA) (a2 : aB) (r : at3) : Prop := aI Try.prog ajV [.agg [.sl .atype (.may false) a0_0], .agg (enc .atype a1), .agg (enc .aval a2)] (.str r) ∧ xM a0_0 a1 a2 r
noncomputable def at4 : cb Try.prog := ⟨107, fun us => match us with
 | [.agg [.sl .atype (.may _) a0_0], .agg [.int .i64 a1_0, .str a1_1, .sl .str (.may _) a1_2, .int .i64 a1_3, .sl .str (.may _) a1_4, .bool a1_5, .str a1_6, .int .i64 a1_7, .sl .afield (.may _) a1_8, .sl (.num .i64) (.may _) a1_9], .agg [.int .u64 a2_0, .str a2_1, .sl .aval (.may _) a2_2, .sl .str (.may _) a2_3, .int .i64 a2_4]] => let r := pick (pL a0_0 (⟨a1_0, a1_1, a1_2, a1_3, a1_4, a1_5, a1_6, a1_7, a1_8, a1_9⟩) (⟨a2_0, a2_1, a2_2, a2_3, a2_4⟩)); some (can (pL a0_0 (⟨a1_0, a1_1, a1_2, a1_3, a1_4, a1_5, a1_6, a1_7, a1_8, a1_9⟩) (⟨a2_0, a2_1, a2_2, a2_3, a2_4⟩)), .str r)
 | _ => none, by
 intro _ _ h; split at h; exact bo h (fun h => h.1.dim rfl) rfl rfl; cases h⟩
abbrev awc := Bs
noncomputable def qD (a0 a1 : Int) (r : awc) : Prop := aI Try.prog aon [.int .u64 a0, .int .i64 a1] (.str r) ∧ aaH a0 a1 r
noncomputable def awd : cb Try.prog := ⟨108, fun us => match us with
 | [.int .u64 a0, .int .i64 a1] => let r := pick (qD a0 a1); some (can (qD a0 a1), .str r)
 | _ => none, by
 intro _ _ h; split at h; exact bo h (fun h => h.1.dim rfl) rfl rfl; cases h⟩
abbrev at5 := Bs
noncomputable def de (a0 : Int) (r : at5) : Prop := aI Try.prog ajX [.int .i64 a0] (.str r) ∧ xL a0 r
noncomputable def at6 : cb Try.prog := ⟨109, fun us => match us with
 | [.int .i64 a0] => let r := pick (de a0); some (can (de a0), .str r)
 | _ => none, by
 intro _ _ h; split at h; exact bo h (fun h => h.1.dim rfl) rfl rfl; cases h⟩
abbrev aoq := Bs
noncomputable def nD (a0 : Int) (r : aoq) : Prop := aI Try.prog adw [.int .u64 a0] (.str r) ∧ zT a0 r
noncomputable def aor : cb Try.prog := ⟨134, fun us => match us with
 | [.int .u64 a0] => let r := pick (nD a0); some (can (nD a0), .str r)
 | _ => none, by
 intro _ _ h; split at h; exact bo h (fun h => h.1.dim rfl) rfl rfl; cases h⟩
abbrev aw2 := Int
noncomputable def zV (a0 a1 : Int) (r : aw2) : Prop := aI Try.prog aqY [.int .i64 a0, .int .u64 a1] (.int .u64 r) ∧ ajT a0 a1 r
noncomputable def aw3 : cb Try.prog := ⟨135, fun us => match us with
 | [.int .i64 a0, .int .u64 a1] => let r := pick (zV a0 a1); some (can (zV a0 a1), .int .u64 r)
 | _ => none, by
 intro _ _ h; split at h; exact bo h (fun h => h.1.dim rfl) rfl rfl; cases h⟩
abbrev amC := Bs
noncomputable def fU (a0 : Int) (r : amC) : Prop := aI Try.prog acs [.int .u64 a0] (.str r) ∧ yn a0 r
noncomputable def acv : cb Try.prog := ⟨136, fun us => match us with
 | [.int .u64 a0] => let r := pick (fU a0); some (can (fU a0), .str r)
 | _ => none, by
 intro _ _ h; split at h; exact bo h (fun h => h.1.dim rfl) rfl rfl; cases h⟩
abbrev aw4 := Int
noncomputable def zW (a0 a1 : Int) (r : aw4) : Prop := aI Try.prog aqZ [.int .i64 a0, .int .u64 a1] (.int .u64 r) ∧ ajS a0 a1 r
noncomputable def aw5 : cb Try.prog := ⟨137, fun us => match us with
 | [.int .i64 a0, .int .u64 a1] => let r := pick (zW a0 a1); some (can (zW a0 a1), .int .u64 r)
 | _ => none, by
 intro _ _ h; split at h; exact bo h (fun h => h.1.dim rfl) rfl rfl; cases h⟩
abbrev asl := Int
noncomputable def ri (a0 : Int) (r : asl) : Prop := aI Try.prog ash [.int .u64 a0] (.int .u64 r)
noncomputable def asm : cb Try.prog := ⟨156, fun us => match us with
 | [.int .u64 a0] => let r := pick (ri a0); some (can (ri a0), .int .u64 r)
 | _ => none, by
 intro _ _ h; split at h; exact bo h (fun h => h.dim rfl) rfl rfl; cases h⟩
abbrev awe := Int
noncomputable def tV (a0 : Int) (r : awe) : Prop := aI Try.prog aoo [.int .u64 a0] (.int .u64 r) ∧ vE a0 r
noncomputable def awf : cb Try.prog := ⟨157, fun us => match us with
 | [.int .u64 a0] => let r := pick (tV a0); some (can (tV a0), .int .u64 r)
 | _ => none, by
 intro _ _ h; split at h; exact bo h (fun h => h.1.dim rfl) rfl rfl; cases h⟩
end Go.Proofs.Ytdpajabhmmmjoaa
end
noncomputable section
namespace Go.Proofs.Ytdpajabhmmmjoaa
open Go.AM
set_option autoImplicit false
set_option linter.unusedVariables false
set_option maxRecDepth 100000
noncomputable def acw : aN := tab (P := Try.prog) [] [] [] [acv]
def abj : IR := Rs [Ms 2 []] (Sq (Rs [Mv 3 0, Pp (.bin 4 .lss 3 (kU 128))] (Cn 4 (Rs [Mv 5 0, Pp (.cvi 6 .u8 5), Pp (.bsl 7 .u8 [6] true), Pp (.b2s 8 7), Mv 2 8] .ret) .skip)) (Sq (.reg [Mv 9 0, Pp (.bin 10 .rem 9 (kU 128)), Pp (.cvi 11 .u8 10), Pp (.bin 12 .add 11 (.c (.int .u8 128))), Pp (.bsl 13 .u8 [12] true), Pp (.b2s 14 13), Mv 15 0, Pp (.bin 16 .quo 15 (kU 128)), Ca 17 136 [16], Bi 18 .add 14 17, Mv 2 18] [[], [0], [0, 1], [0, 1, 2], rg 0 3, rg 0 4, [], [6], [6, 7], rg 0 8, rg 0 9]) .ret))
def abk : List RV := [.t 2]
theorem akK : FnC Try.prog acw [] 0 acs Try.f136 abj abk := fnC (by kernel_rfl) Try.func136 (by kernel_rfl) (by kernel_rfl) (by decide)
def abl (N : Nat) (p0 : Int)  : Ro :=
 cond (decide (p0 < 128)) (
  some (.str ([(UInt8.ofNat (Int.toNat (IntKind.wrap .u8 p0)))] : Bs), [])) (
  let x1 : Int := (IntKind.wrap .u8 (Int.tmod p0 128))
  let x2 : Int := (IntKind.wrap .u8 (x1 + 128))
  let x3 : Int := (IntKind.wrap .u64 (Int.tdiv p0 128))
  aH (fU x3) (fun (r1 : Bs) =>
   chk (decide (List.length ([(UInt8.ofNat (Int.toNat x2))] : Bs) + List.length r1 ≤ 9223372036854775807)) (
    let x4 : Bs := (([(UInt8.ofNat (Int.toNat x2))] : Bs) ++ r1)
    some (.str x4, []))))
def uz (N : Nat) (p0 : Int) : Ro := abl N p0
theorem ajY (N : Nat) (p0 : Int) : aW acw N 19 abk abj [.int .u64 p0] [] = uz N p0 := by kernel_rfl
theorem ajZ (N : Nat) (p0 : Int) (h : Tot (uz N p0) (fun z => ∃ (y0 : Bs) (rest : List aK), z.1.dimR = .str y0 ∧ z.2 = rest ∧ yn p0 (y0))) : ∃ r, fU p0 r := by
 obtain ⟨⟨v, hp⟩, hz, y0, rest, e1, e2, hq⟩ := h
 simp only at e1 e2
 subst e2
 exact ⟨(y0), aI.dimR (akK.pure (ajY N p0) hz) e1, hq⟩
noncomputable def aos : aN := tab (P := Try.prog) [] [] [] []
def alv : IR := Rs [Pp (.mov 2 (kU 0))] (Sq (Rs [Mv 3 0, Pp (.bin 4 .geq 3 (kU 9223372036854775808))] (Cn 4 (Rs [Mv 5 0, Pp (.un 6 .xor 5), Pp (.bin 7 .mul 6 (kU 2)), Pp (.bin 8 .add 7 (kU 1)), Mv 2 8] .ret) .skip)) (Rs [Mv 9 0, Pp (.bin 10 .mul 9 (kU 2)), Mv 2 10] .ret))
def alw : List RV := [.t 2]
theorem au2 : FnC Try.prog aos [] 0 aoo Try.f157 alv alw := fnC (by kernel_rfl) Try.func157 (by kernel_rfl) (by kernel_rfl) (by decide)
def alx (N : Nat) (p0 : Int)  : Ro :=
 let x1 : Bool := decide (9223372036854775808 ≤ p0)
 cond x1 (
  let x2 : Int := (bH .xor .u64 (if IntKind.signed .u64 then -1 else IntKind.max .u64) p0)
  let x3 : Int := (IntKind.wrap .u64 (x2 * 2))
  let x4 : Int := (IntKind.wrap .u64 (x3 + 1))
  some (.int .u64 x4, [])) (
  let x5 : Int := (IntKind.wrap .u64 (p0 * 2))
  some (.int .u64 x5, []))
def aeh (N : Nat) (p0 : Int) : Ro := alx N p0
theorem at7 (N : Nat) (p0 : Int) : aW aos N 11 alw alv [.int .u64 p0] [] = aeh N p0 := by kernel_rfl
theorem at8 (N : Nat) (p0 : Int) (h : Tot (aeh N p0) (fun z => ∃ (y0 : Int) (rest : List aK), z.1.dimR = .int .u64 y0 ∧ z.2 = rest ∧ vE p0 (y0))) : ∃ r, tV p0 r := by
 obtain ⟨⟨v, hp⟩, hz, y0, rest, e1, e2, hq⟩ := h
 simp only at e1 e2
 subst e2
 exact ⟨(y0), aI.dimR (au2.pure (at7 N p0) hz) e1, hq⟩
noncomputable def aq0 : aN := tab (P := Try.prog) [] [] [] [asm, awf]
def aot : IR := Rs [Pp (.mov 4 (kU 0))] (Sq (Rs [Mv 5 0] (.block 0 (Sq (Rs [Bc 7 .eql 5 3, Mv 6 7] (Cn 6 .skip (Rg [Bc 8 .eql 5 17, Mv 6 8]))) (Cn 6 (Rs [Mv 9 1, Ca 10 156 [9], Mv 4 10] .ret) (Sq (Rs [Bc 12 .eql 5 5, Mv 11 12] (Cn 11 .skip (Rs [Bc 13 .eql 5 9, Mv 11 13] (Cn 11 .skip (Rs [Bc 14 .eql 5 2, Mv 11 14] (Cn 11 .skip (Rg [Bc 15 .eql 5 11, Mv 11 15]))))))) (Cn 11 (Rs [Mv 16 1, Pp (.bin 17 .rem 16 (kU 4294967296)), Mv 4 17] .ret) (Rs [Bc 19 .eql 5 13, Mv 18 19] (Cn 18 (Rs [Mv 20 1, Pp (.mx 21 true 20 (kU 1)), Mv 4 21] .ret) (Rs [Bc 23 .eql 5 7, Mv 22 23] (Cn 22 (Rs [Mv 24 1, Ca 25 156 [24], Ca 26 157 [25], Pp (.bin 27 .rem 26 (kU 4294967296)), Mv 4 27] .ret) (Rs [Bc 29 .eql 5 8, Mv 28 29] (Cn 28 (Rs [Mv 30 1, Ca 31 157 [30], Mv 4 31] .ret) .skip)))))))))))) (Rs [Mv 32 1, Mv 4 32] .ret))
def aou : List RV := [.t 4]
theorem awg : FnC Try.prog aq0 [] 0 aqZ Try.f137 aot aou := fnC (by kernel_rfl) Try.func137 (by kernel_rfl) (by kernel_rfl) (by decide)
def aov (N : Nat) (p0 p1 : Int)  : Ro :=
 cond (p0 == 3) (
  aH (ri p1) (fun (r1 : Int) =>
   some (.int .u64 r1, []))) (
  cond (p0 == 17) (
   aH (ri p1) (fun (r2 : Int) =>
    some (.int .u64 r2, []))) (
   cond (p0 == 5) (
    some (.int .u64 (Int.tmod p1 4294967296), [])) (
    cond (p0 == 9) (
     some (.int .u64 (Int.tmod p1 4294967296), [])) (
     cond (p0 == 2) (
      some (.int .u64 (Int.tmod p1 4294967296), [])) (
      cond (p0 == 11) (
       some (.int .u64 (Int.tmod p1 4294967296), [])) (
       cond (p0 == 13) (
        let x1 : Int := (if 1 < p1 then 1 else p1)
        some (.int .u64 x1, [])) (
        cond (p0 == 7) (
         aH (ri p1) (fun (r3 : Int) =>
          aH (tV r3) (fun (r4 : Int) =>
           some (.int .u64 (Int.tmod r4 4294967296), [])))) (
         cond (p0 == 8) (
          aH (tV p1) (fun (r5 : Int) =>
           some (.int .u64 r5, []))) (
          some (.int .u64 p1, []))))))))))
def agN (N : Nat) (p0 p1 : Int) : Ro := aov N p0 p1
theorem au3 (N : Nat) (p0 p1 : Int) : aW aq0 N 33 aou aot [.int .i64 p0, .int .u64 p1] [] = agN N p0 p1 := by kernel_rfl
theorem au4 (N : Nat) (p0 p1 : Int) (h : Tot (agN N p0 p1) (fun z => ∃ (y0 : Int) (rest : List aK), z.1.dimR = .int .u64 y0 ∧ z.2 = rest ∧ ajS p0 p1 (y0))) : ∃ r, zW p0 p1 r := by
 obtain ⟨⟨v, hp⟩, hz, y0, rest, e1, e2, hq⟩ := h
 simp only at e1 e2
 subst e2
 exact ⟨(y0), aI.dimR (awg.pure (au3 N p0 p1) hz) e1, hq⟩
noncomputable def xO : aN := tab (P := Try.prog) [] [] [] []
def ahD : IR := Sq (Rs [Mv 7 6, Mv 8 1, Bi 9 .lss 7 8] (Cn 9 .skip (.exit 0))) (Sq (.block 1 (Rs [Mv 12 5, Mv 13 0, Pp (.bin 14 .rem 13 (kU 256)), Pp (.cvi 15 .u8 14), Pp (.bsl 16 .u8 [15] true), Pp (.b2s 17 16), Bi 18 .add 12 17, Mv 5 18] (Rg [Mv 19 0, Pp (.bin 20 .quo 19 (kU 256)), Mv 0 20]))) (Rg [Mv 10 6, Bc 11 .add 10 1, Mv 6 11]))
def ahE : IR := Rs [Mv 21 5, Mv 4 21] .ret
def aei : IR := Rs [Ms 4 []] (Rs [Ms 5 []] (Sq (Rs [Mi 6 0] (.block 0 (.loop [0, 1, 5, 6, 1000000] 0 ahD))) ahE))
def zm : List RV := [.t 4]
theorem au5 : FnC Try.prog xO [] 0 aon Try.f108 aei zm := fnC (by kernel_rfl) Try.func108 (by kernel_rfl) (by kernel_rfl) (by decide)
def at9 (R : IR → (Ex → St → Ro) → St → Ro) (again0 : St → Ro) : Ex → St → Ro := (bz again0 [0, 1, 5, 6, 1000000] 0 (aR 0 (bp (R ahE) (fin zm))))
abbrev tn : Type := (Int × Int × Bs × Int)
def rj (x : tn) : St := { env := (.int .u64 x.1 :: .int .i64 x.2.1 :: (U 3 (.str x.2.2.1 :: .int .i64 x.2.2.2 :: (U 15 [])))), hp := [] }
def acx (N : Nat) : (St → Ro) → St → Ro := fun again0 s => run xO N ahD (at9 (run xO N) again0) s
def xP (N : Nat) (again0 : tn → Ro) (x : tn) : Ro :=
 let v0 : Int := x.1
 let v1 : Int := x.2.1
 let v5 : Bs := x.2.2.1
 let v6 : Int := x.2.2.2
 cond (decide (v6 < v1)) (
  let x1 : Int := (IntKind.wrap .u8 (Int.tmod v0 256))
  chk (decide (List.length v5 + List.length ([(UInt8.ofNat (Int.toNat x1))] : Bs) ≤ 9223372036854775807)) (
   let x2 : Bs := (v5 ++ ([(UInt8.ofNat (Int.toNat x1))] : Bs))
   let x3 : Int := (IntKind.wrap .u64 (Int.tdiv v0 256))
   let x4 : Int := (IntKind.wrap .i64 (v6 + 1))
   again0 (x3, v1, x2, x4))) (
  some (.str v5, []))
theorem asn (N : Nat) : ∀ (again0 : St → Ro) (x : tn), acx N again0 (rj x) = xP N (fun y => again0 (rj y)) x := by
 intro again0 x
 kernel_rfl
def uZ (N : Nat) (p0 p1 : Int) (q0 : tn → Ro) : Ro :=
 q0 (p0, p1, ([] : Bs), 0)
def aej (N : Nat) (p0 p1 : Int) : Ro := uZ N p0 p1 (fun z => aQ N (xP N) z)
def awh (N : Nat) : List (Nat × (St → Ro)) := ba xO N aei (fin zm) ++ []
theorem aua (N : Nat) (p0 p1 : Int) : aW xO N 22 zm aei [.int .u64 p0, .int .i64 p1] [] = aej N p0 p1 :=
 (bL (awh N) (by kernel_rfl) rfl (fun C => uZ N p0 p1 (fun z => C 1000000 (rj z))) (fun C => by kernel_rfl)).trans (Eq.trans (b := uZ N p0 p1 (fun z => bg N (acx N) (rj z))) (by kernel_rfl) (congrArg (uZ N p0 p1) (funext fun z => bc (rj) (acx N) (xP N) (asn N) N z)))
theorem aub (N : Nat) (p0 p1 : Int) (h : Tot (aej N p0 p1) (fun z => ∃ (y0 : Bs) (rest : List aK), z.1.dimR = .str y0 ∧ z.2 = rest ∧ aaH p0 p1 (y0))) : ∃ r, qD p0 p1 r := by
 obtain ⟨⟨v, hp⟩, hz, y0, rest, e1, e2, hq⟩ := h
 simp only at e1 e2
 subst e2
 exact ⟨(y0), aI.dimR (au5.pure (aua N p0 p1) hz) e1, hq⟩
noncomputable def aj0 : aN := tab (P := Try.prog) [] [] [] [acv, aw5]
def ahF : IR := Rs [Ms 2 []] (Rs [Mv 3 0, Pp (.cvi 4 .u64 3), Ca 5 137 [kI 8, 4], Ca 6 136 [5], Mv 2 6] .ret)
def ahG : List RV := [.t 2]
theorem aso : FnC Try.prog aj0 [] 0 ajX Try.f109 ahF ahG := fnC (by kernel_rfl) Try.func109 (by kernel_rfl) (by kernel_rfl) (by decide)
def ahH (N : Nat) (p0 : Int)  : Ro :=
 aH (zW 8 (IntKind.wrap .u64 p0)) (fun (r1 : Int) =>
  aH (fU r1) (fun (r2 : Bs) =>
   some (.str r2, [])))
def aaI (N : Nat) (p0 : Int) : Ro := ahH N p0
theorem aqj (N : Nat) (p0 : Int) : aW aj0 N 7 ahG ahF [.int .i64 p0] [] = aaI N p0 := by kernel_rfl
theorem aqk (N : Nat) (p0 : Int) (h : Tot (aaI N p0) (fun z => ∃ (y0 : Bs) (rest : List aK), z.1.dimR = .str y0 ∧ z.2 = rest ∧ xL p0 (y0))) : ∃ r, de p0 r := by
 obtain ⟨⟨v, hp⟩, hz, y0, rest, e1, e2, hq⟩ := h
 simp only at e1 e2
 subst e2
 exact ⟨(y0), aI.dimR (aso.pure (aqj N p0) hz) e1, hq⟩
noncomputable def jv : aN := tab (P := Try.prog) [] [] [] [afG, awd, at6]
def zX : IR := Sq (Rs [Mv 76 9, Fa 77 2 5, Lq 78 77, Ll 79 78, Bi 80 .lss 76 79] (Cn 80 .skip (.exit 1))) (Sq (.block 2 (.reg [Mv 83 8, Ld 84 1 true 3, Fa 85 8 7, Lq 86 85, Mv 87 9, Ix 88 .afield 86 87, Fa 89 2 88, Fo [] [] (.ld 90 1 false false 89), Fa 91 2 5, Lq 92 91, Mv 93 9, Ix 94 .aval 92 93, Ld 95 5 true 94, Ca 96 71 [84, 90, 95], Bi 97 .add 83 96, Mv 8 97] [[], [], [], [2], [], [2, 3, 4], rg 2 5, rg 2 6, [], [8], [], [8, 9, 10], rg 8 11, rg 1 12, rg 0 13, rg 0 14])) (Rg [Mv 81 9, Bc 82 .add 81 1, Mv 9 82]))
def zY : IR := Rs [Mv 98 8, Mv 6 98] .ret
def zZ : IR := Sq (Rs [Mv 110 11, Fa 111 2 5, Lq 112 111, Ll 113 112, Bi 114 .lss 110 113] (Cn 114 .skip (.exit 3))) (Sq (.block 4 (Sq (Rs [Fa 117 0 7, Lq 118 117, Bc 119 .eql 118 13] (Cn 119 (.reg [Mv 120 10, Fa 121 3 5, Lq 122 121, Mv 123 11, Ix 124 .str 122 123, Lq 125 124, Pp (.lens 126 125), Ca 127 109 [126], Bi 128 .add 120 127, Fa 129 3 5, Lq 130 129, Mv 131 11, Ix 132 .str 130 131, Lq 133 132, Bi 134 .add 128 133, Mv 10 134] [[], [], [1], [], [1, 2, 3], rg 1 4, rg 1 5, rg 1 6, rg 0 7, [], [9], [], [9, 10, 11], rg 9 12, rg 0 13, rg 0 14]) .skip)) (.reg [Mv 135 10, Ld 136 1 true 3, Fa 137 3 7, Lq 138 137, Fa 139 2 5, Lq 140 139, Mv 141 11, Ix 142 .aval 140 141, Ld 143 5 true 142, Ca 144 71 [136, 138, 143], Bi 145 .add 135 144, Mv 10 145] [[], [], [], [2], [], [4], [], [4, 5, 6], rg 4 7, rg 1 8, rg 0 9, rg 0 10]))) (Rg [Mv 115 11, Bc 116 .add 115 1, Mv 11 116]))
def z0 : IR := Rs [Mv 146 10, Ca 147 109 [kI 0], Bi 148 .add 146 147, Mv 6 148] .ret
def tp : IR := Rs [Ms 6 []] .ret
def xQ : IR := Rs [Bx 3 0, Bx 5 2, Ms 6 []] (Rs [Fa 12 0 3, Lq 13 12, Mv 14 1, Ix 15 .atype 13 14, Ld 16 10 true 15, Pp (.alr 7 10), Fz 7 10 16] (Sq (Rs [Fa 17 0 7, Lq 18 17] (.block 0 (Rs [Bc 20 .eql 18 2, Mv 19 20] (Cn 19 (Rs [Fa 21 0 5, Lq 22 21, Ca 23 108 [22, kI 1], Mv 6 23] .ret) (Sq (Rs [Bc 25 .eql 18 3, Mv 24 25] (Cn 24 .skip (Rs [Bc 26 .eql 18 4, Mv 24 26] (Cn 24 .skip (Rg [Bc 27 .eql 18 10, Mv 24 27]))))) (Cn 24 (Rs [Fa 28 0 5, Lq 29 28, Pp (.cvi 30 .i64 29), Ca 31 109 [30], Mv 6 31] .ret) (Rs [Bc 33 .eql 18 5, Mv 32 33] (Cn 32 (Rs [Fa 34 0 5, Lq 35 34, Ca 36 108 [35, kI 4], Mv 6 36] .ret) (Rs [Bc 38 .eql 18 6, Mv 37 38] (Cn 37 (Rs [Fa 39 0 5, Lq 40 39, Ca 41 108 [40, kI 8], Mv 6 41] .ret) (Sq (Rs [Bc 43 .eql 18 7, Mv 42 43] (Cn 42 .skip (Rg [Bc 44 .eql 18 8, Mv 42 44]))) (Cn 42 (Sq (.reg [Fa 45 1 5, Lq 46 45, Pp (.lens 47 46), Ca 48 109 [47], Fa 49 1 5, Lq 50 49, Bi 51 .add 48 50, Mv 6 51] [[], [0], [0, 1], [0, 1, 2], [], [4], rg 0 5, rg 0 6]) .ret) (Rs [Bc 53 .eql 18 11, Mv 52 53] (Cn 52 (Rs [Fa 54 1 5, Lq 55 54, Mv 6 55] .ret) (Rs [Bc 57 .eql 18 14, Mv 56 57] (Cn 56 (Sq (.reg [Fa 58 4 5, Lq 59 58, Ca 60 109 [59], Ld 61 1 true 3, Fa 62 9 7, Lq 63 62, Fa 64 4 5, Lq 65 64, Ix 66 (.num .i64) 63 65, Lq 67 66, Fa 68 2 5, Lq 69 68, Pp (.ixa 70 .aval 69 (kI 0)), Ld 71 5 true 70, Ca 72 71 [61, 67, 71], Bi 73 .add 60 72, Mv 6 73] [[], [0], [0, 1], [], [], [4], [], [6], rg 4 7, rg 4 8, [], [10], [10, 11], [10, 11, 12], rg 0 13, rg 0 14, rg 0 15]) .ret) (Rs [Bc 75 .eql 18 9, Mv 74 75] (Cn 74 (Rs [Ms 8 []] (Sq (Rs [Mi 9 0] (.block 1 (.loop [3, 5, 7, 8, 9, 1000000] 0 zX))) zY)) (Sq (Rs [Bc 100 .eql 18 12, Mv 99 100] (Cn 99 .skip (Rg [Bc 101 .eql 18 13, Mv 99 101]))) (Cn 99 (Rs [Ms 10 []] (Sq (Rs [Fa 102 2 5, Lq 103 102, Ll 104 103, Bc 105 .gtr 104 0] (Cn 105 (Rg [Fa 106 2 5, Lq 107 106, Ll 108 107, Ca 109 109 [108], Mv 10 109]) .skip)) (Sq (Rs [Mi 11 0] (.block 3 (.loop [3, 5, 7, 10, 11, 1000001] 0 zZ))) z0))) .skip)))))))))))))))))))) tp))
def nE : List RV := [.t 6]
theorem aow : FnC Try.prog jv [] 0 afF Try.f71 xQ nE := fnC (by kernel_rfl) Try.func71 (by kernel_rfl) (by kernel_rfl) (by decide)
def amD (R : IR → (Ex → St → Ro) → St → Ro) (again0 : St → Ro) : Ex → St → Ro := (bz again0 [3, 5, 7, 8, 9, 1000000] 0 (aR 1 (bp (R zY) (aR 0 (bp (R tp) (fin nE))))))
abbrev mz : Type := (List aA × aB × aA × Bs × Int)
def lj (x : mz) : St := { env := (U 3 (.ea [.sl .atype (.may false) x.1] :: .undef :: .ea (enc .aval x.2.1) :: .undef :: .ea (enc .atype x.2.2.1) :: .str x.2.2.2.1 :: .int .i64 x.2.2.2.2 :: (U 139 []))), hp := [] }
def wd (N : Nat) : (St → Ro) → St → Ro := fun again0 s => run jv N zX (amD (run jv N) again0) s
def qE (N : Nat) (again0 : mz → Ro) (x : mz) : Ro :=
 let v3_0 : List aA := x.1
 let v5 : aB := x.2.1
 let v7 : aA := x.2.2.1
 let v8 : Bs := x.2.2.2.1
 let v9 : Int := x.2.2.2.2
 let x6 : Int := (↑(List.length v5.l) : Int)
 cond (decide (v9 < x6)) (
  chk ((decide (0 ≤ v9) && decide (v9 < ↑(List.length v7.fields)))) (
   let x7 : aM := (List.getD v7.fields (Int.toNat v9) (aC .afield))
   chk ((decide (0 ≤ v9) && decide (v9 < ↑(List.length v5.l)))) (
    let x8 : aB := (List.getD v5.l (Int.toNat v9) (aC .aval))
    aH (eR v3_0 x7.typ (reA x8)) (fun (r11 : Bs) =>
     chk (decide (List.length v8 + List.length r11 ≤ 9223372036854775807)) (
      let x9 : Int := (IntKind.wrap .i64 (v9 + 1))
      again0 (v3_0, v5, v7, (v8 ++ r11), x9)))))) (
  some (.str v8, []))
theorem akL (N : Nat) : ∀ (again0 : St → Ro) (x : mz), wd N again0 (lj x) = qE N (fun y => again0 (lj y)) x := by
 intro again0 x
 kernel_rfl
def amE (R : IR → (Ex → St → Ro) → St → Ro) (again1 : St → Ro) : Ex → St → Ro := (bz again1 [3, 5, 7, 10, 11, 1000001] 0 (aR 3 (bp (R z0) (aR 0 (bp (R tp) (fin nE))))))
abbrev mA : Type := (List aA × aB × aA × Bs × Int)
def lk (x : mA) : St := { env := (U 3 (.ea [.sl .atype (.may false) x.1] :: .undef :: .ea (enc .aval x.2.1) :: .undef :: .ea (enc .atype x.2.2.1) :: .undef :: .undef :: .str x.2.2.2.1 :: .int .i64 x.2.2.2.2 :: (U 137 []))), hp := [] }
def we (N : Nat) : (St → Ro) → St → Ro := fun again1 s => run jv N zZ (amE (run jv N) again1) s
def mB (N : Nat) (again1 : mA → Ro) (x : mA) : Ro :=
 let v3_0 : List aA := x.1
 let v5 : aB := x.2.1
 let v7 : aA := x.2.2.1
 let v10 : Bs := x.2.2.2.1
 let v11 : Int := x.2.2.2.2
 let x12 : Int := (↑(List.length v5.l) : Int)
 cond (decide (v11 < x12)) (
  cond (v7.kind == 13) (
   chk ((decide (0 ≤ v11) && decide (v11 < ↑(List.length v5.keys)))) (
    let x13 : Bs := List.getD v5.keys (Int.toNat v11) (aC .str)
    let x14 : Int := (↑(List.length x13) : Int)
    aH (de x14) (fun (r13 : Bs) =>
     chk (decide (List.length v10 + List.length r13 ≤ 9223372036854775807)) (
      chk ((decide (0 ≤ v11) && decide (v11 < ↑(List.length v5.keys)))) (
       let x15 : Bs := List.getD v5.keys (Int.toNat v11) (aC .str)
       chk (decide (List.length (v10 ++ r13) + List.length x15 ≤ 9223372036854775807)) (
        chk ((decide (0 ≤ v11) && decide (v11 < ↑(List.length v5.l)))) (
         let x16 : aB := (List.getD v5.l (Int.toNat v11) (aC .aval))
         aH (eR v3_0 v7.items (reA x16)) (fun (r14 : Bs) =>
          chk (decide (List.length ((v10 ++ r13) ++ x15) + List.length r14 ≤ 9223372036854775807)) (
           let x17 : Bs := (((v10 ++ r13) ++ x15) ++ r14)
           let x18 : Int := (IntKind.wrap .i64 (v11 + 1))
           again1 (v3_0, v5, v7, x17, x18)))))))))) (
   chk ((decide (0 ≤ v11) && decide (v11 < ↑(List.length v5.l)))) (
    let x19 : aB := (List.getD v5.l (Int.toNat v11) (aC .aval))
    aH (eR v3_0 v7.items (reA x19)) (fun (r15 : Bs) =>
     chk (decide (List.length v10 + List.length r15 ≤ 9223372036854775807)) (
      let x20 : Int := (IntKind.wrap .i64 (v11 + 1))
      again1 (v3_0, v5, v7, (v10 ++ r15), x20)))))) (
  aH (de 0) (fun (r16 : Bs) =>
   chk (decide (List.length v10 + List.length r16 ≤ 9223372036854775807)) (
    some (.str (v10 ++ r16), []))))
theorem akM (N : Nat) : ∀ (again1 : St → Ro) (x : mA), we N again1 (lk x) = mB N (fun y => again1 (lk y)) x := by
 intro again1 x
 kernel_rfl
def nF (N : Nat) (p0_0 : List aA) (p1 : Int) (p2 : aB) (q0 : mz → Ro) (q1 : mA → Ro) : Ro :=
 chk ((decide (0 ≤ p1) && decide (p1 < ↑(List.length p0_0)))) (
  let x1 : aA := (List.getD p0_0 (Int.toNat p1) (aC .atype))
  cond (x1.kind == 2) (
   aH (qD p2.n 1) (fun (r1 : Bs) =>
    some (.str r1, []))) (
   cond (x1.kind == 3) (
    aH (de (IntKind.wrap .i64 p2.n)) (fun (r2 : Bs) =>
     some (.str r2, []))) (
    cond (x1.kind == 4) (
     aH (de (IntKind.wrap .i64 p2.n)) (fun (r3 : Bs) =>
      some (.str r3, []))) (
     cond (x1.kind == 10) (
      aH (de (IntKind.wrap .i64 p2.n)) (fun (r4 : Bs) =>
       some (.str r4, []))) (
      cond (x1.kind == 5) (
       aH (qD p2.n 4) (fun (r5 : Bs) =>
        some (.str r5, []))) (
       cond (x1.kind == 6) (
        aH (qD p2.n 8) (fun (r6 : Bs) =>
         some (.str r6, []))) (
        cond (x1.kind == 7) (
         let x2 : Int := (↑(List.length p2.s) : Int)
         aH (de x2) (fun (r7 : Bs) =>
          chk (decide (List.length r7 + List.length p2.s ≤ 9223372036854775807)) (
           some (.str (r7 ++ p2.s), [])))) (
         cond (x1.kind == 8) (
          let x3 : Int := (↑(List.length p2.s) : Int)
          aH (de x3) (fun (r8 : Bs) =>
           chk (decide (List.length r8 + List.length p2.s ≤ 9223372036854775807)) (
            some (.str (r8 ++ p2.s), [])))) (
          cond (x1.kind == 11) (
           some (.str p2.s, [])) (
           cond (x1.kind == 14) (
            aH (de p2.branch) (fun (r9 : Bs) =>
             chk ((decide (0 ≤ p2.branch) && decide (p2.branch < ↑(List.length x1.branches)))) (
              let x4 : Int := List.getD x1.branches (Int.toNat p2.branch) (aC (.num .i64))
              chk (decide ((0 : Int) < ↑(List.length p2.l))) (
               let x5 : aB := (List.getD p2.l (Int.toNat 0) (aC .aval))
               aH (eR p0_0 x4 (reA x5)) (fun (r10 : Bs) =>
                chk (decide (List.length r9 + List.length r10 ≤ 9223372036854775807)) (
                 some (.str (r9 ++ r10), []))))))) (
            cond (x1.kind == 9) (
             q0 (p0_0, p2, x1, ([] : Bs), 0)) (
             cond (x1.kind == 12) (
              let x10 : Int := (↑(List.length p2.l) : Int)
              cond (decide (0 < x10)) (
               let x11 : Int := (↑(List.length p2.l) : Int)
               aH (de x11) (fun (r12 : Bs) =>
                q1 (p0_0, p2, x1, r12, 0))) (
               q1 (p0_0, p2, x1, ([] : Bs), 0))) (
              cond (x1.kind == 13) (
               let x21 : Int := (↑(List.length p2.l) : Int)
               cond (decide (0 < x21)) (
                let x22 : Int := (↑(List.length p2.l) : Int)
                aH (de x22) (fun (r17 : Bs) =>
                 q1 (p0_0, p2, x1, r17, 0))) (
                q1 (p0_0, p2, x1, ([] : Bs), 0))) (
               some (.str ([] : Bs), [])))))))))))))))
def xR (N : Nat) (p0_0 : List aA) (p1 : Int) (p2 : aB) : Ro := nF N p0_0 p1 p2 (fun z => aQ N (qE N) z) (fun z => aQ N (mB N) z)
def aql (N : Nat) : List (Nat × (St → Ro)) := ba jv N xQ (fin nE) ++ []
theorem amF (N : Nat) (p0_0 : List aA) (p1 : Int) (p2 : aB) : aW jv N 149 nE xQ [.agg [.sl .atype (.may false) p0_0], .int .i64 p1, .agg (enc .aval p2)] [] = xR N p0_0 p1 p2 :=
 (bL (aql N) (by kernel_rfl) rfl (fun C => nF N p0_0 p1 p2 (fun z => C 1000000 (lj z)) (fun z => C 1000001 (lk z))) (fun C => by kernel_rfl)).trans (Eq.trans (b := nF N p0_0 p1 p2 (fun z => bg N (wd N) (lj z)) (fun z => bg N (we N) (lk z))) (by kernel_rfl) (congr (congrArg (nF N p0_0 p1 p2) (funext fun z => bc (lj) (wd N) (qE N) (akL N) N z)) (funext fun z => bc (lk) (we N) (mB N) (akM N) N z)))
theorem amG (N : Nat) (p0_0 : List aA) (p1 : Int) (p2 : aB) (h : Tot (xR N p0_0 p1 p2) (fun z => ∃ (y0 : Bs) (rest : List aK), z.1.dimR = .str y0 ∧ z.2 = rest ∧ uv p0_0 p1 p2 (y0))) : ∃ r, eR p0_0 p1 p2 r := by
 obtain ⟨⟨v, hp⟩, hz, y0, rest, e1, e2, hq⟩ := h
 simp only at e1 e2
 subst e2
 exact ⟨(y0), aI.dimR (aow.pure (amF N p0_0 p1 p2) hz) e1, hq⟩
noncomputable def afH : aN := tab (P := Try.prog) [] [] [] [ai1, abq, afG]
def ady : IR := Rs [Bx 3 0, Bx 5 2, Pp (.mov 6 (.c (nl .u8))), Mi 7 0] (Sq (Rs [Ld 9 1 true 3, Mv 10 1, Ca 11 45 [9, 10], Un 12 11] (Cn 12 (Rs [Pp (.mov 6 (.c (nl .u8))), Mi 7 1] .ret) .skip)) (Sq (Rs [Ld 13 1 true 3, Mv 14 1, Ld 15 5 true 5, Ca 16 18 [13, 14, 15], Un 17 16] (Cn 17 (Rs [Pp (.mov 6 (.c (nl .u8))), Mi 7 7] .ret) .skip)) (Rs [Ld 18 1 true 3, Mv 19 1, Ld 20 5 true 5, Ca 21 71 [18, 19, 20], Mv 8 21] (Sq (Rs [Mv 22 8, Pp (.lens 23 22), Bc 24 .gtr 23 5000] (Cn 24 (Rs [Pp (.mov 6 (.c (nl .u8))), Mi 7 3] .ret) .skip)) (Rs [Mv 25 8, Pp (.s2b 26 25), Mv 6 26, Mi 7 0] .ret)))))
def adz : List RV := [.t 6, .t 7]
theorem aox : FnC Try.prog afH [] 0 afE Try.f38 ady adz := fnC (by kernel_rfl) Try.func38 (by kernel_rfl) (by kernel_rfl) (by decide)
def adA (N : Nat) (p0_0 : List aA) (p1 : Int) (p2 : aB)  : Ro :=
 aH (lv p0_0 p1) (fun (r1 : Bool) =>
  cond (!r1) (
   some (.tup [.sl .u8 (.may false) ([] : Bs), .int .i64 1], [])) (
   aH (eJ p0_0 p1 p2.n p2.s p2.l p2.keys p2.branch) (fun (r2 : Bool) =>
    cond (!r2) (
     some (.tup [.sl .u8 (.may false) ([] : Bs), .int .i64 7], [])) (
     aH (eR p0_0 p1 (reA p2)) (fun (r3 : Bs) =>
      let x1 : Int := (↑(List.length r3) : Int)
      cond (decide (5000 < x1)) (
       some (.tup [.sl .u8 (.may false) ([] : Bs), .int .i64 3], [])) (
       some (.tup [.sl .u8 (.may false) r3, .int .i64 0], [])))))))
def xS (N : Nat) (p0_0 : List aA) (p1 : Int) (p2 : aB) : Ro := adA N p0_0 p1 p2
theorem amH (N : Nat) (p0_0 : List aA) (p1 : Int) (p2 : aB) : aW afH N 27 adz ady [.agg [.sl .atype (.may false) p0_0], .int .i64 p1, .agg (enc .aval p2)] [] = xS N p0_0 p1 p2 := by kernel_rfl
theorem amI (N : Nat) (p0_0 : List aA) (p1 : Int) (p2 : aB) (h : Tot (xS N p0_0 p1 p2) (fun z => ∃ (y0 : Bs) (y1 : Int) (rest : List aK), z.1.dimR = .tup [.sl .u8 (.may false) y0, .int .i64 y1] ∧ z.2 = rest ∧ uw p0_0 p1 p2 (y0, y1))) : ∃ r, ju p0_0 p1 p2 r := by
 obtain ⟨⟨v, hp⟩, hz, y0, y1, rest, e1, e2, hq⟩ := h
 simp only at e1 e2
 subst e2
 exact ⟨(y0, y1), aI.dimR (aox.pure (amH N p0_0 p1 p2) hz) e1, hq⟩
end Go.Proofs.Ytdpajabhmmmjoaa
end
noncomputable section
namespace Go.Proofs.Ytdpajabhmmmjoaa
open Go.AM
set_option autoImplicit false
set_option linter.unusedVariables false
set_option maxRecDepth 100000
noncomputable def nG : aN := tab (P := Try.prog) [] [] [] []
def z1 : IR := Sq (Rs [Mv 4 0, Pp (.bin 5 .geq 4 (kU 128))] (Cn 5 .skip (.exit 0))) (.block 1 (Rs [Pp (.mov 6 (.tk 3)), Mv 7 0, Pp (.bin 8 .rem 7 (kU 128)), Pp (.bin 9 .add 8 (kU 128)), Pp (.cvi 10 .u8 9), Pp (.bsl 11 .u8 [10] true), Pp (.app 12 .u8 (.tk 6) 11), Pp (.mov 3 (.tk 12))] (Rg [Mv 13 0, Pp (.bin 14 .shr 13 (kU 7)), Mv 0 14])))
def z2 : IR := Rs [Pp (.mov 15 (.tk 3)), Mv 16 0, Pp (.cvi 17 .u8 16), Pp (.bsl 18 .u8 [17] true), Pp (.app 19 .u8 (.tk 15) 18), Pp (.b2s 20 19), Mv 2 20] .ret
def wg : IR := Rs [Ms 2 []] (Rs [Pp (.mov 3 (.c (nl .u8)))] (Sq (.block 0 (.loop [0, 3, 1000000] 0 z1)) z2))
def qF : List RV := [.t 2]
theorem amJ : FnC Try.prog nG [] 0 adw Try.f134 wg qF := fnC (by kernel_rfl) Try.func134 (by kernel_rfl) (by kernel_rfl) (by decide)
def akN (R : IR → (Ex → St → Ro) → St → Ro) (again0 : St → Ro) : Ex → St → Ro := (bz again0 [0, 3, 1000000] 0 (aR 0 (bp (R z2) (fin qF))))
abbrev ll : Type := (Int × Bs)
def kc (x : ll) : St := { env := (.int .u64 x.1 :: .undef :: .undef :: .sl .u8 .own x.2 :: (U 17 [])), hp := [] }
def uA (N : Nat) : (St → Ro) → St → Ro := fun again0 s => run nG N z1 (akN (run nG N) again0) s
def lm (N : Nat) (again0 : ll → Ro) (x : ll) : Ro :=
 let v0 : Int := x.1
 let v3 : Bs := x.2
 cond (decide (128 ≤ v0)) (
  let x1 : Int := (IntKind.wrap .u64 ((Int.tmod v0 128) + 128))
  chk (decide ((List.length v3 + List.length ([(UInt8.ofNat (Int.toNat (IntKind.wrap .u8 x1)))] : Bs)) * 1 ≤ 140737488355328)) (
   let x2 : Bs := (v3 ++ ([(UInt8.ofNat (Int.toNat (IntKind.wrap .u8 x1)))] : Bs))
   again0 ((cJ .u64 v0 7), x2))) (
  chk (decide ((List.length v3 + List.length ([(UInt8.ofNat (Int.toNat (IntKind.wrap .u8 v0)))] : Bs)) * 1 ≤ 140737488355328)) (
   let x3 : Bs := (v3 ++ ([(UInt8.ofNat (Int.toNat (IntKind.wrap .u8 v0)))] : Bs))
   some (.str x3, [])))
theorem aj1 (N : Nat) : ∀ (again0 : St → Ro) (x : ll), uA N again0 (kc x) = lm N (fun y => again0 (kc y)) x := by
 intro again0 x
 kernel_rfl
def qG (N : Nat) (p0 : Int) (q0 : ll → Ro) : Ro :=
 q0 (p0, ([] : Bs))
def wh (N : Nat) (p0 : Int) : Ro := qG N p0 (fun z => aQ N (lm N) z)
def aoy (N : Nat) : List (Nat × (St → Ro)) := ba nG N wg (fin qF) ++ []
theorem akO (N : Nat) (p0 : Int) : aW nG N 21 qF wg [.int .u64 p0] [] = wh N p0 :=
 (bL (aoy N) (by kernel_rfl) rfl (fun C => qG N p0 (fun z => C 1000000 (kc z))) (fun C => by kernel_rfl)).trans (Eq.trans (b := qG N p0 (fun z => bg N (uA N) (kc z))) (by kernel_rfl) (congrArg (qG N p0) (funext fun z => bc (kc) (uA N) (lm N) (aj1 N) N z)))
theorem akP (N : Nat) (p0 : Int) (h : Tot (wh N p0) (fun z => ∃ (y0 : Bs) (rest : List aK), z.1.dimR = .str y0 ∧ z.2 = rest ∧ zT p0 (y0))) : ∃ r, nD p0 r := by
 obtain ⟨⟨v, hp⟩, hz, y0, rest, e1, e2, hq⟩ := h
 simp only at e1 e2
 subst e2
 exact ⟨(y0), aI.dimR (amJ.pure (akO N p0) hz) e1, hq⟩
noncomputable def aq1 : aN := tab (P := Try.prog) [] [] [] []
def aoz : IR := Rs [Pp (.mov 4 (kU 0))] (Sq (Rs [Mv 7 0] (.block 0 (Sq (Rs [Bc 9 .eql 7 3, Mv 8 9] (Cn 8 .skip (Rg [Bc 10 .eql 7 17, Mv 8 10]))) (Cn 8 (Sq .bad .ret) (Sq (Rs [Bc 14 .eql 7 5, Mv 13 14] (Cn 13 .skip (Rs [Bc 15 .eql 7 9, Mv 13 15] (Cn 13 .skip (Rs [Bc 16 .eql 7 2, Mv 13 16] (Cn 13 .skip (Rg [Bc 17 .eql 7 11, Mv 13 17]))))))) (Cn 13 (Rs [Mv 18 1, Pp (.cvi 19 .u32 18), Pp (.cvi 20 .u64 19), Mv 4 20] .ret) (Rs [Bc 22 .eql 7 13, Mv 21 22] (Cn 21 (Rs [Mv 23 1, Pp (.mx 24 true 23 (kU 1)), Mv 4 24] .ret) (Rs [Bc 26 .eql 7 7, Mv 25 26] (Cn 25 (Rs [Mv 27 1, Pp (.cvi 28 .u32 27), Pp (.cvi 29 .i32 28), Mv 5 29] (Rs [Mv 30 5, Pp (.bin 31 .shl 30 (kU 1)), Mv 32 5, Pp (.bin 33 .shr 32 (kU 31)), Bi 34 .xor 31 33, Pp (.cvi 35 .u32 34), Pp (.cvi 36 .u64 35), Mv 4 36] .ret)) (Rs [Bc 38 .eql 7 8, Mv 37 38] (Cn 37 (Rs [Mv 39 1, Pp (.cvi 40 .i64 39), Mv 6 40] (Rs [Mv 41 6, Pp (.bin 42 .shl 41 (kU 1)), Mv 43 6, Pp (.bin 44 .shr 43 (kU 63)), Bi 45 .xor 42 44, Pp (.cvi 46 .u64 45), Mv 4 46] .ret)) .skip)))))))))))) (Rs [Mv 47 1, Mv 4 47] .ret))
def aoA : List RV := [.t 4]
theorem awi : FnC Try.prog aq1 [] 0 aqY Try.f135 aoz aoA := fnC (by kernel_rfl) Try.func135 (by kernel_rfl) (by kernel_rfl) (by decide)
def aoB (N : Nat) (p0 p1 : Int)  : Ro :=
 cond (p0 == 3) (
  none) (
  cond (p0 == 17) (
   none) (
   cond (p0 == 5) (
    let x1 : Int := (IntKind.wrap .u64 (IntKind.wrap .u32 p1))
    some (.int .u64 x1, [])) (
    cond (p0 == 9) (
     let x2 : Int := (IntKind.wrap .u64 (IntKind.wrap .u32 p1))
     some (.int .u64 x2, [])) (
     cond (p0 == 2) (
      let x3 : Int := (IntKind.wrap .u64 (IntKind.wrap .u32 p1))
      some (.int .u64 x3, [])) (
      cond (p0 == 11) (
       let x4 : Int := (IntKind.wrap .u64 (IntKind.wrap .u32 p1))
       some (.int .u64 x4, [])) (
       cond (p0 == 13) (
        let x5 : Int := (if 1 < p1 then 1 else p1)
        some (.int .u64 x5, [])) (
        cond (p0 == 7) (
         let x6 : Int := (IntKind.wrap .i32 (IntKind.wrap .u32 p1))
         let x7 : Int := (bH .xor .i32 (fo .i32 x6 1) (cJ .i32 x6 31))
         let x8 : Int := (IntKind.wrap .u64 (IntKind.wrap .u32 x7))
         some (.int .u64 x8, [])) (
         cond (p0 == 8) (
          let x9 : Int := (fo .i64 (IntKind.wrap .i64 p1) 1)
          let x10 : Int := (cJ .i64 (IntKind.wrap .i64 p1) 63)
          let x11 : Int := (IntKind.wrap .u64 (bH .xor .i64 x9 x10))
          some (.int .u64 x11, [])) (
          some (.int .u64 p1, []))))))))))
def abv (N : Nat) (p0 p1 : Int) : Ro := aoB N p0 p1
theorem au6 (N : Nat) (p0 p1 : Int) : aW aq1 N 48 aoA aoz [.int .i64 p0, .int .u64 p1] [] = abv N p0 p1 := by kernel_rfl
theorem au7 (N : Nat) (p0 p1 : Int) (h : Tot (abv N p0 p1) (fun z => ∃ (y0 : Int) (rest : List aK), z.1.dimR = .int .u64 y0 ∧ z.2 = rest ∧ ajT p0 p1 (y0))) : ∃ r, zV p0 p1 r := by
 obtain ⟨⟨v, hp⟩, hz, y0, rest, e1, e2, hq⟩ := h
 simp only at e1 e2
 subst e2
 exact ⟨(y0), aI.dimR (awi.pure (au6 N p0 p1) hz) e1, hq⟩
noncomputable def aly : aN := tab (P := Try.prog) [] [] [] [aor, aw3]
def aj2 : IR := Rs [Ms 2 []] (Rs [Mv 3 0, Pp (.cvi 4 .u64 3), Ca 5 135 [kI 8, 4], Ca 6 134 [5], Mv 2 6] .ret)
def aj3 : List RV := [.t 2]
theorem auc : FnC Try.prog aly [] 0 als Try.f105 aj2 aj3 := fnC (by kernel_rfl) Try.func105 (by kernel_rfl) (by kernel_rfl) (by decide)
def aj4 (N : Nat) (p0 : Int)  : Ro :=
 aH (zV 8 (IntKind.wrap .u64 p0)) (fun (r1 : Int) =>
  aH (nD r1) (fun (r2 : Bs) =>
   some (.str r2, [])))
def acy (N : Nat) (p0 : Int) : Ro := aj4 N p0
theorem asp (N : Nat) (p0 : Int) : aW aly N 7 aj3 aj2 [.int .i64 p0] [] = acy N p0 := by kernel_rfl
theorem asq (N : Nat) (p0 : Int) (h : Tot (acy N p0) (fun z => ∃ (y0 : Bs) (rest : List aK), z.1.dimR = .str y0 ∧ z.2 = rest ∧ yV p0 (y0))) : ∃ r, fR p0 r := by
 obtain ⟨⟨v, hp⟩, hz, y0, rest, e1, e2, hq⟩ := h
 simp only at e1 e2
 subst e2
 exact ⟨(y0), aI.dimR (auc.pure (asp N p0) hz) e1, hq⟩
noncomputable def tq : aN := tab (P := Try.prog) [] [] [] []
def adB : IR := Rs [Bi 9 .lss 8 7] (Sq (Cn 9 .skip (.exit 0)) (Sq (.block 1 (Rs [Mv 10 8, Mv 6 10] (Rg [Pp (.mov 11 (.tk 5)), Mv 12 0, Mv 13 6, Pp (.bin 14 .mul (kI 8) 13), Bi 15 .shr 12 14, Pp (.cvi 16 .u8 15), Pp (.bsl 17 .u8 [16] true), Pp (.app 18 .u8 (.tk 11) 17), Pp (.mov 5 (.tk 18))]))) (Rg [Bc 19 .add 8 1, Mv 8 19])))
def adC : IR := Rs [Mv 20 5, Pp (.b2s 21 20), Mv 4 21] .ret
def aaJ : IR := Rs [Ms 4 []] (Rs [Pp (.mov 5 (.c (nl .u8)))] (Sq (Rs [Mv 7 1, Mi 8 0] (.block 0 (.loop [0, 5, 7, 8, 1000000] 0 adB))) adC))
def vF : List RV := [.t 4]
theorem asr : FnC Try.prog tq [] 0 ajU Try.f104 aaJ vF := fnC (by kernel_rfl) Try.func104 (by kernel_rfl) (by kernel_rfl) (by decide)
def aqm (R : IR → (Ex → St → Ro) → St → Ro) (again0 : St → Ro) : Ex → St → Ro := (bz again0 [0, 5, 7, 8, 1000000] 0 (aR 0 (bp (R adC) (fin vF))))
abbrev pM : Type := (Int × Bs × Int × Int)
def nH (x : pM) : St := { env := (.int .u64 x.1 :: (U 4 (.sl .u8 .own x.2.1 :: .undef :: .int .i64 x.2.2.1 :: .int .i64 x.2.2.2 :: (U 13 [])))), hp := [] }
def yW (N : Nat) : (St → Ro) → St → Ro := fun again0 s => run tq N adB (aqm (run tq N) again0) s
def pN (N : Nat) (again0 : pM → Ro) (x : pM) : Ro :=
 let v0 : Int := x.1
 let v5 : Bs := x.2.1
 let v7 : Int := x.2.2.1
 let v8 : Int := x.2.2.2
 cond (decide (v8 < v7)) (
  let x1 : Int := (IntKind.wrap .i64 (8 * v8))
  chk (decide (0 ≤ x1)) (
   let x2 : Int := (IntKind.wrap .u8 (cJ .u64 v0 x1))
   chk (decide ((List.length v5 + List.length ([(UInt8.ofNat (Int.toNat x2))] : Bs)) * 1 ≤ 140737488355328)) (
    let x3 : Bs := (v5 ++ ([(UInt8.ofNat (Int.toNat x2))] : Bs))
    let x4 : Int := (IntKind.wrap .i64 (v8 + 1))
    again0 (v0, x3, v7, x4)))) (
  some (.str v5, []))
theorem aoC (N : Nat) : ∀ (again0 : St → Ro) (x : pM), yW N again0 (nH x) = pN N (fun y => again0 (nH y)) x := by
 intro again0 x
 kernel_rfl
def vG (N : Nat) (p0 p1 : Int) (q0 : pM → Ro) : Ro :=
 q0 (p0, ([] : Bs), p1, 0)
def aaK (N : Nat) (p0 p1 : Int) : Ro := vG N p0 p1 (fun z => aQ N (pN N) z)
def aud (N : Nat) : List (Nat × (St → Ro)) := ba tq N aaJ (fin vF) ++ []
theorem aqn (N : Nat) (p0 p1 : Int) : aW tq N 22 vF aaJ [.int .u64 p0, .int .i64 p1] [] = aaK N p0 p1 :=
 (bL (aud N) (by kernel_rfl) rfl (fun C => vG N p0 p1 (fun z => C 1000000 (nH z))) (fun C => by kernel_rfl)).trans (Eq.trans (b := vG N p0 p1 (fun z => bg N (yW N) (nH z))) (by kernel_rfl) (congrArg (vG N p0 p1) (funext fun z => bc (nH) (yW N) (pN N) (aoC N) N z)))
theorem aqo (N : Nat) (p0 p1 : Int) (h : Tot (aaK N p0 p1) (fun z => ∃ (y0 : Bs) (rest : List aK), z.1.dimR = .str y0 ∧ z.2 = rest ∧ adu p0 p1 (y0))) : ∃ r, my p0 p1 r := by
 obtain ⟨⟨v, hp⟩, hz, y0, rest, e1, e2, hq⟩ := h
 simp only at e1 e2
 subst e2
 exact ⟨(y0), aI.dimR (asr.pure (aqn N p0 p1) hz) e1, hq⟩
noncomputable def alz : aN := tab (P := Try.prog) [] [] [] [aeg]
def aj5 : IR := Rs [Ms 2 []] (Rs [Mv 3 0, Pp (.lens 4 3), Ca 5 105 [4], Mv 6 0, Bi 7 .add 5 6, Mv 2 7] .ret)
def aj6 : List RV := [.t 2]
theorem aue : FnC Try.prog alz [] 0 alt Try.f106 aj5 aj6 := fnC (by kernel_rfl) Try.func106 (by kernel_rfl) (by kernel_rfl) (by decide)
def aj7 (N : Nat) (p0 : Bs)  : Ro :=
 let x1 : Int := (↑(List.length p0) : Int)
 aH (fR x1) (fun (r1 : Bs) =>
  chk (decide (List.length r1 + List.length p0 ≤ 9223372036854775807)) (
   some (.str (r1 ++ p0), [])))
def acz (N : Nat) (p0 : Bs) : Ro := aj7 N p0
theorem ass (N : Nat) (p0 : Bs) : aW alz N 8 aj6 aj5 [.str p0] [] = acz N p0 := by kernel_rfl
theorem ast (N : Nat) (p0 : Bs) (h : Tot (acz N p0) (fun z => ∃ (y0 : Bs) (rest : List aK), z.1.dimR = .str y0 ∧ z.2 = rest ∧ afD p0 (y0))) : ∃ r, oj p0 r := by
 obtain ⟨⟨v, hp⟩, hz, y0, rest, e1, e2, hq⟩ := h
 simp only at e1 e2
 subst e2
 exact ⟨(y0), aI.dimR (aue.pure (ass N p0) hz) e1, hq⟩
noncomputable def tr : aN := tab (P := Try.prog) [] [] [] [acu, aeg, alu]
def adD : IR := Rs [Bi 22 .lss 21 20] (Sq (Cn 22 .skip (.exit 0)) (Sq (.block 1 (Rs [Mv 23 21, Ix 24 .aval 19 21, Ld 25 5 true 24, Pp (.alr 9 5), Mv 8 23, Fz 9 5 25] (Sq (Rs [Fa 26 0 4, Lq 27 26, Bc 28 .eql 27 13] (Cn 28 (Rg [Mv 29 7, Fa 30 3 5, Lq 31 30, Mv 32 8, Ix 33 .str 31 32, Lq 34 33, Ca 35 106 [34], Bi 36 .add 29 35, Mv 7 36]) .skip)) (Rg [Mv 37 7, Ld 38 1 true 3, Fa 39 3 4, Lq 40 39, Ld 41 5 true 9, Ca 42 70 [38, 40, 41], Bi 43 .add 37 42, Mv 7 43])))) (Rg [Bc 44 .add 21 1, Mv 21 44])))
def acA : IR := Rs [Mv 45 7, Ca 46 105 [kI 0], Bi 47 .add 45 46, Mv 6 47] .ret
def aaL : IR := Rs [Bx 3 0, Bx 4 1, Bx 5 2, Ms 6 []] (Rs [Ms 7 []] (Sq (Rs [Fa 10 2 5, Lq 11 10, Ll 12 11, Bc 13 .gtr 12 0] (Cn 13 (Rg [Fa 14 2 5, Lq 15 14, Ll 16 15, Ca 17 105 [16], Mv 7 17]) .skip)) (Sq (Rs [Fa 18 2 5, Lq 19 18, Ll 20 19, Mi 21 0] (.block 0 (.loop [3, 4, 5, 7, 19, 20, 21, 1000000] 0 adD))) acA)))
def vH : List RV := [.t 6]
theorem asu : FnC Try.prog tr [] 0 ajV Try.f107 aaL vH := fnC (by kernel_rfl) Try.func107 (by kernel_rfl) (by kernel_rfl) (by decide)
def aqp (R : IR → (Ex → St → Ro) → St → Ro) (again0 : St → Ro) : Ex → St → Ro := (bz again0 [3, 4, 5, 7, 19, 20, 21, 1000000] 0 (aR 0 (bp (R acA) (fin vH))))
abbrev pO : Type := (List aA × aA × aB × Bs × List aB × Int × Int)
def nI (x : pO) : St := { env := (U 3 (.ea [.sl .atype (.may false) x.1] :: .ea (enc .atype x.2.1) :: .ea (enc .aval x.2.2.1) :: .undef :: .str x.2.2.2.1 :: (U 11 (.sl .aval (.may false) x.2.2.2.2.1 :: .int .i64 x.2.2.2.2.2.1 :: .int .i64 x.2.2.2.2.2.2 :: (U 26 []))))), hp := [] }
def yX (N : Nat) : (St → Ro) → St → Ro := fun again0 s => run tr N adD (aqp (run tr N) again0) s
def pP (N : Nat) (again0 : pO → Ro) (x : pO) : Ro :=
 let v3_0 : List aA := x.1
 let v4 : aA := x.2.1
 let v5 : aB := x.2.2.1
 let v7 : Bs := x.2.2.2.1
 let v19 : List aB := x.2.2.2.2.1
 let v20 : Int := x.2.2.2.2.2.1
 let v21 : Int := x.2.2.2.2.2.2
 cond (decide (v21 < v20)) (
  chk ((decide (0 ≤ v21) && decide (v21 < ↑(List.length v19)))) (
   let x4 : aB := (List.getD v19 (Int.toNat v21) (aC .aval))
   cond (v4.kind == 13) (
    chk ((decide (0 ≤ v21) && decide (v21 < ↑(List.length v5.keys)))) (
     let x5 : Bs := List.getD v5.keys (Int.toNat v21) (aC .str)
     aH (oj x5) (fun (r2 : Bs) =>
      chk (decide (List.length v7 + List.length r2 ≤ 9223372036854775807)) (
       aH (ia v3_0 v4.items (reA x4)) (fun (r3 : Bs) =>
        chk (decide (List.length (v7 ++ r2) + List.length r3 ≤ 9223372036854775807)) (
         let x6 : Int := (IntKind.wrap .i64 (v21 + 1))
         again0 (v3_0, v4, v5, ((v7 ++ r2) ++ r3), v19, v20, x6))))))) (
    aH (ia v3_0 v4.items (reA x4)) (fun (r4 : Bs) =>
     chk (decide (List.length v7 + List.length r4 ≤ 9223372036854775807)) (
      let x7 : Int := (IntKind.wrap .i64 (v21 + 1))
      again0 (v3_0, v4, v5, (v7 ++ r4), v19, v20, x7)))))) (
  aH (fR 0) (fun (r5 : Bs) =>
   chk (decide (List.length v7 + List.length r5 ≤ 9223372036854775807)) (
    some (.str (v7 ++ r5), []))))
theorem aoD (N : Nat) : ∀ (again0 : St → Ro) (x : pO), yX N again0 (nI x) = pP N (fun y => again0 (nI y)) x := by
 intro again0 x
 kernel_rfl
def rl (N : Nat) (p0_0 : List aA) (p1 : aA) (p2 : aB) (q0 : pO → Ro) : Ro :=
 let x1 : Int := (↑(List.length p2.l) : Int)
 cond (decide (0 < x1)) (
  let x2 : Int := (↑(List.length p2.l) : Int)
  aH (fR x2) (fun (r1 : Bs) =>
   let x3 : Int := (↑(List.length p2.l) : Int)
   q0 (p0_0, p1, p2, r1, p2.l, x3, 0))) (
  let x8 : Int := (↑(List.length p2.l) : Int)
  q0 (p0_0, p1, p2, ([] : Bs), p2.l, x8, 0))
def aaM (N : Nat) (p0_0 : List aA) (p1 : aA) (p2 : aB) : Ro := rl N p0_0 p1 p2 (fun z => aQ N (pP N) z)
def auf (N : Nat) : List (Nat × (St → Ro)) := ba tr N aaL (fin vH) ++ []
theorem aqq (N : Nat) (p0_0 : List aA) (p1 : aA) (p2 : aB) : aW tr N 48 vH aaL [.agg [.sl .atype (.may false) p0_0], .agg (enc .atype p1), .agg (enc .aval p2)] [] = aaM N p0_0 p1 p2 :=
 (bL (auf N) (by kernel_rfl) rfl (fun C => rl N p0_0 p1 p2 (fun z => C 1000000 (nI z))) (fun C => by kernel_rfl)).trans (Eq.trans (b := rl N p0_0 p1 p2 (fun z => bg N (yX N) (nI z))) (by kernel_rfl) (congrArg (rl N p0_0 p1 p2) (funext fun z => bc (nI) (yX N) (pP N) (aoD N) N z)))
theorem aqr (N : Nat) (p0_0 : List aA) (p1 : aA) (p2 : aB) (h : Tot (aaM N p0_0 p1 p2) (fun z => ∃ (y0 : Bs) (rest : List aK), z.1.dimR = .str y0 ∧ z.2 = rest ∧ xM p0_0 p1 p2 (y0))) : ∃ r, pL p0_0 p1 p2 r := by
 obtain ⟨⟨v, hp⟩, hz, y0, rest, e1, e2, hq⟩ := h
 simp only at e1 e2
 subst e2
 exact ⟨(y0), aI.dimR (asu.pure (aqq N p0_0 p1 p2) hz) e1, hq⟩
noncomputable def tt : aN := tab (P := Try.prog) [] [] [] [acu, at2, aeg, alu, at4]
def acB : IR := Rs [Bi 75 .lss 74 73] (Sq (Cn 75 .skip (.exit 1)) (Sq (.block 2 (Rs [Mv 76 74, Ix 77 .afield 72 74, Ld 78 9 true 77, Pp (.alr 10 9), Mv 9 76, Fz 10 9 78] (.reg [Mv 79 8, Ld 80 1 true 3, Fa 81 2 10, Lq 82 81, Fa 83 2 5, Lq 84 83, Mv 85 9, Ix 86 .aval 84 85, Ld 87 5 true 86, Ca 88 70 [80, 82, 87], Bi 89 .add 79 88, Mv 8 89] [[], [], [], [2], [], [4], [], [4, 5, 6], rg 4 7, rg 1 8, rg 0 9, rg 0 10]))) (Rg [Bc 90 .add 74 1, Mv 74 90])))
def acC : IR := Rs [Mv 91 8, Mv 6 91] .ret
def acD : IR := Rs [Ms 6 []] .ret
def aaN : IR := Rs [Bx 3 0, Bx 5 2, Ms 6 []] (Rs [Fa 11 0 3, Lq 12 11, Mv 13 1, Ix 14 .atype 12 13, Ld 15 10 true 14, Pp (.alr 7 10), Fz 7 10 15] (Sq (Rs [Fa 16 0 7, Lq 17 16] (.block 0 (Rs [Bc 19 .eql 17 2, Mv 18 19] (Cn 18 (Rs [Fa 20 0 5, Lq 21 20, Ca 22 104 [21, kI 1], Mv 6 22] .ret) (Sq (Rs [Bc 24 .eql 17 3, Mv 23 24] (Cn 23 .skip (Rs [Bc 25 .eql 17 4, Mv 23 25] (Cn 23 .skip (Rg [Bc 26 .eql 17 10, Mv 23 26]))))) (Cn 23 (Rs [Fa 27 0 5, Lq 28 27, Pp (.cvi 29 .i64 28), Ca 30 105 [29], Mv 6 30] .ret) (Rs [Bc 32 .eql 17 5, Mv 31 32] (Cn 31 (Rs [Fa 33 0 5, Lq 34 33, Ca 35 104 [34, kI 4], Mv 6 35] .ret) (Rs [Bc 37 .eql 17 6, Mv 36 37] (Cn 36 (Rs [Fa 38 0 5, Lq 39 38, Ca 40 104 [39, kI 8], Mv 6 40] .ret) (Sq (Rs [Bc 42 .eql 17 7, Mv 41 42] (Cn 41 .skip (Rg [Bc 43 .eql 17 8, Mv 41 43]))) (Cn 41 (Rs [Fa 44 1 5, Lq 45 44, Ca 46 106 [45], Mv 6 46] .ret) (Rs [Bc 48 .eql 17 11, Mv 47 48] (Cn 47 (Rs [Fa 49 1 5, Lq 50 49, Mv 6 50] .ret) (Rs [Bc 52 .eql 17 14, Mv 51 52] (Cn 51 (Sq (.reg [Fa 53 4 5, Lq 54 53, Ca 55 105 [54], Ld 56 1 true 3, Fa 57 9 7, Lq 58 57, Fa 59 4 5, Lq 60 59, Ix 61 (.num .i64) 58 60, Lq 62 61, Fa 63 2 5, Lq 64 63, Pp (.ixa 65 .aval 64 (kI 0)), Ld 66 5 true 65, Ca 67 70 [56, 62, 66], Bi 68 .add 55 67, Mv 6 68] [[], [0], [0, 1], [], [], [4], [], [6], rg 4 7, rg 4 8, [], [10], [10, 11], [10, 11, 12], rg 0 13, rg 0 14, rg 0 15]) .ret) (Rs [Bc 70 .eql 17 9, Mv 69 70] (Cn 69 (Rs [Ms 8 []] (Sq (Rs [Fa 71 8 7, Lq 72 71, Ll 73 72, Mi 74 0] (.block 1 (.loop [3, 5, 8, 72, 73, 74, 1000000] 0 acB))) acC)) (Sq (Rs [Bc 93 .eql 17 12, Mv 92 93] (Cn 92 .skip (Rg [Bc 94 .eql 17 13, Mv 92 94]))) (Cn 92 (Rs [Ld 95 1 true 3, Ld 96 10 true 7, Ld 97 5 true 5, Ca 98 107 [95, 96, 97], Mv 6 98] .ret) .skip)))))))))))))))))))) acD))
def vJ : List RV := [.t 6]
theorem asv : FnC Try.prog tt [] 0 ajW Try.f70 aaN vJ := fnC (by kernel_rfl) Try.func70 (by kernel_rfl) (by kernel_rfl) (by decide)
def aqs (R : IR → (Ex → St → Ro) → St → Ro) (again0 : St → Ro) : Ex → St → Ro := (bz again0 [3, 5, 8, 72, 73, 74, 1000000] 0 (aR 1 (bp (R acC) (aR 0 (bp (R acD) (fin vJ))))))
abbrev pQ : Type := (List aA × aB × Bs × List aM × Int × Int)
def nJ (x : pQ) : St := { env := (U 3 (.ea [.sl .atype (.may false) x.1] :: .undef :: .ea (enc .aval x.2.1) :: .undef :: .undef :: .str x.2.2.1 :: (U 63 (.sl .afield (.may false) x.2.2.2.1 :: .int .i64 x.2.2.2.2.1 :: .int .i64 x.2.2.2.2.2 :: (U 24 []))))), hp := [] }
def yY (N : Nat) : (St → Ro) → St → Ro := fun again0 s => run tt N acB (aqs (run tt N) again0) s
def tW (N : Nat) (again0 : pQ → Ro) (x : pQ) : Ro :=
 let v3_0 : List aA := x.1
 let v5 : aB := x.2.1
 let v8 : Bs := x.2.2.1
 let v72 : List aM := x.2.2.2.1
 let v73 : Int := x.2.2.2.2.1
 let v74 : Int := x.2.2.2.2.2
 cond (decide (v74 < v73)) (
  chk ((decide (0 ≤ v74) && decide (v74 < ↑(List.length v72)))) (
   let x5 : aM := (List.getD v72 (Int.toNat v74) (aC .afield))
   chk ((decide (0 ≤ v74) && decide (v74 < ↑(List.length v5.l)))) (
    let x6 : aB := (List.getD v5.l (Int.toNat v74) (aC .aval))
    aH (ia v3_0 x5.typ (reA x6)) (fun (r11 : Bs) =>
     chk (decide (List.length v8 + List.length r11 ≤ 9223372036854775807)) (
      let x7 : Int := (IntKind.wrap .i64 (v74 + 1))
      again0 (v3_0, v5, (v8 ++ r11), v72, v73, x7)))))) (
  some (.str v8, []))
theorem aoE (N : Nat) : ∀ (again0 : St → Ro) (x : pQ), yY N again0 (nJ x) = tW N (fun y => again0 (nJ y)) x := by
 intro again0 x
 kernel_rfl
def rm (N : Nat) (p0_0 : List aA) (p1 : Int) (p2 : aB) (q0 : pQ → Ro) : Ro :=
 chk ((decide (0 ≤ p1) && decide (p1 < ↑(List.length p0_0)))) (
  let x1 : aA := (List.getD p0_0 (Int.toNat p1) (aC .atype))
  cond (x1.kind == 2) (
   aH (my p2.n 1) (fun (r1 : Bs) =>
    some (.str r1, []))) (
   cond (x1.kind == 3) (
    aH (fR (IntKind.wrap .i64 p2.n)) (fun (r2 : Bs) =>
     some (.str r2, []))) (
    cond (x1.kind == 4) (
     aH (fR (IntKind.wrap .i64 p2.n)) (fun (r3 : Bs) =>
      some (.str r3, []))) (
     cond (x1.kind == 10) (
      aH (fR (IntKind.wrap .i64 p2.n)) (fun (r4 : Bs) =>
       some (.str r4, []))) (
      cond (x1.kind == 5) (
       aH (my p2.n 4) (fun (r5 : Bs) =>
        some (.str r5, []))) (
       cond (x1.kind == 6) (
        aH (my p2.n 8) (fun (r6 : Bs) =>
         some (.str r6, []))) (
        cond (x1.kind == 7) (
         aH (oj p2.s) (fun (r7 : Bs) =>
          some (.str r7, []))) (
         cond (x1.kind == 8) (
          aH (oj p2.s) (fun (r8 : Bs) =>
           some (.str r8, []))) (
          cond (x1.kind == 11) (
           some (.str p2.s, [])) (
           cond (x1.kind == 14) (
            aH (fR p2.branch) (fun (r9 : Bs) =>
             chk ((decide (0 ≤ p2.branch) && decide (p2.branch < ↑(List.length x1.branches)))) (
              let x2 : Int := List.getD x1.branches (Int.toNat p2.branch) (aC (.num .i64))
              chk (decide ((0 : Int) < ↑(List.length p2.l))) (
               let x3 : aB := (List.getD p2.l (Int.toNat 0) (aC .aval))
               aH (ia p0_0 x2 (reA x3)) (fun (r10 : Bs) =>
                chk (decide (List.length r9 + List.length r10 ≤ 9223372036854775807)) (
                 some (.str (r9 ++ r10), []))))))) (
            cond (x1.kind == 9) (
             let x4 : Int := (↑(List.length x1.fields) : Int)
             q0 (p0_0, p2, ([] : Bs), x1.fields, x4, 0)) (
             cond (x1.kind == 12) (
              aH (pL p0_0 x1 (reA p2)) (fun (r12 : Bs) =>
               some (.str r12, []))) (
              cond (x1.kind == 13) (
               aH (pL p0_0 x1 (reA p2)) (fun (r13 : Bs) =>
                some (.str r13, []))) (
               some (.str ([] : Bs), [])))))))))))))))
def aaO (N : Nat) (p0_0 : List aA) (p1 : Int) (p2 : aB) : Ro := rm N p0_0 p1 p2 (fun z => aQ N (tW N) z)
def aug (N : Nat) : List (Nat × (St → Ro)) := ba tt N aaN (fin vJ) ++ []
theorem aqt (N : Nat) (p0_0 : List aA) (p1 : Int) (p2 : aB) : aW tt N 99 vJ aaN [.agg [.sl .atype (.may false) p0_0], .int .i64 p1, .agg (enc .aval p2)] [] = aaO N p0_0 p1 p2 :=
 (bL (aug N) (by kernel_rfl) rfl (fun C => rm N p0_0 p1 p2 (fun z => C 1000000 (nJ z))) (fun C => by kernel_rfl)).trans (Eq.trans (b := rm N p0_0 p1 p2 (fun z => bg N (yY N) (nJ z))) (by kernel_rfl) (congrArg (rm N p0_0 p1 p2) (funext fun z => bc (nJ) (yY N) (tW N) (aoE N) N z)))
theorem aqu (N : Nat) (p0_0 : List aA) (p1 : Int) (p2 : aB) (h : Tot (aaO N p0_0 p1 p2) (fun z => ∃ (y0 : Bs) (rest : List aK), z.1.dimR = .str y0 ∧ z.2 = rest ∧ adv p0_0 p1 p2 (y0))) : ∃ r, ia p0_0 p1 p2 r := by
 obtain ⟨⟨v, hp⟩, hz, y0, rest, e1, e2, hq⟩ := h
 simp only at e1 e2
 subst e2
 exact ⟨(y0), aI.dimR (asv.pure (aqt N p0_0 p1 p2) hz) e1, hq⟩
noncomputable def ahI : aN := tab (P := Try.prog) [] [] [] [auZ, acu]
def afI : IR := Rs [Bx 3 0, Bx 5 2, Pp (.mov 6 (.c (nl .u8))), Mi 7 0] (Sq (.block 0 (Rs [Mv 10 1, Bc 11 .lss 10 0, Mv 12 11, Gf 12 (.mov 13 1), Gf 12 (.fad 14 0 3), Gf 12 (.lde 15 1 false 14), Gf 12 (.lenl 16 15), Gf 12 (.bin 17 .geq 13 16), Po 18 12 17, Mv 9 18] (Cn 9 (Rs [Pp (.mov 6 (.c (nl .u8))), Mi 7 1] .ret) (Rs [Ld 20 1 true 3, Mv 21 1, Ld 22 5 true 5, Ca 23 21 [20, 21, 22], Un 24 23, Mv 19 24] (Cn 19 (Rs [Pp (.mov 6 (.c (nl .u8))), Mi 7 7] .ret) .skip))))) (Rs [Ld 25 1 true 3, Mv 26 1, Ld 27 5 true 5, Ca 28 70 [25, 26, 27], Mv 8 28] (Sq (Rs [Mv 29 8, Pp (.lens 30 29), Bc 31 .gtr 30 5000] (Cn 31 (Rs [Pp (.mov 6 (.c (nl .u8))), Mi 7 3] .ret) .skip)) (Rs [Mv 32 8, Pp (.s2b 33 32), Mv 6 33, Mi 7 0] .ret))))
def afJ : List RV := [.t 6, .t 7]
theorem aqv : FnC Try.prog ahI [] 0 ahA Try.f37 afI afJ := fnC (by kernel_rfl) Try.func37 (by kernel_rfl) (by kernel_rfl) (by decide)
def afK (N : Nat) (p0_0 : List aA) (p1 : Int) (p2 : aB)  : Ro :=
 cond (decide (p1 < 0)) (
  some (.tup [.sl .u8 (.may false) ([] : Bs), .int .i64 1], [])) (
  let x1 : Int := (↑(List.length p0_0) : Int)
  cond (decide (x1 ≤ p1)) (
   some (.tup [.sl .u8 (.may false) ([] : Bs), .int .i64 1], [])) (
   aH (zl p0_0 p1 (reA p2)) (fun (r1 : Bool) =>
    cond (!r1) (
     some (.tup [.sl .u8 (.may false) ([] : Bs), .int .i64 7], [])) (
     aH (ia p0_0 p1 (reA p2)) (fun (r2 : Bs) =>
      let x2 : Int := (↑(List.length r2) : Int)
      cond (decide (5000 < x2)) (
       some (.tup [.sl .u8 (.may false) ([] : Bs), .int .i64 3], [])) (
       some (.tup [.sl .u8 (.may false) r2, .int .i64 0], [])))))))
def yZ (N : Nat) (p0_0 : List aA) (p1 : Int) (p2 : aB) : Ro := afK N p0_0 p1 p2
theorem aoF (N : Nat) (p0_0 : List aA) (p1 : Int) (p2 : aB) : aW ahI N 34 afJ afI [.agg [.sl .atype (.may false) p0_0], .int .i64 p1, .agg (enc .aval p2)] [] = yZ N p0_0 p1 p2 := by kernel_rfl
theorem aoG (N : Nat) (p0_0 : List aA) (p1 : Int) (p2 : aB) (h : Tot (yZ N p0_0 p1 p2) (fun z => ∃ (y0 : Bs) (y1 : Int) (rest : List aK), z.1.dimR = .tup [.sl .u8 (.may false) y0, .int .i64 y1] ∧ z.2 = rest ∧ wc p0_0 p1 p2 (y0, y1))) : ∃ r, fT p0_0 p1 p2 r := by
 obtain ⟨⟨v, hp⟩, hz, y0, y1, rest, e1, e2, hq⟩ := h
 simp only at e1 e2
 subst e2
 exact ⟨(y0, y1), aI.dimR (aqv.pure (aoF N p0_0 p1 p2) hz) e1, hq⟩
end Go.Proofs.Ytdpajabhmmmjoaa
end
noncomputable section
namespace Go.Proofs.Ytdpajabhmmmjoaa
open Go.AM
set_option autoImplicit false
set_option linter.unusedVariables false
set_option maxRecDepth 100000
noncomputable def ahJ : aN := tab (P := Try.prog) [] [] [] [ahC]
def afL : IR := Rs [Mb 0 false] (Rs [Pp (.bld 6 [vI 0, vS, fu .str true, vI 0, fu .str true, .bool false, vS, vI 0, fu .afield true, fu (.num .i64) true] [(0, 1, kI 4)]), Pp (.bsl 7 .atype [6] true), Pp (.bld 8 [nl .atype] [(0, 1, 7)]), Pp (.alr 1 1), Fz 1 1 8] (Rs [Ld 10 1 true 1, Pp (.bld 11 [vU 0, vS, fu .aval true, fu .str true, vI 0] [(0, 1, kU 18446744073709551615)]), Ca 12 37 [10, kI 0, 11], Mv 9 12, Ex_ 13 0 9, Ex_ 14 1 9, Mv 2 13, Mv 3 14] (Rs [Ld 16 1 true 1, Pp (.bld 17 [vU 0, vS, fu .aval true, fu .str true, vI 0] []), Ca 18 37 [16, kI 1, 17], Mv 15 18, Ex_ 19 0 15, Ex_ 20 1 15, Mv 4 19, Mv 5 20] (Rs [Mv 21 3, Bc 22 .eql 21 0, Mv 23 22, Gt 23 (.mov 24 2), Gt 23 (.b2s 25 24), Gt 23 (.bin 26 .eql 25 (kS [1])), Pa 27 23 26, Mv 28 27, Gt 28 (.mov 29 5), Gt 28 (.bin 30 .eql 29 (kI 1)), Pa 31 28 30, Mv 0 31] .ret))))
def afM : List RV := [.t 0]
theorem aqw : FnC Try.prog ahJ [] 0 ahB Try.f36 afL afM := fnC (by kernel_rfl) Try.func36 (by kernel_rfl) (by kernel_rfl) (by decide)
def afN (N : Nat)   : Ro :=
 aH (fT ([⟨4, ([] : Bs), ([] : Bss), 0, ([] : Bss), false, ([] : Bs), 0, ([] : List aM), ([] : List Int)⟩] : List aA) 0 ⟨18446744073709551615, ([] : Bs), ([] : List aB), ([] : Bss), 0⟩) (fun r1 =>
  aH (fT ([⟨4, ([] : Bs), ([] : Bss), 0, ([] : Bss), false, ([] : Bs), 0, ([] : List aM), ([] : List Int)⟩] : List aA) 1 ⟨0, ([] : Bs), ([] : List aB), ([] : Bss), 0⟩) (fun r2 =>
   cond (r1.2 == 0) (
    let x1 : Bool := decide (r1.1 = ([1] : Bs))
    cond x1 (
     some (.bool (r2.2 == 1), [])) (
     some (.bool false, []))) (
    some (.bool false, []))))
def y8 (N : Nat)  : Ro := afN N
theorem aoH (N : Nat)  : aW ahJ N 32 afM afL [] [] = y8 N  := by kernel_rfl
theorem aoI (N : Nat) (h : Tot (y8 N ) (fun z => ∃ (y0 : Bool) (rest : List aK), z.1.dimR = .bool y0 ∧ z.2 = rest ∧ acr  (y0))) : ∃ r, rh  r := by
 obtain ⟨⟨v, hp⟩, hz, y0, rest, e1, e2, hq⟩ := h
 simp only at e1 e2
 subst e2
 exact ⟨(y0), aI.dimR (aqw.pure (aoH N ) hz) e1, hq⟩
noncomputable def adE : aN := tab (P := Try.prog) [auC] [aks, abg] [] [afB, asj, ahC, aqh]
def acE : IR := Rs [Mb 10 false] (Sq (Rs [Ca 28 36 [], Un 29 28] (Cn 29 (Rs [Mb 10 false] .ret) .skip)) (Sq (Rs [Mv 30 0, Ll 31 30, Bc 32 .gtr 31 120, Mv 33 32, Gf 33 (.mov 34 1), Gf 33 (.lenl 35 34), Gf 33 (.bin 36 .gtr 35 (kI 60)), Po 37 33 36] (Cn 37 (Rs [Mb 10 true] .ret) .skip)) (Rs [Mv 39 0, Ca 40 14 [39], Ca 41 15 [40], Mv 38 41, Ex_ 42 0 38, Ex_ 43 1 38, Pp (.alr 11 1), Fz 11 1 42, Mv 12 43] (Sq (Rs [Mv 44 12, Un 45 44] (Cn 45 (Rs [Mb 10 true] .ret) .skip)) (Sq (.reg [Mv 47 1, Ca 48 14 [47], Ld 49 1 true 11, Fo [] [1] (.call 50 26 [48, 49, kI 0, kI 0]), Mv 46 50, Ex_ 51 0 46, Ex_ 52 1 46, Pp (.alr 13 5), Fz 13 5 51, Mv 14 52] [[], [0], [], [0, 1, 2], rg 0 3, rg 0 4, rg 0 4, [], rg 0 5 ++ [7], rg 0 8]) (Sq (Rs [Mv 53 14, Un 54 53] (Cn 54 (Rs [Mb 10 true] .ret) .skip)) (Rs [Ld 55 5 true 13, Mv 56 2, Mv 57 3, Ca 58 27 [55, 56, 57], Pp (.alr 15 5), Fz 15 5 58] (Rs [Ld 60 1 true 11, Ld 61 5 true 13, Ca 62 37 [60, kI 0, 61], Mv 59 62, Ex_ 63 0 59, Ex_ 64 1 59, Mv 16 63, Mv 17 64] (Rs [Ld 66 1 true 11, Ld 67 5 true 13, Ca 68 38 [66, kI 0, 67], Mv 65 68, Ex_ 69 0 65, Ex_ 70 1 65, Mv 18 69, Mv 19 70] (Rs [Ld 72 1 true 11, Ld 73 5 true 15, Ca 74 37 [72, kI 0, 73], Mv 71 74, Ex_ 75 0 71, Ex_ 76 1 71, Mv 20 75, Mv 21 76] (Rs [Ld 78 1 true 11, Ld 79 5 true 15, Ca 80 38 [78, kI 0, 79], Mv 77 80, Ex_ 81 0 77, Ex_ 82 1 77, Mv 22 81, Mv 23 82] (Rs [Ld 84 1 true 11, Mv 85 4, Ld 86 5 true 13, Ca 87 37 [84, 85, 86], Mv 83 87, Ex_ 88 0 83, Ex_ 89 1 83, Mv 24 88, Mv 25 89] (Rs [Ld 91 1 true 11, Mv 92 4, Ld 93 5 true 13, Ca 94 38 [91, 92, 93], Mv 90 94, Ex_ 95 0 90, Ex_ 96 1 90, Mv 26 95, Mv 27 96] (Rs [Mv 97 17, Mv 98 19, Bi 99 .eql 97 98, Mv 100 99, Gt 100 (.mov 101 16), Gt 100 (.b2s 102 101), Gt 100 (.mov 103 18), Gt 100 (.b2s 104 103), Gt 100 (.bin 105 .eql 102 104), Pa 106 100 105, Mv 107 106, Gt 107 (.mov 108 21), Gt 107 (.mov 109 23), Gt 107 (.bin 110 .eql 108 109), Pa 111 107 110, Mv 112 111, Gt 112 (.mov 113 20), Gt 112 (.b2s 114 113), Gt 112 (.mov 115 22), Gt 112 (.b2s 116 115), Gt 112 (.bin 117 .eql 114 116), Pa 118 112 117, Mv 119 118, Gt 119 (.mov 120 25), Gt 119 (.mov 121 27), Gt 119 (.bin 122 .eql 120 121), Pa 123 119 122, Mv 124 123, Gt 124 (.mov 125 24), Gt 124 (.b2s 126 125), Gt 124 (.mov 127 26), Gt 124 (.b2s 128 127), Gt 124 (.bin 129 .eql 126 128), Pa 130 124 129, Mv 10 130] .ret))))))))))))))
def acF : List RV := [.t 10]
theorem amK : FnC Try.prog adE [14, 15, 26, 2000015, 2000026] 0 xN Try.f11 acE acF := fnC (by kernel_rfl) Try.func11 (by kernel_rfl) (by kernel_rfl) (by decide)
def acG (N : Nat) (p0 p1 : Bs) (p2 p3 p4 : Int)  : Ro :=
 aH (rh) (fun (r1 : Bool) =>
  cond (!r1) (
   some (.bool false, [])) (
   let x1 : Int := (↑(List.length p0) : Int)
   cond (decide (120 < x1)) (
    some (.bool true, [])) (
    let x2 : Int := (↑(List.length p1) : Int)
    cond (decide (60 < x2)) (
     some (.bool true, [])) (
     aH (rq p0) (fun r2 =>
      aH (kW r2.1 r2.2) (fun r3 =>
       cond (!r3.2.1) (
        some (.bool true, [some [.sl .u8 (.may false) r3.2.2.1, .int .i64 r3.2.2.2]])) (
        aH (rq p1) (fun r4 =>
         aH (cB r4.1 r4.2 r3.1 0 0) (fun r5 =>
          cond (!r5.2.1) (
           some (.bool true, [some [.sl .u8 (.may false) r3.2.2.1, .int .i64 r3.2.2.2], some [.sl .u8 (.may false) r5.2.2.1, .int .i64 r5.2.2.2]])) (
           aH (jt (reA r5.1) p2 p3) (fun (r6 : aB) =>
            aH (fT r3.1 0 (reA r5.1)) (fun r7 =>
             aH (ju r3.1 0 (reA r5.1)) (fun r8 =>
              aH (fT r3.1 0 (reA r6)) (fun r9 =>
               aH (ju r3.1 0 (reA r6)) (fun r10 =>
                aH (fT r3.1 p4 (reA r5.1)) (fun r11 =>
                 aH (ju r3.1 p4 (reA r5.1)) (fun r12 =>
                  cond (r7.2 == r8.2) (
                   cond (decide (r7.1 = r8.1)) (
                    cond (r9.2 == r10.2) (
                     cond (decide (r9.1 = r10.1)) (
                      cond (r11.2 == r12.2) (
                       some (.bool (decide (r11.1 = r12.1)), [some [.sl .u8 (.may false) r3.2.2.1, .int .i64 r3.2.2.2], some [.sl .u8 (.may false) r5.2.2.1, .int .i64 r5.2.2.2]])) (
                       some (.bool false, [some [.sl .u8 (.may false) r3.2.2.1, .int .i64 r3.2.2.2], some [.sl .u8 (.may false) r5.2.2.1, .int .i64 r5.2.2.2]]))) (
                      some (.bool false, [some [.sl .u8 (.may false) r3.2.2.1, .int .i64 r3.2.2.2], some [.sl .u8 (.may false) r5.2.2.1, .int .i64 r5.2.2.2]]))) (
                     some (.bool false, [some [.sl .u8 (.may false) r3.2.2.1, .int .i64 r3.2.2.2], some [.sl .u8 (.may false) r5.2.2.1, .int .i64 r5.2.2.2]]))) (
                    some (.bool false, [some [.sl .u8 (.may false) r3.2.2.1, .int .i64 r3.2.2.2], some [.sl .u8 (.may false) r5.2.2.1, .int .i64 r5.2.2.2]]))) (
                   some (.bool false, [some [.sl .u8 (.may false) r3.2.2.1, .int .i64 r3.2.2.2], some [.sl .u8 (.may false) r5.2.2.1, .int .i64 r5.2.2.2]])))))))))))))))))))
def wi (N : Nat) (p0 p1 : Bs) (p2 p3 p4 : Int) : Ro := acG N p0 p1 p2 p3 p4
theorem akQ (N : Nat) (p0 p1 : Bs) (p2 p3 p4 : Int) : aW adE N 131 acF acE [.sl .u8 (.may false) p0, .sl .u8 (.may false) p1, .int .u8 p2, .int .u64 p3, .int .i64 p4] [] = wi N p0 p1 p2 p3 p4 := by kernel_rfl
theorem akR (N : Nat) (p0 p1 : Bs) (p2 p3 p4 : Int) (h : Tot (wi N p0 p1 p2 p3 p4) (fun z => ∃ (y0 : Bool) (rest : List aK), z.1.dimR = .bool y0 ∧ z.2 = rest ∧ zU p0 p1 p2 p3 p4 (y0))) : ∃ r, adx p0 p1 p2 p3 p4 r := by
 obtain ⟨⟨v, hp⟩, hz, y0, rest, e1, e2, hq⟩ := h
 simp only at e1 e2
 subst e2
 exact ⟨(y0), aI.dimR (amK.pure (akQ N p0 p1 p2 p3 p4) hz) e1, hq⟩
end Go.Proofs.Ytdpajabhmmmjoaa
end
noncomputable section
namespace Go.Proofs.Ytdpajabhmmmjoaa
open Go.AM
set_option autoImplicit false
set_option linter.unusedSimpArgs false
set_option linter.unusedVariables false
set_option maxRecDepth 100000
theorem avx : ∀ (k v : Nat), v < 128 ^ (k + 1) → ud (k + 1) v = ud k v
 | 0, v, h => by simp at h; simp [ud, h]
 | k + 1, v, h => by
   rw [ud]
   conv => rhs; rw [ud]
   split
   ·rfl
   ·rw [avx k (v / 128) (by rw [Nat.pow_succ] at h; exact Nat.div_lt_of_lt_mul (by rw [Nat.mul_comm]; exact h))]
theorem aq2 (v : Nat) (h : v < 2 ^ 64) (h128 : 128 ≤ v) : ud 9 v = UInt8.ofNat (v % 128 + 128) :: ud 9 (v / 128) := by
 rw [ud, if_neg (by omega), avx 8 (v / 128)]
 have : (2 : Nat) ^ 64 ≤ 128 * 128 ^ 9 := by decide
 exact Nat.div_lt_of_lt_mul (by omega)
theorem auh (v : Nat) (h : v < 128) : ud 9 v = [UInt8.ofNat v] := by rw [ud, if_pos h]
def F13 (x : Int × List UInt8) : V × List aK := (.str (x.2 ++ ud 9 x.1.toNat), [])
structure azj (w : Int) (b : List UInt8) : Prop where
 ex : ∃ v : Nat, w = (v : Int) ∧ v < 2 ^ 64 ∧ v < 128 ^ (10 - b.length) ∧ b.length ≤ 9
theorem aii (N : Nat) (p : Int) (hp : 0 ≤ p ∧ p ≤ 18446744073709551615) (hN : 2 ^ 64 < N) : wh N p = some (.str (af2 p), []) := by
 obtain ⟨v, rfl⟩ : ∃ v : Nat, p = (v : Int) := ⟨p.toNat, by omega⟩
 have hv : v < 2 ^ 64 := by omega
 show aQ N (lm N) ((v : Int), ([] : List UInt8)) = some (F13 ((v : Int), []))
 refine pW (fun x => azj x.1 x.2) (fun x => x.1.toNat) F13 ?_ N _ ⟨v, rfl, hv, ?_, by simp⟩ (by simp; omega)
 ·rintro rec ⟨w, b⟩ ⟨v, rfl, h64, hb, hl⟩ hrec
  simp only at hb hl hrec ⊢
  simp only [lm, F13, Int.toNat_natCast]
  by_cases h128 : 128 ≤ v
  ·have c1 : decide ((128 : Int) ≤ (v : Int)) = true := decide_eq_true (by omega)
   have e2 : Int.tmod (v : Int) 128 = ((v % 128 : Nat) : Int) := axl _ _
   have e3 : IntKind.wrap .u64 (((v % 128 : Nat) : Int) + 128) = ((v % 128 + 128 : Nat) : Int) := by rw [dY _ (by omega)]; rfl
   have e4 : IntKind.wrap .u8 ((v % 128 + 128 : Nat) : Int) = ((v % 128 + 128 : Nat) : Int) := lp _ (by omega)
   have e5 : cJ .u64 (v : Int) 7 = ((v / 128 : Nat) : Int) := sE .u64 v 7 (by decide)
   have e6 : ∀ c : UInt8, decide ((b.length + [c].length) * 1 ≤ 140737488355328) = true := fun c => decide_eq_true (by simp; omega)
   have e7 : decide ((0 : Int) ≤ 7) = true := rfl
   have e8 : (!((128 : Int) == 0)) = true := rfl
   simp only [c1, cond_true, e2, e3, e4, e5, e7, Int.toNat_natCast, alM e8, alM (e6 _), akd]
   have hb2 : 2 ≤ 10 - b.length := by
    rcases Nat.lt_or_ge (10 - b.length) 2 with h | h
    ·have : (128 : Nat) ^ (10 - b.length) ≤ 128 ^ 1 := Nat.pow_le_pow_right (by omega) (by omega)
     omega
    ·exact h
   rw [hrec (((v / 128 : Nat) : Int), b ++ [UInt8.ofNat (v % 128 + 128)]) ⟨v / 128, rfl, by omega, ?_, by simp; omega⟩ (by simp; omega)]
   ·simp only [F13, Int.toNat_natCast]
    rw [aq2 v h64 h128, List.append_assoc]
    rfl
   ·simp only [List.length_append, List.length_singleton]
    refine Nat.div_lt_of_lt_mul ?_
    rw [show 10 - b.length = (10 - (b.length + 1)) + 1 by omega, Nat.pow_succ, Nat.mul_comm] at hb
    exact hb
  ·have c1 : decide ((128 : Int) ≤ (v : Int)) = false := decide_eq_false (by omega)
   have e4 : IntKind.wrap .u8 (v : Int) = (v : Int) := lp _ (by omega)
   have e6 : ∀ c : UInt8, decide ((b.length + [c].length) * 1 ≤ 140737488355328) = true := fun c => decide_eq_true (by simp; omega)
   simp only [c1, cond_false, e4, Int.toNat_natCast, alM (e6 _)]
   rw [auh v (by omega)]
 ·have : (2 : Nat) ^ 64 ≤ 128 ^ 10 := by decide
  simp; omega
theorem amL : ∀ (k v : Nat), (ud k v).length ≤ k + 1
 | 0, v => by simp [ud]
 | k + 1, v => by
   rw [ud]
   split
   ·simp
   ·have := amL k (v / 128)
    simp; omega
theorem aq3 (a : Int) : (((BitVec.ofInt 64 a).toNat : Nat) : Int) = a % 18446744073709551616 := by
 rw [BitVec.toNat_ofInt]
 exact Int.toNat_of_nonneg (Int.emod_nonneg _ (by decide))
theorem aw6 (a : Int) : bH .xor .i64 a 0 = IntKind.wrap .i64 a := by
 have e : bH .xor .i64 a 0 = IntKind.wrap .i64 ((BitVec.ofInt 64 a ^^^ 0#64).toNat : Nat) := rfl
 rw [e, BitVec.xor_zero, aq3, nM, nM]
 omega
theorem aw7 (a : Int) : bH .xor .i64 a (-1) = IntKind.wrap .i64 (-1 - a) := by
 have e : bH .xor .i64 a (-1) = IntKind.wrap .i64 ((BitVec.ofInt 64 a ^^^ BitVec.allOnes 64).toNat : Nat) := by
  show IntKind.wrap .i64 ((BitVec.ofInt 64 a ^^^ BitVec.ofInt 64 (-1)).toNat : Nat) = _
  rw [show BitVec.ofInt 64 (-1) = BitVec.allOnes 64 from by decide]
 have hb : (BitVec.ofInt 64 a).toNat < 18446744073709551616 := (BitVec.ofInt 64 a).isLt
 have ht := aq3 a
 rw [e, BitVec.xor_allOnes, BitVec.toNat_not, nM, nM]
 have e2 : ((2 ^ 64 - 1 - (BitVec.ofInt 64 a).toNat : Nat) : Int) = 18446744073709551616 - 1 - a % 18446744073709551616 := by
  rw [← ht]
  generalize (BitVec.ofInt 64 a).toNat = q at *
  omega
 rw [e2]
 omega
theorem azk (n : Int) (hn : 0 ≤ n ∧ n ≤ 18446744073709551615) :
  IntKind.wrap .u64 (bH .xor .i64 (fo .i64 (IntKind.wrap .i64 n) 1) (cJ .i64 (IntKind.wrap .i64 n) 63)) = (if n < 9223372036854775808 then n * 2 else (18446744073709551615 - n) * 2 + 1) := by
 have hi : IntKind.wrap .i64 n = if n < 9223372036854775808 then n else n - 18446744073709551616 := by
  simp only [nM, abH]
  split <;> omega
 have e1 : cJ .i64 (IntKind.wrap .i64 n) 63 = if n < 9223372036854775808 then 0 else -1 := by
  rw [hi, ayb _ _ (by omega)]
  show _ / (9223372036854775808 : Int) = _
  split <;> omega
 have e2 : fo .i64 (IntKind.wrap .i64 n) 1 = IntKind.wrap .i64 ((IntKind.wrap .i64 n) * 2) := rfl
 rw [e1, e2, hi]
 by_cases h : n < 9223372036854775808
 ·rw [if_pos h, if_pos h, if_pos h, aw6]
  simp only [nM, abH, yp]
  omega
 ·rw [if_neg h, if_neg h, if_neg h, aw7]
  simp only [nM, abH, yp]
  omega
theorem axO (N : Nat) (n : Int) (hn : 0 ≤ n ∧ n ≤ 18446744073709551615) : abv N 8 n = some (.int .u64 (yA n), []) := by
 have h := azk n hn
 have e : ∀ c : Int, c ≠ 8 → ((8 : Int) == c) = false := fun c hc => bf (fun h => hc h.symm)
 unfold yA
 rw [← h]
 simp only [abv, aoB]
 rfl
theorem eN (n : Int) : (cd n).length ≤ 10 := by
 rw [adc]
 exact amL 9 _
theorem aq4 (s : List UInt8) : (rS s).length ≤ s.length + 10 := by
 have := eN (s.length : Int)
 simp only [rS, List.length_append]
 omega
theorem wE : ∀ (k v : Nat), (tM k v).length = k
 | 0, v => rfl
 | k + 1, v => by simp [tM, wE k]
theorem agO : ∀ (k v : Nat), tM (k + 1) v = tM k v ++ [UInt8.ofNat (v / 256 ^ k % 256)]
 | 0, v => by simp [tM]
 | k + 1, v => by
   rw [tM, agO k (v / 256), tM]
   simp [Nat.div_div_eq_div_mul, Nat.pow_succ, Nat.mul_comm]
theorem au8 (N : Nat) (p n : Int) (hp : 0 ≤ p ∧ p ≤ 18446744073709551615) (hn : 0 ≤ n ∧ n ≤ 8) (hN : 8 < N) : aaK N p n = some (.str (jz p n), []) := by
 obtain ⟨v, rfl⟩ : ∃ v : Nat, p = (v : Int) := ⟨p.toNat, by omega⟩
 obtain ⟨m, rfl⟩ : ∃ m : Nat, n = (m : Int) := ⟨n.toNat, by omega⟩
 show aQ N (pN N) ((v : Int), ([] : List UInt8), (m : Int), 0) = _
 refine pW (fun x : Int × List UInt8 × Int × Int => ∃ i : Nat, x = ((v : Int), tM i v, (m : Int), (i : Int)) ∧ i ≤ m) (fun x => m - x.2.2.2.toNat) (fun x => (V.str (jz (v : Int) (m : Int)), ([] : List aK))) ?_ N _ ⟨0, rfl, by omega⟩ (by simp; omega)
 rintro rec x ⟨i, rfl, hi⟩ hrec
 simp only [pN]
 rcases Nat.lt_or_ge i m with h | h
 ·have hr := hrec ((v : Int), tM (i + 1) v, (m : Int), ((i + 1 : Nat) : Int)) ⟨i + 1, rfl, by omega⟩ (by simp only [Int.toNat_natCast]; omega)
  have hl := wE i v
  have e1 : IntKind.wrap .i64 (8 * (i : Int)) = ((8 * i : Nat) : Int) := by rw [aJ _ (by omega)]; omega
  have e2 : cJ .u64 (v : Int) ((8 * i : Nat) : Int) = ((v / 256 ^ i : Nat) : Int) := by
   rw [ayd v (8 * i) (by omega), Nat.pow_mul]
  have e3 : IntKind.wrap .u8 ((v / 256 ^ i : Nat) : Int) = ((v / 256 ^ i % 256 : Nat) : Int) := by rw [avj]; omega
  have e4 : IntKind.wrap .i64 ((i : Int) + 1) = ((i + 1 : Nat) : Int) := by rw [aJ _ (by omega)]; rfl
  have c1 : decide ((i : Int) < (m : Int)) = true := decide_eq_true (by omega)
  have c2 : decide ((0 : Int) ≤ ((8 * i : Nat) : Int)) = true := decide_eq_true (by omega)
  have c3 : ∀ c : UInt8, decide (((tM i v).length + ([c] : List UInt8).length) * 1 ≤ 140737488355328) = true := fun c => decide_eq_true (by simp only [hl, List.length_singleton]; omega)
  simp only [c1, e1, c2, e2, e3, e4, Int.toNat_natCast, c3, akd, cond_true]
  rw [← agO]
  exact hr
 ·have c1 : decide ((i : Int) < (m : Int)) = false := decide_eq_false (by omega)
  have : i = m := by omega
  subst this
  simp only [c1, cond_false, jz, Int.toNat_natCast]
mutual
theorem ib (ts : List aA) (t : Int) : ∀ v : aB, (bu ts t v).length + 20 ≤ wV v
 | .mk n s l ks b => by
   have h1 := acH ts (ts.getD t.toNat (aC .atype)).items l
   have h1' := acH ts ((ts.getD t.toNat (aC .atype)).branches.getD b.toNat 0) l
   have h2 := agP ts (ts.getD t.toNat (aC .atype)).items ks l
   have h3 := agQ ts (ts.getD t.toNat (aC .atype)).fields l
   have k1 := eN (IntKind.wrap .i64 n)
   have k2 := eN (l.length : Int)
   have k3 := eN 0
   have k4 := eN b
   have k5 := aq4 s
   have m1 : (jz n 1).length = 1 := wE _ _
   have m4 : (jz n 4).length = 4 := wE _ _
   have m8 : (jz n 8).length = 8 := wE _ _
   simp only [bu, wV]
   generalize ts.getD t.toNat (aC .atype) = k at *
   have key : ∀ (c : Bool) (x y : List UInt8), x.length ≤ 20 + s.length + cL ks + wL l → y.length ≤ 20 + s.length + cL ks + wL l → (cond c x y).length ≤ 20 + s.length + cL ks + wL l := by
    intro c x y hx hy; cases c <;> assumption
   suffices H : ∀ z : List UInt8, z.length ≤ 20 + s.length + cL ks + wL l → z.length + 20 ≤ 40 + s.length + cL ks + wL l by
    apply H
    refine key _ _ _ (by omega) (key _ _ _ (by omega) (key _ _ _ (by omega) (key _ _ _ (by omega) (key _ _ _ (by omega) (key _ _ _ (by omega) (key _ _ _ ?_ (key _ _ _ (by omega) (key _ _ _ ?_ (by simp)))))))))
    ·simp only [List.length_append]; omega
    ·simp only [List.length_append]
     have q1 : (cond (decide (0 < (l.length : Int))) (cd (l.length : Int)) []).length ≤ 10 := by cases decide (0 < (l.length : Int)) <;> simp [k2]
     have q2 : (cond (k.kind == 13) (yB ts k.items ks l) (pY ts k.items l)).length ≤ cL ks + wL l := by cases (k.kind == 13) <;> simp only [cond_true, cond_false] <;> omega
     omega
   intro z hz; omega
theorem acH (ts : List aA) (t : Int) : ∀ l : List aB, (pY ts t l).length ≤ wL l
 | [] => by simp [pY]
 | v :: l => by
   have := ib ts t v
   have := acH ts t l
   simp only [pY, List.length_append, wL]; omega
theorem agP (ts : List aA) (t : Int) : ∀ (ks : List (List UInt8)) (l : List aB), (yB ts t ks l).length ≤ cL ks + wL l
 | ks, [] => by simp [yB]
 | ks, v :: l => by
   have h1 := ib ts t v
   have h2 := agP ts t ks.tail l
   have h3 := aq4 (ks.headD [])
   have h4 : (ks.headD []).length + cL ks.tail ≤ cL ks := by cases ks <;> simp [cL]
   simp only [yB, List.length_append, wL]
   omega
theorem agQ (ts : List aA) : ∀ (fs : List aM) (l : List aB), (uf ts fs l).length ≤ wL l
 | fs, [] => by simp [uf]
 | fs, v :: l => by
   have := ib ts ((fs.headD (aC .afield)).typ) v
   have := agQ ts fs.tail l
   simp only [uf, List.length_append, wL]; omega
end
theorem aw8 (v : aB) : wV v = 40 + v.s.length + cL v.keys + wL v.l := by cases v; rfl
theorem aj8 (ts : List aA) (t : Int) : ∀ (l : List aB) (i : Nat), br ts t l = true → i < l.length → aZ ts t (l.getD i (aC .aval)) = true
 | [], i, h, hi => by simp at hi
 | v :: l, 0, h, hi => by
   simp only [br, Bool.and_eq_true] at h
   exact h.1
 | v :: l, i + 1, h, hi => by
   simp only [br, Bool.and_eq_true] at h
   exact aj8 ts t l i h.2 (by simpa using hi)
theorem amM (ts : List aA) : ∀ (fs : List aM) (l : List aB) (i : Nat), gq ts fs l = true → i < l.length → aZ ts (fs.getD i (aC .afield)).typ (l.getD i (aC .aval)) = true
 | fs, [], i, h, hi => by simp at hi
 | fs, v :: l, 0, h, hi => by
   simp only [gq, Bool.and_eq_true] at h
   cases fs <;> exact h.1
 | fs, v :: l, i + 1, h, hi => by
   simp only [gq, Bool.and_eq_true] at h
   have := amM ts fs.tail l i h.2 (by simpa using hi)
   cases fs <;> simpa using this
def eS (ts : List aA) (kind t : Int) (ks : List (List UInt8)) (l : List aB) : List UInt8 := cond (kind == 13) (yB ts t ks l) (pY ts t l)
section
variable {ts : List aA} {t n : Int} {s : List UInt8} {l : List aB} {ks : List (List UInt8)} {b : Int}
theorem azl (e : (ts.getD t.toNat (aC .atype)).kind = 9) (h : aZ ts t (.mk n s l ks b) = true) : l.length = (ts.getD t.toNat (aC .atype)).fields.length ∧ gq ts (ts.getD t.toNat (aC .atype)).fields l = true := by
 rw [aZ, Bool.and_eq_true] at h
 have h := h.2
 simp only [e] at h
 have h : ((decide (l.length = (ts.getD t.toNat (aC .atype)).fields.length) && gq ts (ts.getD t.toNat (aC .atype)).fields l) && bR n s [] ks b) = true := h
 simp only [Bool.and_eq_true, decide_eq_true_eq] at h
 exact h.1
theorem ay8 (e : (ts.getD t.toNat (aC .atype)).kind = 12) (h : aZ ts t (.mk n s l ks b) = true) : br ts (ts.getD t.toNat (aC .atype)).items l = true := by
 rw [aZ, Bool.and_eq_true] at h
 have h := h.2
 simp only [e] at h
 have h : (br ts (ts.getD t.toNat (aC .atype)).items l && bR n s [] ks b) = true := h
 exact (Bool.and_eq_true_iff.1 h).1
theorem ay9 (e : (ts.getD t.toNat (aC .atype)).kind = 13) (h : aZ ts t (.mk n s l ks b) = true) : ks.length = l.length ∧ br ts (ts.getD t.toNat (aC .atype)).items l = true := by
 rw [aZ, Bool.and_eq_true] at h
 have h := h.2
 simp only [e] at h
 have h : ((((ks.length : Int) == (l.length : Int)) && (ey ks && br ts (ts.getD t.toNat (aC .atype)).items l)) && bR n s [] [] b) = true := h
 simp only [Bool.and_eq_true, beq_iff_eq] at h
 exact ⟨by omega, h.1.2.2⟩
theorem aza (e : (ts.getD t.toNat (aC .atype)).kind = 14) (h : aZ ts t (.mk n s l ks b) = true) : 0 ≤ b ∧ b < (ts.getD t.toNat (aC .atype)).branches.length ∧ ∃ v, l = [v] ∧ aZ ts ((ts.getD t.toNat (aC .atype)).branches.getD b.toNat 0) v = true := by
 rw [aZ, Bool.and_eq_true] at h
 have h := h.2
 simp only [e] at h
 have h : ((decide (0 ≤ b) && (decide (b < ((ts.getD t.toNat (aC .atype)).branches.length : Int)) && (((l.length : Int) == 1) && br ts ((ts.getD t.toNat (aC .atype)).branches.getD b.toNat 0) l))) && bR n s [] ks 0) = true := h
 simp only [Bool.and_eq_true, decide_eq_true_eq, beq_iff_eq] at h
 obtain ⟨⟨h1, h2, h3, h4⟩, -⟩ := h
 match l, h3, h4 with
 | [v], h3, h4 =>
   simp only [br, Bool.and_true] at h4
   exact ⟨h1, h2, v, rfl, h4⟩
theorem aw9 {v : aB} (h : aZ ts t v = true) (e : (ts.getD t.toNat (aC .atype)).kind = 9) : v.l.length = (ts.getD t.toNat (aC .atype)).fields.length ∧ gq ts (ts.getD t.toNat (aC .atype)).fields v.l = true := by
 cases v; exact azl e h
theorem avy {v : aB} (h : aZ ts t v = true) (e : (ts.getD t.toNat (aC .atype)).kind = 12) : br ts (ts.getD t.toNat (aC .atype)).items v.l = true := by
 cases v; exact ay8 e h
theorem avz {v : aB} (h : aZ ts t v = true) (e : (ts.getD t.toNat (aC .atype)).kind = 13) : v.keys.length = v.l.length ∧ br ts (ts.getD t.toNat (aC .atype)).items v.l = true := by
 cases v; exact ay9 e h
theorem avA {v : aB} (h : aZ ts t v = true) (e : (ts.getD t.toNat (aC .atype)).kind = 14) : 0 ≤ v.branch ∧ v.branch < (ts.getD t.toNat (aC .atype)).branches.length ∧ ∃ x, v.l = [x] ∧ aZ ts ((ts.getD t.toNat (aC .atype)).branches.getD v.branch.toNat 0) x = true := by
 cases v; exact aza e h
theorem aui {v : aB} (h : aZ ts t v = true) : 0 ≤ t ∧ t < ts.length := by
 cases v
 rw [aZ, Bool.and_eq_true] at h
 simpa [isT] using h.1
end
end Go.Proofs.Ytdpajabhmmmjoaa
end
noncomputable section
namespace Go.Proofs.Ytdpajabhmmmjoaa
open Go.AM
set_option autoImplicit false
set_option linter.unusedVariables false
set_option linter.unusedSimpArgs false
set_option maxRecDepth 100000
theorem azb {f : FuncId} {vs : List V} {R : Type} {C : R → Prop} {r : R} {v : V} (hC : ∀ x, C x → x = r ∧ aI Try.prog f vs v) (hR : aI Try.prog f vs v → C r) (h : (∀ x ∈ vs, x.fits) → ∃ r, C r) : ∃ r, C r :=
 ⟨r, hR (aI.fits fun hf => by obtain ⟨x, hx⟩ := h hf; exact (hC x hx).2)⟩
theorem axP (v : Nat) (h : v < 2 ^ 64) : af2 (v : Int) = if v < 128 then [UInt8.ofNat v] else UInt8.ofNat (v % 128 + 128) :: af2 ((v / 128 : Nat) : Int) := by
 unfold af2
 simp only [Int.toNat_natCast]
 split
 ·rename_i h1; exact auh v h1
 ·rename_i h1; exact aq2 v h (by omega)
theorem axQ (v : Int) : (af2 v).length ≤ 10 := amL 9 _
theorem auj : ∀ (m v : Nat), v < m → v < 2 ^ 64 → ∃ r, fU (v : Int) r
 | 0 => fun v h => by omega
 | m + 1 => by
   intro v hm h64
   apply ajZ 1
   unfold uz abl
   have hp := axP v h64
   refine aF (fun h => ?_) (fun h => ?_)
   ·have h := of_decide_eq_true h
    rw [if_pos (by omega)] at hp
    refine aG ⟨_, _, rfl, rfl, ?_⟩
    rw [lp _ (by omega)]
    exact hp.symm
   ·have h := of_decide_eq_false h
    rw [if_neg (by omega)] at hp
    have e1 : Int.tdiv (v : Int) 128 = ((v / 128 : Nat) : Int) := by rw [Int.tdiv_eq_ediv_of_nonneg (by omega)]; omega
    have e2 : IntKind.u64.wrap ((v / 128 : Nat) : Int) = ((v / 128 : Nat) : Int) := dY _ (by omega)
    have e3 : Int.tmod (v : Int) 128 = ((v % 128 : Nat) : Int) := by rw [Int.tmod_eq_emod_of_nonneg (by omega)]; omega
    have e4 : IntKind.u8.wrap ((v % 128 : Nat) : Int) = ((v % 128 : Nat) : Int) := lp _ (by omega)
    have e5 : IntKind.u8.wrap (((v % 128 : Nat) : Int) + 128) = ((v % 128 + 128 : Nat) : Int) := by rw [lp _ (by omega)]; omega
    simp only [e1, e2, e3, e4, e5]
    refine aD (auj m (v / 128) (by omega) (by omega)) ?_
    rintro (r : List UInt8) ⟨-, hr⟩
    have hr : r = af2 ((v / 128 : Nat) : Int) := hr
    subst hr
    have := axQ ((v / 128 : Nat) : Int)
    refine vck (aG ⟨_, _, rfl, rfl, ?_⟩)
    exact hp.symm
theorem axR (v : Int) (h : 0 ≤ v ∧ v ≤ 18446744073709551615) : ∃ r, fU v r := by
 obtain ⟨n, rfl⟩ : ∃ n : Nat, v = (n : Int) := ⟨v.toNat, by omega⟩
 exact auj (n + 1) n (by omega) (by omega)
theorem axa (v : Int) (h : 0 ≤ v ∧ v ≤ 18446744073709551615) : bH .xor .u64 (if IntKind.signed .u64 then -1 else IntKind.max .u64) v = 18446744073709551615 - v := by
 have e : bH .xor .u64 (if IntKind.signed .u64 then -1 else IntKind.max .u64) v = IntKind.wrap .u64 ((BitVec.ofInt 64 18446744073709551615 ^^^ BitVec.ofInt 64 v).toNat : Nat) := rfl
 rw [e, show BitVec.ofInt 64 18446744073709551615 = BitVec.allOnes 64 from by decide, BitVec.allOnes_xor, BitVec.toNat_not, BitVec.toNat_ofInt]
 have e2 : ((2 ^ 64 - 1 - (v % (2 ^ 64 : Nat)).toNat : Nat) : Int) = 18446744073709551615 - v := by omega
 rw [e2, dY _ (by omega)]
theorem ayr (v : Int) (h : 0 ≤ v ∧ v ≤ 18446744073709551615) : ∃ r, tV v r := by
 apply at8 1
 unfold aeh alx
 dsimp only
 refine aF (fun h1 => ?_) (fun h1 => ?_)
 ·have h1 := of_decide_eq_true h1
  refine aG ⟨_, _, rfl, rfl, ?_⟩
  rw [axa v h, dY ((18446744073709551615 - v) * 2) (by omega), dY _ (by omega)]
  simp only [vE, yA]
  rw [if_neg (by omega)]
 ·have h1 := of_decide_eq_false h1
  refine aG ⟨_, _, rfl, rfl, ?_⟩
  rw [dY _ (by omega)]
  simp only [vE, yA]
  rw [if_pos (by omega)]
theorem ays (v : Int) (h : 0 ≤ v ∧ v ≤ 18446744073709551615) : ∃ r, zW 8 v r := by
 apply au4 1
 unfold agN aov
 have cF : ∀ (c : Int) (x y : Ro), c ≠ 8 → cond ((8 : Int) == c) x y = y := fun c x y hc => by rw [bf (fun e => hc e.symm)]; rfl
 rw [cF 3 _ _ (by decide), cF 17 _ _ (by decide), cF 5 _ _ (by decide), cF 9 _ _ (by decide), cF 2 _ _ (by decide), cF 11 _ _ (by decide), cF 13 _ _ (by decide), cF 7 _ _ (by decide)]
 refine aF (fun _ => ?_) (fun hc => by cases hc)
 refine aD (ayr v h) ?_
 rintro (r : Int) ⟨-, hr⟩
 exact aG ⟨_, _, rfl, rfl, fun _ => hr⟩
theorem avB (n : Int) : 0 ≤ yA (IntKind.wrap .u64 n) ∧ yA (IntKind.wrap .u64 n) ≤ 18446744073709551615 := by
 have h : 0 ≤ IntKind.wrap .u64 n ∧ IntKind.wrap .u64 n ≤ 18446744073709551615 := by rw [yp]; omega
 unfold yA
 split <;> omega
theorem alA (n : Int) : 0 ≤ IntKind.wrap .u64 n ∧ IntKind.wrap .u64 n ≤ 18446744073709551615 := by rw [yp]; omega
theorem ol (n : Int) : ∃ r, de n r := by
 apply aqk 1
 unfold aaI ahH
 refine aD (ays _ (alA n)) ?_
 rintro (r : Int) ⟨-, hr⟩
 have hr : r = yA (IntKind.wrap .u64 n) := hr rfl
 subst hr
 refine aD (axR _ (avB n)) ?_
 rintro (q : List UInt8) ⟨-, hq⟩
 refine aG ⟨_, _, rfl, rfl, ?_⟩
 simp only [xL, adc, asA]
 exact hq
theorem aqx (p n : Int) (hp : 0 ≤ p ∧ p ≤ 18446744073709551615) (hn : 0 ≤ n ∧ n ≤ 8) : ∃ r, qD p n r := by
 obtain ⟨v, rfl⟩ : ∃ v : Nat, p = (v : Int) := ⟨p.toNat, by omega⟩
 obtain ⟨m, rfl⟩ : ∃ m : Nat, n = (m : Int) := ⟨n.toNat, by omega⟩
 apply aub 100
 unfold aej uZ
 refine be (fun x => match x with | (w, m', s, i) => m' = (m : Int) ∧ ∃ k : Nat, i = (k : Int) ∧ k ≤ m ∧ w = ((v / 256 ^ k : Nat) : Int) ∧ s = tM k v) (fun x => ((m : Int) - x.2.2.2).toNat) ?_ _ _ ⟨rfl, 0, rfl, by omega, by simp, rfl⟩ (by simp; omega)
 rintro again ⟨w, m', s, i⟩ ⟨rfl, k, rfl, hk, rfl, rfl⟩ ih
 dsimp only at ih
 unfold xP
 dsimp only
 have hl := wE k v
 have hlt : v / 256 ^ k ≤ v := Nat.div_le_self _ _
 generalize hq : v / 256 ^ k = q at *
 refine aF (fun h => ?_) (fun h => ?_)
 ·have h := of_decide_eq_true h
  have e1 : Int.tmod (q : Int) 256 = ((q % 256 : Nat) : Int) := by rw [Int.tmod_eq_emod_of_nonneg (by omega)]; omega
  have e2 : IntKind.u8.wrap ((q % 256 : Nat) : Int) = ((q % 256 : Nat) : Int) := lp _ (by omega)
  have e3 : Int.tdiv (q : Int) 256 = ((q / 256 : Nat) : Int) := by rw [Int.tdiv_eq_ediv_of_nonneg (by omega)]; omega
  have e4 : IntKind.u64.wrap ((q / 256 : Nat) : Int) = ((q / 256 : Nat) : Int) := dY _ (by omega)
  have e5 : IntKind.i64.wrap ((k : Int) + 1) = ((k + 1 : Nat) : Int) := by rw [aJ _ (by omega)]; rfl
  simp only [e1, e2, e3, e4, e5, Int.toNat_natCast]
  refine vck ?_
  refine ih (_, _, _, _) ⟨rfl, k + 1, rfl, by omega, ?_, ?_⟩ (by simp only; omega)
  ·rw [← hq, Nat.div_div_eq_div_mul, Nat.pow_succ]
  ·rw [agO, hq]
 ·have h := of_decide_eq_false h
  have : k = m := by omega
  subst this
  exact aG ⟨_, _, rfl, rfl, by simp only [aaH, jz, Int.toNat_natCast]⟩
section
variable (ts : List aA) (t : Int)
theorem aq5 {v : aB} : bu ts t v = (let k := ts.getD t.toNat (aC .atype)
  cond (k.kind == 2) (jz v.n 1) (
  cond (k.kind == 3 || (k.kind == 4 || k.kind == 10)) (cd (IntKind.wrap .i64 v.n)) (
  cond (k.kind == 5) (jz v.n 4) (
  cond (k.kind == 6) (jz v.n 8) (
  cond (k.kind == 7 || k.kind == 8) (rS v.s) (
  cond (k.kind == 11) v.s (
  cond (k.kind == 14) (cd v.branch ++ pY ts (k.branches.getD v.branch.toNat 0) v.l) (
  cond (k.kind == 9) (uf ts k.fields v.l) (
  cond (k.kind == 12 || k.kind == 13) ((cond (decide (0 < (v.l.length : Int))) (cd (v.l.length : Int)) []) ++ (cond (k.kind == 13) (yB ts k.items v.keys v.l) (pY ts k.items v.l)) ++ cd 0)
  []))))))))) := by
 cases v
 rw [bu]; rfl
end
theorem kN {c d : Int} {x y : Ro} {k : Int} (e : k = d) (h : d ≠ c) : cond (k == c) x y = y := by rw [e, bf h]; rfl
theorem kY {d : Int} {x y : Ro} {k : Int} (e : k = d) : cond (k == d) x y = x := by rw [e, bt rfl]; rfl
def auk (ts : List aA) (m : Nat) : Prop := ∀ (t : Int) (v : aB), wV v < m → wV v ≤ 1000000000000000 → aZ ts t v = true → ∃ r, eR ts t v r
theorem au9 (ts : List aA) (hs : dm ts) (m : Nat) (hE : auk ts m) : auk ts (m + 1) := by
 intro t v hm hw hf
 refine azb (r := bu ts t v) (fun x hx => ⟨hx.2, by have h := hx.1; rw [show x = bu ts t v from hx.2] at h; exact h⟩) (fun h => ⟨h, rfl⟩) fun hfit => ?_
 have hn := abI (hfit (.agg (enc .aval v)) (by simp)) v.n (by simp [enc])
 have hT := aui hf
 have hk := hs.at (i := t.toNat) (by omega)
 have hval := aq5 ts t (v := v)
 have hlen := ib ts t v
 have hwv := aw8 v
 have hbig : v.s.length + cL v.keys + wL v.l ≤ 1000000000000000 := by omega
 have hwl := ajQ v.l
 have hkl := acq v.keys
 apply amG 1000000000000000
 unfold xR nF
 dsimp only
 have hpost : ∀ y, uv ts t v y = (y = bu ts t v) := fun _ => rfl
 have f9 := @aw9 ts t v hf
 have f12 := @avy ts t v hf
 have f13 := @avz ts t v hf
 have f14 := @avA ts t v hf
 generalize hkk : ts.getD t.toNat (aC .atype) = k at hval hk f9 f12 f13 f14
 refine vck ?_
 have hq := eN
 have om : ∀ (h0 : List UInt8), h0.length ≤ 10 → (k.kind = 12 ∨ (k.kind = 13 ∧ v.keys.length = v.l.length)) → br ts k.items v.l = true → bu ts t v = h0 ++ eS ts k.kind k.items v.keys v.l ++ cd 0 →
   Tot (aQ 1000000000000000 (mB 1000000000000000) (ts, v, k, h0, 0)) (fun z => ∃ (y0 : Bs) (rest : List aK), z.1.dimR = .str y0 ∧ z.2 = rest ∧ y0 = bu ts t v) := by
  intro h0 hh0 hkd hE' hv
  have htl : (eS ts k.kind k.items v.keys v.l).length ≤ cL v.keys + wL v.l := by
   have a1 := agP ts k.items v.keys v.l
   have a2 := acH ts k.items v.l
   unfold eS
   cases (k.kind == 13) <;> simp only [cond_true, cond_false] <;> omega
  refine be (fun x => match x with | (ts', v', k', acc, i) => ts' = ts ∧ v' = v ∧ k' = k ∧ ∃ j : Nat, i = (j : Int) ∧ j ≤ v.l.length ∧ acc ++ eS ts k.kind k.items (v.keys.drop j) (v.l.drop j) = h0 ++ eS ts k.kind k.items v.keys v.l)
   (fun x => ((v.l.length : Int) - x.2.2.2.2).toNat) ?_ _ _ ⟨rfl, rfl, rfl, 0, rfl, by omega, by simp⟩ (by simp; omega)
  rintro again ⟨ts', v', k', acc, i⟩ ⟨rfl, rfl, rfl, j, rfl, hj, hacc⟩ ih
  dsimp only at ih
  have hal := congrArg List.length hacc
  simp only [List.length_append] at hal
  unfold mB
  dsimp only
  simp only [Int.toNat_natCast]
  refine aF (fun h => ?_) (fun h => ?_)
  ·have h := of_decide_eq_true h
   have hjl : j < v'.l.length := by omega
   have ej : IntKind.i64.wrap ((j : Int) + 1) = ((j + 1 : Nat) : Int) := by rw [aJ _ (by omega)]; rfl
   have hfe := aj8 ts' k'.items v'.l j hE' hjl
   have hd := el v'.l j (aC .aval) hjl
   have hwd := afC (aC .aval) v'.l j hjl
   have hlv := ib ts' k'.items (v'.l.getD j (aC .aval))
   rw [hd] at hacc hal
   generalize v'.l.getD j (aC .aval) = x at *
   refine aF (fun h13 => ?_) (fun h13 => ?_)
   ·simp only [bnl] at h13
    have hkl' : v'.keys.length = v'.l.length := by rcases hkd with e | e; omega; exact e.2
    have hdk := el v'.keys j (aC .str) (by omega)
    rw [hdk] at hacc hal
    obtain ⟨q, hq'⟩ : ∃ q : List UInt8, v'.keys.getD j (aC .str) = q := ⟨_, rfl⟩
    simp only [hq'] at hacc hal ⊢
    simp only [eS, h13, beq_self_eq_true, cond_true, yB, List.headD_cons, List.tail_cons, rS, List.length_append] at hacc hal
    refine vck ?_
    refine aD (ol _) ?_
    rintro (y : List UInt8) ⟨-, hy⟩
    have hy : y = cd (q.length : Int) := hy
    subst hy
    simp only [eS, h13, beq_self_eq_true, cond_true] at htl
    refine vck (vck (vck (vck ?_)))
    rw [eu]
    refine aD (hE k'.items x (by omega) (by omega) hfe) ?_
    rintro (z : List UInt8) ⟨-, hz⟩
    have hz : z = bu ts' k'.items x := hz
    subst hz
    refine vck ?_
    refine ih (_, _, _, _, _) ⟨rfl, rfl, rfl, j + 1, ej, by omega, ?_⟩ (by simp only [ej]; omega)
    simp only [eS, h13, beq_self_eq_true, cond_true]
    rw [← hacc]
    simp only [List.append_assoc]
   ·simp only [bnl] at h13
    have e13 : (k'.kind == 13) = false := bf h13
    simp only [eS, e13, cond_false, pY, List.length_append] at hacc hal htl
    refine vck ?_
    rw [eu]
    refine aD (hE k'.items x (by omega) (by omega) hfe) ?_
    rintro (z : List UInt8) ⟨-, hz⟩
    have hz : z = bu ts' k'.items x := hz
    subst hz
    refine vck ?_
    refine ih (_, _, _, _, _) ⟨rfl, rfl, rfl, j + 1, ej, by omega, ?_⟩ (by simp only [ej]; omega)
    simp only [eS, e13, cond_false]
    rw [← hacc]
    simp only [List.append_assoc]
  ·have h := of_decide_eq_false h
   have hjl : j = v'.l.length := by omega
   subst hjl
   have ht0 : eS ts' k'.kind k'.items (v'.keys.drop v'.l.length) (v'.l.drop v'.l.length) = [] := by
    rw [List.drop_length]
    unfold eS
    cases (k'.kind == 13) <;> simp [pY, yB]
   rw [ht0, List.append_nil] at hacc
   refine aD (ol _) ?_
   rintro (y : List UInt8) ⟨-, hy⟩
   have hy : y = cd 0 := hy
   subst hy
   have h00 := hq 0
   rw [ht0, List.length_nil] at hal
   refine vck (aG ⟨_, _, rfl, rfl, ?_⟩)
   rw [hv, hacc]
 rcases agK hk with e | e | e | e | e | e | e | e | e | e | e | e | e | e
 ·rw [kN (c := 2) e (by decide), kN (c := 3) e (by decide), kN (c := 4) e (by decide), kN (c := 10) e (by decide), kN (c := 5) e (by decide), kN (c := 6) e (by decide), kN (c := 7) e (by decide), kN (c := 8) e (by decide), kN (c := 11) e (by decide), kN (c := 14) e (by decide), kN (c := 9) e (by decide), kN (c := 12) e (by decide), kN (c := 13) e (by decide)]
  simp only [e] at hval
  exact aG ⟨_, _, rfl, rfl, hval.symm⟩
 ·rw [kY (d := 2) e]
  simp only [e] at hval
  have hval : bu ts t v = jz v.n 1 := hval
  refine aD (aqx v.n 1 hn (by omega)) ?_
  rintro (r : List UInt8) ⟨-, hr⟩
  exact aG ⟨_, _, rfl, rfl, Eq.trans hr hval.symm⟩
 ·rw [kN (c := 2) e (by decide), kY (d := 3) e]
  simp only [e] at hval
  have hval : bu ts t v = cd (IntKind.wrap .i64 v.n) := hval
  refine aD (ol _) ?_
  rintro (r : List UInt8) ⟨-, hr⟩
  exact aG ⟨_, _, rfl, rfl, Eq.trans hr hval.symm⟩
 ·rw [kN (c := 2) e (by decide), kN (c := 3) e (by decide), kY (d := 4) e]
  simp only [e] at hval
  have hval : bu ts t v = cd (IntKind.wrap .i64 v.n) := hval
  refine aD (ol _) ?_
  rintro (r : List UInt8) ⟨-, hr⟩
  exact aG ⟨_, _, rfl, rfl, Eq.trans hr hval.symm⟩
 ·rw [kN (c := 2) e (by decide), kN (c := 3) e (by decide), kN (c := 4) e (by decide), kN (c := 10) e (by decide), kY (d := 5) e]
  simp only [e] at hval
  have hval : bu ts t v = jz v.n 4 := hval
  refine aD (aqx v.n 4 hn (by omega)) ?_
  rintro (r : List UInt8) ⟨-, hr⟩
  exact aG ⟨_, _, rfl, rfl, Eq.trans hr hval.symm⟩
 ·rw [kN (c := 2) e (by decide), kN (c := 3) e (by decide), kN (c := 4) e (by decide), kN (c := 10) e (by decide), kN (c := 5) e (by decide), kY (d := 6) e]
  simp only [e] at hval
  have hval : bu ts t v = jz v.n 8 := hval
  refine aD (aqx v.n 8 hn (by omega)) ?_
  rintro (r : List UInt8) ⟨-, hr⟩
  exact aG ⟨_, _, rfl, rfl, Eq.trans hr hval.symm⟩
 ·rw [kN (c := 2) e (by decide), kN (c := 3) e (by decide), kN (c := 4) e (by decide), kN (c := 10) e (by decide), kN (c := 5) e (by decide), kN (c := 6) e (by decide), kY (d := 7) e]
  simp only [e] at hval
  have hval : bu ts t v = rS v.s := hval
  refine aD (ol _) ?_
  rintro (r : List UInt8) ⟨-, hr⟩
  have hr : r = cd (v.s.length : Int) := hr
  subst hr
  have h10 := eN (v.s.length : Int)
  refine vck (aG ⟨_, _, rfl, rfl, hval.symm⟩)
 ·rw [kN (c := 2) e (by decide), kN (c := 3) e (by decide), kN (c := 4) e (by decide), kN (c := 10) e (by decide), kN (c := 5) e (by decide), kN (c := 6) e (by decide), kN (c := 7) e (by decide), kY (d := 8) e]
  simp only [e] at hval
  have hval : bu ts t v = rS v.s := hval
  refine aD (ol _) ?_
  rintro (r : List UInt8) ⟨-, hr⟩
  have hr : r = cd (v.s.length : Int) := hr
  subst hr
  have h10 := eN (v.s.length : Int)
  refine vck (aG ⟨_, _, rfl, rfl, hval.symm⟩)
 ·rw [kN (c := 2) e (by decide), kN (c := 3) e (by decide), kN (c := 4) e (by decide), kN (c := 10) e (by decide), kN (c := 5) e (by decide), kN (c := 6) e (by decide), kN (c := 7) e (by decide), kN (c := 8) e (by decide), kN (c := 11) e (by decide), kN (c := 14) e (by decide), kY (d := 9) e]
  simp only [e] at hval
  obtain ⟨r1, r2⟩ := f9 e
  have hval : bu ts t v = uf ts k.fields v.l := hval
  have htl := agQ ts k.fields v.l
  have hnf := hk.nf
  refine be (fun x => match x with | (ts', v', k', acc, i) => ts' = ts ∧ v' = v ∧ k' = k ∧ ∃ j : Nat, i = (j : Int) ∧ j ≤ v.l.length ∧ acc ++ uf ts (k.fields.drop j) (v.l.drop j) = uf ts k.fields v.l)
   (fun x => ((v.l.length : Int) - x.2.2.2.2).toNat) ?_ _ _ ⟨rfl, rfl, rfl, 0, rfl, by omega, by simp⟩ (by simp; omega)
  rintro again ⟨ts', v', k', acc, i⟩ ⟨rfl, rfl, rfl, j, rfl, hj, hacc⟩ ih
  dsimp only at ih
  have hal := congrArg List.length hacc
  simp only [List.length_append] at hal
  unfold qE
  dsimp only
  simp only [Int.toNat_natCast]
  refine aF (fun h => ?_) (fun h => ?_)
  ·have h := of_decide_eq_true h
   have hjl : j < v'.l.length := by omega
   have ej : IntKind.i64.wrap ((j : Int) + 1) = ((j + 1 : Nat) : Int) := by rw [aJ _ (by omega)]; rfl
   have hfe := amM ts' k'.fields v'.l j r2 hjl
   have hd := el v'.l j (aC .aval) hjl
   have hdf := el k'.fields j (aC .afield) (by omega)
   have hwd := afC (aC .aval) v'.l j hjl
   have hlv := ib ts' (k'.fields.getD j (aC .afield)).typ (v'.l.getD j (aC .aval))
   rw [hd, hdf] at hacc hal
   generalize v'.l.getD j (aC .aval) = x at *
   generalize k'.fields.getD j (aC .afield) = f at *
   simp only [uf, List.headD_cons, List.tail_cons, List.length_append] at hacc hal
   refine vck (vck ?_)
   rw [eu]
   refine aD (hE f.typ x (by omega) (by omega) hfe) ?_
   rintro (z : List UInt8) ⟨-, hz⟩
   have hz : z = bu ts' f.typ x := hz
   subst hz
   refine vck ?_
   refine ih (_, _, _, _, _) ⟨rfl, rfl, rfl, j + 1, ej, by omega, ?_⟩ (by simp only [ej]; omega)
   rw [← hacc]
   simp only [List.append_assoc]
  ·have h := of_decide_eq_false h
   have hjl : j = v'.l.length := by omega
   subst hjl
   rw [List.drop_length, uf, List.append_nil] at hacc
   exact aG ⟨_, _, rfl, rfl, hacc.trans hval.symm⟩
 ·rw [kN (c := 2) e (by decide), kN (c := 3) e (by decide), kN (c := 4) e (by decide), kY (d := 10) e]
  simp only [e] at hval
  have hval : bu ts t v = cd (IntKind.wrap .i64 v.n) := hval
  refine aD (ol _) ?_
  rintro (r : List UInt8) ⟨-, hr⟩
  exact aG ⟨_, _, rfl, rfl, Eq.trans hr hval.symm⟩
 ·rw [kN (c := 2) e (by decide), kN (c := 3) e (by decide), kN (c := 4) e (by decide), kN (c := 10) e (by decide), kN (c := 5) e (by decide), kN (c := 6) e (by decide), kN (c := 7) e (by decide), kN (c := 8) e (by decide), kY (d := 11) e]
  simp only [e] at hval
  exact aG ⟨_, _, rfl, rfl, hval.symm⟩
 ·rw [kN (c := 2) e (by decide), kN (c := 3) e (by decide), kN (c := 4) e (by decide), kN (c := 10) e (by decide), kN (c := 5) e (by decide), kN (c := 6) e (by decide), kN (c := 7) e (by decide), kN (c := 8) e (by decide), kN (c := 11) e (by decide), kN (c := 14) e (by decide), kN (c := 9) e (by decide), kY (d := 12) e]
  simp only [e] at hval
  have hval : bu ts t v = (cond (decide (0 < (v.l.length : Int))) (cd (v.l.length : Int)) []) ++ eS ts 12 k.items v.keys v.l ++ cd 0 := hval
  rw [← e] at hval
  refine aF (fun h => ?_) (fun h => ?_)
  ·refine aD (ol _) ?_
   rintro (r : List UInt8) ⟨-, hr⟩
   have hr : r = cd (v.l.length : Int) := hr
   subst hr
   rw [h, cond_true] at hval
   exact om _ (eN _) (.inl e) (f12 e) hval
  ·rw [h, cond_false] at hval
   exact om [] (by simp) (.inl e) (f12 e) hval
 ·rw [kN (c := 2) e (by decide), kN (c := 3) e (by decide), kN (c := 4) e (by decide), kN (c := 10) e (by decide), kN (c := 5) e (by decide), kN (c := 6) e (by decide), kN (c := 7) e (by decide), kN (c := 8) e (by decide), kN (c := 11) e (by decide), kN (c := 14) e (by decide), kN (c := 9) e (by decide), kN (c := 12) e (by decide), kY (d := 13) e]
  simp only [e] at hval
  have hval : bu ts t v = (cond (decide (0 < (v.l.length : Int))) (cd (v.l.length : Int)) []) ++ eS ts 13 k.items v.keys v.l ++ cd 0 := hval
  rw [← e] at hval
  refine aF (fun h => ?_) (fun h => ?_)
  ·refine aD (ol _) ?_
   rintro (r : List UInt8) ⟨-, hr⟩
   have hr : r = cd (v.l.length : Int) := hr
   subst hr
   rw [h, cond_true] at hval
   exact om _ (eN _) (.inr ⟨e, (f13 e).1⟩) (f13 e).2 hval
  ·rw [h, cond_false] at hval
   exact om [] (by simp) (.inr ⟨e, (f13 e).1⟩) (f13 e).2 hval
 ·rw [kN (c := 2) e (by decide), kN (c := 3) e (by decide), kN (c := 4) e (by decide), kN (c := 10) e (by decide), kN (c := 5) e (by decide), kN (c := 6) e (by decide), kN (c := 7) e (by decide), kN (c := 8) e (by decide), kN (c := 11) e (by decide), kY (d := 14) e]
  simp only [e] at hval
  have hval : bu ts t v = cd v.branch ++ pY ts (k.branches.getD v.branch.toNat 0) v.l := hval
  obtain ⟨b1, b2, x, hx, hfx⟩ := f14 e
  have h10 := eN v.branch
  refine aD (ol _) ?_
  rintro (r : List UInt8) ⟨-, hr⟩
  have hr : r = cd v.branch := hr
  subst hr
  have hx0 : v.l.getD (Int.toNat 0) (aC .aval) = x := by rw [hx]; rfl
  have hl1 : v.l.length = 1 := by rw [hx]; rfl
  have hwx : wV x = wL v.l := by rw [hx]; simp [wL]
  refine vck (vck ?_)
  rw [hx0, eu]
  refine aD (hE _ x (by omega) (by omega) hfx) ?_
  rintro (z : List UInt8) ⟨-, hz⟩
  have hz : z = bu ts (k.branches.getD v.branch.toNat 0) x := hz
  subst hz
  have hlx := ib ts (k.branches.getD v.branch.toNat 0) x
  refine vck (aG ⟨_, _, rfl, rfl, ?_⟩)
  show cd v.branch ++ bu ts (k.branches.getD v.branch.toNat 0) x = bu ts t v
  rw [hval, hx]; simp [pY]
end Go.Proofs.Ytdpajabhmmmjoaa
end
noncomputable section
namespace Go.Proofs.Ytdpajabhmmmjoaa
open Go.AM
set_option autoImplicit false
set_option linter.unusedVariables false
set_option linter.unusedSimpArgs false
set_option maxRecDepth 100000
theorem axS (v : Int) (h : 0 ≤ v ∧ v ≤ 18446744073709551615) : ∃ r, nD v r :=
 akP (2 ^ 64 + 1) v ⟨_, aii (2 ^ 64 + 1) v h (Nat.lt_succ_self _), _, _, rfl, rfl, rfl⟩
theorem ayt (v : Int) (h : 0 ≤ v ∧ v ≤ 18446744073709551615) : ∃ r, zV 8 v r :=
 au7 1 8 v ⟨_, axO 1 v h, _, _, rfl, rfl, fun _ => rfl⟩
theorem tu (n : Int) : ∃ r, fR n r := by
 apply asq 1
 unfold acy aj4
 refine aD (ayt _ (alA n)) ?_
 rintro (r : Int) ⟨-, hr⟩
 have hr : r = yA (IntKind.wrap .u64 n) := hr rfl
 subst hr
 refine aD (axS _ (avB n)) ?_
 rintro (q : List UInt8) ⟨-, hq⟩
 refine aG ⟨_, _, rfl, rfl, ?_⟩
 simp only [yV, adc, asA]
 exact hq
theorem aj9 (p n : Int) (hp : 0 ≤ p ∧ p ≤ 18446744073709551615) (hn : 0 ≤ n ∧ n ≤ 8) : ∃ r, my p n r :=
 aqo 100 p n ⟨_, au8 100 p n hp hn (by omega), _, _, rfl, rfl, rfl⟩
theorem aka (s : List UInt8) (h : s.length ≤ 1000000000000000) : ∃ r, oj s r := by
 apply ast 1
 unfold acz aj7
 dsimp only
 refine aD (tu _) ?_
 rintro (r : List UInt8) ⟨-, hr⟩
 have hr : r = cd (s.length : Int) := hr
 subst hr
 have h10 := eN (s.length : Int)
 exact vck (aG ⟨_, _, rfl, rfl, rfl⟩)
def awj (ts : List aA) (m : Nat) : Prop := ∀ (t : Int) (v : aB), wV v < m → wV v ≤ 1000000000000000 → aZ ts t v = true → ∃ r, ia ts t v r
theorem aq6 (ts : List aA) (hs : dm ts) (m : Nat) (hE : awj ts m) (k : aA) (v : aB) (hw : wL v.l < m) (hb : wL v.l + cL v.keys ≤ 1000000000000000) (hkd : k.kind = 12 ∨ (k.kind = 13 ∧ v.keys.length = v.l.length)) (hE' : br ts k.items v.l = true) : ∃ r, pL ts k v r := by
 apply aqr 1000000000000000
 unfold aaM rl
 dsimp only
 have hwl := ajQ v.l
 have hkl := acq v.keys
 have hq := eN
 have om : ∀ (h0 : List UInt8), h0.length ≤ 10 → aey ts k.kind k.items v.keys v.l = h0 ++ eS ts k.kind k.items v.keys v.l ++ cd 0 →
   Tot (aQ 1000000000000000 (pP 1000000000000000) (ts, k, v, h0, v.l, (v.l.length : Int), 0)) (fun z => ∃ (y0 : Bs) (rest : List aK), z.1.dimR = .str y0 ∧ z.2 = rest ∧ xM ts k v y0) := by
  intro h0 hh0 hv
  have htl : (eS ts k.kind k.items v.keys v.l).length ≤ cL v.keys + wL v.l := by
   have a1 := agP ts k.items v.keys v.l
   have a2 := acH ts k.items v.l
   unfold eS
   cases (k.kind == 13) <;> simp only [cond_true, cond_false] <;> omega
  refine be (fun x => match x with | (ts', k', v', acc, l', q, i) => ts' = ts ∧ k' = k ∧ v' = v ∧ l' = v.l ∧ q = (v.l.length : Int) ∧ ∃ j : Nat, i = (j : Int) ∧ j ≤ v.l.length ∧ acc ++ eS ts k.kind k.items (v.keys.drop j) (v.l.drop j) = h0 ++ eS ts k.kind k.items v.keys v.l)
   (fun x => ((v.l.length : Int) - x.2.2.2.2.2.2).toNat) ?_ _ _ ⟨rfl, rfl, rfl, rfl, rfl, 0, rfl, by omega, by simp⟩ (by simp; omega)
  rintro again ⟨ts', k', v', acc, l', q, i⟩ ⟨rfl, rfl, rfl, rfl, rfl, j, rfl, hj, hacc⟩ ih
  dsimp only at ih
  have hal := congrArg List.length hacc
  simp only [List.length_append] at hal
  unfold pP
  dsimp only
  simp only [Int.toNat_natCast]
  refine aF (fun h => ?_) (fun h => ?_)
  ·have h := of_decide_eq_true h
   have hjl : j < v'.l.length := by omega
   have ej : IntKind.i64.wrap ((j : Int) + 1) = ((j + 1 : Nat) : Int) := by rw [aJ _ (by omega)]; rfl
   have hfe := aj8 ts' k'.items v'.l j hE' hjl
   have hd := el v'.l j (aC .aval) hjl
   have hwd := afC (aC .aval) v'.l j hjl
   have hlv := ib ts' k'.items (v'.l.getD j (aC .aval))
   rw [hd] at hacc hal
   generalize v'.l.getD j (aC .aval) = x at *
   refine vck (aF (fun h13 => ?_) (fun h13 => ?_))
   ·simp only [bnl] at h13
    have hkl' : v'.keys.length = v'.l.length := by rcases hkd with e | e; omega; exact e.2
    have hdk := el v'.keys j (aC .str) (by omega)
    rw [hdk] at hacc hal
    obtain ⟨q, hq'⟩ : ∃ q : List UInt8, v'.keys.getD j (aC .str) = q := ⟨_, rfl⟩
    have hqk := adt (aC .str) [] v'.keys j (by omega)
    simp only [hq'] at hacc hal hqk ⊢
    simp only [List.length_nil] at hqk
    simp only [eS, h13, beq_self_eq_true, cond_true, yB, List.headD_cons, List.tail_cons, List.length_append] at hacc hal
    have hqt : q.length ≤ (rS q).length := by simp only [rS, List.length_append]; omega
    simp only [eS, h13, beq_self_eq_true, cond_true] at htl
    refine vck ?_
    refine aD (aka q (by omega)) ?_
    rintro (y : List UInt8) ⟨-, hy⟩
    have hy : y = rS q := hy
    subst hy
    refine vck ?_
    rw [eu]
    refine aD (hE k'.items x (by omega) (by omega) hfe) ?_
    rintro (z : List UInt8) ⟨-, hz⟩
    have hz : z = bu ts' k'.items x := hz
    subst hz
    refine vck ?_
    refine ih (_, _, _, _, _, _, _) ⟨rfl, rfl, rfl, rfl, rfl, j + 1, ej, by omega, ?_⟩ (by simp only [ej]; omega)
    simp only [eS, h13, beq_self_eq_true, cond_true]
    rw [← hacc]
    simp only [List.append_assoc]
   ·simp only [bnl] at h13
    have e13 : (k'.kind == 13) = false := bf h13
    simp only [eS, e13, cond_false, pY, List.length_append] at hacc hal htl
    rw [eu]
    refine aD (hE k'.items x (by omega) (by omega) hfe) ?_
    rintro (z : List UInt8) ⟨-, hz⟩
    have hz : z = bu ts' k'.items x := hz
    subst hz
    refine vck ?_
    refine ih (_, _, _, _, _, _, _) ⟨rfl, rfl, rfl, rfl, rfl, j + 1, ej, by omega, ?_⟩ (by simp only [ej]; omega)
    simp only [eS, e13, cond_false]
    rw [← hacc]
    simp only [List.append_assoc]
  ·have h := of_decide_eq_false h
   have hjl : j = v'.l.length := by omega
   subst hjl
   have ht0 : eS ts' k'.kind k'.items (v'.keys.drop v'.l.length) (v'.l.drop v'.l.length) = [] := by
    rw [List.drop_length]
    unfold eS
    cases (k'.kind == 13) <;> simp [pY, yB]
   rw [ht0, List.append_nil] at hacc
   refine aD (tu _) ?_
   rintro (y : List UInt8) ⟨-, hy⟩
   have hy : y = cd 0 := hy
   subst hy
   have h00 := hq 0
   rw [ht0, List.length_nil] at hal
   refine vck (aG ⟨_, _, rfl, rfl, ?_⟩)
   show acc ++ cd 0 = aey ts' k'.kind k'.items v'.keys v'.l
   rw [hv, hacc]
 have hi : aey ts k.kind k.items v.keys v.l = (cond (decide (0 < (v.l.length : Int))) (cd (v.l.length : Int)) []) ++ eS ts k.kind k.items v.keys v.l ++ cd 0 := rfl
 refine aF (fun h => ?_) (fun h => ?_)
 ·refine aD (tu _) ?_
  rintro (r : List UInt8) ⟨-, hr⟩
  have hr : r = cd (v.l.length : Int) := hr
  subst hr
  rw [h, cond_true] at hi
  exact om _ (eN _) hi
 ·rw [h, cond_false] at hi
  exact om [] (by simp) hi
theorem ava (ts : List aA) (hs : dm ts) (m : Nat) (hE : awj ts m) : awj ts (m + 1) := by
 intro t v hm hw hf
 refine azb (r := bu ts t v) (fun x hx => ⟨hx.2, by have h := hx.1; rw [show x = bu ts t v from hx.2] at h; exact h⟩) (fun h => ⟨h, rfl⟩) fun hfit => ?_
 have hn := abI (hfit (.agg (enc .aval v)) (by simp)) v.n (by simp [enc])
 have hT := aui hf
 have hk := hs.at (i := t.toNat) (by omega)
 have hval := aq5 ts t (v := v)
 have hlen := ib ts t v
 have hwv := aw8 v
 have hbig : v.s.length + cL v.keys + wL v.l ≤ 1000000000000000 := by omega
 have hwl := ajQ v.l
 have hkl := acq v.keys
 apply aqu 1000000000000000
 unfold aaO rm
 dsimp only
 have f9 := aw9 (ts := ts) (t := t) (v := v) hf
 have f12 := avy (ts := ts) (t := t) (v := v) hf
 have f13 := avz (ts := ts) (t := t) (v := v) hf
 have f14 := avA (ts := ts) (t := t) (v := v) hf
 generalize hkk : ts.getD t.toNat (aC .atype) = k at hval hk f9 f12 f13 f14
 refine vck ?_
 rcases agK hk with e | e | e | e | e | e | e | e | e | e | e | e | e | e
 ·rw [kN (c := 2) e (by decide), kN (c := 3) e (by decide), kN (c := 4) e (by decide), kN (c := 10) e (by decide), kN (c := 5) e (by decide), kN (c := 6) e (by decide), kN (c := 7) e (by decide), kN (c := 8) e (by decide), kN (c := 11) e (by decide), kN (c := 14) e (by decide), kN (c := 9) e (by decide), kN (c := 12) e (by decide), kN (c := 13) e (by decide)]
  simp only [e] at hval
  exact aG ⟨_, _, rfl, rfl, hval.symm⟩
 ·rw [kY (d := 2) e]
  simp only [e] at hval
  have hval : bu ts t v = jz v.n 1 := hval
  refine aD (aj9 v.n 1 hn (by omega)) ?_
  rintro (r : List UInt8) ⟨-, hr⟩
  exact aG ⟨_, _, rfl, rfl, Eq.trans hr hval.symm⟩
 ·rw [kN (c := 2) e (by decide), kY (d := 3) e]
  simp only [e] at hval
  have hval : bu ts t v = cd (IntKind.wrap .i64 v.n) := hval
  refine aD (tu _) ?_
  rintro (r : List UInt8) ⟨-, hr⟩
  exact aG ⟨_, _, rfl, rfl, Eq.trans hr hval.symm⟩
 ·rw [kN (c := 2) e (by decide), kN (c := 3) e (by decide), kY (d := 4) e]
  simp only [e] at hval
  have hval : bu ts t v = cd (IntKind.wrap .i64 v.n) := hval
  refine aD (tu _) ?_
  rintro (r : List UInt8) ⟨-, hr⟩
  exact aG ⟨_, _, rfl, rfl, Eq.trans hr hval.symm⟩
 ·rw [kN (c := 2) e (by decide), kN (c := 3) e (by decide), kN (c := 4) e (by decide), kN (c := 10) e (by decide), kY (d := 5) e]
  simp only [e] at hval
  have hval : bu ts t v = jz v.n 4 := hval
  refine aD (aj9 v.n 4 hn (by omega)) ?_
  rintro (r : List UInt8) ⟨-, hr⟩
  exact aG ⟨_, _, rfl, rfl, Eq.trans hr hval.symm⟩
 ·rw [kN (c := 2) e (by decide), kN (c := 3) e (by decide), kN (c := 4) e (by decide), kN (c := 10) e (by decide), kN (c := 5) e (by decide), kY (d := 6) e]
  simp only [e] at hval
  have hval : bu ts t v = jz v.n 8 := hval
  refine aD (aj9 v.n 8 hn (by omega)) ?_
  rintro (r : List UInt8) ⟨-, hr⟩
  exact aG ⟨_, _, rfl, rfl, Eq.trans hr hval.symm⟩
 ·rw [kN (c := 2) e (by decide), kN (c := 3) e (by decide), kN (c := 4) e (by decide), kN (c := 10) e (by decide), kN (c := 5) e (by decide), kN (c := 6) e (by decide), kY (d := 7) e]
  simp only [e] at hval
  have hval : bu ts t v = rS v.s := hval
  refine aD (aka v.s (by omega)) ?_
  rintro (r : List UInt8) ⟨-, hr⟩
  exact aG ⟨_, _, rfl, rfl, Eq.trans hr hval.symm⟩
 ·rw [kN (c := 2) e (by decide), kN (c := 3) e (by decide), kN (c := 4) e (by decide), kN (c := 10) e (by decide), kN (c := 5) e (by decide), kN (c := 6) e (by decide), kN (c := 7) e (by decide), kY (d := 8) e]
  simp only [e] at hval
  have hval : bu ts t v = rS v.s := hval
  refine aD (aka v.s (by omega)) ?_
  rintro (r : List UInt8) ⟨-, hr⟩
  exact aG ⟨_, _, rfl, rfl, Eq.trans hr hval.symm⟩
 ·rw [kN (c := 2) e (by decide), kN (c := 3) e (by decide), kN (c := 4) e (by decide), kN (c := 10) e (by decide), kN (c := 5) e (by decide), kN (c := 6) e (by decide), kN (c := 7) e (by decide), kN (c := 8) e (by decide), kN (c := 11) e (by decide), kN (c := 14) e (by decide), kY (d := 9) e]
  simp only [e] at hval
  obtain ⟨r1, r2⟩ := f9 e
  have hval : bu ts t v = uf ts k.fields v.l := hval
  have htl := agQ ts k.fields v.l
  have hnf := hk.nf
  refine be (fun x => match x with | (ts', v', acc, fs, q, i) => ts' = ts ∧ v' = v ∧ fs = k.fields ∧ q = (k.fields.length : Int) ∧ ∃ j : Nat, i = (j : Int) ∧ j ≤ v.l.length ∧ acc ++ uf ts (k.fields.drop j) (v.l.drop j) = uf ts k.fields v.l)
   (fun x => ((v.l.length : Int) - x.2.2.2.2.2).toNat) ?_ _ _ ⟨rfl, rfl, rfl, rfl, 0, rfl, by omega, by simp⟩ (by simp; omega)
  rintro again ⟨ts', v', acc, fs, q, i⟩ ⟨rfl, rfl, rfl, rfl, j, rfl, hj, hacc⟩ ih
  dsimp only at ih
  have hal := congrArg List.length hacc
  simp only [List.length_append] at hal
  unfold tW
  dsimp only
  simp only [Int.toNat_natCast]
  refine aF (fun h => ?_) (fun h => ?_)
  ·have h := of_decide_eq_true h
   have hjl : j < v'.l.length := by omega
   have ej : IntKind.i64.wrap ((j : Int) + 1) = ((j + 1 : Nat) : Int) := by rw [aJ _ (by omega)]; rfl
   have hfe := amM ts' k.fields v'.l j r2 hjl
   have hd := el v'.l j (aC .aval) hjl
   have hdf := el k.fields j (aC .afield) (by omega)
   have hwd := afC (aC .aval) v'.l j hjl
   have hlv := ib ts' (k.fields.getD j (aC .afield)).typ (v'.l.getD j (aC .aval))
   rw [hd, hdf] at hacc hal
   generalize v'.l.getD j (aC .aval) = x at *
   generalize k.fields.getD j (aC .afield) = f at *
   simp only [uf, List.headD_cons, List.tail_cons, List.length_append] at hacc hal
   refine vck (vck ?_)
   rw [eu]
   refine aD (hE f.typ x (by omega) (by omega) hfe) ?_
   rintro (z : List UInt8) ⟨-, hz⟩
   have hz : z = bu ts' f.typ x := hz
   subst hz
   refine vck ?_
   refine ih (_, _, _, _, _, _) ⟨rfl, rfl, rfl, rfl, j + 1, ej, by omega, ?_⟩ (by simp only [ej]; omega)
   rw [← hacc]
   simp only [List.append_assoc]
  ·have h := of_decide_eq_false h
   have hjl : j = v'.l.length := by omega
   subst hjl
   rw [List.drop_length, uf, List.append_nil] at hacc
   exact aG ⟨_, _, rfl, rfl, hacc.trans hval.symm⟩
 ·rw [kN (c := 2) e (by decide), kN (c := 3) e (by decide), kN (c := 4) e (by decide), kY (d := 10) e]
  simp only [e] at hval
  have hval : bu ts t v = cd (IntKind.wrap .i64 v.n) := hval
  refine aD (tu _) ?_
  rintro (r : List UInt8) ⟨-, hr⟩
  exact aG ⟨_, _, rfl, rfl, Eq.trans hr hval.symm⟩
 ·rw [kN (c := 2) e (by decide), kN (c := 3) e (by decide), kN (c := 4) e (by decide), kN (c := 10) e (by decide), kN (c := 5) e (by decide), kN (c := 6) e (by decide), kN (c := 7) e (by decide), kN (c := 8) e (by decide), kY (d := 11) e]
  simp only [e] at hval
  exact aG ⟨_, _, rfl, rfl, hval.symm⟩
 ·rw [kN (c := 2) e (by decide), kN (c := 3) e (by decide), kN (c := 4) e (by decide), kN (c := 10) e (by decide), kN (c := 5) e (by decide), kN (c := 6) e (by decide), kN (c := 7) e (by decide), kN (c := 8) e (by decide), kN (c := 11) e (by decide), kN (c := 14) e (by decide), kN (c := 9) e (by decide), kY (d := 12) e]
  simp only [e] at hval
  have hval : bu ts t v = aey ts 12 k.items v.keys v.l := hval
  rw [← e] at hval
  rw [eu]
  refine aD (aq6 ts hs m hE k v (by omega) (by omega) (.inl e) (f12 e)) ?_
  rintro (r : List UInt8) ⟨-, hr⟩
  exact aG ⟨_, _, rfl, rfl, Eq.trans hr hval.symm⟩
 ·rw [kN (c := 2) e (by decide), kN (c := 3) e (by decide), kN (c := 4) e (by decide), kN (c := 10) e (by decide), kN (c := 5) e (by decide), kN (c := 6) e (by decide), kN (c := 7) e (by decide), kN (c := 8) e (by decide), kN (c := 11) e (by decide), kN (c := 14) e (by decide), kN (c := 9) e (by decide), kN (c := 12) e (by decide), kY (d := 13) e]
  simp only [e] at hval
  have hval : bu ts t v = aey ts 13 k.items v.keys v.l := hval
  rw [← e] at hval
  rw [eu]
  refine aD (aq6 ts hs m hE k v (by omega) (by omega) (.inr ⟨e, (f13 e).1⟩) (f13 e).2) ?_
  rintro (r : List UInt8) ⟨-, hr⟩
  exact aG ⟨_, _, rfl, rfl, Eq.trans hr hval.symm⟩
 ·rw [kN (c := 2) e (by decide), kN (c := 3) e (by decide), kN (c := 4) e (by decide), kN (c := 10) e (by decide), kN (c := 5) e (by decide), kN (c := 6) e (by decide), kN (c := 7) e (by decide), kN (c := 8) e (by decide), kN (c := 11) e (by decide), kY (d := 14) e]
  simp only [e] at hval
  have hval : bu ts t v = cd v.branch ++ pY ts (k.branches.getD v.branch.toNat 0) v.l := hval
  obtain ⟨b1, b2, x, hx, hfx⟩ := f14 e
  have h10 := eN v.branch
  refine aD (tu _) ?_
  rintro (r : List UInt8) ⟨-, hr⟩
  have hr : r = cd v.branch := hr
  subst hr
  have hx0 : v.l.getD (Int.toNat 0) (aC .aval) = x := by rw [hx]; rfl
  have hl1 : v.l.length = 1 := by rw [hx]; rfl
  have hwx : wV x = wL v.l := by rw [hx]; simp [wL]
  refine vck (vck ?_)
  rw [hx0, eu]
  refine aD (hE _ x (by omega) (by omega) hfx) ?_
  rintro (z : List UInt8) ⟨-, hz⟩
  have hz : z = bu ts (k.branches.getD v.branch.toNat 0) x := hz
  subst hz
  have hlx := ib ts (k.branches.getD v.branch.toNat 0) x
  refine vck (aG ⟨_, _, rfl, rfl, ?_⟩)
  show cd v.branch ++ bu ts (k.branches.getD v.branch.toNat 0) x = bu ts t v
  rw [hval, hx]; simp [pY]
theorem aoJ (ts : List aA) (hs : dm ts) : ∀ m, awj ts m
 | 0 => fun t v h => by omega
 | m + 1 => ava ts hs m (aoJ ts hs m)
theorem aoK (ts : List aA) (hs : dm ts) : ∀ m, auk ts m
 | 0 => fun t v h => by omega
 | m + 1 => au9 ts hs m (aoK ts hs m)
theorem u0 (ts : List aA) (hs : dm ts) (t : Int) (v : aB) (hw : wV v ≤ 1000000000000000) : ∃ r, fT ts t v r := by
 apply aoG 1
 unfold yZ afK
 dsimp only
 have hpost : ∀ y, wc ts t v y = (y = adK ts t v) := fun _ => rfl
 simp only [hpost, adK]
 have hn := hs.1
 refine aF (fun h => aG ⟨_, _, _, rfl, rfl, ?_⟩) (fun h => aF (fun h2 => aG ⟨_, _, _, rfl, rfl, ?_⟩) (fun h2 => ?_))
 ·have h := of_decide_eq_true h
  rw [if_pos (by simp only [isT]; rw [df (by omega)]; rfl)]
 ·have h2 := of_decide_eq_true h2
  rw [if_pos (by simp only [isT]; rw [df (p := t < (ts.length : Int)) (by omega)]; simp)]
 ·have h := of_decide_eq_false h
  have h2 := of_decide_eq_false h2
  have hT := ajM (ts := ts) (t := t) (by omega)
  rw [if_neg (by rw [hT]; simp), eu]
  refine aD (aw1 ts t v) ?_
  rintro (r : Bool) ⟨-, hr⟩
  have hr : r = aZ ts t v := hr
  subst hr
  refine aF (fun h3 => aG ⟨_, _, _, rfl, rfl, ?_⟩) (fun h3 => ?_)
  ·simp only [bnl] at h3
   rw [if_pos h3]
  ·simp only [bnl] at h3
   rw [if_neg (by rw [h3]; simp)]
   refine aD (aoJ ts hs (wV v + 1) t v (by omega) hw h3) ?_
   rintro (q : List UInt8) ⟨-, hq⟩
   have hq : q = bu ts t v := hq
   subst hq
   refine aF (fun h4 => aG ⟨_, _, _, rfl, rfl, ?_⟩) (fun h4 => aG ⟨_, _, _, rfl, rfl, ?_⟩)
   ·have h4 := of_decide_eq_true h4
    rw [if_pos (by omega)]
   ·have h4 := of_decide_eq_false h4
    rw [if_neg (by omega)]
theorem aek (ts : List aA) (hs : dm ts) (t : Int) (v : aB) (hw : wV v ≤ 1000000000000000) : ∃ r, ju ts t v r := by
 apply amI 1
 unfold xS adA
 have hpost : ∀ y, uw ts t v y = (y = adK ts t v) := fun _ => rfl
 simp only [hpost, adK]
 refine aD (anO ts t) ?_
 rintro (r : Bool) ⟨-, hr⟩
 have hr : r = isT ts t := hr
 subst hr
 refine aF (fun h => aG ⟨_, _, _, rfl, rfl, ?_⟩) (fun h => ?_)
 ·simp only [bnl] at h
  rw [if_pos h]
 ·simp only [bnl] at h
  rw [if_neg (by rw [h]; simp)]
  refine aD (awW ts hs t _ _ _ _ _) ?_
  rintro (r : Bool) ⟨-, hr⟩
  have hrv : (aB.mk v.n v.s v.l v.keys v.branch) = v := eu v
  have hr : r = aZ ts t v := by rw [← hrv]; exact hr
  subst hr
  refine aF (fun h3 => aG ⟨_, _, _, rfl, rfl, ?_⟩) (fun h3 => ?_)
  ·simp only [bnl] at h3
   rw [if_pos h3]
  ·simp only [bnl] at h3
   rw [if_neg (by rw [h3]; simp), eu]
   refine aD (aoK ts hs (wV v + 1) t v (by omega) hw h3) ?_
   rintro (q : List UInt8) ⟨-, hq⟩
   have hq : q = bu ts t v := hq
   subst hq
   refine aF (fun h4 => aG ⟨_, _, _, rfl, rfl, ?_⟩) (fun h4 => aG ⟨_, _, _, rfl, rfl, ?_⟩)
   ·have h4 := of_decide_eq_true h4
    rw [if_pos (by omega)]
   ·have h4 := of_decide_eq_false h4
    rw [if_neg (by omega)]
def y9 : List aA := [⟨4, [], [], 0, [], false, [], 0, [], []⟩]
theorem aoL : dm y9 := by
 refine ⟨by decide, fun t ht => ?_⟩
 have : t = ⟨4, [], [], 0, [], false, [], 0, [], []⟩ := by simpa [y9] using ht
 subst this
 exact ⟨by decide, by simp, by simp, by simp, by simp, by simp, by decide, by decide, by decide, by decide⟩
theorem avb : ∃ r, rh r := by
 apply aoI 1
 unfold y8 afN
 refine aD (u0 y9 aoL 0 _ (by decide)) ?_
 rintro ⟨r1, e1⟩ ⟨-, h1⟩
 refine aD (u0 y9 aoL 1 _ (by decide)) ?_
 rintro ⟨r2, e2⟩ ⟨-, h2⟩
 have v1 : bu y9 0 (.mk 18446744073709551615 [] [] [] 0) = [1] := by
  rw [bu]
  show cd (IntKind.wrap .i64 18446744073709551615) = [1]
  rw [adc]; decide
 have h1 : (r1, e1) = (([1] : List UInt8), (0 : Int)) := by
  have h1 : (r1, e1) = adK y9 0 (.mk 18446744073709551615 [] [] [] 0) := h1
  rw [h1]
  simp only [adK]
  rw [if_neg (by decide), if_neg (by decide), v1, if_neg (by decide)]
 have h2 : (r2, e2) = (([] : List UInt8), (1 : Int)) := by
  have h2 : (r2, e2) = adK y9 1 (.mk 0 [] [] [] 0) := h2
  rw [h2]
  simp only [adK]
  rw [if_pos (by decide)]
 simp only [Prod.mk.injEq] at h1 h2
 obtain ⟨rfl, rfl⟩ := h1
 obtain ⟨rfl, rfl⟩ := h2
 exact aG ⟨_, _, rfl, rfl, rfl⟩
theorem avc (picks p : List UInt8) (how n t : Int) (hh : 0 ≤ how ∧ how ≤ 255) (hn : 0 ≤ n) : ∃ r, adx picks p how n t r := by
 apply akR 1
 unfold wi acG
 refine aD avb ?_
 rintro (r : Bool) ⟨-, hr⟩
 have hr : r = true := hr
 refine aF (fun h => by rw [hr] at h; cases h) (fun _ => ?_)
 refine aF (fun _ => aG ⟨_, _, rfl, rfl, rfl⟩) (fun h1 => ?_)
 have h1 := of_decide_eq_false h1
 refine aF (fun _ => aG ⟨_, _, rfl, rfl, rfl⟩) (fun h2 => ?_)
 have h2 := of_decide_eq_false h2
 refine aD (atL _) ?_
 rintro _ ⟨-, rfl⟩
 refine aD (axF _ _ ⟨by simp, by simp, by dsimp only; omega⟩) ?_
 rintro ⟨ts, is, a', n'⟩ ⟨-, g1, g2, g3⟩
 dsimp only at g1 g2 g3 ⊢
 refine aF (fun _ => aG ⟨_, _, rfl, rfl, rfl⟩) (fun his => ?_)
 simp only [bnl] at his
 have hs := g1 his
 refine aD (atL _) ?_
 rintro _ ⟨-, rfl⟩
 refine aD (axN ts hs _ _ 0 ⟨by simp, by simp, by dsimp only; omega⟩) ?_
 rintro ⟨v, is2, p', n2⟩ ⟨-, q1, q2, q3, q4⟩
 dsimp only at q1 q2 q3 q4 ⊢
 refine aF (fun _ => aG ⟨_, _, rfl, rfl, rfl⟩) (fun hy => ?_)
 simp only [bnl] at hy
 obtain ⟨q5, q6⟩ := q2 hy
 have hb : bW (6 - (0 : Int).toNat) ≤ 10000000000000 := by decide
 rw [eu]
 refine aD (awb v how n hh hn (by omega)) ?_
 rintro (w : aB) ⟨-, hw⟩
 have hw : wV w ≤ wV v + 100 := hw
 rw [eu]
 have two : ∀ (x y s : List UInt8 × Int), x = s → y = s → (x.2 == y.2) = true ∧ decide (x.1 = y.1) = true := fun x y s h1 h2 => by subst h1; subst h2; simp
 refine aD (u0 ts hs 0 v (by omega)) ?_
 rintro x1 ⟨-, e1⟩
 refine aD (aek ts hs 0 v (by omega)) ?_
 rintro x2 ⟨-, e2⟩
 refine aD (u0 ts hs 0 w (by omega)) ?_
 rintro x3 ⟨-, e3⟩
 refine aD (aek ts hs 0 w (by omega)) ?_
 rintro x4 ⟨-, e4⟩
 refine aD (u0 ts hs t v (by omega)) ?_
 rintro x5 ⟨-, e5⟩
 refine aD (aek ts hs t v (by omega)) ?_
 rintro x6 ⟨-, e6⟩
 obtain ⟨a1, b1⟩ := two x1 x2 _ e1 e2
 obtain ⟨a2, b2⟩ := two x3 x4 _ e3 e4
 obtain ⟨a3, b3⟩ := two x5 x6 _ e5 e6
 rw [a1, b1, a2, b2, a3, b3]
 exact aG ⟨_, _, rfl, rfl, rfl⟩
theorem aul (picks p : List UInt8) (how n t : Int) : aI Try.prog xN [.sl .u8 (.may false) picks, .sl .u8 (.may false) p, .int .u8 how, .int .u64 n, .int .i64 t] (.bool true) := by
 refine aI.fits fun hf => ?_
 have r2 := ax8 (hf (.int .u8 how) (by simp))
 have r3 := axm (hf (.int .u64 n) (by simp))
 obtain ⟨r, h, rfl⟩ := avc picks p how n t r2 r3.1
 exact h
end Go.Proofs.Ytdpajabhmmmjoaa
end
