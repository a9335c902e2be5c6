/-
  The document's own answer on quoted texts.
-/
import Derived.Test.YtmiclamhiohemaaGlRef
namespace Go.Proofs.Ytmiclamhiohemaa
open Go.AM
set_option autoImplicit false
set_option linter.unusedSimpArgs false
set_option linter.unusedVariables false

theorem sh_ref1_Digit_eq (N : Nat) (c : Int) (hc : 0 ≤ c ∧ c ≤ 255) : sh_ref1_Digit N c = some (.int .i64 (digitI c), []) := by
  obtain ⟨p, rfl⟩ : ∃ p : Nat, c = (p : Int) := ⟨c.toNat, by omega⟩
  have e : digitI (p : Int) = if 48 ≤ p ∧ p ≤ 57 then (p : Int) - 48 else if 97 ≤ p ∧ p ≤ 102 then (p : Int) - 97 + 10 else if 65 ≤ p ∧ p ≤ 70 then (p : Int) - 65 + 10 else -1 := by
    unfold digitI digitN
    rw [Int.toNat_natCast]
    by_cases h1 : 48 ≤ p ∧ p ≤ 57
    · rw [if_pos h1, if_pos h1]; dsimp only; omega
    by_cases h2 : 97 ≤ p ∧ p ≤ 102
    · rw [if_neg h1, if_pos h2, if_neg h1, if_pos h2]; dsimp only; omega
    by_cases h3 : 65 ≤ p ∧ p ≤ 70
    · rw [if_neg h1, if_neg h2, if_pos h3, if_neg h1, if_neg h2, if_pos h3]; dsimp only; omega
    · rw [if_neg h1, if_neg h2, if_neg h3, if_neg h1, if_neg h2, if_neg h3]
  rw [e]
  simp only [sh_ref1_Digit, sa_ref1_Digit]
  by_cases h1 : p < 48
  · simp (disch := omega) only [dt, df, it, iF, bt, bf, cond_true, cond_false, map_some', chk_t, Bool.and_true, Bool.true_and, Bool.and_false, Bool.false_and, Bool.or_true, Bool.true_or, Bool.or_false, Bool.false_or, Bool.not_true, Bool.not_false, if_true, if_false, beq_self_eq_true, wrap_i64_of, wrap_u64_of, wrap_i32_of, wrap_u32_of, wrap_u8_of, tdiv_of, tmod_of, Int.toNat_natCast, List.take_length, List.drop_zero, or_true, true_or, or_false, false_or, or_self, ]
  by_cases h2 : p ≤ 57
  · simp (disch := omega) only [dt, df, it, iF, bt, bf, cond_true, cond_false, map_some', chk_t, Bool.and_true, Bool.true_and, Bool.and_false, Bool.false_and, Bool.or_true, Bool.true_or, Bool.or_false, Bool.false_or, Bool.not_true, Bool.not_false, if_true, if_false, beq_self_eq_true, wrap_i64_of, wrap_u64_of, wrap_i32_of, wrap_u32_of, wrap_u8_of, tdiv_of, tmod_of, Int.toNat_natCast, List.take_length, List.drop_zero, or_true, true_or, or_false, false_or, or_self, ]
  by_cases h3 : p < 65
  · simp (disch := omega) only [dt, df, it, iF, bt, bf, cond_true, cond_false, map_some', chk_t, Bool.and_true, Bool.true_and, Bool.and_false, Bool.false_and, Bool.or_true, Bool.true_or, Bool.or_false, Bool.false_or, Bool.not_true, Bool.not_false, if_true, if_false, beq_self_eq_true, wrap_i64_of, wrap_u64_of, wrap_i32_of, wrap_u32_of, wrap_u8_of, tdiv_of, tmod_of, Int.toNat_natCast, List.take_length, List.drop_zero, or_true, true_or, or_false, false_or, or_self, ]
  by_cases h4 : p ≤ 70
  · simp (disch := omega) only [dt, df, it, iF, bt, bf, cond_true, cond_false, map_some', chk_t, Bool.and_true, Bool.true_and, Bool.and_false, Bool.false_and, Bool.or_true, Bool.true_or, Bool.or_false, Bool.false_or, Bool.not_true, Bool.not_false, if_true, if_false, beq_self_eq_true, wrap_i64_of, wrap_u64_of, wrap_i32_of, wrap_u32_of, wrap_u8_of, tdiv_of, tmod_of, Int.toNat_natCast, List.take_length, List.drop_zero, or_true, true_or, or_false, false_or, or_self, ]
  by_cases h5 : p < 97
  · simp (disch := omega) only [dt, df, it, iF, bt, bf, cond_true, cond_false, map_some', chk_t, Bool.and_true, Bool.true_and, Bool.and_false, Bool.false_and, Bool.or_true, Bool.true_or, Bool.or_false, Bool.false_or, Bool.not_true, Bool.not_false, if_true, if_false, beq_self_eq_true, wrap_i64_of, wrap_u64_of, wrap_i32_of, wrap_u32_of, wrap_u8_of, tdiv_of, tmod_of, Int.toNat_natCast, List.take_length, List.drop_zero, or_true, true_or, or_false, false_or, or_self, ]
  by_cases h6 : p ≤ 102
  · simp (disch := omega) only [dt, df, it, iF, bt, bf, cond_true, cond_false, map_some', chk_t, Bool.and_true, Bool.true_and, Bool.and_false, Bool.false_and, Bool.or_true, Bool.true_or, Bool.or_false, Bool.false_or, Bool.not_true, Bool.not_false, if_true, if_false, beq_self_eq_true, wrap_i64_of, wrap_u64_of, wrap_i32_of, wrap_u32_of, wrap_u8_of, tdiv_of, tmod_of, Int.toNat_natCast, List.take_length, List.drop_zero, or_true, true_or, or_false, false_or, or_self, ]
  · simp (disch := omega) only [dt, df, it, iF, bt, bf, cond_true, cond_false, map_some', chk_t, Bool.and_true, Bool.true_and, Bool.and_false, Bool.false_and, Bool.or_true, Bool.true_or, Bool.or_false, Bool.false_or, Bool.not_true, Bool.not_false, if_true, if_false, beq_self_eq_true, wrap_i64_of, wrap_u64_of, wrap_i32_of, wrap_u32_of, wrap_u8_of, tdiv_of, tmod_of, Int.toNat_natCast, List.take_length, List.drop_zero, or_true, true_or, or_false, false_or, or_self, ]

/-- so many digits, if they are -/
def uopt : Nat → List UInt8 → Nat → Nat → Option Nat
  | 0, _, u, _ => some u
  | k + 1, s, u, n => if n < s.length then (match digitN (s.getD n 0).toNat with | some d => uopt k s (u * 16 + d) (n + 1) | none => none) else none

theorem uopt_len : ∀ (k : Nat) (s : List UInt8) (u n v : Nat), uopt k s u n = some v → n ≤ s.length → n + k ≤ s.length
  | 0, s, u, n, v, h, hn => hn
  | k + 1, s, u, n, v, h, hn => by
    simp only [uopt] at h
    split at h
    · split at h
      · have := uopt_len k s _ _ _ h (by omega); omega
      · cases h
    · cases h

theorem unit_uopt : ∀ (k : Nat) (s : List UInt8) (u n : Nat), (∀ v, uopt k s u n = some v → unitN k s u (n : Int) false = (v, ((n + k : Nat) : Int), false)) ∧ (uopt k s u n = none → (unitN k s u (n : Int) false).2.2 = true)
  | 0, s, u, n => ⟨by intro v h; simp only [uopt, Option.some.injEq] at h; subst h; rfl, by intro h; cases h⟩
  | k + 1, s, u, n => by
    simp only [uopt, unitN]
    by_cases hl : n < s.length
    · have e1 : nextC s (n : Int) = ((s.getD n 0).toNat : Int) := by unfold nextC; rw [if_neg (by omega)]; rfl
      have e2 : nextAt s (n : Int) = ((n + 1 : Nat) : Int) := by unfold nextAt; rw [if_neg (by omega)]; rfl
      have e3 : nextBad s (n : Int) false = false := by unfold nextBad; rw [df (by omega)]; rfl
      rw [if_pos hl, e1, e2, e3, Int.toNat_natCast]
      cases hd : digitN (s.getD n 0).toNat with
      | none => exact ⟨(by intro v h; cases h), by intro _; dsimp only; rw [unitN_bad]; rfl⟩
      | some d =>
        dsimp only
        have h := unit_uopt k s (u * 16 + d) (n + 1)
        exact ⟨fun v hv => by rw [h.1 v hv, show n + 1 + k = n + (k + 1) by omega], h.2⟩
    · have e1 : nextC s (n : Int) = 0 := by unfold nextC; rw [if_pos (by omega)]
      rw [if_neg hl, e1]
      exact ⟨(by intro v h; cases h), by intro _; show (unitN k s (u * 16 + 15) (nextAt s n) true).2.2 = true; rw [unitN_bad]; rfl⟩

theorem getD_drop (s : List UInt8) (i j : Nat) : (s.drop i).getD j 0 = s.getD (i + j) 0 := by simp [List.getD, List.getElem?_drop]

theorem runit_uopt (s : List UInt8) (i : Nat) (hi : i + 2 ≤ s.length) (h0 : s.getD i 0 = 92) (h1 : s.getD (i + 1) 0 = 117) : runitN (s.drop i) = uopt 4 s 0 (i + 2) := by
  unfold runitN
  simp only [getD_drop, Nat.add_zero, h0, h1, List.length_drop]
  by_cases hl : s.length < i + 6
  · rw [if_pos (by omega)]
    cases hu : uopt 4 s 0 (i + 2) with
    | none => rfl
    | some v => have := uopt_len _ _ _ _ _ hu hi; omega
  · rw [if_neg (by simp; omega)]
    have q1 : i + 2 < s.length := by omega
    have q2 : i + 2 + 1 < s.length := by omega
    have q3 : i + 2 + 1 + 1 < s.length := by omega
    have q4 : i + 2 + 1 + 1 + 1 < s.length := by omega
    simp only [uopt, q1, q2, q3, q4, if_true]
    cases digitN (s.getD (i + 2) 0).toNat with
    | none => rfl
    | some a =>
      cases digitN (s.getD (i + 3) 0).toNat with
      | none => rfl
      | some b =>
        cases digitN (s.getD (i + 4) 0).toNat with
        | none => rfl
        | some c =>
          cases digitN (s.getD (i + 5) 0).toNat with
          | none => rfl
          | some d => simp

theorem uopt_lt : ∀ (k : Nat) (s : List UInt8) (u n v : Nat), uopt k s u n = some v → u < 16 ^ (4 - k) → k ≤ 4 → v < 65536
  | 0, s, u, n, v, h, hu, hk => by simp only [uopt, Option.some.injEq] at h; subst h; simpa using hu
  | k + 1, s, u, n, v, h, hu, hk => by
    have h5 : 16 ^ (4 - k) = 16 ^ (4 - (k + 1)) * 16 := by rw [show 4 - k = (4 - (k + 1)) + 1 by omega, Nat.pow_succ]
    simp only [uopt] at h
    split at h
    · split at h
      · rename_i d hd
        have hd16 : d < 16 := by
          have ht := all_bytes tab2 tab2_ok _ (UInt8.toNat_lt (s.getD n 0))
          simp only [tab2, hd, Bool.and_eq_true, decide_eq_true_eq] at ht
          exact ht.2
        exact uopt_lt k s _ _ v h (by omega) (by omega)
      · cases h
    · cases h

theorem runit_lt (s : List UInt8) (v : Nat) (h : runitN s = some v) : v < 65536 := by
  have h' := h
  unfold runitN at h
  split at h
  · cases h
  · rename_i hc
    simp only [not_or, Classical.not_not, Nat.not_lt] at hc
    have := runit_uopt s 0 (by omega) hc.2.1 hc.2.2
    rw [List.drop_zero, h'] at this
    exact uopt_lt 4 s 0 2 v this.symm (by decide) (by omega)

theorem prefix_two (s : List UInt8) : prefixB s [92, 117] = true ↔ (2 ≤ s.length ∧ s.getD 0 0 = 92 ∧ s.getD 1 0 = 117) := by
  unfold prefixB
  match s with
  | [] => simp
  | [a] => simp
  | a :: b :: t => simp

theorem esc_resc (s : List UInt8) (i : Nat) (hi : i < s.length) (h92 : s.getD i 0 = 92) :
    (∀ t k, rescR (s.drop i) = some (t, k) → escR s ((i : Int) + 1) = (((i + k : Nat) : Int), t, false) ∧ 2 ≤ k) ∧ (rescR (s.drop i) = none → (escR s ((i : Int) + 1)).2.2 = true) := by
  unfold rescR
  simp only [getD_drop, List.length_drop]
  by_cases hl : s.length < i + 2
  · rw [if_pos (by omega)]
    have e1 : nextC s ((i : Int) + 1) = 0 := by unfold nextC; rw [if_pos (by omega)]
    have e : (escR s ((i : Int) + 1)).2.2 = true := by unfold escR; rw [e1]; rfl
    exact ⟨(by intro t k h; cases h), fun _ => e⟩
  rw [if_neg (by omega)]
  obtain ⟨x, hx⟩ : ∃ x, s.getD (i + 1) 0 = x := ⟨_, rfl⟩
  have hb := UInt8.toNat_lt x
  have e1 : nextC s ((i : Int) + 1) = (x.toNat : Int) := by unfold nextC; rw [if_neg (by omega), show ((i : Int) + 1).toNat = i + 1 by omega, hx]
  have e2 : nextAt s ((i : Int) + 1) = ((i + 2 : Nat) : Int) := by unfold nextAt; rw [if_neg (by omega)]; omega
  have e3 : nextBad s ((i : Int) + 1) false = false := by unfold nextBad; rw [df (by omega)]; rfl
  simp only [hx, escR, e1, e2, e3, Int.toNat_natCast]
  cases hm : meantB x.toNat with
  | some c =>
    refine ⟨?_, by intro h; cases h⟩
    intro t k h
    simp only [Option.some.injEq, Prod.mk.injEq] at h
    obtain ⟨rfl, rfl⟩ := h
    exact ⟨rfl, by omega⟩
  | none =>
    dsimp only
    by_cases h117 : ¬ x.toNat = 117
    · have hr : runitN (s.drop i) = none := by
        unfold runitN
        rw [if_pos]
        rw [getD_drop s i 1, hx]
        exact .inr (.inr (by rintro rfl; exact h117 rfl))
      rw [if_pos h117, hr]
      exact ⟨(by intro t k h; cases h), fun _ => rfl⟩
    · have hx1 : x = 117 := by apply UInt8.toNat_inj.1; have : x.toNat = 117 := by omega
                               rw [this]; rfl
      rw [if_neg (by omega), runit_uopt s i (by omega) h92 (by rw [hx, hx1])]
      obtain ⟨ha, hb2⟩ := unit_uopt 4 s 0 (i + 2)
      cases hu : uopt 4 s 0 (i + 2) with
      | none =>
        have hbad := hb2 hu
        have hbd : unitBad s ((i + 2 : Nat) : Int) false = true := by unfold unitBad; rw [hbad]; rfl
        refine ⟨(by intro t k h; cases h), fun _ => ?_⟩
        split
        · dsimp only; unfold unitBad at hbd ⊢; rw [hbad]; simp
        · split
          · rfl
          · exact hbd
      | some u =>
        have hv := ha u hu
        have hlen := uopt_len _ _ _ _ _ hu (by omega)
        have hu16 := uopt_lt 4 s 0 (i + 2) u hu (by decide) (by omega)
        have f1 : unitC s ((i + 2 : Nat) : Int) = (u : Int) := by unfold unitC; rw [hv]
        have f2 : unitAt s ((i + 2 : Nat) : Int) = ((i + 6 : Nat) : Int) := by unfold unitAt; rw [hv]
        have f3 : unitBad s ((i + 2 : Nat) : Int) false = false := by unfold unitBad; rw [hv]; rfl
        simp only [f1, f2, f3, Int.toNat_natCast, List.drop_drop]
        by_cases g1 : 56320 ≤ u ∧ u ≤ 57343
        · rw [if_pos g1, if_neg (by omega), if_pos (by omega)]
          exact ⟨(by intro t k h; cases h), fun _ => rfl⟩
        · rw [if_neg g1]
          by_cases g2 : u < 55296 ∨ 57343 < u
          · rw [if_pos g2, if_neg (by omega), if_neg (by omega)]
            refine ⟨?_, by intro h; cases h⟩
            intro t k h
            simp only [Option.some.injEq, Prod.mk.injEq] at h
            obtain ⟨rfl, rfl⟩ := h
            exact ⟨rfl, by omega⟩
          · rw [if_neg g2]
            by_cases hp : prefixB (s.drop (i + 6)) [92, 117] = true
            · have hp2 := (prefix_two _).1 hp
              simp only [List.length_drop, getD_drop, Nat.add_zero] at hp2
              rw [if_pos ⟨by omega, by omega, hp⟩, show ((i + 6 : Nat) : Int) + 2 = ((i + 6 + 2 : Nat) : Int) by omega, runit_uopt s (i + 6) (by omega) hp2.2.1 hp2.2.2]
              obtain ⟨hc, hd⟩ := unit_uopt 4 s 0 (i + 6 + 2)
              cases hw : uopt 4 s 0 (i + 6 + 2) with
              | none =>
                have hbad := hd hw
                refine ⟨(by intro t k h; cases h), fun _ => ?_⟩
                dsimp only
                unfold unitBad
                rw [hbad]
                simp
              | some v =>
                have hv2 := hc v hw
                have j1 : unitC s ((i + 6 + 2 : Nat) : Int) = (v : Int) := by unfold unitC; rw [hv2]
                have j2 : unitAt s ((i + 6 + 2 : Nat) : Int) = ((i + 12 : Nat) : Int) := by unfold unitAt; rw [hv2]
                have j3 : unitBad s ((i + 6 + 2 : Nat) : Int) false = false := by unfold unitBad; rw [hv2]; rfl
                simp only [j1, j2, j3, Int.toNat_natCast]
                by_cases g3 : v < 56320 ∨ 57343 < v
                · rw [if_pos g3]
                  refine ⟨(by intro t k h; cases h), fun _ => ?_⟩
                  rcases g3 with g3 | g3
                  · rw [dt g3]; rfl
                  · rw [dt (show 57344 ≤ v by omega)]; simp
                · rw [if_neg g3]
                  refine ⟨?_, by intro h; cases h⟩
                  intro t k h
                  simp only [Option.some.injEq, Prod.mk.injEq] at h
                  obtain ⟨rfl, rfl⟩ := h
                  rw [df (show ¬ v < 56320 by omega), df (show ¬ 57344 ≤ v by omega), show v % 1024 = v - 56320 by omega]
                  exact ⟨rfl, by omega⟩
            · have hr : runitN (s.drop (i + 6)) = none := by
                unfold runitN
                rw [if_pos]
                apply Classical.byContradiction
                intro hn
                simp only [not_or, Classical.not_not, Nat.not_lt] at hn
                exact hp ((prefix_two _).2 ⟨by omega, hn.2.1, hn.2.2⟩)
              rw [hr, if_neg (by intro h; exact hp h.2.2), if_pos (by omega)]
              exact ⟨(by intro t k h; cases h), fun _ => rfl⟩

theorem rescN_none (s : List UInt8) (h : rescR s = none) : rescN s = 0 := by unfold rescN; rw [h]
theorem rescN_some (s : List UInt8) (t : List UInt8) (k : Nat) (h : rescR s = some (t, k)) : rescN s = (k : Int) ∧ rescT s = t := by unfold rescN rescT; rw [h]; exact ⟨rfl, rfl⟩

set_option maxRecDepth 100000 in
theorem runq_loop (N : Nat) (s : List UInt8) (hs : s.length ≤ 1000) : ∀ (k M i : Nat) (o : List UInt8), s.length ≤ i + k → i ≤ s.length → o.length ≤ 4 * i →
    (iterL (M + k + 1) (B_ref1_Unquote_0 N) (s, o, (i : Int))) = some (unqV (unqN k s i o), [])
  | 0, M, i, o, hk, hi, ho => by
    show B_ref1_Unquote_0 N _ _ = _
    simp only [B_ref1_Unquote_0, unqN]
    simp (disch := omega) only [dt, df, it, iF, bt, bf, cond_true, cond_false, map_some', chk_t, Bool.and_true, Bool.true_and, Bool.and_false, Bool.false_and, Bool.or_true, Bool.true_or, Bool.or_false, Bool.false_or, Bool.not_true, Bool.not_false, if_true, if_false, beq_self_eq_true, wrap_i64_of, wrap_u64_of, wrap_i32_of, wrap_u32_of, wrap_u8_of, tdiv_of, tmod_of, Int.toNat_natCast, List.take_length, List.drop_zero, or_true, true_or, or_false, false_or, or_self, ]
    rfl
  | k + 1, M, i, o, hk, hi, ho => by
    show B_ref1_Unquote_0 N (iterL (M + k + 1) (B_ref1_Unquote_0 N)) _ = _
    by_cases hl : s.length ≤ i
    · simp only [B_ref1_Unquote_0, unqN]
      rw [if_pos (by omega)]
      simp (disch := omega) only [dt, df, it, iF, bt, bf, cond_true, cond_false, map_some', chk_t, Bool.and_true, Bool.true_and, Bool.and_false, Bool.false_and, Bool.or_true, Bool.true_or, Bool.or_false, Bool.false_or, Bool.not_true, Bool.not_false, if_true, if_false, beq_self_eq_true, wrap_i64_of, wrap_u64_of, wrap_i32_of, wrap_u32_of, wrap_u8_of, tdiv_of, tmod_of, Int.toNat_natCast, List.take_length, List.drop_zero, or_true, true_or, or_false, false_or, or_self, ]
      rfl
    · obtain ⟨x, hx⟩ : ∃ x, s.getD i 0 = x := ⟨_, rfl⟩
      have hb := UInt8.toNat_lt x
      have x34 : (x = 34) = (x.toNat = 34) := propext ⟨by rintro rfl; rfl, fun h => UInt8.toNat_inj.1 h⟩
      have x92 : (x = 92) = (x.toNat = 92) := propext ⟨by rintro rfl; rfl, fun h => UInt8.toNat_inj.1 h⟩
      simp only [B_ref1_Unquote_0, unqN, Int.toNat_natCast, hx, if_neg (show ¬ (s.length : Int) ≤ (i : Int) by omega), x34, x92]
      by_cases h1 : x.toNat = 34
      · cases hv : validG o with
        | true => simp (disch := omega) only [dt, df, it, iF, bt, bf, cond_true, cond_false, map_some', chk_t, Bool.and_true, Bool.true_and, Bool.and_false, Bool.false_and, Bool.or_true, Bool.true_or, Bool.or_false, Bool.false_or, Bool.not_true, Bool.not_false, if_true, if_false, beq_self_eq_true, wrap_i64_of, wrap_u64_of, wrap_i32_of, wrap_u32_of, wrap_u8_of, tdiv_of, tmod_of, Int.toNat_natCast, List.take_length, List.drop_zero, or_true, true_or, or_false, false_or, or_self, hv, h1]; rfl
        | false => simp (disch := omega) only [dt, df, it, iF, bt, bf, cond_true, cond_false, map_some', chk_t, Bool.and_true, Bool.true_and, Bool.and_false, Bool.false_and, Bool.or_true, Bool.true_or, Bool.or_false, Bool.false_or, Bool.not_true, Bool.not_false, if_true, if_false, beq_self_eq_true, wrap_i64_of, wrap_u64_of, wrap_i32_of, wrap_u32_of, wrap_u8_of, tdiv_of, tmod_of, Int.toNat_natCast, List.take_length, List.drop_zero, or_true, true_or, or_false, false_or, or_self, hv, h1]; rfl
      by_cases h2 : x.toNat < 32
      · simp (disch := omega) only [dt, df, it, iF, bt, bf, cond_true, cond_false, map_some', chk_t, Bool.and_true, Bool.true_and, Bool.and_false, Bool.false_and, Bool.or_true, Bool.true_or, Bool.or_false, Bool.false_or, Bool.not_true, Bool.not_false, if_true, if_false, beq_self_eq_true, wrap_i64_of, wrap_u64_of, wrap_i32_of, wrap_u32_of, wrap_u8_of, tdiv_of, tmod_of, Int.toNat_natCast, List.take_length, List.drop_zero, or_true, true_or, or_false, false_or, or_self, ]
        rfl
      by_cases h3 : x.toNat = 92
      · have hx92 : s.getD i 0 = 92 := by rw [hx]; exact UInt8.toNat_inj.1 h3
        have hb2 := esc_bounds s ((i : Int) + 1) (by omega) (by omega)
        obtain ⟨ha, hc⟩ := esc_resc s i (by omega) hx92
        cases hr : rescR (s.drop i) with
        | none =>
          have hbad := hc hr
          have en := rescN_none _ hr
          simp (disch := omega) only [dt, df, it, iF, bt, bf, cond_true, cond_false, map_some', chk_t, Bool.and_true, Bool.true_and, Bool.and_false, Bool.false_and, Bool.or_true, Bool.true_or, Bool.or_false, Bool.false_or, Bool.not_true, Bool.not_false, if_true, if_false, beq_self_eq_true, wrap_i64_of, wrap_u64_of, wrap_i32_of, wrap_u32_of, wrap_u8_of, tdiv_of, tmod_of, Int.toNat_natCast, List.take_length, List.drop_zero, or_true, true_or, or_false, false_or, or_self, h3, hbad, en, List.length_drop]
          rfl
        | some p =>
          obtain ⟨t, j⟩ := p
          obtain ⟨he, hj⟩ := ha t j hr
          obtain ⟨en, et⟩ := rescN_some _ _ _ hr
          rw [he] at hb2
          dsimp only at hb2
          rw [he]
          simp (disch := omega) only [dt, df, it, iF, bt, bf, cond_true, cond_false, map_some', chk_t, Bool.and_true, Bool.true_and, Bool.and_false, Bool.false_and, Bool.or_true, Bool.true_or, Bool.or_false, Bool.false_or, Bool.not_true, Bool.not_false, if_true, if_false, beq_self_eq_true, wrap_i64_of, wrap_u64_of, wrap_i32_of, wrap_u32_of, wrap_u8_of, tdiv_of, tmod_of, Int.toNat_natCast, List.take_length, List.drop_zero, or_true, true_or, or_false, false_or, or_self, h3, en, et, List.length_drop]
          have := runq_loop N s hs k M (i + j) (o ++ t) (by omega) (by omega) (by rw [List.length_append]; omega)
          exact this
      · have e : List.drop i (List.take (i + 1) s) = [x] := by
          rw [List.drop_take, show i + 1 - i = 1 by omega, List.drop_eq_getElem_cons (by omega), List.take_succ_cons, List.take_zero]
          rw [← hx]
          simp [List.getD, show i < s.length by omega]
        simp (disch := omega) only [dt, df, it, iF, bt, bf, cond_true, cond_false, map_some', chk_t, Bool.and_true, Bool.true_and, Bool.and_false, Bool.false_and, Bool.or_true, Bool.true_or, Bool.or_false, Bool.false_or, Bool.not_true, Bool.not_false, if_true, if_false, beq_self_eq_true, wrap_i64_of, wrap_u64_of, wrap_i32_of, wrap_u32_of, wrap_u8_of, tdiv_of, tmod_of, Int.toNat_natCast, List.take_length, List.drop_zero, or_true, true_or, or_false, false_or, or_self, show ((i : Int) + 1).toNat = i + 1 by omega, e, List.length_cons, List.length_nil]
        exact runq_loop N s hs k M (i + 1) (o ++ [x]) (by omega) (by omega) (by simp only [List.length_append, List.length_cons, List.length_nil]; omega)

theorem sh_ref1_Unquote_eq (M : Nat) (s : List UInt8) (hs : s.length ≤ 1000) : sh_ref1_Unquote (M + 1002) s = some (.tup [.str (unqT s), .int .i64 (unqC s), .int .i64 (unqE s)], []) := by
  rw [unqV_eq]
  match s with
  | [] => rfl
  | c :: t =>
    have hb := UInt8.toNat_lt c
    have x34 : (c = 34) = (c.toNat = 34) := propext ⟨by rintro rfl; rfl, fun h => UInt8.toNat_inj.1 h⟩
    have hcl : (c :: t).length = t.length + 1 := rfl
    simp only [sh_ref1_Unquote, sa_ref1_Unquote, unquoteG, x34, List.getD_cons_zero, Int.toNat_zero]
    by_cases h : c.toNat = 34
    · simp (disch := omega) only [dt, df, it, iF, bt, bf, cond_true, cond_false, map_some', chk_t, Bool.and_true, Bool.true_and, Bool.and_false, Bool.false_and, Bool.or_true, Bool.true_or, Bool.or_false, Bool.false_or, Bool.not_true, Bool.not_false, if_true, if_false, beq_self_eq_true, wrap_i64_of, wrap_u64_of, wrap_i32_of, wrap_u32_of, wrap_u8_of, tdiv_of, tmod_of, Int.toNat_natCast, List.take_length, List.drop_zero, or_true, true_or, or_false, false_or, or_self, h]
      have := runq_loop (M + 1002) (c :: t) hs t.length (M + 1001 - t.length) 1 [] (by omega) (by omega) (by simp)
      rw [show M + 1001 - t.length + t.length + 1 = M + 1002 by omega] at this
      exact this.trans (by rw [unqN_more (c :: t) t.length (c :: t).length 1 [] (by omega) (by omega) (by omega)]; rfl)
    · simp (disch := omega) only [dt, df, it, iF, bt, bf, cond_true, cond_false, map_some', chk_t, Bool.and_true, Bool.true_and, Bool.and_false, Bool.false_and, Bool.or_true, Bool.true_or, Bool.or_false, Bool.false_or, Bool.not_true, Bool.not_false, if_true, if_false, beq_self_eq_true, wrap_i64_of, wrap_u64_of, wrap_i32_of, wrap_u32_of, wrap_u8_of, tdiv_of, tmod_of, Int.toNat_natCast, List.take_length, List.drop_zero, or_true, true_or, or_false, false_or, or_self, ]
      rfl
end Go.Proofs.Ytmiclamhiohemaa
