/-
  Numbers at a text's front.
-/
import Derived.Test.YtifmekddikapeaaRcCode
namespace Go.Proofs.Ytifmekddikapeaa
open Go.AM
set_option autoImplicit false
set_option linter.unusedSimpArgs false
set_option linter.unusedVariables false

/-- what the loop gives, from a place on -/
def F11 (x : List UInt8 × Int × Int) : V × List AObj :=
  match vdec (10 - x.2.2.toNat) (x.1.drop x.2.2.toNat) with
  | some (u, m) => (.tup [.int .u64 ((x.2.1.toNat + 128 ^ x.2.2.toNat * u : Nat) : Int), .int .i64 ((x.2.2.toNat + m : Nat) : Int), .int .i64 0], [])
  | none => (.tup [.int .u64 0, .int .i64 0, .int .i64 2], [])

/-- a group of seven bits, laid over the lower ones -/
theorem group_or (v c n : Nat) (hv : v < 128 ^ n) (hc : c < 128) (hn : n ≤ 9) (h9 : n = 9 → c ≤ 1) :
    bitsI .or .u64 (v : Int) (shlI .u64 (c : Int) ((7 * n : Nat) : Int)) = ((v + 128 ^ n * c : Nat) : Int) ∧ v + 128 ^ n * c < 2 ^ 64 ∧ (n < 9 → v + 128 ^ n * c < 128 ^ (n + 1)) := by
  have hp : 128 ^ n = 2 ^ (7 * n) := by rw [Nat.pow_mul]
  have hle : v + 128 ^ n * c < 128 ^ (n + 1) := by
    rw [Nat.pow_succ]
    calc v + 128 ^ n * c < 128 ^ n + 128 ^ n * c := by omega
      _ = 128 ^ n * (c + 1) := by rw [Nat.mul_add, Nat.mul_one, Nat.add_comm]
      _ ≤ 128 ^ n * 128 := Nat.mul_le_mul_left _ (by omega)
  have h64 : v + 128 ^ n * c < 2 ^ 64 := by
    by_cases hn9 : n = 9
    · subst hn9
      have := h9 rfl
      have h1 : 128 ^ 9 * c ≤ 128 ^ 9 * 1 := Nat.mul_le_mul_left _ this
      have h2 : (128 : Nat) ^ 9 = 9223372036854775808 := by decide
      omega
    · have h1 : (128 : Nat) ^ (n + 1) ≤ 128 ^ 9 := Nat.pow_le_pow_right (by omega) (by omega)
      have h2 : (128 : Nat) ^ 9 = 9223372036854775808 := by decide
      omega
  have hcp : c * 2 ^ (7 * n) = 128 ^ n * c := by rw [hp, Nat.mul_comm]
  refine ⟨?_, h64, fun _ => hle⟩
  rw [shlI_nat .u64 rfl _ _ (by show 7 * n ≤ 64; omega)]
  have hm : c * 2 ^ (7 * n) % 2 ^ IntKind.u64.bits = c * 2 ^ (7 * n) := Nat.mod_eq_of_lt (by rw [hcp]; show _ < 2 ^ 64; omega)
  rw [hm, bits_or .u64 rfl _ _ (by show _ < 2 ^ 64; omega) (by rw [hcp]; show _ < 2 ^ 64; omega)]
  congr 1
  rw [Nat.or_comm, ← Nat.shiftLeft_eq, ← Nat.shiftLeft_add_eq_or_of_lt (by rw [← hp]; exact hv), Nat.shiftLeft_eq, hcp, Nat.add_comm]


theorem vdec_step (s : List UInt8) (n : Nat) (hn : n < 10) (hl : n < s.length) : vdec (10 - n) (s.drop n) =
    if n = 9 ∧ 1 < (s.getD n 0).toNat then none
    else if (s.getD n 0).toNat < 128 then some ((s.getD n 0).toNat, 1)
    else match vdec (10 - (n + 1)) (s.drop (n + 1)) with
      | some (v, m) => some ((s.getD n 0).toNat % 128 + 128 * v, m + 1)
      | none => none := by
  have h1 : s.drop n = s.getD n 0 :: s.drop (n + 1) := by
    rw [List.drop_eq_getElem_cons hl]
    simp [List.getD, hl]
  rw [h1, show 10 - n = (10 - (n + 1)) + 1 by omega]
  simp only [vdec]
  have e : (10 - (n + 1) = 0 ∧ 1 < (s.getD n 0).toNat) ↔ (n = 9 ∧ 1 < (s.getD n 0).toNat) := by omega
  by_cases h9 : n = 9 ∧ 1 < (s.getD n 0).toNat
  · rw [if_pos h9, if_pos (e.2 h9)]
  · rw [if_neg h9, if_neg (fun h => h9 (e.1 h))]
    rfl

structure NumSt (s : List UInt8) (w : Int) (i : Int) : Prop where
  ex : ∃ n v : Nat, i = (n : Int) ∧ w = (v : Int) ∧ n ≤ 10 ∧ n ≤ s.length ∧ (n ≤ 9 → v < 128 ^ n)

theorem sh_rec_Varint_eq (N : Nat) (s : List UInt8) (hs : s.length ≤ maxI) (hN : 20 < N) : sh_rec_Varint N s = some (.tup [.int .u64 (vintR s).1, .int .i64 (vintR s).2.1, .int .i64 (vintR s).2.2], []) := by
  have hm : (s.length : Int) ≤ 9223372036854775807 := by unfold maxI at hs; omega
  have key : iterL N (B_rec_Varint_0 N) (s, 0, 0) = some (F11 (s, 0, 0)) := by
    refine iterL_spec (fun x => x.1 = s ∧ NumSt s x.2.1 x.2.2) (fun x => 11 - x.2.2.toNat) F11 ?_ N _ ⟨rfl, ⟨0, 0, rfl, rfl, by omega, by omega, by intro; simp⟩⟩ (by simp; omega)
    rintro rec ⟨v0, v2, v3⟩ ⟨k0, ⟨n, v, k3, k2, hn, hl, hv⟩⟩ hrec
    simp only at k0 k2 k3 hrec ⊢
    subst k0 k2 k3
    simp only [B_rec_Varint_0, F11, Int.toNat_natCast]
    by_cases hlt : n < v0.length
    · have c1 : decide ((n : Int) < (v0.length : Int)) = true := by simpa using hlt
      have c2 : decide ((0 : Int) ≤ (n : Int)) = true := decide_eq_true (Int.natCast_nonneg _)
      by_cases h10 : n < 10
      · have c3 : decide ((n : Int) < 10) = true := by simp; omega
        rw [vdec_step v0 n h10 hlt]
        simp only [c1, c2, c3, Bool.and_true, cond_true, chk_t, List.getD_eq_getElem?_getD, List.getElem?_eq_getElem hlt, Option.getD_some]
        generalize v0[n] = c
        have hc := c.toNat_lt
        have e1 : IntKind.wrap .u64 ((c.toNat : Nat) : Int) = (c.toNat : Int) := wrap_nat_lt .u64 rfl _ (by show _ < 2 ^ 64; omega)
        have e2 : Int.tmod (c.toNat : Int) 128 = ((c.toNat % 128 : Nat) : Int) := tmod_nat _ _
        have e3 : IntKind.wrap .i64 (7 * (n : Int)) = ((7 * n : Nat) : Int) := by rw [wrap_i64_of _ (by omega)]; norm_cast
        have e4 : IntKind.wrap .i64 ((n : Int) + 1) = ((n + 1 : Nat) : Int) := by rw [wrap_i64_of _ (by omega)]; rfl
        have e5 : decide ((0 : Int) ≤ ((7 * n : Nat) : Int)) = true := decide_eq_true (Int.natCast_nonneg _)
        have e6 : (!((128 : Int) == 0)) = true := rfl
        have c6 : decide ((c.toNat : Int) < 128) = decide (c.toNat < 128) := by
          rw [Bool.eq_iff_iff, decide_eq_true_iff, decide_eq_true_iff]; omega
        have c7 : decide (1 < (c.toNat : Int)) = decide (1 < c.toNat) := by
          rw [Bool.eq_iff_iff, decide_eq_true_iff, decide_eq_true_iff]; omega
        have back : (n = 9 → c.toNat ≤ 1) → cond (decide (c.toNat < 128)) (some (V.tup [.int .u64 (bitsI .or .u64 (v : Int) (shlI .u64 ((c.toNat % 128 : Nat) : Int) ((7 * n : Nat) : Int))), .int .i64 ((n + 1 : Nat) : Int), .int .i64 0], ([] : List AObj)))
              (rec (v0, bitsI .or .u64 (v : Int) (shlI .u64 ((c.toNat % 128 : Nat) : Int) ((7 * n : Nat) : Int)), ((n + 1 : Nat) : Int))) =
            some (match (if n = 9 ∧ 1 < c.toNat then none else if c.toNat < 128 then some (c.toNat, 1) else match vdec (10 - (n + 1)) (v0.drop (n + 1)) with | some (v, m) => some (c.toNat % 128 + 128 * v, m + 1) | none => none : Option (Nat × Nat)) with
              | some (u, m) => (V.tup [.int .u64 ((v + 128 ^ n * u : Nat) : Int), .int .i64 ((n + m : Nat) : Int), .int .i64 0], [])
              | none => (.tup [.int .u64 0, .int .i64 0, .int .i64 2], [])) := by
          intro h9
          obtain ⟨g1, g2, g3⟩ := group_or v (c.toNat % 128) n (hv (by omega)) (by omega) (by omega) (fun h => by have := h9 h; omega)
          have hno : ¬ (n = 9 ∧ 1 < c.toNat) := by
            rintro ⟨h1, h2⟩
            have := h9 h1
            omega
          rw [if_neg hno, g1]
          by_cases h128 : c.toNat < 128
          · have : c.toNat % 128 = c.toNat := Nat.mod_eq_of_lt h128
            simp only [h128, decide_true, cond_true, if_true, this]
          · simp only [h128, decide_false, cond_false, if_false]
            have hn9 : n < 9 := by
              rcases Nat.lt_or_ge n 9 with h | h
              · exact h
              · have := h9 (by omega); omega
            rw [hrec (v0, ((v + 128 ^ n * (c.toNat % 128) : Nat) : Int), ((n + 1 : Nat) : Int)) ⟨rfl, ⟨n + 1, _, rfl, rfl, by omega, by omega, fun _ => g3 hn9⟩⟩ (by simp; omega)]
            simp only [F11, Int.toNat_natCast]
            cases vdec (10 - (n + 1)) (v0.drop (n + 1)) with
            | none => rfl
            | some p =>
              obtain ⟨u, m⟩ := p
              simp only [Option.some.injEq, Prod.mk.injEq, and_true]
              rw [Nat.pow_succ, Nat.mul_add, ← Nat.mul_assoc, Nat.add_assoc, show n + 1 + m = n + (m + 1) by omega]
        simp only [e1, e2, e3, e4, e5, e6, c6, c7, Bool.not_false, chk_t]
        by_cases hn9 : n = 9
        · have c4 : ((n : Int) == 9) = true := by simp [hn9]
          simp only [c4, cond_true]
          by_cases hc1 : 1 < c.toNat
          · rw [if_pos ⟨hn9, hc1⟩, decide_eq_true hc1]
            rfl
          · rw [decide_eq_false hc1]
            exact back (fun _ => by omega)
        · have c4 : ((n : Int) == 9) = false := by simp; omega
          simp only [c4, cond_false]
          exact back (fun h => absurd h hn9)
      · have c3 : decide ((n : Int) < 10) = false := by simp; omega
        obtain rfl : n = 10 := by omega
        simp only [c1, c3, cond_true, cond_false]
        rfl
    · have c1 : decide ((n : Int) < (v0.length : Int)) = false := by simpa using hlt
      simp only [c1, cond_false]
      rw [List.drop_eq_nil_of_le (by omega)]
      cases 10 - n <;> rfl
  show iterL N (B_rec_Varint_0 N) (s, 0, 0) = _
  rw [key]
  simp only [F11, vintR, Int.toNat_zero, List.drop_zero, Nat.sub_zero]
  cases vdec 10 s with
  | none => rfl
  | some p => simp
theorem sh_ref1_Varint_eq (N : Nat) (s : List UInt8) (hs : s.length ≤ maxI) (hN : 20 < N) : sh_ref1_Varint N s = some (.tup [.int .u64 (vintR s).1, .int .i64 (vintR s).2.1, .int .i64 (vintR s).2.2], []) := by
  have hm : (s.length : Int) ≤ 9223372036854775807 := by unfold maxI at hs; omega
  have key : iterL N (B_ref1_Varint_0 N) (s, 0, 0) = some (F11 (s, 0, 0)) := by
    refine iterL_spec (fun x => x.1 = s ∧ NumSt s x.2.1 x.2.2) (fun x => 11 - x.2.2.toNat) F11 ?_ N _ ⟨rfl, ⟨0, 0, rfl, rfl, by omega, by omega, by intro; simp⟩⟩ (by simp; omega)
    rintro rec ⟨v0, v2, v3⟩ ⟨k0, ⟨n, v, k3, k2, hn, hl, hv⟩⟩ hrec
    simp only at k0 k2 k3 hrec ⊢
    subst k0 k2 k3
    simp only [B_ref1_Varint_0, F11, Int.toNat_natCast]
    by_cases h10 : n < 10
    · have c3 : decide ((n : Int) < 10) = true := by simp; omega
      by_cases hlt : n < v0.length
      · have c1 : decide ((n : Int) < (v0.length : Int)) = true := by simpa using hlt
        have c0 : ((n : Int) == (v0.length : Int)) = false := by simp; omega
        have c2 : decide ((0 : Int) ≤ (n : Int)) = true := decide_eq_true (Int.natCast_nonneg _)
        rw [vdec_step v0 n h10 hlt]
        simp only [c0, c1, c2, c3, Bool.and_true, cond_false, cond_true, chk_t, List.getD_eq_getElem?_getD, List.getElem?_eq_getElem hlt, Option.getD_some]
        generalize v0[n] = c
        have hc := c.toNat_lt
        have e1 : IntKind.wrap .u64 ((c.toNat : Nat) : Int) = (c.toNat : Int) := wrap_nat_lt .u64 rfl _ (by show _ < 2 ^ 64; omega)
        have e2 : Int.tmod (c.toNat : Int) 128 = ((c.toNat % 128 : Nat) : Int) := tmod_nat _ _
        have e3 : IntKind.wrap .i64 (7 * (n : Int)) = ((7 * n : Nat) : Int) := by rw [wrap_i64_of _ (by omega)]; norm_cast
        have e4 : IntKind.wrap .i64 ((n : Int) + 1) = ((n + 1 : Nat) : Int) := by rw [wrap_i64_of _ (by omega)]; rfl
        have e5 : decide ((0 : Int) ≤ ((7 * n : Nat) : Int)) = true := decide_eq_true (Int.natCast_nonneg _)
        have e6 : (!((128 : Int) == 0)) = true := rfl
        have c6 : decide ((c.toNat : Int) < 128) = decide (c.toNat < 128) := by
          rw [Bool.eq_iff_iff, decide_eq_true_iff, decide_eq_true_iff]; omega
        have c7 : decide (1 < (c.toNat : Int)) = decide (1 < c.toNat) := by
          rw [Bool.eq_iff_iff, decide_eq_true_iff, decide_eq_true_iff]; omega
        have back : (n = 9 → c.toNat ≤ 1) → cond (decide (c.toNat < 128)) (some (V.tup [.int .u64 (bitsI .or .u64 (v : Int) (shlI .u64 ((c.toNat % 128 : Nat) : Int) ((7 * n : Nat) : Int))), .int .i64 ((n + 1 : Nat) : Int), .int .i64 0], ([] : List AObj)))
              (rec (v0, bitsI .or .u64 (v : Int) (shlI .u64 ((c.toNat % 128 : Nat) : Int) ((7 * n : Nat) : Int)), ((n + 1 : Nat) : Int))) =
            some (match (if n = 9 ∧ 1 < c.toNat then none else if c.toNat < 128 then some (c.toNat, 1) else match vdec (10 - (n + 1)) (v0.drop (n + 1)) with | some (v, m) => some (c.toNat % 128 + 128 * v, m + 1) | none => none : Option (Nat × Nat)) with
              | some (u, m) => (V.tup [.int .u64 ((v + 128 ^ n * u : Nat) : Int), .int .i64 ((n + m : Nat) : Int), .int .i64 0], [])
              | none => (.tup [.int .u64 0, .int .i64 0, .int .i64 2], [])) := by
          intro h9
          obtain ⟨g1, g2, g3⟩ := group_or v (c.toNat % 128) n (hv (by omega)) (by omega) (by omega) (fun h => by have := h9 h; omega)
          have hno : ¬ (n = 9 ∧ 1 < c.toNat) := by
            rintro ⟨h1, h2⟩
            have := h9 h1
            omega
          rw [if_neg hno, g1]
          by_cases h128 : c.toNat < 128
          · have : c.toNat % 128 = c.toNat := Nat.mod_eq_of_lt h128
            simp only [h128, decide_true, cond_true, if_true, this]
          · simp only [h128, decide_false, cond_false, if_false]
            have hn9 : n < 9 := by
              rcases Nat.lt_or_ge n 9 with h | h
              · exact h
              · have := h9 (by omega); omega
            rw [hrec (v0, ((v + 128 ^ n * (c.toNat % 128) : Nat) : Int), ((n + 1 : Nat) : Int)) ⟨rfl, ⟨n + 1, _, rfl, rfl, by omega, by omega, fun _ => g3 hn9⟩⟩ (by simp; omega)]
            simp only [F11, Int.toNat_natCast]
            cases vdec (10 - (n + 1)) (v0.drop (n + 1)) with
            | none => rfl
            | some p =>
              obtain ⟨u, m⟩ := p
              simp only [Option.some.injEq, Prod.mk.injEq, and_true]
              rw [Nat.pow_succ, Nat.mul_add, ← Nat.mul_assoc, Nat.add_assoc, show n + 1 + m = n + (m + 1) by omega]
        simp only [e1, e2, e3, e4, e5, e6, c6, c7, Bool.not_false, chk_t]
        by_cases hn9 : n = 9
        · have c4 : ((n : Int) == 9) = true := by simp [hn9]
          simp only [c4, cond_true]
          by_cases hc1 : 1 < c.toNat
          · rw [if_pos ⟨hn9, hc1⟩, decide_eq_true hc1]
            rfl
          · rw [decide_eq_false hc1]
            exact back (fun _ => by omega)
        · have c4 : ((n : Int) == 9) = false := by simp; omega
          simp only [c4, cond_false]
          exact back (fun h => absurd h hn9)
      · have c0 : ((n : Int) == (v0.length : Int)) = true := by simp; omega
        simp only [c0, c3, cond_true]
        rw [List.drop_eq_nil_of_le (by omega)]
        cases 10 - n <;> rfl
    · have c3 : decide ((n : Int) < 10) = false := by simp; omega
      obtain rfl : n = 10 := by omega
      simp only [c3, cond_false]
      rfl
  show iterL N (B_ref1_Varint_0 N) (s, 0, 0) = _
  rw [key]
  simp only [F11, vintR, Int.toNat_zero, List.drop_zero, Nat.sub_zero]
  cases vdec 10 s with
  | none => rfl
  | some p => simp
end Go.Proofs.Ytifmekddikapeaa
