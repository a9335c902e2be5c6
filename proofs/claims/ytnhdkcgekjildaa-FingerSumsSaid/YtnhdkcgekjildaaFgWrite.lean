/-
  FingerOne, FingerSums: the laws' own runs.
-/
import Derived.Test.YtnhdkcgekjildaaFgLin
namespace Go.Proofs.Ytnhdkcgekjildaa
open Go.AM
set_option autoImplicit false
set_option linter.unusedVariables false
set_option linter.unusedSimpArgs false

theorem xor_u8 (a b : Nat) (ha : a < 256) (hb : b < 256) : bitsI .xor .u8 (a : Int) (b : Int) = ((a ^^^ b : Nat) : Int) := bits_xor .u8 rfl a b ha hb

theorem one_shl (j : Nat) (hj : j < 8) : ∃ m : Nat, shlI .u8 1 (j : Int) = (m : Int) ∧ m < 256 ∧ m ≠ 0 := by
  refine ⟨2 ^ j, ?_, ?_, ?_⟩
  · have := shlI_nat .u8 rfl 1 j (by show j ≤ 8; omega)
    rw [Nat.one_mul] at this
    refine this.trans ?_
    have : ∀ j : Fin 8, (2 ^ j.val % 2 ^ 8 : Nat) = 2 ^ j.val := by decide
    exact congrArg Nat.cast (this ⟨j, hj⟩)
  · have : ∀ j : Fin 8, 2 ^ j.val < 256 := by decide
    exact this ⟨j, hj⟩
  · exact Nat.pos_iff_ne_zero.1 (Nat.two_pow_pos j)

theorem sh_law5_FingerOne_eq (N : Nat) (s : List UInt8) (bit at' to : Int) (h1 : 0 ≤ bit ∧ bit ≤ 65535) (h2 : 0 ≤ at' ∧ at' ≤ 255) (h3 : 0 ≤ to ∧ to ≤ 255) : (sh_law5_FingerOne N s bit at' to).map (·.1) = some (.bool true) := by
  simp only [sh_law5_FingerOne, sa_law5_FingerOne]
  by_cases g1 : 100 < s.length
  · simp (disch := omega) only [dt, df, it, iF, bt, bf, cond_true, cond_false, map_some', chk_t, Bool.and_true, Bool.true_and, Bool.and_false, Bool.false_and, Bool.or_true, Bool.true_or, Bool.or_false, Bool.false_or, Bool.not_true, Bool.not_false, if_true, if_false, beq_self_eq_true, wrap_i64_of, wrap_u64_of, wrap_i32_of, wrap_u32_of, wrap_u8_of, tdiv_of, tmod_of, Int.toNat_natCast, List.take_length, List.drop_zero, or_true, true_or, or_false, false_or, or_self, ]
  by_cases g2 : s.length = 0
  · simp (disch := omega) only [dt, df, it, iF, bt, bf, cond_true, cond_false, map_some', chk_t, Bool.and_true, Bool.true_and, Bool.and_false, Bool.false_and, Bool.or_true, Bool.true_or, Bool.or_false, Bool.false_or, Bool.not_true, Bool.not_false, if_true, if_false, beq_self_eq_true, wrap_i64_of, wrap_u64_of, wrap_i32_of, wrap_u32_of, wrap_u8_of, tdiv_of, tmod_of, Int.toNat_natCast, List.take_length, List.drop_zero, or_true, true_or, or_false, false_or, or_self, ]
  obtain ⟨p, rfl⟩ : ∃ p : Nat, bit = (p : Int) := ⟨bit.toNat, by omega⟩
  obtain ⟨q, rfl⟩ : ∃ q : Nat, at' = (q : Int) := ⟨at'.toNat, by omega⟩
  obtain ⟨t, rfl⟩ : ∃ t : Nat, to = (t : Int) := ⟨to.toNat, by omega⟩
  have w1 : IntKind.wrap .i64 (p : Int) = (p : Int) := wrap_i64_of _ (by omega)
  have w2 : IntKind.wrap .i64 (q : Int) = (q : Int) := wrap_i64_of _ (by omega)
  have w3 : IntKind.wrap .i64 (8 * (s.length : Int)) = ((8 * s.length : Nat) : Int) := by rw [wrap_i64_of _ (by omega)]; omega
  have hk : p % (8 * s.length) < 8 * s.length := Nat.mod_lt _ (by omega)
  have hn : q % s.length < s.length := Nat.mod_lt _ (by omega)
  simp only [w1, w2, w3, tmod_nat]
  generalize p % (8 * s.length) = k at hk
  generalize q % s.length = n at hn
  have d8 : Int.tdiv (k : Int) 8 = ((k / 8 : Nat) : Int) := tdiv_nat k 8
  have m8 : Int.tmod (k : Int) 8 = ((k % 8 : Nat) : Int) := tmod_nat k 8
  have w4 : IntKind.wrap .i64 ((k / 8 : Nat) : Int) = ((k / 8 : Nat) : Int) := wrap_i64_of _ (by omega)
  obtain ⟨m, em, hm, hm0⟩ := one_shl (k % 8) (by omega)
  have hb := (s.getD (k / 8) 0).toNat_lt
  have ex := xor_u8 (s.getD (k / 8) 0).toNat m hb hm
  have hxl := Nat.xor_lt_two_pow (n := 8) (x := (s.getD (k / 8) 0).toNat) (y := m) (by omega) (by omega)
  have hne : ¬ UInt8.ofNat ((s.getD (k / 8) 0).toNat ^^^ m) = s.getD (k / 8) 0 := by
    intro h
    have h' := congrArg UInt8.toNat h
    rw [show (UInt8.ofNat ((s.getD (k / 8) 0).toNat ^^^ m)).toNat = (s.getD (k / 8) 0).toNat ^^^ m by rw [UInt8.toNat_ofNat']; omega] at h'
    have := xor_cancel (a := m) (b := 0) (c := (s.getD (k / 8) 0).toNat) (by rw [Nat.xor_comm m, h', Nat.zero_xor])
    exact hm0 this
  have f1 : ¬ fpOf (s.set (k / 8) (UInt8.ofNat ((s.getD (k / 8) 0).toNat ^^^ m))) = fpOf s := fun h => hne ((fp_set s (k / 8) (by omega) _).1 h)
  have f2 := fp_set s n hn (UInt8.ofNat t)
  have f3 : UInt8.ofNat t = s.getD n 0 ↔ (s.getD n 0).toNat = t := by
    constructor
    · intro h; rw [← h]; simp; omega
    · intro h; rw [← h]; simp
  have tk : ∀ (i : Nat) (c : UInt8), List.take s.length (s.set i c) = s.set i c := fun i c => List.take_of_length_le (by simp)
  have e13 : (((fpOf (s.set (k / 8) (UInt8.ofNat ((s.getD (k / 8) 0).toNat ^^^ m))) : Nat) : Int) == ((fpOf s : Nat) : Int)) = false := bf (by omega)
  have e15 : ((((fpOf (s.set n (UInt8.ofNat t)) : Nat) : Int) == ((fpOf s : Nat) : Int)) == (((s.getD n 0).toNat : Int) == (t : Int))) = true := by
    by_cases hq : (s.getD n 0).toNat = t
    · have := f2.2 (f3.2 hq)
      rw [bt (by omega), bt (by omega)]; rfl
    · have : ¬ fpOf (s.set n (UInt8.ofNat t)) = fpOf s := fun h => hq (f3.1 (f2.1 h))
      rw [bf (by omega), bf (by omega)]; rfl
  simp only [d8, m8, w4, em, Int.toNat_natCast, ex, tk, e13, e15, List.length_set]
  simp (disch := omega) only [dt, df, it, iF, bt, bf, cond_true, cond_false, map_some', chk_t, Bool.and_true, Bool.true_and, Bool.and_false, Bool.false_and, Bool.or_true, Bool.true_or, Bool.or_false, Bool.false_or, Bool.not_true, Bool.not_false, if_true, if_false, beq_self_eq_true, wrap_i64_of, wrap_u64_of, wrap_i32_of, wrap_u32_of, wrap_u8_of, tdiv_of, tmod_of, Int.toNat_natCast, List.take_length, List.drop_zero, or_true, true_or, or_false, false_or, or_self, ]

/-- what the first bytes sum to -/
def sumB (a b : List UInt8) : List UInt8 := List.zipWith (fun x y => UInt8.ofNat (x.toNat ^^^ y.toNat)) a b

theorem sum_loop (N : Nat) (a b : List UInt8) (n : Nat) (ha : n ≤ a.length) (hb : n ≤ b.length) (hn : n ≤ 40) : ∀ (k M i : Nat), i + k = n →
    (iterL (M + k + 1) (B_law5_FingerSums_0 N) (a, b, (n : Int), n, List.replicate n 0, (i : Int), (sumB (a.take n) (b.take n)).take i ++ List.replicate k 0)).map (·.1) = some (.bool true)
  | 0, M, i, h => by
    have e : i = n := by omega
    subst e
    show (B_law5_FingerSums_0 N _ _).map (·.1) = _
    have hl : (sumB (a.take i) (b.take i)).length = i := by unfold sumB; simp; omega
    have hs := sums (a.take i) (b.take i) fpC fpC fpC fpC (by simp; omega) rfl
    have ht : (a.take i).length = i := by simp; omega
    rw [ht] at hs
    have hs2 : fpOf (a.take i) ^^^ fpOf (b.take i) = fpOf (sumB (a.take i) (b.take i)) ^^^ fpOf (List.replicate i 0) := hs
    have hlt : ∀ l : List UInt8, fpOf l < 2 ^ 64 := fun l => foldl_fp_lt l fpC (by decide)
    have x1 := bits_xor .u64 rfl (fpOf (a.take i)) (fpOf (b.take i)) (hlt _) (hlt _)
    have x2 := bits_xor .u64 rfl (fpOf (sumB (a.take i) (b.take i))) (fpOf (List.replicate i 0)) (hlt _) (hlt _)
    have tk : List.take i (sumB (a.take i) (b.take i)) = sumB (a.take i) (b.take i) := List.take_of_length_le (by omega)
    simp only [B_law5_FingerSums_0, Int.toNat_natCast, List.replicate_zero, List.append_nil, tk, List.drop_zero, x1, x2, hs2, hl]
    simp (disch := omega) only [dt, df, it, iF, bt, bf, cond_true, cond_false, map_some', chk_t, Bool.and_true, Bool.true_and, Bool.and_false, Bool.false_and, Bool.or_true, Bool.true_or, Bool.or_false, Bool.false_or, Bool.not_true, Bool.not_false, if_true, if_false, beq_self_eq_true, wrap_i64_of, wrap_u64_of, wrap_i32_of, wrap_u32_of, wrap_u8_of, tdiv_of, tmod_of, Int.toNat_natCast, List.take_length, List.drop_zero, or_true, true_or, or_false, false_or, or_self, ]
  | k + 1, M, i, h => by
    show (B_law5_FingerSums_0 N (iterL (M + k + 1) (B_law5_FingerSums_0 N)) _).map (·.1) = _
    have hca := (a.getD i 0).toNat_lt
    have hcb := (b.getD i 0).toNat_lt
    have ex := xor_u8 (a.getD i 0).toNat (b.getD i 0).toNat hca hcb
    have hl : (sumB (a.take n) (b.take n)).length = n := by unfold sumB; simp; omega
    have hi : (sumB (a.take n) (b.take n))[i]? = some (UInt8.ofNat ((a.getD i 0).toNat ^^^ (b.getD i 0).toNat)) := by
      unfold sumB
      rw [List.getElem?_zipWith]
      simp [List.getElem?_take, show i < n by omega, List.getD, show i < a.length by omega, show i < b.length by omega]
    have hlen : ((sumB (a.take n) (b.take n)).take i ++ List.replicate (k + 1) (0 : UInt8)).length = n := by simp [hl]; omega
    have hset : ((sumB (a.take n) (b.take n)).take i ++ List.replicate (k + 1) (0 : UInt8)).set i (UInt8.ofNat ((a.getD i 0).toNat ^^^ (b.getD i 0).toNat)) = (sumB (a.take n) (b.take n)).take (i + 1) ++ List.replicate k 0 := by
      have hti : ((sumB (a.take n) (b.take n)).take i).length = i := by simp [hl]; omega
      rw [List.set_append_right _ _ (by omega), hti, Nat.sub_self, List.replicate_succ, List.set_cons_zero, List.take_add_one, hi]
      simp
    have ih := sum_loop N a b n ha hb hn k M (i + 1) (by omega)
    simp only [B_law5_FingerSums_0, Int.toNat_natCast, ex, hset, hlen]
    simp (disch := omega) only [dt, df, it, iF, bt, bf, cond_true, cond_false, map_some', chk_t, Bool.and_true, Bool.true_and, Bool.and_false, Bool.false_and, Bool.or_true, Bool.true_or, Bool.or_false, Bool.false_or, Bool.not_true, Bool.not_false, if_true, if_false, beq_self_eq_true, wrap_i64_of, wrap_u64_of, wrap_i32_of, wrap_u32_of, wrap_u8_of, tdiv_of, tmod_of, Int.toNat_natCast, List.take_length, List.drop_zero, or_true, true_or, or_false, false_or, or_self, ]
    exact ih

theorem sh_law5_FingerSums_eq (a b : List UInt8) : (sh_law5_FingerSums 1000 a b).map (·.1) = some (.bool true) := by
  obtain ⟨n, hn, h1, h2, h3⟩ : ∃ n : Nat, (if (40 : Int) < (if (b.length : Int) < (a.length : Int) then (b.length : Int) else (a.length : Int)) then (40 : Int) else (if (b.length : Int) < (a.length : Int) then (b.length : Int) else (a.length : Int))) = (n : Int) ∧ n ≤ a.length ∧ n ≤ b.length ∧ n ≤ 40 := by
    by_cases g1 : (b.length : Int) < (a.length : Int)
    · rw [if_pos g1]
      by_cases g2 : (40 : Int) < (b.length : Int)
      · rw [if_pos g2]; exact ⟨40, rfl, by omega, by omega, by omega⟩
      · rw [if_neg g2]; exact ⟨b.length, rfl, by omega, by omega, by omega⟩
    · rw [if_neg g1]
      by_cases g2 : (40 : Int) < (a.length : Int)
      · rw [if_pos g2]; exact ⟨40, rfl, by omega, by omega, by omega⟩
      · rw [if_neg g2]; exact ⟨a.length, rfl, by omega, by omega, by omega⟩
  simp only [sh_law5_FingerSums, sa_law5_FingerSums, hn]
  simp (disch := omega) only [dt, df, it, iF, bt, bf, cond_true, cond_false, map_some', chk_t, Bool.and_true, Bool.true_and, Bool.and_false, Bool.false_and, Bool.or_true, Bool.true_or, Bool.or_false, Bool.false_or, Bool.not_true, Bool.not_false, if_true, if_false, beq_self_eq_true, wrap_i64_of, wrap_u64_of, wrap_i32_of, wrap_u32_of, wrap_u8_of, tdiv_of, tmod_of, Int.toNat_natCast, List.take_length, List.drop_zero, or_true, true_or, or_false, false_or, or_self, ]
  have := sum_loop 1000 a b n h1 h2 h3 n (999 - n) 0 (by omega)
  rw [show 999 - n + n + 1 = 1000 by omega] at this
  exact this
end Go.Proofs.Ytnhdkcgekjildaa
