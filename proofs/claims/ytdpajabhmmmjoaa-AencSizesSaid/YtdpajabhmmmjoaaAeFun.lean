/-
  The runs of layer 22's functions, in plain Lean.
-/
import Derived.Test.YtdpajabhmmmjoaaAeCode
import Derived.Test.YtdpajabhmmmjoaaCsArith
namespace Go.Proofs.Ytdpajabhmmmjoaa
open Go.AM
set_option autoImplicit false
set_option linter.unusedSimpArgs false
set_option linter.unusedVariables false
set_option maxRecDepth 100000

theorem putN_le : ∀ (k v : Nat), v < 128 ^ (k + 1) → putN (k + 1) v = putN k v
  | 0, v, h => by simp at h; simp [putN, h]
  | k + 1, v, h => by
    rw [putN]
    conv => rhs; rw [putN]
    split
    · rfl
    · rw [putN_le k (v / 128) (by rw [Nat.pow_succ] at h; exact Nat.div_lt_of_lt_mul (by rw [Nat.mul_comm]; exact h))]

theorem putN_step (v : Nat) (h : v < 2 ^ 64) (h128 : 128 ≤ v) : putN 9 v = UInt8.ofNat (v % 128 + 128) :: putN 9 (v / 128) := by
  rw [putN, if_neg (by omega), putN_le 8 (v / 128)]
  have : (2 : Nat) ^ 64 ≤ 128 * 128 ^ 9 := by decide
  exact Nat.div_lt_of_lt_mul (by omega)

theorem putN_one (v : Nat) (h : v < 128) : putN 9 v = [UInt8.ofNat v] := by rw [putN, if_pos h]

def F13 (x : Int × List UInt8) : V × List AObj := (.str (x.2 ++ putN 9 x.1.toNat), [])

structure PutSt (w : Int) (b : List UInt8) : Prop where
  ex : ∃ v : Nat, w = (v : Int) ∧ v < 2 ^ 64 ∧ v < 128 ^ (10 - b.length) ∧ b.length ≤ 9

theorem sh_rec_PutVarint_eq (N : Nat) (p : Int) (hp : 0 ≤ p ∧ p ≤ 18446744073709551615) (hN : 2 ^ 64 < N) : sh_rec_PutVarint N p = some (.str (putV p), []) := by
  obtain ⟨v, rfl⟩ : ∃ v : Nat, p = (v : Int) := ⟨p.toNat, by omega⟩
  have hv : v < 2 ^ 64 := by omega
  show iterL N (B_rec_PutVarint_0 N) ((v : Int), ([] : List UInt8)) = some (F13 ((v : Int), []))
  refine iterL_spec (fun x => PutSt x.1 x.2) (fun x => x.1.toNat) F13 ?_ N _ ⟨v, rfl, hv, ?_, by simp⟩ (by simp; omega)
  · rintro rec ⟨w, b⟩ ⟨v, rfl, h64, hb, hl⟩ hrec
    simp only at hb hl hrec ⊢
    simp only [B_rec_PutVarint_0, F13, Int.toNat_natCast]
    by_cases h128 : 128 ≤ v
    · have c1 : decide ((128 : Int) ≤ (v : Int)) = true := decide_eq_true (by omega)
      have e2 : Int.tmod (v : Int) 128 = ((v % 128 : Nat) : Int) := tmod_nat _ _
      have e3 : IntKind.wrap .u64 (((v % 128 : Nat) : Int) + 128) = ((v % 128 + 128 : Nat) : Int) := by rw [wrap_u64_of _ (by omega)]; rfl
      have e4 : IntKind.wrap .u8 ((v % 128 + 128 : Nat) : Int) = ((v % 128 + 128 : Nat) : Int) := wrap_u8_of _ (by omega)
      have e5 : shrI .u64 (v : Int) 7 = ((v / 128 : Nat) : Int) := shrI_nat .u64 v 7 (by decide)
      have e6 : ∀ c : UInt8, decide ((b.length + [c].length) * 1 ≤ 140737488355328) = true := fun c => decide_eq_true (by simp; omega)
      have e7 : decide ((0 : Int) ≤ 7) = true := rfl
      have e8 : (!((128 : Int) == 0)) = true := rfl
      simp only [c1, cond_true, e2, e3, e4, e5, e7, Int.toNat_natCast, chk_true e8, chk_true (e6 _), chk_t]
      have hb2 : 2 ≤ 10 - b.length := by
        rcases Nat.lt_or_ge (10 - b.length) 2 with h | h
        · have : (128 : Nat) ^ (10 - b.length) ≤ 128 ^ 1 := Nat.pow_le_pow_right (by omega) (by omega)
          omega
        · exact h
      rw [hrec (((v / 128 : Nat) : Int), b ++ [UInt8.ofNat (v % 128 + 128)]) ⟨v / 128, rfl, by omega, ?_, by simp; omega⟩ (by simp; omega)]
      · simp only [F13, Int.toNat_natCast]
        rw [putN_step v h64 h128, List.append_assoc]
        rfl
      · simp only [List.length_append, List.length_singleton]
        refine Nat.div_lt_of_lt_mul ?_
        rw [show 10 - b.length = (10 - (b.length + 1)) + 1 by omega, Nat.pow_succ, Nat.mul_comm] at hb
        exact hb
    · have c1 : decide ((128 : Int) ≤ (v : Int)) = false := decide_eq_false (by omega)
      have e4 : IntKind.wrap .u8 (v : Int) = (v : Int) := wrap_u8_of _ (by omega)
      have e6 : ∀ c : UInt8, decide ((b.length + [c].length) * 1 ≤ 140737488355328) = true := fun c => decide_eq_true (by simp; omega)
      simp only [c1, cond_false, e4, Int.toNat_natCast, chk_true (e6 _)]
      rw [putN_one v (by omega)]
  · have : (2 : Nat) ^ 64 ≤ 128 ^ 10 := by decide
    simp; omega

theorem putN_len : ∀ (k v : Nat), (putN k v).length ≤ k + 1
  | 0, v => by simp [putN]
  | k + 1, v => by
    rw [putN]
    split
    · simp
    · have := putN_len k (v / 128)
      simp; omega

theorem toNat_i64 (a : Int) : (((BitVec.ofInt 64 a).toNat : Nat) : Int) = a % 18446744073709551616 := by
  rw [BitVec.toNat_ofInt]
  exact Int.toNat_of_nonneg (Int.emod_nonneg _ (by decide))

theorem xor_i64_0 (a : Int) : bitsI .xor .i64 a 0 = IntKind.wrap .i64 a := by
  have e : bitsI .xor .i64 a 0 = IntKind.wrap .i64 ((BitVec.ofInt 64 a ^^^ 0#64).toNat : Nat) := rfl
  rw [e, BitVec.xor_zero, toNat_i64, wrap_i64, wrap_i64]
  omega

theorem xor_i64_m (a : Int) : bitsI .xor .i64 a (-1) = IntKind.wrap .i64 (-1 - a) := by
  have e : bitsI .xor .i64 a (-1) = IntKind.wrap .i64 ((BitVec.ofInt 64 a ^^^ BitVec.allOnes 64).toNat : Nat) := by
    show IntKind.wrap .i64 ((BitVec.ofInt 64 a ^^^ BitVec.ofInt 64 (-1)).toNat : Nat) = _
    rw [show BitVec.ofInt 64 (-1) = BitVec.allOnes 64 from by decide]
  have hb : (BitVec.ofInt 64 a).toNat < 18446744073709551616 := (BitVec.ofInt 64 a).isLt
  have ht := toNat_i64 a
  rw [e, BitVec.xor_allOnes, BitVec.toNat_not, wrap_i64, wrap_i64]
  have e2 : ((2 ^ 64 - 1 - (BitVec.ofInt 64 a).toNat : Nat) : Int) = 18446744073709551616 - 1 - a % 18446744073709551616 := by
    rw [← ht]
    generalize (BitVec.ofInt 64 a).toNat = q at *
    omega
  rw [e2]
  omega

theorem zig64 (n : Int) (hn : 0 ≤ n ∧ n ≤ 18446744073709551615) :
    IntKind.wrap .u64 (bitsI .xor .i64 (shlI .i64 (IntKind.wrap .i64 n) 1) (shrI .i64 (IntKind.wrap .i64 n) 63)) = (if n < 9223372036854775808 then n * 2 else (18446744073709551615 - n) * 2 + 1) := by
  have hi : IntKind.wrap .i64 n = if n < 9223372036854775808 then n else n - 18446744073709551616 := by
    simp only [wrap_i64, wrap_u32]
    split <;> omega
  have e1 : shrI .i64 (IntKind.wrap .i64 n) 63 = if n < 9223372036854775808 then 0 else -1 := by
    rw [hi, shr_i64 _ _ (by omega)]
    show _ / (9223372036854775808 : Int) = _
    split <;> omega
  have e2 : shlI .i64 (IntKind.wrap .i64 n) 1 = IntKind.wrap .i64 ((IntKind.wrap .i64 n) * 2) := rfl
  rw [e1, e2, hi]
  by_cases h : n < 9223372036854775808
  · rw [if_pos h, if_pos h, if_pos h, xor_i64_0]
    simp only [wrap_i64, wrap_u32, wrap_u64]
    omega
  · rw [if_neg h, if_neg h, if_neg h, xor_i64_m]
    simp only [wrap_i64, wrap_u32, wrap_u64]
    omega


theorem sh_To_eq (N : Nat) (n : Int) (hn : 0 ≤ n ∧ n ≤ 18446744073709551615) : sh_cast_To N 8 n = some (.int .u64 (zigS n), []) := by
  have h := zig64 n hn
  have e : ∀ c : Int, c ≠ 8 → ((8 : Int) == c) = false := fun c hc => bf (fun h => hc h.symm)
  rw [zigS_def]
  unfold zigN
  rw [← h]
  simp only [sh_cast_To, sa_cast_To]
  rfl

theorem longS_len (n : Int) : (longS n).length ≤ 10 := by
  rw [longS_def]
  exact putN_len 9 _

theorem textV_len (s : List UInt8) : (textV s).length ≤ s.length + 10 := by
  have := longS_len (s.length : Int)
  simp only [textV, List.length_append]
  omega

theorem sh_long_eq (N : Nat) (n : Int) : sh_aenc_long N n = some (.str (longS n), []) := by
  simp only [sh_aenc_long, sa_aenc_long, longS_def, longD, zigS_def]
  rfl

theorem sh_text_eq (N : Nat) (s : List UInt8) (hs : s.length ≤ 1000000000000000) : sh_aenc_text N s = some (.str (textV s), []) := by
  have := longS_len (s.length : Int)
  simp only [sh_aenc_text, sa_aenc_text, textV]
  rw [chk_true (decide_eq_true (by omega))]

theorem lowsN_len : ∀ (k v : Nat), (lowsN k v).length = k
  | 0, v => rfl
  | k + 1, v => by simp [lowsN, lowsN_len k]

theorem lowsN_succ : ∀ (k v : Nat), lowsN (k + 1) v = lowsN k v ++ [UInt8.ofNat (v / 256 ^ k % 256)]
  | 0, v => by simp [lowsN]
  | k + 1, v => by
    rw [lowsN, lowsN_succ k (v / 256), lowsN]
    simp [Nat.div_div_eq_div_mul, Nat.pow_succ, Nat.mul_comm]

theorem sh_fixed_eq (N : Nat) (p n : Int) (hp : 0 ≤ p ∧ p ≤ 18446744073709551615) (hn : 0 ≤ n ∧ n ≤ 8) (hN : 8 < N) : sh_aenc_fixed N p n = some (.str (lowsR p n), []) := by
  obtain ⟨v, rfl⟩ : ∃ v : Nat, p = (v : Int) := ⟨p.toNat, by omega⟩
  obtain ⟨m, rfl⟩ : ∃ m : Nat, n = (m : Int) := ⟨n.toNat, by omega⟩
  show iterL N (B_aenc_fixed_0 N) ((v : Int), ([] : List UInt8), (m : Int), 0) = _
  refine iterL_spec (fun x : Int × List UInt8 × Int × Int => ∃ i : Nat, x = ((v : Int), lowsN i v, (m : Int), (i : Int)) ∧ i ≤ m) (fun x => m - x.2.2.2.toNat) (fun x => (V.str (lowsR (v : Int) (m : Int)), ([] : List AObj))) ?_ N _ ⟨0, rfl, by omega⟩ (by simp; omega)
  rintro rec x ⟨i, rfl, hi⟩ hrec
  simp only [B_aenc_fixed_0]
  rcases Nat.lt_or_ge i m with h | h
  · have hr := hrec ((v : Int), lowsN (i + 1) v, (m : Int), ((i + 1 : Nat) : Int)) ⟨i + 1, rfl, by omega⟩ (by simp only [Int.toNat_natCast]; omega)
    have hl := lowsN_len i v
    have e1 : IntKind.wrap .i64 (8 * (i : Int)) = ((8 * i : Nat) : Int) := by rw [wrap_i64_of _ (by omega)]; omega
    have e2 : shrI .u64 (v : Int) ((8 * i : Nat) : Int) = ((v / 256 ^ i : Nat) : Int) := by
      rw [shr_nat v (8 * i) (by omega), Nat.pow_mul]
    have e3 : IntKind.wrap .u8 ((v / 256 ^ i : Nat) : Int) = ((v / 256 ^ i % 256 : Nat) : Int) := by rw [wrap_u8]; omega
    have e4 : IntKind.wrap .i64 ((i : Int) + 1) = ((i + 1 : Nat) : Int) := by rw [wrap_i64_of _ (by omega)]; rfl
    have c1 : decide ((i : Int) < (m : Int)) = true := decide_eq_true (by omega)
    have c2 : decide ((0 : Int) ≤ ((8 * i : Nat) : Int)) = true := decide_eq_true (by omega)
    have c3 : ∀ c : UInt8, decide (((lowsN i v).length + ([c] : List UInt8).length) * 1 ≤ 140737488355328) = true := fun c => decide_eq_true (by simp only [hl, List.length_singleton]; omega)
    simp only [c1, e1, c2, e2, e3, e4, Int.toNat_natCast, c3, chk_t, cond_true]
    rw [← lowsN_succ]
    exact hr
  · have c1 : decide ((i : Int) < (m : Int)) = false := decide_eq_false (by omega)
    have : i = m := by omega
    subst this
    simp only [c1, cond_false, lowsR, Int.toNat_natCast]

mutual
theorem len_valueS (ts : List AType) (t : Int) : ∀ v : AVal, (valueS ts t v).length + 20 ≤ wV v
  | .mk n s l ks b => by
    have h1 := len_allV ts (ts.getD t.toNat (dflt .atype)).items l
    have h1' := len_allV ts ((ts.getD t.toNat (dflt .atype)).branches.getD b.toNat 0) l
    have h2 := len_mapV ts (ts.getD t.toNat (dflt .atype)).items ks l
    have h3 := len_recV ts (ts.getD t.toNat (dflt .atype)).fields l
    have k1 := longS_len (IntKind.wrap .i64 n)
    have k2 := longS_len (l.length : Int)
    have k3 := longS_len 0
    have k4 := longS_len b
    have k5 := textV_len s
    have m1 : (lowsR n 1).length = 1 := lowsN_len _ _
    have m4 : (lowsR n 4).length = 4 := lowsN_len _ _
    have m8 : (lowsR n 8).length = 8 := lowsN_len _ _
    simp only [valueS, wV]
    generalize ts.getD t.toNat (dflt .atype) = k at *
    have key : ∀ (c : Bool) (x y : List UInt8), x.length ≤ 20 + s.length + keyW ks + wL l → y.length ≤ 20 + s.length + keyW ks + wL l → (cond c x y).length ≤ 20 + s.length + keyW ks + wL l := by
      intro c x y hx hy; cases c <;> assumption
    suffices H : ∀ z : List UInt8, z.length ≤ 20 + s.length + keyW ks + wL l → z.length + 20 ≤ 40 + s.length + keyW ks + wL l by
      apply H
      refine key _ _ _ (by omega) (key _ _ _ (by omega) (key _ _ _ (by omega) (key _ _ _ (by omega) (key _ _ _ (by omega) (key _ _ _ (by omega) (key _ _ _ ?_ (key _ _ _ (by omega) (key _ _ _ ?_ (by simp)))))))))
      · simp only [List.length_append]; omega
      · simp only [List.length_append]
        have q1 : (cond (decide (0 < (l.length : Int))) (longS (l.length : Int)) []).length ≤ 10 := by cases decide (0 < (l.length : Int)) <;> simp [k2]
        have q2 : (cond (k.kind == 13) (mapV ts k.items ks l) (allV ts k.items l)).length ≤ keyW ks + wL l := by cases (k.kind == 13) <;> simp only [cond_true, cond_false] <;> omega
        omega
    intro z hz; omega
theorem len_allV (ts : List AType) (t : Int) : ∀ l : List AVal, (allV ts t l).length ≤ wL l
  | [] => by simp [allV]
  | v :: l => by
    have := len_valueS ts t v
    have := len_allV ts t l
    simp only [allV, List.length_append, wL]; omega
theorem len_mapV (ts : List AType) (t : Int) : ∀ (ks : List (List UInt8)) (l : List AVal), (mapV ts t ks l).length ≤ keyW ks + wL l
  | ks, [] => by simp [mapV]
  | ks, v :: l => by
    have h1 := len_valueS ts t v
    have h2 := len_mapV ts t ks.tail l
    have h3 := textV_len (ks.headD [])
    have h4 : (ks.headD []).length + keyW ks.tail ≤ keyW ks := by cases ks <;> simp [keyW]
    simp only [mapV, List.length_append, wL]
    omega
theorem len_recV (ts : List AType) : ∀ (fs : List AField) (l : List AVal), (recV ts fs l).length ≤ wL l
  | fs, [] => by simp [recV]
  | fs, v :: l => by
    have := len_valueS ts ((fs.headD (dflt .afield)).typ) v
    have := len_recV ts fs.tail l
    simp only [recV, List.length_append, wL]; omega
end
end Go.Proofs.Ytdpajabhmmmjoaa
