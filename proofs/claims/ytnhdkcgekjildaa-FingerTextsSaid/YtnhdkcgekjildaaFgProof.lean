/-
  What the fingerprints' functions give.
-/
import Derived.Test.YtnhdkcgekjildaaFgCode
namespace Go.Proofs.Ytnhdkcgekjildaa
open Go.AM
set_option autoImplicit false
set_option linter.unusedSimpArgs false
set_option linter.unusedVariables false

theorem fpBit_lt (v : Nat) (h : v < 2 ^ 64) : fpBit v < 2 ^ 64 := by
  unfold fpBit
  split
  · exact Nat.xor_lt_two_pow (by omega) (by decide)
  · omega

theorem fpBits_lt : ∀ (n v : Nat), v < 2 ^ 64 → fpBits n v < 2 ^ 64
  | 0, v, h => h
  | n + 1, v, h => fpBits_lt n _ (fpBit_lt v h)

theorem fpByte_lt (v : Nat) (c : UInt8) (h : v < 2 ^ 64) : fpByte v c < 2 ^ 64 :=
  fpBits_lt 8 _ (Nat.xor_lt_two_pow h (by have := c.toNat_lt; omega))

theorem foldl_fp_lt : ∀ (l : List UInt8) (v : Nat), v < 2 ^ 64 → l.foldl fpByte v < 2 ^ 64
  | [], v, h => h
  | c :: l, v, h => foldl_fp_lt l _ (fpByte_lt v c h)

/-- a bit's step, as the program has it -/
theorem bit_step (a : Nat) (h : a < 2 ^ 64) : bitsI .xor .u64 (shrI .u64 (a : Int) 1) (bitsI .and .u64 13933329357911598997 (IntKind.wrap .u64 (0 - (bitsI .and .u64 (a : Int) 1)))) = (fpBit a : Int) := by
  have e1 : bitsI .and .u64 (a : Int) 1 = ((a % 2 : Nat) : Int) := by
    have := bits_and .u64 rfl a 1 h (by decide)
    rw [Nat.and_one_is_mod] at this
    exact this
  have e2 : shrI .u64 (a : Int) 1 = ((a / 2 : Nat) : Int) := by
    have := shrI_nat .u64 a 1 (by decide)
    simpa using this
  have hh : a / 2 < 2 ^ IntKind.u64.bits := by show a / 2 < 2 ^ 64; omega
  rw [e1, e2]
  unfold fpBit
  rcases Nat.mod_two_eq_zero_or_one a with h0 | h0
  · rw [h0, if_neg (by decide)]
    have e3 : IntKind.wrap .u64 (0 - ((0 : Nat) : Int)) = ((0 : Nat) : Int) := by decide
    have e4 := bits_and .u64 rfl 13933329357911598997 0 (by decide) (by decide)
    have e5 := bits_xor .u64 rfl (a / 2) 0 hh (by decide)
    rw [e3, show (13933329357911598997 : Int) = ((13933329357911598997 : Nat) : Int) from rfl, e4, Nat.and_zero, e5, Nat.xor_zero]
  · rw [h0, if_pos rfl]
    have e3 : IntKind.wrap .u64 (0 - ((1 : Nat) : Int)) = ((18446744073709551615 : Nat) : Int) := by decide
    have e4 := bits_and .u64 rfl 13933329357911598997 18446744073709551615 (by decide) (by decide)
    have e5 := bits_xor .u64 rfl (a / 2) 13933329357911598997 hh (by decide)
    rw [e3, show (13933329357911598997 : Int) = ((13933329357911598997 : Nat) : Int) from rfl, e4, show 13933329357911598997 &&& 18446744073709551615 = 13933329357911598997 by decide, e5]
    rfl

def F8a (x : List UInt8 × Int × Int × Int) : V × List AObj := (.int .u64 ((((x.1.drop x.2.2.2.toNat).foldl fpByte x.2.1.toNat : Nat)) : Int), [])
def F8b (x : List UInt8 × Int × Int × Int × Int) : V × List AObj := F8a (x.1, (fpBits (8 - x.2.2.2.2.toNat) x.2.1.toNat : Int), x.2.2.1, x.2.2.2.1 + 1)

theorem drop_step (s : List UInt8) (i : Nat) (h : i < s.length) (v : Nat) : (s.drop i).foldl fpByte v = (s.drop (i + 1)).foldl fpByte (fpByte v (s.getD i 0)) := by
  rw [List.drop_eq_getElem_cons h, List.foldl_cons]
  simp [List.getD, h]

theorem sh8_eq (N : Nat) (s : List UInt8) (hs : s.length ≤ maxI) (hN : s.length + 9 < N) : sh8 N s = some (.int .u64 (fpOf s : Int), []) := by
  have hm : (s.length : Int) ≤ 9223372036854775807 := by unfold maxI at hs; omega
  show iterL N (B8_0 N) (s, 13933329357911598997, (s.length : Int), 0) = _
  refine iterL_spec (fun x => x.1 = s ∧ x.2.2.1 = (s.length : Int) ∧ (∃ a : Nat, x.2.1 = (a : Int) ∧ a < 2 ^ 64) ∧ ∃ i : Nat, x.2.2.2 = (i : Int) ∧ i ≤ s.length) (fun x => s.length - x.2.2.2.toNat) F8a ?_ N _ ⟨rfl, rfl, ⟨_, rfl, by decide⟩, 0, rfl, by omega⟩ (by simp; omega)
  rintro rec ⟨v0, v3, v7, v8⟩ ⟨k0, k7, ⟨a, k3, ha⟩, i, k8, hi⟩ hrec
  simp only at k0 k7 k3 k8 hrec ⊢
  subst k0 k7 k3 k8
  simp only [B8_0, BA8_0]
  by_cases hlt : i < v0.length
  · have c1 : decide ((i : Int) < (v0.length : Int)) = true := by simpa using hlt
    have c2 : (decide ((0 : Int) ≤ (i : Int)) && decide ((i : Int) < (v0.length : Int))) = true := by simp [hlt]
    have hx : bitsI .xor .u64 (a : Int) (IntKind.wrap .u64 ((v0.getD i 0).toNat : Int)) = ((a ^^^ (v0.getD i 0).toNat : Nat) : Int) := by
      have hb := (v0.getD i 0).toNat_lt
      rw [wrap_nat_lt .u64 rfl _ (by show _ < 2 ^ 64; omega), bits_xor .u64 rfl _ _ ha (by show _ < 2 ^ 64; omega)]
    simp only [c1, cond_true, chk_true c2, Int.toNat_natCast, hx]
    have hb := (v0.getD i 0).toNat_lt
    have goal : iterL N (B8_1 N rec) (v0, ((a ^^^ (v0.getD i 0).toNat : Nat) : Int), (v0.length : Int), (i : Int), 0) = some (F8b (v0, ((a ^^^ (v0.getD i 0).toNat : Nat) : Int), (v0.length : Int), (i : Int), 0)) := by
      refine iterL_spec (fun x => x.1 = v0 ∧ x.2.2.1 = (v0.length : Int) ∧ x.2.2.2.1 = (i : Int) ∧ (∃ a : Nat, x.2.1 = (a : Int) ∧ a < 2 ^ 64) ∧ ∃ j : Nat, x.2.2.2.2 = (j : Int) ∧ j ≤ 8) (fun x => 8 - x.2.2.2.2.toNat) F8b ?_ N _
        ⟨rfl, rfl, rfl, ⟨_, rfl, Nat.xor_lt_two_pow ha (by omega)⟩, 0, rfl, by omega⟩ (by simp; omega)
      rintro rec1 ⟨u0, u3, u7, u8, u17⟩ ⟨k0, k7, k8, ⟨b, k3, hbb⟩, j, k17, hj⟩ hrec1
      simp only at k0 k7 k8 k3 k17 hrec1 ⊢
      subst k0 k7 k8 k3 k17
      simp only [B8_1]
      by_cases hj8 : j < 8
      · have c3 : decide ((j : Int) < 8) = true := by simp; omega
        have c4 : IntKind.wrap .i64 ((j : Int) + 1) = ((j + 1 : Nat) : Int) := by rw [wrap_i64_of _ (by omega)]; rfl
        simp only [c3, cond_true, chk_true (show decide ((0 : Int) ≤ 1) = true from rfl), bit_step b hbb, c4]
        rw [hrec1 (u0, (fpBit b : Int), (u0.length : Int), (i : Int), ((j + 1 : Nat) : Int)) ⟨rfl, rfl, rfl, ⟨_, rfl, fpBit_lt b hbb⟩, j + 1, rfl, by omega⟩ (by simp; omega)]
        simp only [F8b, Int.toNat_natCast]
        rw [show 8 - j = (8 - (j + 1)) + 1 by omega]
        rfl
      · have c3 : decide ((j : Int) < 8) = false := by simp; omega
        obtain rfl : j = 8 := by omega
        have c4 : IntKind.wrap .i64 ((i : Int) + 1) = ((i + 1 : Nat) : Int) := by rw [wrap_i64_of _ (by omega)]; rfl
        simp only [c3, cond_false, c4]
        rw [hrec (u0, (b : Int), (u0.length : Int), ((i + 1 : Nat) : Int)) ⟨rfl, rfl, ⟨b, rfl, hbb⟩, i + 1, rfl, by omega⟩ (by simp; omega)]
        rfl
    rw [goal]
    simp only [F8b, F8a, Int.toNat_natCast]
    rw [drop_step _ _ hlt]
    rfl
  · have c1 : decide ((i : Int) < (v0.length : Int)) = false := by simpa using hlt
    simp only [c1, cond_false, F8a, Int.toNat_natCast]
    rw [List.drop_eq_nil_of_le (by omega)]
    rfl

/-- a bit's step, as the document has it -/
theorem bit_ref (a : Nat) (h : a < 2 ^ 64) : ((Int.tmod (a : Int) 2) == 1) = decide (a % 2 = 1) ∧ IntKind.wrap .u64 (Int.tdiv (a : Int) 2) = ((a / 2 : Nat) : Int) ∧ bitsI .xor .u64 ((a / 2 : Nat) : Int) 13933329357911598997 = (((a / 2) ^^^ fpC : Nat) : Int) := by
  have e1 := tmod_nat a 2
  have e2 := tdiv_nat a 2
  have e3 := wrap_nat_lt .u64 rfl (a / 2) (by show _ < 2 ^ 64; omega)
  have e4 := bits_xor .u64 rfl (a / 2) fpC (by show _ < 2 ^ 64; omega) (by decide)
  refine ⟨?_, ?_, e4⟩
  · rw [show (2 : Int) = ((2 : Nat) : Int) from rfl, e1, Bool.eq_iff_iff]
    simp
    omega
  · rw [show (2 : Int) = ((2 : Nat) : Int) from rfl, e2]
    exact e3

def F9a (x : List UInt8 × Int × Int) : V × List AObj := (.int .u64 ((((x.1.drop x.2.2.toNat).foldl fpByte x.2.1.toNat : Nat)) : Int), [])
def F9b (x : List UInt8 × Int × Int × Int) : V × List AObj := F9a (x.1, (fpBits (8 - x.2.2.2.toNat) x.2.1.toNat : Int), x.2.2.1 + 1)

theorem sh9_eq (N : Nat) (s : List UInt8) (hs : s.length ≤ maxI) (hN : s.length + 9 < N) : sh9 N s = some (.int .u64 (fpOf s : Int), []) := by
  have hm : (s.length : Int) ≤ 9223372036854775807 := by unfold maxI at hs; omega
  show iterL N (B9_0 N) (s, 13933329357911598997, 0) = _
  refine iterL_spec (fun x => x.1 = s ∧ (∃ a : Nat, x.2.1 = (a : Int) ∧ a < 2 ^ 64) ∧ ∃ i : Nat, x.2.2 = (i : Int) ∧ i ≤ s.length) (fun x => s.length - x.2.2.toNat) F9a ?_ N _ ⟨rfl, ⟨_, rfl, by decide⟩, 0, rfl, by omega⟩ (by simp; omega)
  rintro rec ⟨v0, v3, v8⟩ ⟨k0, ⟨a, k3, ha⟩, i, k8, hi⟩ hrec
  simp only at k0 k3 k8 hrec ⊢
  subst k0 k3 k8
  simp only [B9_0, BA9_0]
  by_cases hlt : i < v0.length
  · have c1 : decide ((i : Int) < (v0.length : Int)) = true := by simpa using hlt
    have c2 : (decide ((0 : Int) ≤ (i : Int)) && decide ((i : Int) < (v0.length : Int))) = true := by simp [hlt]
    have hx : bitsI .xor .u64 (a : Int) (IntKind.wrap .u64 ((v0.getD i 0).toNat : Int)) = ((a ^^^ (v0.getD i 0).toNat : Nat) : Int) := by
      have hb := (v0.getD i 0).toNat_lt
      rw [wrap_nat_lt .u64 rfl _ (by show _ < 2 ^ 64; omega), bits_xor .u64 rfl _ _ ha (by show _ < 2 ^ 64; omega)]
    simp only [c1, cond_true, chk_true c2, Int.toNat_natCast, hx]
    have hb := (v0.getD i 0).toNat_lt
    have goal : iterL N (B9_1 N rec) (v0, ((a ^^^ (v0.getD i 0).toNat : Nat) : Int), (i : Int), 0) = some (F9b (v0, ((a ^^^ (v0.getD i 0).toNat : Nat) : Int), (i : Int), 0)) := by
      refine iterL_spec (fun x => x.1 = v0 ∧ x.2.2.1 = (i : Int) ∧ (∃ a : Nat, x.2.1 = (a : Int) ∧ a < 2 ^ 64) ∧ ∃ j : Nat, x.2.2.2 = (j : Int) ∧ j ≤ 8) (fun x => 8 - x.2.2.2.toNat) F9b ?_ N _
        ⟨rfl, rfl, ⟨_, rfl, Nat.xor_lt_two_pow ha (by omega)⟩, 0, rfl, by omega⟩ (by simp; omega)
      rintro rec1 ⟨u0, u3, u8, u17⟩ ⟨k0, k8, ⟨b, k3, hbb⟩, j, k17, hj⟩ hrec1
      simp only at k0 k8 k3 k17 hrec1 ⊢
      subst k0 k8 k3 k17
      simp only [B9_1]
      obtain ⟨b1, b2, b3⟩ := bit_ref b hbb
      by_cases hj8 : j < 8
      · have c3 : decide ((j : Int) < 8) = true := by simp; omega
        have c4 : IntKind.wrap .i64 ((j : Int) + 1) = ((j + 1 : Nat) : Int) := by rw [wrap_i64_of _ (by omega)]; rfl
        simp only [c3, cond_true, chk_true (show (!((2 : Int) == 0)) = true from rfl), b1, b2, b3, c4]
        have next : rec1 (u0, (fpBit b : Int), (i : Int), ((j + 1 : Nat) : Int)) = some (F9b (u0, (b : Int), (i : Int), (j : Int))) := by
          rw [hrec1 (u0, (fpBit b : Int), (i : Int), ((j + 1 : Nat) : Int)) ⟨rfl, rfl, ⟨_, rfl, fpBit_lt b hbb⟩, j + 1, rfl, by omega⟩ (by simp; omega)]
          simp only [F9b, Int.toNat_natCast]
          rw [show 8 - j = (8 - (j + 1)) + 1 by omega]
          rfl
        unfold fpBit at next
        by_cases h1 : b % 2 = 1
        · rw [if_pos h1] at next
          simp only [h1, decide_true, cond_true]
          exact next
        · rw [if_neg h1] at next
          simp only [h1, decide_false, cond_false]
          exact next
      · have c3 : decide ((j : Int) < 8) = false := by simp; omega
        obtain rfl : j = 8 := by omega
        have c4 : IntKind.wrap .i64 ((i : Int) + 1) = ((i + 1 : Nat) : Int) := by rw [wrap_i64_of _ (by omega)]; rfl
        simp only [c3, cond_false, c4]
        rw [hrec (u0, (b : Int), ((i + 1 : Nat) : Int)) ⟨rfl, ⟨b, rfl, hbb⟩, i + 1, rfl, by omega⟩ (by simp; omega)]
        rfl
    rw [goal]
    simp only [F9b, F9a, Int.toNat_natCast]
    rw [drop_step _ _ hlt]
    rfl
  · have c1 : decide ((i : Int) < (v0.length : Int)) = false := by simpa using hlt
    simp only [c1, cond_false, F9a, Int.toNat_natCast]
    rw [List.drop_eq_nil_of_le (by omega)]
    rfl

theorem hexN_length : ∀ (n v : Nat), (hexN v n).length = n
  | 0, v => rfl
  | n + 1, v => by simp [hexN, hexN_length n]

/-- the sign of a digit -/
theorem hex_sign (d : Nat) (h : d < 16) : List.getD [48, 49, 50, 51, 52, 53, 54, 55, 56, 57, 97, 98, 99, 100, 101, 102] d (0 : UInt8) = hexD d := by
  have : ∀ d : Fin 16, List.getD [48, 49, 50, 51, 52, 53, 54, 55, 56, 57, 97, 98, 99, 100, 101, 102] d.val (0 : UInt8) = hexD d.val := by decide
  exact this ⟨d, h⟩

def F10 (x : Int × List (Ty .u8) × Int) : V × List AObj := (.str (hexN x.1.toNat 16), [])

theorem sh10_eq (N : Nat) (p : Int) (hp : 0 ≤ p ∧ p ≤ 18446744073709551615) (hN : 17 < N) : sh10 N p = some (.str (hexN p.toNat 16), []) := by
  obtain ⟨v, rfl⟩ : ∃ v : Nat, p = v := ⟨p.toNat, by omega⟩
  have hv : v < 2 ^ 64 := by omega
  show iterL N (B10_0 N) ((v : Int), [], 60) = _
  refine iterL_spec (fun x => x.1 = (v : Int) ∧ ∃ k : Nat, k ≤ 16 ∧ x.2.2 = 60 - 4 * (k : Int) ∧ x.2.1 = hexN (v / 16 ^ (16 - k)) k) (fun x => ((x.2.2 + 4) / 4).toNat) F10 ?_ N _ ⟨rfl, 0, by omega, by simp, rfl⟩ (by simp; omega)
  rintro rec ⟨v0, v3, v4⟩ ⟨k0, k, hk, k4, k3⟩ hrec
  simp only at k0 k4 k3 hrec ⊢
  subst k0 k4 k3
  simp only [B10_0]
  by_cases hlt : k < 16
  · have c1 : decide ((0 : Int) ≤ 60 - 4 * (k : Int)) = true := by simp; omega
    obtain ⟨q, hq⟩ : ∃ q : Nat, q = 60 - 4 * k := ⟨_, rfl⟩
    have e0 : (60 - 4 * (k : Int)) = (q : Int) := by omega
    have e1 : bitsI .and .u64 (shrI .u64 (v : Int) (60 - 4 * (k : Int))) 15 = ((v / 2 ^ q % 16 : Nat) : Int) := by
      rw [e0, shrI_nat .u64 v q (by show q ≤ 64; omega)]
      have hd : v / 2 ^ q < 2 ^ 64 := Nat.lt_of_le_of_lt (Nat.div_le_self _ _) hv
      have := bits_and .u64 rfl (v / 2 ^ q) 15 hd (by decide)
      rw [show (15 : Nat) = 2 ^ 4 - 1 from rfl, Nat.and_two_pow_sub_one_eq_mod] at this
      exact this
    have hd : v / 2 ^ q % 16 < 16 := Nat.mod_lt _ (by omega)
    have c2 : (decide ((0 : Int) ≤ ((v / 2 ^ q % 16 : Nat) : Int)) && decide (((v / 2 ^ q % 16 : Nat) : Int) < ((List.length [48, 49, 50, 51, 52, 53, 54, 55, 56, 57, 97, 98, 99, 100, 101, (102 : UInt8)] : Nat) : Int))) = true := by simp; omega
    have c3 : decide (((hexN (v / 16 ^ (16 - k)) k).length + List.length [hexD (v / 2 ^ q % 16)]) * EK.bytes .u8 ≤ reach) = true := by
      simp [hexN_length, EK.bytes, reach]; omega
    have e2 : UInt8.ofNat (Int.toNat ((UInt8.toNat (List.getD [48, 49, 50, 51, 52, 53, 54, 55, 56, 57, 97, 98, 99, 100, 101, (102 : UInt8)] (Int.toNat ((v / 2 ^ q % 16 : Nat) : Int)) 0) : Nat) : Int)) = hexD (v / 2 ^ q % 16) := by
      rw [Int.toNat_natCast, Int.toNat_natCast, hex_sign _ hd]; simp
    have e3 : IntKind.wrap .i64 (60 - 4 * (k : Int) - 4) = 60 - 4 * ((k + 1 : Nat) : Int) := by rw [wrap_i64_of _ (by omega)]; omega
    have e4 : hexN (v / 16 ^ (16 - k)) k ++ [hexD (v / 2 ^ q % 16)] = hexN (v / 16 ^ (16 - (k + 1))) (k + 1) := by
      have hp : 16 ^ (16 - k) = 16 ^ (16 - (k + 1)) * 16 := by rw [← Nat.pow_succ]; congr 1; omega
      have hq' : 2 ^ q = 16 ^ (16 - (k + 1)) := by rw [show (16 : Nat) = 2 ^ 4 from rfl, ← Nat.pow_mul]; congr 1; omega
      rw [hq', hp, ← Nat.div_div_eq_div_mul]
      rfl
    simp only [c1, cond_true, e1, c2, e2, c3, chk_t, e3, e4]
    rw [hrec ((v : Int), hexN (v / 16 ^ (16 - (k + 1))) (k + 1), 60 - 4 * ((k + 1 : Nat) : Int)) ⟨rfl, k + 1, by omega, rfl, rfl⟩ (by simp; omega)]
    rfl
  · obtain rfl : k = 16 := by omega
    have c1 : decide ((0 : Int) ≤ 60 - 4 * ((16 : Nat) : Int)) = false := by decide
    simp only [c1, cond_false, F10, Int.toNat_natCast]
    simp

def F11 (x : Int × Int × List UInt8 × Int) : V × List AObj := (.str (hexN x.1.toNat (16 - x.2.2.2.toNat) ++ x.2.2.1), [])

theorem hexN_snoc : ∀ (n v : Nat), hexN v (n + 1) = hexN (v / 16) n ++ [hexD (v % 16)] := fun _ _ => rfl

theorem sh11_eq (N : Nat) (p : Int) (hp : 0 ≤ p ∧ p ≤ 18446744073709551615) (hN : 17 < N) : sh11 N p 16 = some (.str (hexN p.toNat 16), []) := by
  obtain ⟨v, rfl⟩ : ∃ v : Nat, p = v := ⟨p.toNat, by omega⟩
  have hv : v < 2 ^ 64 := by omega
  show iterL N (B11_0 N) ((v : Int), 16, [], 0) = _
  have := iterL_spec (B := B11_0 N) (fun x => (∃ a : Nat, x.1 = (a : Int) ∧ a < 2 ^ 64) ∧ x.2.1 = 16 ∧ ∃ k : Nat, k ≤ 16 ∧ x.2.2.2 = (k : Int) ∧ x.2.2.1.length = k) (fun x => 16 - x.2.2.2.toNat) F11 ?_ N ((v : Int), 16, [], 0) ⟨⟨v, rfl, hv⟩, rfl, 0, by omega, rfl, rfl⟩ (by simp; omega)
  · rw [this]
    simp [F11]
  rintro rec ⟨v0, v1, v5, v6⟩ ⟨⟨a, k0, ha⟩, k1, k, hk, k6, k5⟩ hrec
  simp only at k0 k1 k6 k5 hrec ⊢
  subst k0 k1 k6
  simp only [B11_0]
  have c0 : (!((16 : Int) == 0)) = true := rfl
  by_cases hlt : k < 16
  · have c1 : decide ((k : Int) < 16) = true := by simp; omega
    have e1 : Int.tmod (a : Int) 16 = ((a % 16 : Nat) : Int) := tmod_nat a 16
    have hd : a % 16 < 16 := Nat.mod_lt _ (by omega)
    have e2 : IntKind.wrap .u64 (((a % 16 : Nat) : Int) + 1) = ((a % 16 + 1 : Nat) : Int) := by rw [wrap_u64_of _ (by omega)]; rfl
    have e3 : List.drop (Int.toNat ((a % 16 : Nat) : Int)) (List.take (Int.toNat ((a % 16 + 1 : Nat) : Int)) [48, 49, 50, 51, 52, 53, 54, 55, 56, 57, 97, 98, 99, 100, 101, (102 : UInt8)]) = [hexD (a % 16)] := by
      have : ∀ d : Fin 16, List.drop d.val (List.take (d.val + 1) [48, 49, 50, 51, 52, 53, 54, 55, 56, 57, 97, 98, 99, 100, 101, (102 : UInt8)]) = [hexD d.val] := by decide
      rw [Int.toNat_natCast, Int.toNat_natCast]
      exact this ⟨a % 16, hd⟩
    have c2 : (decide ((0 : Int) ≤ ((a % 16 + 1 : Nat) : Int)) && decide (((a % 16 + 1 : Nat) : Int) ≤ ((List.length [48, 49, 50, 51, 52, 53, 54, 55, 56, 57, 97, 98, 99, 100, 101, (102 : UInt8)] : Nat) : Int)) &&
        (decide ((0 : Int) ≤ ((a % 16 : Nat) : Int)) && decide (((a % 16 : Nat) : Int) ≤ ((a % 16 + 1 : Nat) : Int)))) = true := by simp; omega
    have c3 : decide (List.length [hexD (a % 16)] + v5.length ≤ maxI) = true := by simp [k5, maxI]; omega
    have e4 : Int.tdiv (a : Int) 16 = ((a / 16 : Nat) : Int) := tdiv_nat a 16
    have e5 : IntKind.wrap .u64 ((a / 16 : Nat) : Int) = ((a / 16 : Nat) : Int) := wrap_nat_lt .u64 rfl _ (by show _ < 2 ^ 64; omega)
    have e6 : IntKind.wrap .i64 ((k : Int) + 1) = ((k + 1 : Nat) : Int) := by rw [wrap_i64_of _ (by omega)]; rfl
    simp only [c1, cond_true, c0, e1, e2, e3, c2, c3, chk_t, e4, e5, e6]
    rw [hrec (((a / 16 : Nat) : Int), 16, [hexD (a % 16)] ++ v5, ((k + 1 : Nat) : Int)) ⟨⟨a / 16, rfl, by omega⟩, rfl, k + 1, by omega, rfl, by simp [k5]⟩ (by simp; omega)]
    simp only [F11, Int.toNat_natCast]
    rw [show 16 - k = (16 - (k + 1)) + 1 by omega, hexN_snoc]
    simp
    rfl
  · obtain rfl : k = 16 := by omega
    have c1 : decide (((16 : Nat) : Int) < 16) = false := by decide
    simp only [c1, cond_false, F11, Int.toNat_natCast]
    rfl

theorem pure8 (s : List UInt8) : PureOK Try.prog 8 [.str s] (.int .u64 (fpOf s : Int)) :=
  PureOK.fits fun h => ok8 spec8 (s.length + 10) s (sh8_eq _ s (h _ (List.mem_singleton.2 rfl)) (by omega))

theorem pure9 (s : List UInt8) : PureOK Try.prog 9 [.str s] (.int .u64 (fpOf s : Int)) :=
  PureOK.fits fun h => ok9 spec9 (s.length + 10) s (sh9_eq _ s (h _ (List.mem_singleton.2 rfl)) (by omega))

theorem u64_fits {n : Int} (h : (V.int .u64 n).fits) : 0 ≤ n ∧ n ≤ 18446744073709551615 := by
  simpa [V.fits, IntKind.min, IntKind.max, IntKind.signed, IntKind.bits] using h

theorem pure10 (p : Int) : PureOK Try.prog 10 [.int .u64 p] (.str (hexN p.toNat 16)) :=
  PureOK.fits fun h => ok10 spec10 18 p (sh10_eq 18 p (u64_fits (h _ (List.mem_singleton.2 rfl))) (by omega))

theorem pure11 (p q : Int) (hq : decide (q = 16) = true) : PureOK Try.prog 11 [.int .u64 p, .int .i64 q] (.str (hexN p.toNat q.toNat)) := by
  obtain rfl : q = 16 := by simpa using hq
  exact PureOK.fits fun h => ok11 spec11 18 p 16 (sh11_eq 18 p (u64_fits (h _ (List.mem_cons_self ..))) (by omega))

theorem pure7 : PureOK Try.prog 7 [] (.bool true) := ok7 (spec7 pure8 pure10) 0 (hp := []) (by kernel_rfl)

theorem law3 (s : List UInt8) (v : Int) : PureOK Try.prog 3 [.str s, .int .u64 v] (.bool true) := by
  refine ok3 (spec3 pure7 pure8 pure9 pure10 pure11) 0 s v (hp := []) ?_
  simp only [sh3, sa3]
  cases h : decide (100 < (s.length : Int)) <;> simp [h, chk]

/-- a digit read back -/
theorem hexD_back (d : Nat) (h : d < 16) : (d < 10 ∧ (hexD d).toNat = 48 + d) ∨ (10 ≤ d ∧ (hexD d).toNat = 87 + d) := by
  have : ∀ d : Fin 16, (d.val < 10 ∧ (hexD d.val).toNat = 48 + d.val) ∨ (10 ≤ d.val ∧ (hexD d.val).toNat = 87 + d.val) := by decide
  exact this ⟨d, h⟩

theorem hexN_get : ∀ (n v i : Nat), i < n → (hexN v n).getD i 0 = hexD (v / 16 ^ (n - 1 - i) % 16)
  | 0, v, i, h => by omega
  | n + 1, v, i, h => by
    simp only [hexN, List.getD]
    rcases Nat.lt_or_ge i n with hi | hi
    · rw [List.getElem?_append_left (by rw [hexN_length]; exact hi)]
      have ih := hexN_get n (v / 16) i hi
      simp only [List.getD] at ih
      rw [ih, Nat.div_div_eq_div_mul]
      congr 3
      rw [show n + 1 - 1 - i = (n - 1 - i) + 1 by omega, Nat.pow_succ, Nat.mul_comm]
    · obtain rfl : i = n := by omega
      rw [List.getElem?_append_right (by rw [hexN_length]; omega), hexN_length]
      simp

theorem or_digit (x d : Nat) (hd : d < 16) : x * 16 ||| d = x * 16 + d := by
  have := Nat.shiftLeft_add_eq_or_of_lt (b := d) (i := 4) (by omega) x
  rw [Nat.shiftLeft_eq] at this
  exact this.symm

/-- the digits of a number that stand ahead, as a number -/
def topD (v k : Nat) : Nat := v / 16 ^ (16 - k)

def digD (v k : Nat) : Nat := v / 16 ^ (15 - k) % 16

theorem topD_next (v k : Nat) (h : k < 16) : topD v k * 16 + digD v k = topD v (k + 1) := by
  unfold topD digD
  have hp : 16 ^ (16 - k) = 16 ^ (15 - k) * 16 := by rw [← Nat.pow_succ]; congr 1; omega
  rw [hp, ← Nat.div_div_eq_div_mul, show 16 - (k + 1) = 15 - k by omega]
  omega

theorem topD_lt (v k : Nat) (hv : v < 2 ^ 64) (h : k < 16) : topD v k < 2 ^ 60 := by
  unfold topD
  have : 16 ^ 1 ≤ 16 ^ (16 - k) := Nat.pow_le_pow_right (by omega) (by omega)
  exact Nat.div_lt_of_lt_mul (Nat.lt_of_lt_of_le (show v < 16 ^ 1 * 2 ^ 60 by omega) (Nat.mul_le_mul_right _ this))

theorem topD_zero (v : Nat) (hv : v < 2 ^ 64) : topD v 0 = 0 := Nat.div_eq_of_lt hv

theorem topD_all (v : Nat) : topD v 16 = v := by unfold topD; simp

/-- a number's digits, read one by one -/
def digits (v k : Nat) : UInt8 := hexD (digD v k)

theorem step6 (v k : Nat) (hv : v < 2 ^ 64) (h : k < 16) (y : Int) (hy : y = (digD v k : Int)) : bitsI .or .u64 (shlI .u64 (topD v k : Int) 4) (IntKind.wrap .u64 y) = (topD v (k + 1) : Int) := by
  subst hy
  have hx := topD_lt v k hv h
  have hd : digD v k < 16 := Nat.mod_lt _ (by omega)
  have hshl := shlI_nat .u64 rfl (topD v k) 4 (by decide)
  rw [show ((4 : Nat) : Int) = 4 from rfl] at hshl
  rw [hshl, Nat.mod_eq_of_lt (show topD v k * 2 ^ 4 < 2 ^ IntKind.u64.bits by show topD v k * 2 ^ 4 < 2 ^ 64; omega), wrap_nat_lt .u64 rfl _ (by show digD v k < 2 ^ 64; omega),
    bits_or .u64 rfl _ _ (by show topD v k * 2 ^ 4 < 2 ^ 64; omega) (by show digD v k < 2 ^ 64; omega), show topD v k * 2 ^ 4 = topD v k * 16 from rfl, or_digit _ _ hd, topD_next v k h]

def F6 (x : Int × List UInt8 × Int × Int) : V × List AObj := (.bool true, [])

theorem law6_run (N : Nat) (p : Int) (hp : 0 ≤ p ∧ p ≤ 18446744073709551615) (hN : 17 < N) : sh6 N p = some (.bool true, []) := by
  obtain ⟨v, rfl⟩ : ∃ v : Nat, p = v := ⟨p.toNat, by omega⟩
  have hv : v < 2 ^ 64 := by omega
  have hl : (hexN v 16).length = 16 := hexN_length 16 v
  have hget : ∀ k, k < 16 → (hexN v 16).getD k 0 = hexD (digD v k) := fun k hk => by
    have := hexN_get 16 v k hk
    rwa [show 16 - 1 - k = 15 - k by omega] at this
  generalize hL : hexN v 16 = L at hl hget
  simp only [sh6, sa6, Int.toNat_natCast, hL, hl]
  have c0 : (!(((16 : Nat) : Int) == 16)) = false := rfl
  simp only [c0, cond_false]
  refine iterL_spec (fun x => x.1 = (v : Int) ∧ x.2.1 = L ∧ ∃ k : Nat, k ≤ 16 ∧ x.2.2.2 = (k : Int) ∧ x.2.2.1 = (topD v k : Int)) (fun x => 16 - x.2.2.2.toNat) F6 ?_ N _ ⟨rfl, rfl, 0, by omega, rfl, by rw [topD_zero v hv]; rfl⟩ (by simp; omega)
  rintro rec ⟨v0, v3, v4, v5⟩ ⟨k0, k3, k, hk, k5, k4⟩ hrec
  simp only at k0 k3 k5 k4 hrec ⊢
  subst k0 k3 k5 k4
  simp only [B6_0]
  by_cases hlt : k < 16
  · have c1 : decide ((k : Int) < 16) = true := by simp; omega
    have c2 : (decide ((0 : Int) ≤ (k : Int)) && decide ((k : Int) < (v3.length : Int))) = true := by simp [hl]; omega
    have hd : digD v k < 16 := Nat.mod_lt _ (by omega)
    have e1 : IntKind.wrap .i64 ((k : Int) + 1) = ((k + 1 : Nat) : Int) := by rw [wrap_i64_of _ (by omega)]; rfl
    have hor := step6 v k hv hlt
    have hfin := hrec ((v : Int), v3, (topD v (k + 1) : Int), ((k + 1 : Nat) : Int)) ⟨rfl, rfl, k + 1, by omega, rfl, rfl⟩ (by simp; omega)
    simp only [c1, cond_true, c2, chk_t, Int.toNat_natCast, hget k hlt, e1]
    generalize digD v k = dd at *
    rcases hexD_back dd hd with ⟨q1, q2⟩ | ⟨q1, q2⟩
    · rw [q2]
      have c3 : decide ((48 : Int) ≤ ((48 + dd : Nat) : Int)) = true := by simp; omega
      have c4 : decide (((48 + dd : Nat) : Int) ≤ 57) = true := by simp; omega
      have c5 : decide ((0 : Int) ≤ 4) = true := rfl
      have e2 : IntKind.wrap .u8 (((48 + dd : Nat) : Int) - 48) = (dd : Int) := by rw [wrap_u8_of _ (by omega)]; omega
      simp only [c3, c4, c5, cond_true, chk_t, hor _ e2]
      exact hfin
    · rw [q2]
      have c3 : decide ((48 : Int) ≤ ((87 + dd : Nat) : Int)) = true := by simp; omega
      have c4 : decide (((87 + dd : Nat) : Int) ≤ 57) = false := by simp; omega
      have c5 : decide ((0 : Int) ≤ 4) = true := rfl
      have c6 : decide ((97 : Int) ≤ ((87 + dd : Nat) : Int)) = true := by simp; omega
      have c7 : decide (((87 + dd : Nat) : Int) ≤ 102) = true := by simp; omega
      have e2 : IntKind.wrap .u8 (IntKind.wrap .u8 (((87 + dd : Nat) : Int) - 97) + 10) = (dd : Int) := by
        rw [wrap_u8_of (((87 + dd : Nat) : Int) - 97) (by omega), wrap_u8_of _ (by omega)]; omega
      simp only [c3, c4, c5, c6, c7, cond_true, cond_false, chk_t, hor _ e2]
      exact hfin
  · obtain rfl : k = 16 := by omega
    have c1 : decide (((16 : Nat) : Int) < 16) = false := by decide
    simp only [c1, cond_false, F6, topD_all]
    simp

theorem law6 (v : Int) : PureOK Try.prog 6 [.int .u64 v] (.bool true) :=
  PureOK.fits fun h => ok6 (spec6 pure7 pure10) 18 v (law6_run 18 v (u64_fits (h _ (List.mem_singleton.2 rfl))) (by omega))
end Go.Proofs.Ytnhdkcgekjildaa
