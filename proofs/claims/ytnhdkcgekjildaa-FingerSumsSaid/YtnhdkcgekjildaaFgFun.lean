/-
  What the fingerprints' functions give.
-/
import Derived.Test.YtnhdkcgekjildaaFgCode2
import Derived.Test.YtnhdkcgekjildaaAmTac
namespace Go.Proofs.Ytnhdkcgekjildaa
open Go.AM
set_option autoImplicit false
set_option linter.unusedVariables false
set_option linter.unusedSimpArgs false
theorem fpBit_lt (v : Nat) (h : v < 2 ^ 64) : fpBit v < 2 ^ 64 := by
  unfold fpBit
  split
  · exact Nat.xor_lt_two_pow (by omega) (by decide)
  · omega

theorem fpBits_lt : ∀ (n v : Nat), v < 2 ^ 64 → fpBits n v < 2 ^ 64
  | 0, v, h => h
  | n + 1, v, h => fpBits_lt n _ (fpBit_lt v h)

theorem fpByte_lt (v : Nat) (c : UInt8) (h : v < 2 ^ 64) : fpByte v c < 2 ^ 64 :=
  fpBits_lt 8 _ (Nat.xor_lt_two_pow h (by have := c.toNat_lt; omega))

theorem foldl_fp_lt : ∀ (l : List UInt8) (v : Nat), v < 2 ^ 64 → l.foldl fpByte v < 2 ^ 64
  | [], v, h => h
  | c :: l, v, h => foldl_fp_lt l _ (fpByte_lt v c h)

/-- a bit's step, as the program has it -/
theorem bit_step (a : Nat) (h : a < 2 ^ 64) : bitsI .xor .u64 (shrI .u64 (a : Int) 1) (bitsI .and .u64 13933329357911598997 (IntKind.wrap .u64 (0 - (bitsI .and .u64 (a : Int) 1)))) = (fpBit a : Int) := by
  have e1 : bitsI .and .u64 (a : Int) 1 = ((a % 2 : Nat) : Int) := by
    have := bits_and .u64 rfl a 1 h (by decide)
    rw [Nat.and_one_is_mod] at this
    exact this
  have e2 : shrI .u64 (a : Int) 1 = ((a / 2 : Nat) : Int) := by
    have := shrI_nat .u64 a 1 (by decide)
    simpa using this
  have hh : a / 2 < 2 ^ IntKind.u64.bits := by show a / 2 < 2 ^ 64; omega
  rw [e1, e2]
  unfold fpBit
  rcases Nat.mod_two_eq_zero_or_one a with h0 | h0
  · rw [h0, if_neg (by decide)]
    have e3 : IntKind.wrap .u64 (0 - ((0 : Nat) : Int)) = ((0 : Nat) : Int) := by decide
    have e4 := bits_and .u64 rfl 13933329357911598997 0 (by decide) (by decide)
    have e5 := bits_xor .u64 rfl (a / 2) 0 hh (by decide)
    rw [e3, show (13933329357911598997 : Int) = ((13933329357911598997 : Nat) : Int) from rfl, e4, Nat.and_zero, e5, Nat.xor_zero]
  · rw [h0, if_pos rfl]
    have e3 : IntKind.wrap .u64 (0 - ((1 : Nat) : Int)) = ((18446744073709551615 : Nat) : Int) := by decide
    have e4 := bits_and .u64 rfl 13933329357911598997 18446744073709551615 (by decide) (by decide)
    have e5 := bits_xor .u64 rfl (a / 2) 13933329357911598997 hh (by decide)
    rw [e3, show (13933329357911598997 : Int) = ((13933329357911598997 : Nat) : Int) from rfl, e4, show 13933329357911598997 &&& 18446744073709551615 = 13933329357911598997 by decide, e5]
    rfl

def F8a (x : List UInt8 × Int × Int × Int) : V × List AObj := (.int .u64 ((((x.1.drop x.2.2.2.toNat).foldl fpByte x.2.1.toNat : Nat)) : Int), [])
def F8b (x : List UInt8 × Int × Int × Int × Int) : V × List AObj := F8a (x.1, (fpBits (8 - x.2.2.2.2.toNat) x.2.1.toNat : Int), x.2.2.1, x.2.2.2.1 + 1)

theorem drop_step (s : List UInt8) (i : Nat) (h : i < s.length) (v : Nat) : (s.drop i).foldl fpByte v = (s.drop (i + 1)).foldl fpByte (fpByte v (s.getD i 0)) := by
  rw [List.drop_eq_getElem_cons h, List.foldl_cons]
  simp [List.getD, h]

theorem sh_finger_Of_eq (N : Nat) (s : List UInt8) (hs : s.length ≤ maxI) (hN : s.length + 9 < N) : sh_finger_Of N s = some (.int .u64 (fpOf s : Int), []) := by
  have hm : (s.length : Int) ≤ 9223372036854775807 := by unfold maxI at hs; omega
  show iterL N (B_finger_Of_0 N) (s, 13933329357911598997, (s.length : Int), 0) = _
  refine iterL_spec (fun x => x.1 = s ∧ x.2.2.1 = (s.length : Int) ∧ (∃ a : Nat, x.2.1 = (a : Int) ∧ a < 2 ^ 64) ∧ ∃ i : Nat, x.2.2.2 = (i : Int) ∧ i ≤ s.length) (fun x => s.length - x.2.2.2.toNat) F8a ?_ N _ ⟨rfl, rfl, ⟨_, rfl, by decide⟩, 0, rfl, by omega⟩ (by simp; omega)
  rintro rec ⟨v0, v3, v7, v8⟩ ⟨k0, k7, ⟨a, k3, ha⟩, i, k8, hi⟩ hrec
  simp only at k0 k7 k3 k8 hrec ⊢
  subst k0 k7 k3 k8
  simp only [B_finger_Of_0, BA_finger_Of_0]
  by_cases hlt : i < v0.length
  · have c1 : decide ((i : Int) < (v0.length : Int)) = true := by simpa using hlt
    have c2 : (decide ((0 : Int) ≤ (i : Int)) && decide ((i : Int) < (v0.length : Int))) = true := by simp [hlt]
    have hx : bitsI .xor .u64 (a : Int) (IntKind.wrap .u64 ((v0.getD i 0).toNat : Int)) = ((a ^^^ (v0.getD i 0).toNat : Nat) : Int) := by
      have hb := (v0.getD i 0).toNat_lt
      rw [wrap_nat_lt .u64 rfl _ (by show _ < 2 ^ 64; omega), bits_xor .u64 rfl _ _ ha (by show _ < 2 ^ 64; omega)]
    simp only [c1, cond_true, chk_true c2, Int.toNat_natCast, hx]
    have hb := (v0.getD i 0).toNat_lt
    have goal : iterL N (B_finger_Of_1 N rec) (v0, ((a ^^^ (v0.getD i 0).toNat : Nat) : Int), (v0.length : Int), (i : Int), 0) = some (F8b (v0, ((a ^^^ (v0.getD i 0).toNat : Nat) : Int), (v0.length : Int), (i : Int), 0)) := by
      refine iterL_spec (fun x => x.1 = v0 ∧ x.2.2.1 = (v0.length : Int) ∧ x.2.2.2.1 = (i : Int) ∧ (∃ a : Nat, x.2.1 = (a : Int) ∧ a < 2 ^ 64) ∧ ∃ j : Nat, x.2.2.2.2 = (j : Int) ∧ j ≤ 8) (fun x => 8 - x.2.2.2.2.toNat) F8b ?_ N _
        ⟨rfl, rfl, rfl, ⟨_, rfl, Nat.xor_lt_two_pow ha (by omega)⟩, 0, rfl, by omega⟩ (by simp; omega)
      rintro rec1 ⟨u0, u3, u7, u8, u17⟩ ⟨k0, k7, k8, ⟨b, k3, hbb⟩, j, k17, hj⟩ hrec1
      simp only at k0 k7 k8 k3 k17 hrec1 ⊢
      subst k0 k7 k8 k3 k17
      simp only [B_finger_Of_1]
      by_cases hj8 : j < 8
      · have c3 : decide ((j : Int) < 8) = true := by simp; omega
        have c4 : IntKind.wrap .i64 ((j : Int) + 1) = ((j + 1 : Nat) : Int) := by rw [wrap_i64_of _ (by omega)]; rfl
        simp only [c3, cond_true, chk_true (show decide ((0 : Int) ≤ 1) = true from rfl), bit_step b hbb, c4]
        rw [hrec1 (u0, (fpBit b : Int), (u0.length : Int), (i : Int), ((j + 1 : Nat) : Int)) ⟨rfl, rfl, rfl, ⟨_, rfl, fpBit_lt b hbb⟩, j + 1, rfl, by omega⟩ (by simp; omega)]
        simp only [F8b, Int.toNat_natCast]
        rw [show 8 - j = (8 - (j + 1)) + 1 by omega]
        rfl
      · have c3 : decide ((j : Int) < 8) = false := by simp; omega
        obtain rfl : j = 8 := by omega
        have c4 : IntKind.wrap .i64 ((i : Int) + 1) = ((i + 1 : Nat) : Int) := by rw [wrap_i64_of _ (by omega)]; rfl
        simp only [c3, cond_false, c4]
        rw [hrec (u0, (b : Int), (u0.length : Int), ((i + 1 : Nat) : Int)) ⟨rfl, rfl, ⟨b, rfl, hbb⟩, i + 1, rfl, by omega⟩ (by simp; omega)]
        rfl
    rw [goal]
    simp only [F8b, F8a, Int.toNat_natCast]
    rw [drop_step _ _ hlt]
    rfl
  · have c1 : decide ((i : Int) < (v0.length : Int)) = false := by simpa using hlt
    simp only [c1, cond_false, F8a, Int.toNat_natCast]
    rw [List.drop_eq_nil_of_le (by omega)]
    rfl

theorem hexN_length : ∀ (n v : Nat), (hexN v n).length = n
  | 0, v => rfl
  | n + 1, v => by simp [hexN, hexN_length n]

/-- the sign of a digit -/
theorem hex_sign (d : Nat) (h : d < 16) : List.getD [48, 49, 50, 51, 52, 53, 54, 55, 56, 57, 97, 98, 99, 100, 101, 102] d (0 : UInt8) = hexD d := by
  have : ∀ d : Fin 16, List.getD [48, 49, 50, 51, 52, 53, 54, 55, 56, 57, 97, 98, 99, 100, 101, 102] d.val (0 : UInt8) = hexD d.val := by decide
  exact this ⟨d, h⟩

def F10 (x : Int × List (Ty .u8) × Int) : V × List AObj := (.str (hexN x.1.toNat 16), [])

theorem sh_finger_Text_eq (N : Nat) (p : Int) (hp : 0 ≤ p ∧ p ≤ 18446744073709551615) (hN : 17 < N) : sh_finger_Text N p = some (.str (hexN p.toNat 16), []) := by
  obtain ⟨v, rfl⟩ : ∃ v : Nat, p = v := ⟨p.toNat, by omega⟩
  have hv : v < 2 ^ 64 := by omega
  show iterL N (B_finger_Text_0 N) ((v : Int), [], 60) = _
  refine iterL_spec (fun x => x.1 = (v : Int) ∧ ∃ k : Nat, k ≤ 16 ∧ x.2.2 = 60 - 4 * (k : Int) ∧ x.2.1 = hexN (v / 16 ^ (16 - k)) k) (fun x => ((x.2.2 + 4) / 4).toNat) F10 ?_ N _ ⟨rfl, 0, by omega, by simp, rfl⟩ (by simp; omega)
  rintro rec ⟨v0, v3, v4⟩ ⟨k0, k, hk, k4, k3⟩ hrec
  simp only at k0 k4 k3 hrec ⊢
  subst k0 k4 k3
  simp only [B_finger_Text_0]
  by_cases hlt : k < 16
  · have c1 : decide ((0 : Int) ≤ 60 - 4 * (k : Int)) = true := by simp; omega
    obtain ⟨q, hq⟩ : ∃ q : Nat, q = 60 - 4 * k := ⟨_, rfl⟩
    have e0 : (60 - 4 * (k : Int)) = (q : Int) := by omega
    have e1 : bitsI .and .u64 (shrI .u64 (v : Int) (60 - 4 * (k : Int))) 15 = ((v / 2 ^ q % 16 : Nat) : Int) := by
      rw [e0, shrI_nat .u64 v q (by show q ≤ 64; omega)]
      have hd : v / 2 ^ q < 2 ^ 64 := Nat.lt_of_le_of_lt (Nat.div_le_self _ _) hv
      have := bits_and .u64 rfl (v / 2 ^ q) 15 hd (by decide)
      rw [show (15 : Nat) = 2 ^ 4 - 1 from rfl, Nat.and_two_pow_sub_one_eq_mod] at this
      exact this
    have hd : v / 2 ^ q % 16 < 16 := Nat.mod_lt _ (by omega)
    have c2 : (decide ((0 : Int) ≤ ((v / 2 ^ q % 16 : Nat) : Int)) && decide (((v / 2 ^ q % 16 : Nat) : Int) < ((List.length [48, 49, 50, 51, 52, 53, 54, 55, 56, 57, 97, 98, 99, 100, 101, (102 : UInt8)] : Nat) : Int))) = true := by simp; omega
    have c3 : decide (((hexN (v / 16 ^ (16 - k)) k).length + List.length [hexD (v / 2 ^ q % 16)]) * 1 ≤ 140737488355328) = true := by
      simp [hexN_length, EK.bytes, reach]; omega
    have e2 : UInt8.ofNat (Int.toNat ((UInt8.toNat (List.getD [48, 49, 50, 51, 52, 53, 54, 55, 56, 57, 97, 98, 99, 100, 101, (102 : UInt8)] (Int.toNat ((v / 2 ^ q % 16 : Nat) : Int)) 0) : Nat) : Int)) = hexD (v / 2 ^ q % 16) := by
      rw [Int.toNat_natCast, Int.toNat_natCast, hex_sign _ hd]; simp
    have e3 : IntKind.wrap .i64 (60 - 4 * (k : Int) - 4) = 60 - 4 * ((k + 1 : Nat) : Int) := by rw [wrap_i64_of _ (by omega)]; omega
    have e4 : hexN (v / 16 ^ (16 - k)) k ++ [hexD (v / 2 ^ q % 16)] = hexN (v / 16 ^ (16 - (k + 1))) (k + 1) := by
      have hp : 16 ^ (16 - k) = 16 ^ (16 - (k + 1)) * 16 := by rw [← Nat.pow_succ]; congr 1; omega
      have hq' : 2 ^ q = 16 ^ (16 - (k + 1)) := by rw [show (16 : Nat) = 2 ^ 4 from rfl, ← Nat.pow_mul]; congr 1; omega
      rw [hq', hp, ← Nat.div_div_eq_div_mul]
      rfl
    simp only [c1, cond_true, e1, c2, e2, c3, chk_t, e3, e4]
    rw [hrec ((v : Int), hexN (v / 16 ^ (16 - (k + 1))) (k + 1), 60 - 4 * ((k + 1 : Nat) : Int)) ⟨rfl, k + 1, by omega, rfl, rfl⟩ (by simp; omega)]
    rfl
  · obtain rfl : k = 16 := by omega
    have c1 : decide ((0 : Int) ≤ 60 - 4 * ((16 : Nat) : Int)) = false := by decide
    simp only [c1, cond_false, F10, Int.toNat_natCast]
    simp

theorem pure_finger_Of (s : List UInt8) : PureOK Try.prog i_finger_Of [.str s] (.int .u64 (fpOf s : Int)) :=
  PureOK.fits fun h => ok_finger_Of spec_finger_Of (s.length + 10) s (sh_finger_Of_eq _ s (h _ (List.mem_singleton.2 rfl)) (by omega))

theorem u64_fits {n : Int} (h : (V.int .u64 n).fits) : 0 ≤ n ∧ n ≤ 18446744073709551615 := by
  simpa [V.fits, IntKind.min, IntKind.max, IntKind.signed, IntKind.bits] using h

theorem pure_finger_Text (p : Int) : PureOK Try.prog i_finger_Text [.int .u64 p] (.str (hexN p.toNat 16)) :=
  PureOK.fits fun h => ok_finger_Text spec_finger_Text 18 p (sh_finger_Text_eq 18 p (u64_fits (h _ (List.mem_singleton.2 rfl))) (by omega))

theorem pure_law5_begun : PureOK Try.prog i_law5_begun [] (.bool true) := ok_law5_begun (spec_law5_begun pure_finger_Of pure_finger_Text) 0 (hp := []) (by kernel_rfl)

end Go.Proofs.Ytnhdkcgekjildaa
