/-
  The numbers that come in, what the code makes of them, and what is so of that.
-/
import Derived.Test.YtehknfijojlddaaGreatDmOpsA
namespace Go.DM
set_option autoImplicit false
set_option linter.unusedVariables false
set_option linter.unusedSimpArgs false
set_option linter.unusedSectionVars false

theorem wu64 (n : Int) : IntKind.u64.wrap n = n % 18446744073709551616 := by simp [IntKind.wrap, IntKind.bits, IntKind.signed]
theorem wu32 (n : Int) : IntKind.u32.wrap n = n % 4294967296 := by simp [IntKind.wrap, IntKind.bits, IntKind.signed]
theorem wi64 (n : Int) : IntKind.i64.wrap n = (n + 9223372036854775808) % 18446744073709551616 - 9223372036854775808 := by
  simp [IntKind.wrap, IntKind.bits, IntKind.signed]; omega
theorem wi32 (n : Int) : IntKind.i32.wrap n = (n + 2147483648) % 4294967296 - 2147483648 := by
  simp [IntKind.wrap, IntKind.bits, IntKind.signed]; omega
theorem fd (a : Int) (n : Nat) : a.fdiv (2 ^ n) = a / 2 ^ n := Int.fdiv_eq_ediv_of_nonneg _ (Int.le_of_lt (Int.pow_pos (by decide)))
theorem nat_of (w : Nat) (a : Int) : (((BitVec.ofInt w a).toNat : Nat) : Int) = a % 2 ^ w := by
  rw [BitVec.toNat_ofInt, Int.toNat_of_nonneg (Int.emod_nonneg _ (Int.ne_of_gt (Int.natCast_pos.2 (Nat.two_pow_pos w))))]
  simp
theorem x64_0 (a : Int) : bitsI .xor .i64 a 0 = (a + 9223372036854775808) % 18446744073709551616 - 9223372036854775808 := by
  have h : (BitVec.ofInt 64 a ^^^ BitVec.ofInt 64 0) = BitVec.ofInt 64 a := by rw [show BitVec.ofInt 64 0 = 0#64 from rfl, BitVec.xor_zero]
  show IntKind.i64.wrap ((BitVec.ofInt 64 a ^^^ BitVec.ofInt 64 0).toNat : Int) = _
  rw [h, nat_of, wi64]; omega
theorem x64_1 (a : Int) : bitsI .xor .i64 a (-1) = (-1 - a + 9223372036854775808) % 18446744073709551616 - 9223372036854775808 := by
  have h : (BitVec.ofInt 64 a ^^^ BitVec.ofInt 64 (-1)) = ~~~ BitVec.ofInt 64 a := by rw [show BitVec.ofInt 64 (-1) = BitVec.allOnes 64 from rfl, BitVec.xor_allOnes]
  show IntKind.i64.wrap ((BitVec.ofInt 64 a ^^^ BitVec.ofInt 64 (-1)).toNat : Int) = _
  rw [h, BitVec.toNat_not, wi64]
  have := nat_of 64 a
  have := (BitVec.ofInt 64 a).isLt
  omega
theorem xu64_0 (a : Int) : bitsI .xor .u64 a 0 = a % 18446744073709551616 := by
  have h : (BitVec.ofInt 64 a ^^^ BitVec.ofInt 64 0) = BitVec.ofInt 64 a := by rw [show BitVec.ofInt 64 0 = 0#64 from rfl, BitVec.xor_zero]
  show IntKind.u64.wrap ((BitVec.ofInt 64 a ^^^ BitVec.ofInt 64 0).toNat : Int) = _
  rw [h, nat_of, wu64]; omega
theorem xu64_1 (a : Int) : bitsI .xor .u64 a 18446744073709551615 = (-1 - a) % 18446744073709551616 := by
  have h : (BitVec.ofInt 64 a ^^^ BitVec.ofInt 64 18446744073709551615) = ~~~ BitVec.ofInt 64 a := by rw [show BitVec.ofInt 64 18446744073709551615 = BitVec.allOnes 64 from rfl, BitVec.xor_allOnes]
  show IntKind.u64.wrap ((BitVec.ofInt 64 a ^^^ BitVec.ofInt 64 18446744073709551615).toNat : Int) = _
  rw [h, BitVec.toNat_not, wu64]
  have := nat_of 64 a
  have := (BitVec.ofInt 64 a).isLt
  omega
theorem xu32_0 (a : Int) : bitsI .xor .u32 a 0 = a % 4294967296 := by
  have h : (BitVec.ofInt 32 a ^^^ BitVec.ofInt 32 0) = BitVec.ofInt 32 a := by rw [show BitVec.ofInt 32 0 = 0#32 from rfl, BitVec.xor_zero]
  show IntKind.u32.wrap ((BitVec.ofInt 32 a ^^^ BitVec.ofInt 32 0).toNat : Int) = _
  rw [h, nat_of, wu32]; omega
theorem xu32_1 (a : Int) : bitsI .xor .u32 a 4294967295 = (-1 - a) % 4294967296 := by
  have h : (BitVec.ofInt 32 a ^^^ BitVec.ofInt 32 4294967295) = ~~~ BitVec.ofInt 32 a := by rw [show BitVec.ofInt 32 4294967295 = BitVec.allOnes 32 from rfl, BitVec.xor_allOnes]
  show IntKind.u32.wrap ((BitVec.ofInt 32 a ^^^ BitVec.ofInt 32 4294967295).toNat : Int) = _
  rw [h, BitVec.toNat_not, wu32]
  have := nat_of 32 a
  have := (BitVec.ofInt 32 a).isLt
  omega
theorem xi32_0 (a : Int) : bitsI .xor .i32 a 0 = (a + 2147483648) % 4294967296 - 2147483648 := by
  have h : (BitVec.ofInt 32 a ^^^ BitVec.ofInt 32 0) = BitVec.ofInt 32 a := by rw [show BitVec.ofInt 32 0 = 0#32 from rfl, BitVec.xor_zero]
  show IntKind.i32.wrap ((BitVec.ofInt 32 a ^^^ BitVec.ofInt 32 0).toNat : Int) = _
  rw [h, nat_of, wi32]; omega
theorem xi32_1 (a : Int) : bitsI .xor .i32 a (-1) = (-1 - a + 2147483648) % 4294967296 - 2147483648 := by
  have h : (BitVec.ofInt 32 a ^^^ BitVec.ofInt 32 (-1)) = ~~~ BitVec.ofInt 32 a := by rw [show BitVec.ofInt 32 (-1) = BitVec.allOnes 32 from rfl, BitVec.xor_allOnes]
  show IntKind.i32.wrap ((BitVec.ofInt 32 a ^^^ BitVec.ofInt 32 (-1)).toNat : Int) = _
  rw [h, BitVec.toNat_not, wi32]
  have := nat_of 32 a
  have := (BitVec.ofInt 32 a).isLt
  omega
theorem and1 (a : Int) : bitsI .and .u32 a 1 = a % 2 := by
  have h : ((BitVec.ofInt 32 a &&& BitVec.ofInt 32 1)).toNat = (BitVec.ofInt 32 a).toNat % 2 := by rw [show BitVec.ofInt 32 1 = 1#32 from rfl, BitVec.toNat_and]; exact Nat.and_one_is_mod _
  show IntKind.u32.wrap ((BitVec.ofInt 32 a &&& BitVec.ofInt 32 1).toNat : Int) = _
  rw [h, wu32]
  have := nat_of 32 a
  omega

def v0 (a b : Int) : Int := a
def v1 (a b : Int) : Int := b
def v2 (a b : Int) : Int := IntKind.i64.wrap (v0 a b)
def v3 (a b : Int) : Int := IntKind.u64.wrap (v2 a b)
def v4 (a b : Int) : Int := IntKind.u64.wrap (v1 a b)
def v5 (a b : Int) : Int := IntKind.u32.wrap (v0 a b)
def v6 (a b : Int) : Int := IntKind.u64.wrap (v5 a b)
def v7 (a b : Int) : Int := IntKind.u32.wrap (v3 a b)
def v8 (a b : Int) : Int := IntKind.i32.wrap (v7 a b)
def v9 (a b : Int) : Int := IntKind.i64.wrap (v8 a b)
def v10 (a b : Int) : Int := IntKind.u64.wrap (v9 a b)
def v11 (a b : Int) : Int := shrI .u64 (v6 a b) ((32))
def v12 (a b : Int) : Int := IntKind.u32.wrap (v4 a b)
def v13 (a b : Int) : Int := IntKind.i32.wrap (v12 a b)
def v14 (a b : Int) : Int := IntKind.i64.wrap (v13 a b)
def v15 (a b : Int) : Int := IntKind.u64.wrap (v14 a b)
def v16 (a b : Int) : Int := IntKind.i64.wrap (v4 a b)
def v17 (a b : Int) : Int := shlI .i64 (v16 a b) ((1))
def v18 (a b : Int) : Int := shrI .i64 (v16 a b) ((63))
def v19 (a b : Int) : Int := bitsI .xor .i64 (v17 a b) (v18 a b)
def v20 (a b : Int) : Int := IntKind.u64.wrap (v19 a b)
def v21 (a b : Int) : Int := IntKind.u32.wrap (v20 a b)
def v22 (a b : Int) : Int := shrI .u32 (v21 a b) ((1))
def v23 (a b : Int) : Int := bitsI .and .u32 (v21 a b) ((1))
def v24 (a b : Int) : Int := IntKind.u32.wrap (0 - v23 a b)
def v25 (a b : Int) : Int := bitsI .xor .u32 (v22 a b) (v24 a b)
def v26 (a b : Int) : Int := IntKind.u64.wrap (v25 a b)
def v27 (a b : Int) : Int := IntKind.u32.wrap (v26 a b)
def v28 (a b : Int) : Int := IntKind.i32.wrap (v27 a b)
def v29 (a b : Int) : Int := IntKind.i64.wrap (v28 a b)
def v30 (a b : Int) : Int := IntKind.u64.wrap (v29 a b)
def v31 (a b : Int) : Int := IntKind.u32.wrap (v6 a b)
def v32 (a b : Int) : Int := IntKind.u64.wrap (v31 a b)
def v33 (a b : Int) : Int := IntKind.u32.wrap (v32 a b)
def v34 (a b : Int) : Int := IntKind.i32.wrap (v33 a b)
def v35 (a b : Int) : Int := IntKind.i64.wrap (v34 a b)
def v36 (a b : Int) : Int := IntKind.u64.wrap (v35 a b)
def v37 (a b : Int) : Int := shlI .u64 (v4 a b) ((1))
def v38 (a b : Int) : Int := shrI .i64 (v1 a b) ((63))
def v39 (a b : Int) : Int := IntKind.u64.wrap (v38 a b)
def v40 (a b : Int) : Int := bitsI .xor .u64 (v37 a b) (v39 a b)
def v41 (a b : Int) : Int := IntKind.u32.wrap (v40 a b)
def v42 (a b : Int) : Int := shrI .u32 (v41 a b) ((1))
def v43 (a b : Int) : Int := IntKind.i32.wrap (v42 a b)
def v44 (a b : Int) : Int := bitsI .and .u32 (v41 a b) ((1))
def v45 (a b : Int) : Int := IntKind.i32.wrap (v44 a b)
def v46 (a b : Int) : Int := IntKind.i32.wrap (0 - v45 a b)
def v47 (a b : Int) : Int := bitsI .xor .i32 (v43 a b) (v46 a b)
def v48 (a b : Int) : Int := IntKind.i32.wrap (v1 a b)
def v49 (a b : Int) : Int := IntKind.i64.wrap (v48 a b)
def v50 (a b : Int) : Int := IntKind.u64.wrap (v49 a b)
def v51 (a b : Int) : Int := IntKind.i64.wrap (v47 a b)
def v52 (a b : Int) : Int := IntKind.u64.wrap (v51 a b)
def sg (a b : Int) : Nat → Int
  | 0 => v0 a b
  | 1 => v1 a b
  | 2 => v2 a b
  | 3 => v3 a b
  | 4 => v4 a b
  | 5 => v5 a b
  | 6 => v6 a b
  | 7 => v7 a b
  | 8 => v8 a b
  | 9 => v9 a b
  | 10 => v10 a b
  | 11 => v11 a b
  | 12 => v12 a b
  | 13 => v13 a b
  | 14 => v14 a b
  | 15 => v15 a b
  | 16 => v16 a b
  | 17 => v17 a b
  | 18 => v18 a b
  | 19 => v19 a b
  | 20 => v20 a b
  | 21 => v21 a b
  | 22 => v22 a b
  | 23 => v23 a b
  | 24 => v24 a b
  | 25 => v25 a b
  | 26 => v26 a b
  | 27 => v27 a b
  | 28 => v28 a b
  | 29 => v29 a b
  | 30 => v30 a b
  | 31 => v31 a b
  | 32 => v32 a b
  | 33 => v33 a b
  | 34 => v34 a b
  | 35 => v35 a b
  | 36 => v36 a b
  | 37 => v37 a b
  | 38 => v38 a b
  | 39 => v39 a b
  | 40 => v40 a b
  | 41 => v41 a b
  | 42 => v42 a b
  | 43 => v43 a b
  | 44 => v44 a b
  | 45 => v45 a b
  | 46 => v46 a b
  | 47 => v47 a b
  | 48 => v48 a b
  | 49 => v49 a b
  | 50 => v50 a b
  | 51 => v51 a b
  | 52 => v52 a b
  | _ => 0

section
variable (a b : Int) (ha : -2147483648 ≤ a ∧ a ≤ 2147483647) (hb : -9223372036854775808 ≤ b ∧ b ≤ 9223372036854775807)
include ha
theorem e3 : v3 a b = a % 18446744073709551616 := by simp only [v3, v2, v0, wu64, wi64]; omega
theorem e6 : v6 a b = a % 4294967296 := by simp only [v6, v5, v0, wu64, wu32]; omega
theorem e10 : v10 a b = a % 18446744073709551616 := by
  have h := e3 a b ha
  simp only [v10, v9, v8, v7, h, wu64, wu32, wi32, wi64]; omega
theorem e11 : v11 a b = 0 := by
  have h := e6 a b ha
  have e : v11 a b = (v6 a b).fdiv (2 ^ 32) := rfl
  rw [e, fd, h]; omega
theorem e36 : v36 a b = a % 18446744073709551616 := by
  have h := e6 a b ha
  simp only [v36, v35, v34, v33, v32, v31, h, wu64, wu32, wi32, wi64]; omega
omit ha
include hb
theorem e4 : v4 a b = b % 18446744073709551616 := by simp only [v4, v1, wu64]
theorem e15 : v15 a b = v50 a b := by
  have h := e4 a b hb
  simp only [v15, v14, v13, v12, h, v50, v49, v48, v1, wu64, wu32, wi32, wi64]; omega
theorem e16 : v16 a b = b := by
  have h := e4 a b hb
  simp only [v16, h, wi64]; omega
/-- a number's two ways into one: its sign at the end -/
theorem e21 : v21 a b = (if b < 0 then (-1 - 2 * b) % 4294967296 else (2 * b) % 4294967296) := by
  have h := e16 a b hb
  have e17 : v17 a b = IntKind.i64.wrap (v16 a b * 2 ^ 1) := rfl
  have e18 : v18 a b = (v16 a b).fdiv (2 ^ 63) := rfl
  rw [h, wi64] at e17
  rw [h, fd] at e18
  by_cases hn : b < 0
  · rw [if_pos hn]
    have e : v18 a b = -1 := by rw [e18]; omega
    simp only [v21, v20, v19, e, x64_1, e17, wu64, wu32]; omega
  · rw [if_neg hn]
    have e : v18 a b = 0 := by rw [e18]; omega
    simp only [v21, v20, v19, e, x64_0, e17, wu64, wu32]; omega
theorem e41 : v41 a b = (if b < 0 then (-1 - 2 * b) % 4294967296 else (2 * b) % 4294967296) := by
  have h := e4 a b hb
  have e37 : v37 a b = IntKind.u64.wrap (v4 a b * 2 ^ 1) := rfl
  have e38 : v38 a b = b.fdiv (2 ^ 63) := rfl
  rw [h, wu64] at e37
  rw [fd] at e38
  by_cases hn : b < 0
  · rw [if_pos hn]
    have e : v39 a b = 18446744073709551615 := by simp only [v39, e38, wu64]; omega
    simp only [v41, v40, e, xu64_1, e37, wu32]; omega
  · rw [if_neg hn]
    have e : v39 a b = 0 := by simp only [v39, e38, wu64]; omega
    simp only [v41, v40, e, xu64_0, e37, wu32]; omega
theorem e30 : v30 a b = v52 a b := by
  have z1 := e21 a b hb
  have z2 := e41 a b hb
  have hz : v41 a b = v21 a b := z2.trans z1.symm
  have hr : 0 ≤ v21 a b ∧ v21 a b < 4294967296 := by rw [z1]; split <;> omega
  have e22 : v22 a b = v21 a b / 2 ^ 1 := fd (v21 a b) 1
  have e42 : v42 a b = v41 a b / 2 ^ 1 := fd (v41 a b) 1
  have e23 : v23 a b = v21 a b % 2 := and1 _
  have e44 : v44 a b = v41 a b % 2 := and1 _
  rw [hz] at e42 e44
  generalize v21 a b = z at e22 e42 e23 e44 hr
  rcases (by omega : z % 2 = 0 ∨ z % 2 = 1) with h0 | h1
  · have a1 : v24 a b = 0 := by simp only [v24, e23, wu32]; omega
    have a2 : v46 a b = 0 := by simp only [v46, v45, e44, wi32]; omega
    have a3 : v43 a b = z / 2 := by simp only [v43, e42, wi32]; omega
    simp only [v30, v29, v28, v27, v26, v25, a1, xu32_0, e22, v52, v51, v47, a2, xi32_0, a3, wu64, wu32, wi32, wi64]; omega
  · have a1 : v24 a b = 4294967295 := by simp only [v24, e23, wu32]; omega
    have a2 : v46 a b = -1 := by simp only [v46, v45, e44, wi32]; omega
    have a3 : v43 a b = z / 2 := by simp only [v43, e42, wi32]; omega
    simp only [v30, v29, v28, v27, v26, v25, a1, xu32_1, e22, v52, v51, v47, a2, xi32_1, a3, wu64, wu32, wi32, wi64]; omega
end
theorem eqf {a b : Int} (h : a ≠ b) : eqI a b = false := by rw [eqI_eq]; exact decide_eq_false h
theorem eqt {a b : Int} (h : a = b) : eqI a b = true := by rw [eqI_eq]; exact decide_eq_true h
theorem eqr {σ : Nat → Int} {k : IntKind} {x y : D} {p q : Int} {t : Bool} (h1 : conc σ x = .int k p) (h2 : conc σ y = .int k q) (h : eqI p q = t) : SRow.ok σ ⟨.b .eql, x, y, .bool t⟩ := by
  unfold SRow.ok
  rw [h1, h2]
  have : sameK k k = true := by cases k <;> rfl
  simp only [SOp.ev, binV, this, chk, cond_true, binInt, h, conc]
def allOK (σ : Nat → Int) : List SRow → Prop
  | [] => True
  | r :: l => r.ok σ ∧ allOK σ l
theorem allOK_mem {σ : Nat → Int} : ∀ {l : List SRow}, allOK σ l → ∀ r ∈ l, r.ok σ
  | [], _, r, h => by simp at h
  | q :: l, hl, r, h => by
    rcases List.mem_cons.1 h with rfl | h
    · exact hl.1
    · exact allOK_mem hl.2 r h
theorem rows_ok (a b : Int) (ha : -2147483648 ≤ a ∧ a ≤ 2147483647) (hb : -9223372036854775808 ≤ b ∧ b ≤ 9223372036854775807) (a0 : a ≠ 0) (b0 : b ≠ 0) : allOK (sg a b) rows := by
  have h0 : eqI (v0 a b) 0 = false := eqf a0
  have h1 : eqI (v1 a b) 0 = false := eqf b0
  have h2 : eqI (v3 a b) 0 = false := eqf (by rw [e3 a b ha]; omega)
  have h3 : eqI (v3 a b) (v10 a b) = true := eqt (by rw [e3 a b ha, e10 a b ha])
  have h4 : eqI (v4 a b) 0 = false := eqf (by rw [e4 a b hb]; omega)
  have h5 : eqI (v6 a b) 0 = false := eqf (by rw [e6 a b ha]; omega)
  have h6 : eqI (v11 a b) 0 = true := eqt (e11 a b ha)
  have h7 : eqI (v10 a b) 0 = false := eqf (by rw [e10 a b ha]; omega)
  have h8 : eqI (v36 a b) 0 = false := eqf (by rw [e36 a b ha]; omega)
  have h9 : eqI (v10 a b) (v3 a b) = true := eqt (by rw [e3 a b ha, e10 a b ha])
  have h10 : eqI (v15 a b) (v50 a b) = true := eqt (e15 a b hb)
  have h11 : eqI (v30 a b) (v52 a b) = true := eqt (e30 a b hb)
  have h12 : eqI (v36 a b) (v3 a b) = true := eqt (by rw [e3 a b ha, e36 a b ha])
  exact ⟨eqr rfl rfl h0, eqr rfl rfl h1, rfl, rfl, rfl, rfl, rfl, eqr rfl rfl h2, rfl, rfl, rfl, rfl, eqr rfl rfl h3, eqr rfl rfl h4, eqr rfl rfl h5, rfl, eqr rfl rfl h6, eqr rfl rfl h7, rfl, rfl, rfl, rfl, rfl, rfl, rfl, rfl, rfl, rfl, rfl, rfl, rfl, rfl, rfl, rfl, rfl, rfl, rfl, rfl, rfl, rfl, rfl, rfl, rfl, eqr rfl rfl h8, rfl, rfl, rfl, rfl, rfl, rfl, rfl, rfl, rfl, rfl, rfl, eqr rfl rfl h9, rfl, rfl, rfl, eqr rfl rfl h10, rfl, rfl, eqr rfl rfl h11, eqr rfl rfl h12, trivial⟩
noncomputable def sig (a b : Int) (ha : -2147483648 ≤ a ∧ a ≤ 2147483647) (hb : -9223372036854775808 ≤ b ∧ b ≤ 9223372036854775807) (a0 : a ≠ 0) (b0 : b ≠ 0) : Sig := ⟨sg a b, allOK_mem (rows_ok a b ha hb a0 b0)⟩
end Go.DM
