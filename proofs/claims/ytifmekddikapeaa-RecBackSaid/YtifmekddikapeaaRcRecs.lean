/-
  How records are written, and joined; which lists are the same.
-/
import Derived.Test.YtifmekddikapeaaRcSplit
namespace Go.Proofs.Ytifmekddikapeaa
open Go.AM
set_option autoImplicit false
set_option linter.unusedSimpArgs false
set_option linter.unusedVariables false

theorem shr_byte (n i : Nat) (hi : i < 8) : IntKind.wrap .u8 (shrI .u64 (n : Int) (8 * (i : Int))) = ((n / 2 ^ (8 * i) % 256 : Nat) : Int) := by
  rw [show (8 * (i : Int)) = ((8 * i : Nat) : Int) by norm_cast, shrI_nat .u64 n (8 * i) (by show 8 * i ≤ 64; omega), wrap_u8]
  omega

theorem lowsN_len : ∀ (k v : Nat), (lowsN k v).length = k
  | 0, v => rfl
  | k + 1, v => by simp [lowsN, lowsN_len k]

def Fput (x : Int × Int × Int × List UInt8 × List UInt8 × List UInt8 × List UInt8 × Int × Int) : V :=
  .str (x.2.2.2.2.2.1 ++ (x.2.2.2.2.2.2.1 ++ lowsN (x.2.2.2.2.2.2.2.1 - x.2.2.2.2.2.2.2.2).toNat (x.2.2.1.toNat / 2 ^ (8 * x.2.2.2.2.2.2.2.2.toNat))))

structure PutSt' (x : Int × Int × Int × List UInt8 × List UInt8 × List UInt8 × List UInt8 × Int × Int) : Prop where
  tl : x.2.2.2.2.2.1.length ≤ 10
  bl : (x.2.2.2.2.2.2.1.length : Int) = x.2.2.2.2.2.2.2.2
  le : x.2.2.2.2.2.2.2.2 ≤ x.2.2.2.2.2.2.2.1 ∧ x.2.2.2.2.2.2.2.1 ≤ 8
  n0 : 0 ≤ x.2.2.1

theorem rec_Put_loop (N : Nat) (hN : 10 < N) (t : List UInt8) (ht : t.length ≤ 10) (k : Nat) (hk : k ≤ 8) (a b n : Int) (hn : 0 ≤ n) (s r : List UInt8) :
    (iterL N (B_rec_Put_0 N) (a, b, n, s, r, t, ([] : List UInt8), (k : Int), 0)).map (·.1) = some (.str (t ++ lowsN k n.toNat)) := by
  refine (iterL_fst PutSt' (fun x => (x.2.2.2.2.2.2.2.1 - x.2.2.2.2.2.2.2.2).toNat) Fput ?_ N _ ⟨ht, by simp, by simp; omega, hn⟩ (by simp; omega)).trans ?_
  · rintro rec ⟨o0, o1, o2, o3, o4, v3, v4, v50, v51⟩ ⟨q1, q2, q3, q4⟩ hrec
    simp only at q1 q2 q3 q4 hrec ⊢
    obtain ⟨i, rfl⟩ : ∃ i : Nat, v51 = (i : Int) := ⟨v4.length, q2.symm⟩
    obtain ⟨m, rfl⟩ : ∃ m : Nat, o2 = (m : Int) := ⟨o2.toNat, by omega⟩
    simp only [B_rec_Put_0, Fput, maxI, EK.bytes, reach]
    by_cases h : (i : Int) < v50
    · have e := shr_byte m i (by omega)
      simp (disch := omega) only [rbase, List.length_singleton, e]
      rw [hrec _ ⟨q1, by simp; omega, by simp; omega, q4⟩ (by simp; omega)]
      simp only [Fput, Int.toNat_natCast]
      rw [show (v50 - (i : Int)).toNat = (v50 - ((i : Int) + 1)).toNat + 1 by omega, lowsN, toNat_of (show (i : Int) + 1 = ((i + 1 : Nat) : Int) by omega), Nat.div_div_eq_div_mul,
        show 2 ^ (8 * i) * 256 = 2 ^ (8 * (i + 1)) by rw [Nat.mul_add, Nat.pow_add]]
      simp
    · simp (disch := omega) only [rbase, ]
      have q5 : v3.length + v4.length ≤ 9223372036854775807 := by omega
      rw [show (v50 - (i : Int)).toNat = 0 by omega]
      simp [lowsN]
  · simp [Fput]

theorem putV_len (v : Int) : (putV v).length ≤ 10 := putN_len 9 _

theorem lowsR_len (v : Int) (n : Int) : (lowsR v n).length = n.toNat := lowsN_len _ _

def putRec (a b n : Int) (s r : List UInt8) : List UInt8 := putR ⟨a, b, n, s, r⟩

theorem sh_rec_Put_eq (N : Nat) (hN : 10 < N) (a b n : Int) (s r : List UInt8) (hb : -9223372036854775808 ≤ b ∧ b ≤ 9223372036854775807) (hn : 0 ≤ n) (hs : s.length ≤ 9223372036854000000) :
    (sh_rec_Put N a b n s r).map (·.1) = some (.str (putR ⟨a, b, n, s, r⟩)) := by
  simp only [sh_rec_Put, sa_rec_Put, putR, maxI]
  by_cases h1 : a < 1
  · simp (disch := omega) only [rbase, or_true, true_or]
  by_cases h2 : 536870911 < a
  · simp (disch := omega) only [rbase, or_true, true_or]
  have hB' : b = 0 ∨ b = 1 ∨ b = 2 ∨ b = 5 ∨ (b ≠ 0 ∧ b ≠ 1 ∧ b ≠ 2 ∧ b ≠ 5) := by omega
  have l1 := putV_len n
  rcases hB' with rfl | rfl | rfl | rfl | ⟨q0, q1, q2, q5⟩
  · have e : bitsI .and .i64 0 7 = 0 := by decide
    have l2 := putV_len (a * 8 + 0 % 8)
    simp (disch := omega) only [rbase, e]
    have l2 := putV_len (a * 8 + 0)
    simp (disch := omega) only [rbase, ]
    simp
  · have e : bitsI .and .i64 1 7 = 1 := by decide
    simp (disch := omega) only [rbase, e, sizeR]
    exact rec_Put_loop N hN _ (putV_len _) 8 (by omega) _ _ _ hn _ _
  · have e : bitsI .and .i64 2 7 = 2 := by decide
    have l2 := putV_len (a * 8 + 2)
    have l3 := putV_len (s.length : Int)
    simp (disch := omega) only [rbase, e, List.length_append]
    simp
  · have e : bitsI .and .i64 5 7 = 5 := by decide
    simp (disch := omega) only [rbase, e, sizeR]
    exact rec_Put_loop N hN _ (putV_len _) 4 (by omega) _ _ _ hn _ _
  · simp (disch := omega) only [rbase, ]

theorem sh_ref1_Put_eq (N : Nat) (a b n : Int) (s r : List UInt8) (hb : -9223372036854775808 ≤ b ∧ b ≤ 9223372036854775807) (hs : s.length ≤ 9223372036854000000) :
    (sh_ref1_Put N a b n s r).map (·.1) = some (.str (putR ⟨a, b, n, s, r⟩)) := by
  simp only [sh_ref1_Put, sa_ref1_Put, putR, maxI]
  by_cases h1 : a < 1
  · simp (disch := omega) only [rbase, or_true, true_or]
  by_cases h2 : 536870911 < a
  · simp (disch := omega) only [rbase, or_true, true_or]
  have hB' : b = 0 ∨ b = 1 ∨ b = 2 ∨ b = 5 ∨ (b ≠ 0 ∧ b ≠ 1 ∧ b ≠ 2 ∧ b ≠ 5) := by omega
  have l1 := putV_len n
  have l4 : (lowsR n 4).length = 4 := lowsR_len n 4
  have l8 : (lowsR n 8).length = 8 := lowsR_len n 8
  rcases hB' with rfl | rfl | rfl | rfl | ⟨q0, q1, q2, q5⟩
  · have l2 := putV_len (a * 8 + 0)
    simp (disch := omega) only [rbase, ]
    simp
  · have l2 := putV_len (a * 8 + 1)
    simp (disch := omega) only [rbase, ]
    simp
  · have l2 := putV_len (a * 8 + 2)
    have l3 := putV_len (s.length : Int)
    simp (disch := omega) only [rbase, List.length_append]
    simp
  · have l2 := putV_len (a * 8 + 5)
    simp (disch := omega) only [rbase, ]
    simp
  · simp (disch := omega) only [rbase, ]
end Go.Proofs.Ytifmekddikapeaa
