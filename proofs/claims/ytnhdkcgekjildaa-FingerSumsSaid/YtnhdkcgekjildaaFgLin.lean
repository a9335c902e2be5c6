/-
  Fingerprints: what is unlike stays unlike, and sums of fingerprints are fingerprints of sums.
-/
import Derived.Test.YtnhdkcgekjildaaFgFun
namespace Go.Proofs.Ytnhdkcgekjildaa
open Go.AM
set_option autoImplicit false
set_option linter.unusedVariables false
set_option linter.unusedSimpArgs false

theorem xor_cancel {a b c : Nat} (h : a ^^^ c = b ^^^ c) : a = b := by
  have := congrArg (· ^^^ c) h
  simpa [Nat.xor_assoc] using this

theorem fpBit_inj {v w : Nat} (hv : v < 2 ^ 64) (hw : w < 2 ^ 64) (h : fpBit v = fpBit w) : v = w := by
  have top : ∀ x : Nat, x < 2 ^ 64 → (fpBit x).testBit 63 = decide (x % 2 = 1) := by
    intro x hx
    have h1 : (x / 2).testBit 63 = false := Nat.testBit_lt_two_pow (by omega)
    unfold fpBit
    split
    · rename_i h2
      rw [Nat.testBit_xor, h1, show fpC.testBit 63 = true by decide, decide_eq_true h2]
      rfl
    · rename_i h2
      rw [h1, decide_eq_false h2]
  have hp := congrArg (fun x => x.testBit 63) h
  simp only [top v hv, top w hw, decide_eq_decide] at hp
  unfold fpBit at h
  by_cases h1 : v % 2 = 1
  · rw [if_pos h1, if_pos (hp.1 h1)] at h
    have := xor_cancel h
    have := hp.1 h1
    omega
  · rw [if_neg h1, if_neg (fun h2 => h1 (hp.2 h2))] at h
    have : ¬ w % 2 = 1 := fun h2 => h1 (hp.2 h2)
    omega

theorem fpBits_inj : ∀ (n : Nat) {v w : Nat}, v < 2 ^ 64 → w < 2 ^ 64 → fpBits n v = fpBits n w → v = w
  | 0, v, w, hv, hw, h => h
  | n + 1, v, w, hv, hw, h => fpBit_inj hv hw (fpBits_inj n (fpBit_lt v hv) (fpBit_lt w hw) h)

theorem byte_lt (c : UInt8) : c.toNat < 2 ^ 64 := by have := c.toNat_lt; omega

theorem fpByte_inj {v w : Nat} {c : UInt8} (hv : v < 2 ^ 64) (hw : w < 2 ^ 64) (h : fpByte v c = fpByte w c) : v = w :=
  xor_cancel (fpBits_inj 8 (Nat.xor_lt_two_pow hv (byte_lt c)) (Nat.xor_lt_two_pow hw (byte_lt c)) h)

theorem fpByte_inj2 {v : Nat} {c d : UInt8} (hv : v < 2 ^ 64) (h : fpByte v c = fpByte v d) : c = d := by
  have h1 := fpBits_inj 8 (Nat.xor_lt_two_pow hv (byte_lt c)) (Nat.xor_lt_two_pow hv (byte_lt d)) h
  rw [Nat.xor_comm v, Nat.xor_comm v] at h1
  exact UInt8.toNat_inj.1 (xor_cancel h1)

theorem fold_inj : ∀ (l : List UInt8) {v w : Nat}, v < 2 ^ 64 → w < 2 ^ 64 → l.foldl fpByte v = l.foldl fpByte w → v = w
  | [], v, w, hv, hw, h => h
  | c :: l, v, w, hv, hw, h => fpByte_inj hv hw (fold_inj l (fpByte_lt v c hv) (fpByte_lt w c hw) h)

theorem fp_set (s : List UInt8) (i : Nat) (hi : i < s.length) (c : UInt8) : fpOf (s.set i c) = fpOf s ↔ c = s.getD i 0 := by
  have h1 : s.set i c = s.take i ++ c :: s.drop (i + 1) := by
    rw [List.set_eq_take_append_cons_drop, if_pos hi]
  have h2 : s = s.take i ++ s.getD i 0 :: s.drop (i + 1) := by
    conv => lhs; rw [← List.take_append_drop i s, List.drop_eq_getElem_cons hi]
    simp [List.getD, hi]
  have hc : fpC < 2 ^ 64 := by decide
  constructor
  · intro h
    rw [h1] at h
    rw [h2] at h
    unfold fpOf at h
    simp only [List.foldl_append, List.foldl_cons] at h
    have hv := foldl_fp_lt (s.take i) fpC hc
    rw [← h2] at h
    exact fpByte_inj2 hv (fold_inj _ (fpByte_lt _ _ hv) (fpByte_lt _ _ hv) h)
  · intro h
    rw [h1, h, ← h2]

theorem fpBit_xor (v w : Nat) : fpBit (v ^^^ w) = fpBit v ^^^ fpBit w := by
  have hd : (v ^^^ w) / 2 = v / 2 ^^^ w / 2 := by
    have := Nat.shiftRight_xor_distrib (a := v) (b := w) (i := 1)
    simpa [Nat.shiftRight_eq_div_pow] using this
  have hm := Nat.xor_mod_two_eq_one (a := v) (b := w)
  unfold fpBit
  rw [hd]
  by_cases h1 : v % 2 = 1
  · by_cases h2 : w % 2 = 1
    · rw [if_neg (by rw [hm]; simp [h1, h2]), if_pos h1, if_pos h2]
      rw [Nat.xor_assoc, ← Nat.xor_assoc fpC, Nat.xor_comm fpC, Nat.xor_assoc (w / 2), Nat.xor_self, Nat.xor_zero]
    · rw [if_pos (by rw [hm]; simp [h1, h2]), if_pos h1, if_neg h2]
      rw [Nat.xor_assoc, Nat.xor_comm (w / 2), ← Nat.xor_assoc]
  · by_cases h2 : w % 2 = 1
    · rw [if_pos (by rw [hm]; simp [h1, h2]), if_neg h1, if_pos h2, Nat.xor_assoc]
    · rw [if_neg (by rw [hm]; simp [h1, h2]), if_neg h1, if_neg h2]

theorem fpBits_xor : ∀ (n v w : Nat), fpBits n (v ^^^ w) = fpBits n v ^^^ fpBits n w
  | 0, v, w => rfl
  | n + 1, v, w => by
    show fpBits n (fpBit (v ^^^ w)) = _
    rw [fpBit_xor, fpBits_xor n]
    rfl

theorem xor_four (a b c d : Nat) : (a ^^^ c) ^^^ (b ^^^ d) = (a ^^^ b) ^^^ (c ^^^ d) := by
  rw [Nat.xor_assoc, Nat.xor_assoc, ← Nat.xor_assoc c, ← Nat.xor_assoc b, Nat.xor_comm c b]

theorem sums : ∀ (a b : List UInt8) (v1 v2 v3 v4 : Nat), a.length = b.length → v1 ^^^ v2 = v3 ^^^ v4 →
    a.foldl fpByte v1 ^^^ b.foldl fpByte v2 = (List.zipWith (fun x y => UInt8.ofNat (x.toNat ^^^ y.toNat)) a b).foldl fpByte v3 ^^^ (List.replicate a.length 0).foldl fpByte v4
  | [], [], v1, v2, v3, v4, hl, h => h
  | [], _ :: _, v1, v2, v3, v4, hl, h => by simp at hl
  | _ :: _, [], v1, v2, v3, v4, hl, h => by simp at hl
  | c :: a, d :: b, v1, v2, v3, v4, hl, h => by
    have hc := c.toNat_lt
    have hd := d.toNat_lt
    have hx : (UInt8.ofNat (c.toNat ^^^ d.toNat)).toNat = c.toNat ^^^ d.toNat := by
      have := Nat.xor_lt_two_pow (n := 8) (x := c.toNat) (y := d.toNat) (by omega) (by omega)
      rw [UInt8.toNat_ofNat']
      omega
    simp only [List.foldl_cons, List.zipWith_cons_cons, List.length_cons, List.replicate_succ]
    refine sums a b _ _ _ _ (by simpa using hl) ?_
    unfold fpByte
    rw [← fpBits_xor, ← fpBits_xor, hx, show ((0 : UInt8)).toNat = 0 from rfl, xor_four v1 v2 c.toNat d.toNat, xor_four v3 v4 (c.toNat ^^^ d.toNat) 0, h, Nat.xor_zero]
end Go.Proofs.Ytnhdkcgekjildaa
