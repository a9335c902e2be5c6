/-
  What the laws of layer 2 come to: on kinds.
-/
import Derived.Test.YtmiclamhiohemaaCsKind
namespace Go.Proofs.Ytmiclamhiohemaa
open Go.AM
set_option autoImplicit false
set_option linter.unusedSimpArgs false
set_option linter.unusedVariables false

theorem sh_law2_begun_eq (N : Nat) : sh_law2_begun N = some (.bool true, []) := by
  show sa_law2_begun N = _
  have a1 : wireR 14 = 2 := by rw [wireR_def]; decide
  have a2 : fromR 7 3 = 18446744073709551614 := by rw [fromR_def]; decide
  have a3 : toR 7 18446744073709551614 = 3 := by rw [toR_def]; decide
  have a4 : fitsR 13 1 = true := by rw [fitsR_def]; decide
  have a5 : fitsR 13 2 = false := by rw [fitsR_def]; decide
  have a6 : doubleR 1 = 4607182418800017408 := by rw [doubleR_def]; decide +kernel
  have a7 : floatR 1 = 1065353216 := by rw [floatR_def]; decide +kernel
  have a8 : widenR 1065353216 = 4607182418800017408 := by rw [widenR_def]; decide +kernel
  simp only [sa_law2_begun, a1, a2, a3, a4, a5, a6, a7, a8]
  rfl

theorem sh_law2_CastFloats_eq (N : Nat) (v f : Int) : sh_law2_CastFloats N v f = some (.bool true, []) := by
  show sa_law2_CastFloats N v f = _
  simp only [sa_law2_CastFloats, beq_self_eq_true, cond_true]

theorem draw_draw (n : Int) : drawD (drawD n) = drawD n := by unfold drawD; split <;> split <;> omega

theorem draw_ge (n : Int) : 0 ≤ drawD n ∧ drawD n ≤ 18446744073709551615 := by unfold drawD; split <;> omega

theorem zigzag32 (m : Int) (hm : 0 ≤ m) : fromD 7 (toD 7 m) = drawD m := by
  have e : toD 7 m = if m % 4294967296 < 2147483648 then m % 4294967296 * 2 else (4294967295 - m % 4294967296) * 2 + 1 := rfl
  have e2 : ∀ t, fromD 7 t = if t % 2 = 1 then drawD (4294967295 - t % 4294967296 / 2) else drawD (t % 4294967296 / 2) := fun t => rfl
  rw [e, e2]
  by_cases h : m % 4294967296 < 2147483648
  · rw [if_pos h, if_neg (by omega), show m % 4294967296 * 2 % 4294967296 / 2 = m % 4294967296 by omega]
    unfold drawD
    rw [Int.emod_emod_of_dvd _ (Int.dvd_refl _)]
  · rw [if_neg h, if_pos (by omega), show 4294967295 - ((4294967295 - m % 4294967296) * 2 + 1) % 4294967296 / 2 = m % 4294967296 by omega]
    unfold drawD
    rw [Int.emod_emod_of_dvd _ (Int.dvd_refl _)]

theorem zigzag64 (m : Int) (hm : 0 ≤ m ∧ m ≤ 18446744073709551615) : fromD 8 (toD 8 m) = m := by
  have e : toD 8 m = if m < 9223372036854775808 then m * 2 else (18446744073709551615 - m) * 2 + 1 := rfl
  have e2 : ∀ t, fromD 8 t = if t % 2 = 1 then 18446744073709551615 - t / 2 else t / 2 := fun t => rfl
  rw [e, e2]
  by_cases h : m < 9223372036854775808
  · rw [if_pos h, if_neg (by omega)]; omega
  · rw [if_neg h, if_pos (by omega)]; omega

theorem from7_draw (n : Int) : drawD (fromD 7 n) = fromD 7 n := by
  show drawD (if n % 2 = 1 then drawD (4294967295 - n % 4294967296 / 2) else drawD (n % 4294967296 / 2)) = (if n % 2 = 1 then drawD (4294967295 - n % 4294967296 / 2) else drawD (n % 4294967296 / 2))
  split <;> exact draw_draw _

theorem from7_ge (n : Int) : 0 ≤ fromD 7 n := by
  show 0 ≤ (if n % 2 = 1 then drawD (4294967295 - n % 4294967296 / 2) else drawD (n % 4294967296 / 2))
  split <;> exact (draw_ge _).1

theorem from8_ge (n : Int) (hn : 0 ≤ n ∧ n ≤ 18446744073709551615) : 0 ≤ fromD 8 n ∧ fromD 8 n ≤ 18446744073709551615 := by
  show 0 ≤ (if n % 2 = 1 then 18446744073709551615 - n / 2 else n / 2) ∧ (if n % 2 = 1 then 18446744073709551615 - n / 2 else n / 2) ≤ 18446744073709551615
  split <;> omega

theorem back (k n : Int) (hn : 0 ≤ n ∧ n ≤ 18446744073709551615) : (wireD k = 2 → fitsD k n = false) ∧ (1 ≤ k ∧ k ≤ 17 → wireD k ≠ 2 → fitsD k (fromD k n) = true ∧ fromD k (toD k (fromD k n)) = fromD k n ∧ (fitsD k n = true → fromD k (toD k n) = n)) := by
  have drawn : (decide (drawD n = drawD (drawD n)) = true) ∧ drawD (drawD (drawD n)) = drawD n ∧ (decide (n = drawD n) = true → drawD (drawD n) = n) := by
    refine ⟨by simp [draw_draw], by rw [draw_draw, draw_draw], fun h => ?_⟩
    have := of_decide_eq_true h
    rw [draw_draw]; exact this.symm
  have low : (decide (n % 4294967296 < 4294967296) = true) ∧ n % 4294967296 % 4294967296 % 4294967296 = n % 4294967296 ∧ (decide (n < 4294967296) = true → n % 4294967296 % 4294967296 = n) := by
    refine ⟨by simp; omega, by omega, fun h => ?_⟩
    have := of_decide_eq_true h
    omega
  have plain : (true = true) ∧ n = n ∧ (true = true → n = n) := ⟨rfl, rfl, fun _ => rfl⟩
  rcases kinds k with rfl | rfl | rfl | rfl | rfl | rfl | rfl | rfl | rfl | rfl | rfl | rfl | rfl | rfl | rfl | rfl | rfl | h
  · exact ⟨fun h => absurd h (by decide), fun _ _ => plain⟩
  · exact ⟨fun h => absurd h (by decide), fun _ _ => low⟩
  · exact ⟨fun h => absurd h (by decide), fun _ _ => drawn⟩
  · exact ⟨fun h => absurd h (by decide), fun _ _ => plain⟩
  · exact ⟨fun h => absurd h (by decide), fun _ _ => low⟩
  · exact ⟨fun h => absurd h (by decide), fun _ _ => plain⟩
  · refine ⟨fun h => absurd h (by decide), fun _ _ => ⟨?_, ?_, fun h => ?_⟩⟩
    · show decide (fromD 7 n = drawD (fromD 7 n)) = true
      rw [from7_draw]; simp
    · rw [zigzag32 _ (from7_ge n), from7_draw]
    · have : n = drawD n := of_decide_eq_true h
      rw [zigzag32 _ hn.1]; exact this.symm
  · refine ⟨fun h => absurd h (by decide), fun _ _ => ⟨rfl, ?_, fun h => ?_⟩⟩
    · exact zigzag64 _ (from8_ge n hn)
    · exact zigzag64 _ hn
  · exact ⟨fun h => absurd h (by decide), fun _ _ => low⟩
  · exact ⟨fun h => absurd h (by decide), fun _ _ => plain⟩
  · refine ⟨fun h => absurd h (by decide), fun _ _ => ⟨drawn.1, ?_, fun h => ?_⟩⟩
    · show drawD (drawD n % 4294967296) = drawD n
      unfold drawD; split <;> split <;> omega
    · have h2 : n = drawD n := of_decide_eq_true h
      show drawD (n % 4294967296) = n
      rw [show drawD (n % 4294967296) = drawD n by unfold drawD; rw [Int.emod_emod_of_dvd _ (Int.dvd_refl _)]]
      exact h2.symm
  · exact ⟨fun h => absurd h (by decide), fun _ _ => plain⟩
  · refine ⟨fun h => absurd h (by decide), fun _ _ => ?_⟩
    show (decide ((if 1 < n then 1 else n) ≤ 1) = true) ∧ (if 1 < (if 1 < (if 1 < n then 1 else n) then 1 else (if 1 < n then 1 else n)) then 1 else (if 1 < (if 1 < n then 1 else n) then 1 else (if 1 < n then 1 else n))) = (if 1 < n then 1 else n) ∧ (decide (n ≤ 1) = true → (if 1 < (if 1 < n then 1 else n) then 1 else (if 1 < n then 1 else n)) = n)
    by_cases h : 1 < n
    · simp [h]; omega
    · simp [h]; omega
  · exact ⟨fun _ => rfl, fun _ h => absurd rfl h⟩
  · exact ⟨fun _ => rfl, fun _ h => absurd rfl h⟩
  · exact ⟨fun _ => rfl, fun _ h => absurd rfl h⟩
  · exact ⟨fun h => absurd h (by decide), fun _ _ => drawn⟩
  · refine ⟨fun hw => ?_, by omega⟩
    unfold wireD at hw
    rw [if_neg (by omega), if_neg (by omega), if_neg (by omega), if_neg (by omega)] at hw
    omega

theorem sh_law2_CastBack_eq (N : Nat) (hN : 100 < N) (n : Int) (hn : 0 ≤ n ∧ n ≤ 18446744073709551615) : sh_law2_CastBack N n = some (.bool true, []) := by
  show iterL N (B_law2_CastBack_0 N) (n, 1) = _
  refine iterL_spec (α := Int × Int) (fun x => x.1 = n ∧ 1 ≤ x.2) (fun x => (18 - x.2).toNat) (fun _ => (V.bool true, ([] : List AObj))) ?_ N _ ⟨rfl, Int.le_refl 1⟩ (by simp; omega)
  rintro rec ⟨n', k⟩ ⟨hn', hk⟩ hrec
  simp only at hn' hk hrec ⊢
  subst hn'
  simp only [B_law2_CastBack_0]
  by_cases h17 : k ≤ 17
  · have hnext := hrec (n', k + 1) ⟨rfl, by simp only; omega⟩ (by simp only; omega)
    have hw : IntKind.wrap .i64 (k + 1) = k + 1 := wrap_i64_of _ (by omega)
    obtain ⟨b1, b2⟩ := back k n' hn
    rw [← wireR_def, ← fitsR_def] at b1 b2
    rw [← fromR_def, ← toR_def] at b2
    rw [hw, hnext]
    by_cases h2 : wireR k = 2
    · rw [dt h17, bt h2, b1 h2]; rfl
    · obtain ⟨c1, c2, c3⟩ := b2 ⟨hk, h17⟩ h2
      rw [dt h17, bf h2, c1, bt c2]
      cases h3 : fitsR k n' with
      | true => rw [bt (c3 h3)]; rfl
      | false => rfl
  · rw [df h17]; rfl

theorem sh_law2_CastGo_eq (N : Nat) (n : Int) (hn : 0 ≤ n ∧ n ≤ 18446744073709551615) : sh_law2_CastGo N n = some (.bool true, []) := by
  show sa_law2_CastGo N n = _
  have x0 : (if IntKind.signed .u64 then -1 else IntKind.max .u64) = (18446744073709551615 : Int) := rfl
  have y1 : bitsI .and .u64 n 1 = n % 2 := and_u64_1 n hn
  have y2 : shrI .u64 n 1 = n / 2 := by rw [shr_u64 _ _ (by omega)]; rfl
  have y3 : IntKind.wrap .u64 (IntKind.wrap .u32 n) = n % 4294967296 := by rw [wrap_u32, wrap_u64_of _ (by omega)]
  have y4 : bitsI .and .u64 (n % 4294967296) 1 = n % 2 := by rw [and_u64_1 _ (by omega)]; omega
  have y5 : shrI .u64 (n % 4294967296) 1 = n % 4294967296 / 2 := by rw [shr_u64 _ _ (by omega)]; rfl
  have y6 : bitsI .xor .u64 18446744073709551615 (n / 2) = 18446744073709551615 - n / 2 := by
    rw [show bitsI .xor .u64 18446744073709551615 (n / 2) = bitsI .xor .u64 (n / 2) 18446744073709551615 by unfold bitsI; simp only; rw [BitVec.xor_comm], xor_u64_all _ (by omega)]
  have y7 : bitsI .xor .u64 18446744073709551615 (n % 4294967296 / 2) = 18446744073709551615 - n % 4294967296 / 2 := by
    rw [show bitsI .xor .u64 18446744073709551615 (n % 4294967296 / 2) = bitsI .xor .u64 (n % 4294967296 / 2) 18446744073709551615 by unfold bitsI; simp only; rw [BitVec.xor_comm], xor_u64_all _ (by omega)]
  have w : ∀ m : Int, 0 ≤ m ∧ m ≤ 18446744073709551615 → IntKind.wrap .u64 (IntKind.wrap .i64 (IntKind.wrap .i32 m)) = drawD m := by
    intro m hm
    rw [wrap_i32, wrap_i64, wrap_u64]; unfold drawD; split <;> omega
  have e3 : fromR 3 n = drawD n := by rw [fromR_def]; rfl
  have e17 : fromR 17 n = drawD n := by rw [fromR_def]; rfl
  have e11 : fromR 11 n = drawD n := by rw [fromR_def]; rfl
  have e5 : fromR 5 n = n % 4294967296 := by rw [fromR_def]; rfl
  have e9 : fromR 9 n = n % 4294967296 := by rw [fromR_def]; rfl
  have e4 : fromR 4 n = n := by rw [fromR_def]; rfl
  have e6 : fromR 6 n = n := by rw [fromR_def]; rfl
  have e8 : fromR 8 n = if n % 2 = 1 then 18446744073709551615 - n / 2 else n / 2 := by rw [fromR_def]; rfl
  have e7 : fromR 7 n = if n % 2 = 1 then drawD (4294967295 - n % 4294967296 / 2) else drawD (n % 4294967296 / 2) := by rw [fromR_def]; rfl
  have e13 : ((fromR 13 n == 1) == (!(n == 0))) = true := by
    rw [fromR_def]
    show (((if 1 < n then 1 else n) == 1) == (!(n == 0))) = true
    by_cases h : 1 < n
    · rw [if_pos h, bf (by omega : n ≠ 0)]; rfl
    · rcases (show n = 0 ∨ n = 1 by omega) with rfl | rfl <;> rfl
  simp only [sa_law2_CastGo, x0, y1, y2, y3, y4, y5, y6, y7, e3, e17, e11, e5, e9, e4, e6, e8, e7, e13, w n hn, beq_self_eq_true, cond_true]
  by_cases h : n % 2 = 1
  · have w7 := w (18446744073709551615 - n % 4294967296 / 2) (by omega)
    have d7 : drawD (18446744073709551615 - n % 4294967296 / 2) = drawD (4294967295 - n % 4294967296 / 2) := by unfold drawD; split <;> split <;> omega
    simp only [h, w7, d7, beq_self_eq_true, cond_true, if_true]
  · have h0 : n % 2 = 0 := by omega
    have w7 := w (n % 4294967296 / 2) (by omega)
    simp only [h0, w7, if_false, show ((0 : Int) == 1) = false from rfl, cond_false, beq_self_eq_true, cond_true, show ¬ ((0 : Int) = 1) from by decide]
end Go.Proofs.Ytmiclamhiohemaa
