/-
  GlyphGo, GlyphUnits: code points as the language has them.
-/
import Derived.Test.YtmiclamhiohemaaGlBack
import Derived.Test.YtmiclamhiohemaaGlCode2
namespace Go.Proofs.Ytmiclamhiohemaa
open Go.AM
set_option autoImplicit false
set_option linter.unusedSimpArgs false
set_option linter.unusedVariables false

theorem sh_law3_GlyphGo_eq (N : Nat) (s : List UInt8) (r : Int) (hr : 0 ≤ r ∧ r ≤ 4294967295) : sh_law3_GlyphGo N s r = some (.bool true, []) := by
  obtain ⟨p, rfl⟩ : ∃ p : Nat, r = (p : Int) := ⟨r.toNat, by omega⟩
  simp only [sh_law3_GlyphGo, sa_law3_GlyphGo]
  by_cases h1 : 60 < s.length
  · simp (disch := omega) only [dt, df, it, iF, bt, bf, cond_true, cond_false, map_some', chk_t, Bool.and_true, Bool.true_and, Bool.and_false, Bool.false_and, Bool.or_true, Bool.true_or, Bool.or_false, Bool.false_or, Bool.not_true, Bool.not_false, if_true, if_false, beq_self_eq_true, wrap_i64_of, wrap_u64_of, wrap_i32_of, wrap_u32_of, wrap_u8_of, tdiv_of, tmod_of, Int.toNat_natCast, List.take_length, List.drop_zero, or_true, true_or, or_false, false_or, or_self, ]
  have hl := runesOf_len s
  have e := runes_same s
  by_cases h2 : p ≤ 1114111
  · have g : putG (p : Int) = utf8 (p : Int) := by unfold putG; rw [Int.toNat_natCast, utf8_gly]
    simp (disch := omega) only [dt, df, it, iF, bt, bf, cond_true, cond_false, map_some', chk_t, Bool.and_true, Bool.true_and, Bool.and_false, Bool.false_and, Bool.or_true, Bool.true_or, Bool.or_false, Bool.false_or, Bool.not_true, Bool.not_false, if_true, if_false, beq_self_eq_true, wrap_i64_of, wrap_u64_of, wrap_i32_of, wrap_u32_of, wrap_u8_of, tdiv_of, tmod_of, Int.toNat_natCast, List.take_length, List.drop_zero, or_true, true_or, or_false, false_or, or_self, e, g, decide_true]
  · have g : putG (p : Int) = [239, 191, 189] := by
      unfold putG gly
      rw [Int.toNat_natCast, if_neg (by omega), if_neg (by omega), if_pos (by omega)]
    simp (disch := omega) only [dt, df, it, iF, bt, bf, cond_true, cond_false, map_some', chk_t, Bool.and_true, Bool.true_and, Bool.and_false, Bool.false_and, Bool.or_true, Bool.true_or, Bool.or_false, Bool.false_or, Bool.not_true, Bool.not_false, if_true, if_false, beq_self_eq_true, wrap_i64_of, wrap_u64_of, wrap_i32_of, wrap_u32_of, wrap_u8_of, tdiv_of, tmod_of, Int.toNat_natCast, List.take_length, List.drop_zero, or_true, true_or, or_false, false_or, or_self, e, g, decide_true]

theorem digit_round (N : Nat) (again0 : (Int × List UInt8 × List Int × List UInt8 × Int) → Option (V × List AObj)) (again1 : (Int × List UInt8 × List Int × List UInt8 × Int × Int) → Option (V × List AObj))
    (r : Int) (up : Bool) (us : List Int) (s : List UInt8) (i u k : Nat) (hi : i < us.length) (hu : us.getD i 0 = (u : Int)) (hu2 : u < 65536) (hk : k ≤ 12) (hs : s.length ≤ 100) (hl : us.length ≤ 2) :
    B_law3_GlyphUnits_1 N again0 again1 (r, hexT up, us, s, (i : Int), (k : Int)) = again1 (r, hexT up, us, s ++ [(hexT up).getD (u / 2 ^ k % 16) 0], (i : Int), (k : Int) - 4) := by
  have hx : (hexT up).length = 16 := by cases up <;> rfl
  have e1 : shrI .u32 (u : Int) (k : Int) = ((u / 2 ^ k : Nat) : Int) := shrI_nat .u32 u k (by show k ≤ 32; omega)
  have hle : u / 2 ^ k ≤ u := Nat.div_le_self _ _
  have e3 : ∀ q : Nat, q < 65536 → bitsI .and .u32 (q : Int) 15 = ((q % 16 : Nat) : Int) := fun q hq => and_u32 4 (by omega) _ (by omega)
  have e2 := e3 (u / 2 ^ k) (Nat.lt_of_le_of_lt hle hu2)
  have hu' : us.getD i (dflt (.num .u32)) = (u : Int) := hu
  have hd : u / 2 ^ k % 16 < 16 := Nat.mod_lt _ (by omega)
  generalize u / 2 ^ k % 16 = d at e2 hd ⊢
  have sl := slice1 (hexT up) d (by omega)
  have td : ((d : Int) + 1).toNat = d + 1 := by omega
  simp only [B_law3_GlyphUnits_1, Int.toNat_natCast, hu', e1, e2]
  simp (disch := omega) only [dt, df, it, iF, bt, bf, cond_true, cond_false, map_some', chk_t, Bool.and_true, Bool.true_and, Bool.and_false, Bool.false_and, Bool.or_true, Bool.true_or, Bool.or_false, Bool.false_or, Bool.not_true, Bool.not_false, if_true, if_false, beq_self_eq_true, wrap_i64_of, wrap_u64_of, wrap_i32_of, wrap_u32_of, wrap_u8_of, tdiv_of, tmod_of, Int.toNat_natCast, List.take_length, List.drop_zero, or_true, true_or, or_false, false_or, or_self, td, sl, hx, List.length_cons, List.length_nil]

theorem digit_last (N : Nat) (again0 : (Int × List UInt8 × List Int × List UInt8 × Int) → Option (V × List AObj)) (again1 : (Int × List UInt8 × List Int × List UInt8 × Int × Int) → Option (V × List AObj))
    (r : Int) (h : List UInt8) (us : List Int) (s : List UInt8) (i : Nat) (hi : i ≤ 10) : B_law3_GlyphUnits_1 N again0 again1 (r, h, us, s, (i : Int), -4) = again0 (r, h, us, s, ((i + 1 : Nat) : Int)) := by
  simp only [B_law3_GlyphUnits_1]
  simp (disch := omega) only [dt, df, it, iF, bt, bf, cond_true, cond_false, map_some', chk_t, Bool.and_true, Bool.true_and, Bool.and_false, Bool.false_and, Bool.or_true, Bool.true_or, Bool.or_false, Bool.false_or, Bool.not_true, Bool.not_false, if_true, if_false, beq_self_eq_true, wrap_i64_of, wrap_u64_of, wrap_i32_of, wrap_u32_of, wrap_u8_of, tdiv_of, tmod_of, Int.toNat_natCast, List.take_length, List.drop_zero, or_true, true_or, or_false, false_or, or_self, ]
  rfl

theorem unit_digits (M N : Nat) (again0 : (Int × List UInt8 × List Int × List UInt8 × Int) → Option (V × List AObj))
    (r : Int) (up : Bool) (us : List Int) (s : List UInt8) (i u : Nat) (hi : i < us.length) (hu : us.getD i 0 = (u : Int)) (hu2 : u < 65536) (hs : s.length ≤ 50) (hl : us.length ≤ 2) :
    BA_law3_GlyphUnits_0 N again0 (fun z => iterL (M + 5) (B_law3_GlyphUnits_1 N again0) z) (r, hexT up, us, s, (i : Int)) = again0 (r, hexT up, us, s ++ digs up u, ((i + 1 : Nat) : Int)) := by
  simp only [BA_law3_GlyphUnits_0]
  simp (disch := omega) only [dt, df, it, iF, bt, bf, cond_true, cond_false, map_some', chk_t, Bool.and_true, Bool.true_and, Bool.and_false, Bool.false_and, Bool.or_true, Bool.true_or, Bool.or_false, Bool.false_or, Bool.not_true, Bool.not_false, if_true, if_false, beq_self_eq_true, wrap_i64_of, wrap_u64_of, wrap_i32_of, wrap_u32_of, wrap_u8_of, tdiv_of, tmod_of, Int.toNat_natCast, List.take_length, List.drop_zero, or_true, true_or, or_false, false_or, or_self, List.length_cons, List.length_nil]
  have r1 := digit_round N again0 (iterL (M + 4) (B_law3_GlyphUnits_1 N again0)) r up us (s ++ [92, 117]) i u 12 hi hu hu2 (by omega) (by simp; omega) hl
  have r2 := digit_round N again0 (iterL (M + 3) (B_law3_GlyphUnits_1 N again0)) r up us ((s ++ [92, 117]) ++ [(hexT up).getD (u / 2 ^ 12 % 16) 0]) i u 8 hi hu hu2 (by omega) (by simp; omega) hl
  have r3 := digit_round N again0 (iterL (M + 2) (B_law3_GlyphUnits_1 N again0)) r up us (((s ++ [92, 117]) ++ [(hexT up).getD (u / 2 ^ 12 % 16) 0]) ++ [(hexT up).getD (u / 2 ^ 8 % 16) 0]) i u 4 hi hu hu2 (by omega) (by simp; omega) hl
  have r4 := digit_round N again0 (iterL (M + 1) (B_law3_GlyphUnits_1 N again0)) r up us ((((s ++ [92, 117]) ++ [(hexT up).getD (u / 2 ^ 12 % 16) 0]) ++ [(hexT up).getD (u / 2 ^ 8 % 16) 0]) ++ [(hexT up).getD (u / 2 ^ 4 % 16) 0]) i u 0 hi hu hu2 (by omega) (by simp; omega) hl
  refine r1.trans (r2.trans (r3.trans (r4.trans ((digit_last N again0 _ r _ us _ i (by omega)).trans ?_))))
  unfold digs
  simp only [List.append_assoc, List.cons_append, List.nil_append, Nat.pow_zero, Nat.div_one]
  try rfl

set_option maxRecDepth 100000 in
theorem units_end (N : Nat) (again0 : (Int × List UInt8 × List Int × List UInt8 × Int) → Option (V × List AObj)) (q1 : (Int × List UInt8 × List Int × List UInt8 × Int × Int) → Option (V × List AObj))
    (p : Nat) (hp : p ≤ 1114111) (h : List UInt8) (us : List Int) (s : List UInt8) (hs : s.length ≤ 50) (hu : unquoteG (s ++ [34]) = some (gly p, (s.length : Int) + 1)) :
    BA_law3_GlyphUnits_0 N again0 q1 ((p : Int), h, us, s, (us.length : Int)) = some (.bool true, []) := by
  have u1 := unq_some _ _ _ hu
  have hg := utf8_gly p
  simp only [BA_law3_GlyphUnits_0, u1.1, u1.2.1, u1.2.2]
  simp (disch := omega) only [dt, df, it, iF, bt, bf, cond_true, cond_false, map_some', chk_t, Bool.and_true, Bool.true_and, Bool.and_false, Bool.false_and, Bool.or_true, Bool.true_or, Bool.or_false, Bool.false_or, Bool.not_true, Bool.not_false, if_true, if_false, beq_self_eq_true, wrap_i64_of, wrap_u64_of, wrap_i32_of, wrap_u32_of, wrap_u8_of, tdiv_of, tmod_of, Int.toNat_natCast, List.take_length, List.drop_zero, or_true, true_or, or_false, false_or, or_self, List.length_append, List.length_cons, List.length_nil, hg, decide_true]

set_option maxRecDepth 100000 in
theorem units_one (M : Nat) (p : Nat) (up : Bool) (hp : p < 65536) (hs : p < 55296 ∨ 57343 < p) : iterL (M + 7) (B_law3_GlyphUnits_0 (M + 7)) ((p : Int), hexT up, [(p : Int)], [34], 0) = some (.bool true, []) := by
  have h1 := unit_digits (M + 2) (M + 7) (iterL (M + 6) (B_law3_GlyphUnits_0 (M + 7))) (p : Int) up [(p : Int)] [34] 0 p (by simp) rfl hp (by simp) (by simp)
  have h2 := units_end (M + 7) (iterL (M + 5) (B_law3_GlyphUnits_0 (M + 7))) (fun z => iterL (M + 7) (B_law3_GlyphUnits_1 (M + 7) (iterL (M + 5) (B_law3_GlyphUnits_0 (M + 7)))) z) p (by omega) (hexT up) [(p : Int)] ([34] ++ digs up p) (by simp [digs])
    (by have := unquote_one up p hp hs; simpa [digs] using this)
  exact h1.trans h2

set_option maxRecDepth 100000 in
theorem units_two (M : Nat) (p : Nat) (up : Bool) (hp : 65536 ≤ p) (hp2 : p ≤ 1114111) :
    iterL (M + 7) (B_law3_GlyphUnits_0 (M + 7)) ((p : Int), hexT up, [((55296 + (p - 65536) / 1024 : Nat) : Int), ((56320 + (p - 65536) % 1024 : Nat) : Int)], [34], 0) = some (.bool true, []) := by
  have h1 := unit_digits (M + 2) (M + 7) (iterL (M + 6) (B_law3_GlyphUnits_0 (M + 7))) (p : Int) up [((55296 + (p - 65536) / 1024 : Nat) : Int), ((56320 + (p - 65536) % 1024 : Nat) : Int)] [34] 0 _ (by simp) rfl (by omega) (by simp) (by simp)
  have h2 := unit_digits (M + 2) (M + 7) (iterL (M + 5) (B_law3_GlyphUnits_0 (M + 7))) (p : Int) up [((55296 + (p - 65536) / 1024 : Nat) : Int), ((56320 + (p - 65536) % 1024 : Nat) : Int)] ([34] ++ digs up (55296 + (p - 65536) / 1024)) 1 _ (by simp) rfl (by omega) (by simp [digs]) (by simp)
  have hq := unquote_two up (55296 + (p - 65536) / 1024) (56320 + (p - 65536) % 1024) (by omega) (by omega)
  rw [show 65536 + (55296 + (p - 65536) / 1024 - 55296) * 1024 + (56320 + (p - 65536) % 1024 - 56320) = p by omega] at hq
  have h3 := units_end (M + 7) (iterL (M + 4) (B_law3_GlyphUnits_0 (M + 7))) (fun z => iterL (M + 7) (B_law3_GlyphUnits_1 (M + 7) (iterL (M + 4) (B_law3_GlyphUnits_0 (M + 7)))) z) p hp2 (hexT up) [((55296 + (p - 65536) / 1024 : Nat) : Int), ((56320 + (p - 65536) % 1024 : Nat) : Int)] ([34] ++ digs up (55296 + (p - 65536) / 1024) ++ digs up (56320 + (p - 65536) % 1024)) (by simp [digs])
    (by simpa [digs] using hq)
  exact h1.trans (h2.trans h3)

set_option maxRecDepth 100000 in
theorem units_none (M : Nat) (up : Bool) : iterL (M + 7) (B_law3_GlyphUnits_0 (M + 7)) (65533, hexT up, [65533], [34], 0) = some (.bool true, []) := by
  have h := units_one M 65533 up (by omega) (.inr (by omega))
  rw [show ((65533 : Nat) : Int) = 65533 from rfl] at h
  exact h
set_option maxRecDepth 100000 in
theorem sh_law3_GlyphUnits_eq (M : Nat) (n : Int) (up : Bool) (hn : 0 ≤ n ∧ n ≤ 4294967295) : sh_law3_GlyphUnits (M + 7) n up = some (.bool true, []) := by
  obtain ⟨m, rfl⟩ : ∃ m : Nat, n = (m : Int) := ⟨n.toNat, by omega⟩
  have e : Int.tmod (m : Int) 1114112 = ((m % 1114112 : Nat) : Int) := tmod_nat _ 1114112
  have hp : m % 1114112 < 1114112 := Nat.mod_lt _ (by omega)
  simp only [sh_law3_GlyphUnits, sa_law3_GlyphUnits, e]
  generalize m % 1114112 = p at hp
  have q1 : p < 65536 → (p < 55296 ∨ 57343 < p) → iterL (M + 7) (B_law3_GlyphUnits_0 (M + 7)) ((p : Int), hexT up, [(p : Int)], [34], 0) = some (.bool true, []) := fun h1 h2 => units_one M p up h1 h2
  have q2 := units_none M up
  have q3 := units_two M p up
  generalize iterL (M + 7) (B_law3_GlyphUnits_0 (M + 7)) = K at q1 q2 q3 ⊢
  cases up with
  | true =>
    simp only [hexT, cond_true, cond_false] at q1 q2 q3
    by_cases h1 : 55296 ≤ p ∧ p ≤ 57343
    · simp (disch := omega) only [dt, df, it, iF, bt, bf, cond_true, cond_false, map_some', chk_t, Bool.and_true, Bool.true_and, Bool.and_false, Bool.false_and, Bool.or_true, Bool.true_or, Bool.or_false, Bool.false_or, Bool.not_true, Bool.not_false, if_true, if_false, beq_self_eq_true, wrap_i64_of, wrap_u64_of, wrap_i32_of, wrap_u32_of, wrap_u8_of, tdiv_of, tmod_of, Int.toNat_natCast, List.take_length, List.drop_zero, or_true, true_or, or_false, false_or, or_self, ]
      exact q2
    by_cases h2 : 65535 < p
    · have ew : IntKind.wrap .u32 ((p : Int) - 65536) = ((p - 65536 : Nat) : Int) := by rw [wrap_u32_of _ (by omega)]; omega
      have q3 := q3 (by omega) (by omega)
      have hq : p - 65536 < 1048576 := by omega
      have h4 : 57344 ≤ p := by omega
      generalize p - 65536 = q at ew q3 hq
      have e1 : IntKind.wrap .u32 (55296 + IntKind.wrap .u32 (Int.tdiv ((q : Nat) : Int) 1024)) = ((55296 + q / 1024 : Nat) : Int) := by
        rw [show Int.tdiv ((q : Nat) : Int) 1024 = ((q / 1024 : Nat) : Int) from tdiv_nat _ 1024, wrap_u32_of ((q / 1024 : Nat) : Int) (by omega), wrap_u32_of _ (by omega)]
        omega
      have e2 : IntKind.wrap .u32 (56320 + Int.tmod ((q : Nat) : Int) 1024) = ((56320 + q % 1024 : Nat) : Int) := by
        rw [show Int.tmod ((q : Nat) : Int) 1024 = ((q % 1024 : Nat) : Int) from tmod_nat _ 1024, wrap_u32_of _ (by omega)]
        omega
      rw [dt (show 55296 ≤ (p : Int) by omega), df (show ¬ (p : Int) ≤ 57343 by omega), dt (show 65535 < (p : Int) by omega)]
      rw [cond_true, cond_false, cond_true, cond_true]
      rw [ew, e1, e2]
      exact q3
    by_cases h3 : 55296 ≤ p
    · simp (disch := omega) only [dt, df, it, iF, bt, bf, cond_true, cond_false, map_some', chk_t, Bool.and_true, Bool.true_and, Bool.and_false, Bool.false_and, Bool.or_true, Bool.true_or, Bool.or_false, Bool.false_or, Bool.not_true, Bool.not_false, if_true, if_false, beq_self_eq_true, wrap_i64_of, wrap_u64_of, wrap_i32_of, wrap_u32_of, wrap_u8_of, tdiv_of, tmod_of, Int.toNat_natCast, List.take_length, List.drop_zero, or_true, true_or, or_false, false_or, or_self, ]
      exact q1 (by omega) (by omega)
    · simp (disch := omega) only [dt, df, it, iF, bt, bf, cond_true, cond_false, map_some', chk_t, Bool.and_true, Bool.true_and, Bool.and_false, Bool.false_and, Bool.or_true, Bool.true_or, Bool.or_false, Bool.false_or, Bool.not_true, Bool.not_false, if_true, if_false, beq_self_eq_true, wrap_i64_of, wrap_u64_of, wrap_i32_of, wrap_u32_of, wrap_u8_of, tdiv_of, tmod_of, Int.toNat_natCast, List.take_length, List.drop_zero, or_true, true_or, or_false, false_or, or_self, ]
      exact q1 (by omega) (by omega)
  | false =>
    simp only [hexT, cond_true, cond_false] at q1 q2 q3
    by_cases h1 : 55296 ≤ p ∧ p ≤ 57343
    · simp (disch := omega) only [dt, df, it, iF, bt, bf, cond_true, cond_false, map_some', chk_t, Bool.and_true, Bool.true_and, Bool.and_false, Bool.false_and, Bool.or_true, Bool.true_or, Bool.or_false, Bool.false_or, Bool.not_true, Bool.not_false, if_true, if_false, beq_self_eq_true, wrap_i64_of, wrap_u64_of, wrap_i32_of, wrap_u32_of, wrap_u8_of, tdiv_of, tmod_of, Int.toNat_natCast, List.take_length, List.drop_zero, or_true, true_or, or_false, false_or, or_self, ]
      exact q2
    by_cases h2 : 65535 < p
    · have ew : IntKind.wrap .u32 ((p : Int) - 65536) = ((p - 65536 : Nat) : Int) := by rw [wrap_u32_of _ (by omega)]; omega
      have q3 := q3 (by omega) (by omega)
      have hq : p - 65536 < 1048576 := by omega
      have h4 : 57344 ≤ p := by omega
      generalize p - 65536 = q at ew q3 hq
      have e1 : IntKind.wrap .u32 (55296 + IntKind.wrap .u32 (Int.tdiv ((q : Nat) : Int) 1024)) = ((55296 + q / 1024 : Nat) : Int) := by
        rw [show Int.tdiv ((q : Nat) : Int) 1024 = ((q / 1024 : Nat) : Int) from tdiv_nat _ 1024, wrap_u32_of ((q / 1024 : Nat) : Int) (by omega), wrap_u32_of _ (by omega)]
        omega
      have e2 : IntKind.wrap .u32 (56320 + Int.tmod ((q : Nat) : Int) 1024) = ((56320 + q % 1024 : Nat) : Int) := by
        rw [show Int.tmod ((q : Nat) : Int) 1024 = ((q % 1024 : Nat) : Int) from tmod_nat _ 1024, wrap_u32_of _ (by omega)]
        omega
      rw [dt (show 55296 ≤ (p : Int) by omega), df (show ¬ (p : Int) ≤ 57343 by omega), dt (show 65535 < (p : Int) by omega)]
      rw [cond_true, cond_false, cond_false, cond_true]
      rw [ew, e1, e2]
      exact q3
    by_cases h3 : 55296 ≤ p
    · simp (disch := omega) only [dt, df, it, iF, bt, bf, cond_true, cond_false, map_some', chk_t, Bool.and_true, Bool.true_and, Bool.and_false, Bool.false_and, Bool.or_true, Bool.true_or, Bool.or_false, Bool.false_or, Bool.not_true, Bool.not_false, if_true, if_false, beq_self_eq_true, wrap_i64_of, wrap_u64_of, wrap_i32_of, wrap_u32_of, wrap_u8_of, tdiv_of, tmod_of, Int.toNat_natCast, List.take_length, List.drop_zero, or_true, true_or, or_false, false_or, or_self, ]
      exact q1 (by omega) (by omega)
    · simp (disch := omega) only [dt, df, it, iF, bt, bf, cond_true, cond_false, map_some', chk_t, Bool.and_true, Bool.true_and, Bool.and_false, Bool.false_and, Bool.or_true, Bool.true_or, Bool.or_false, Bool.false_or, Bool.not_true, Bool.not_false, if_true, if_false, beq_self_eq_true, wrap_i64_of, wrap_u64_of, wrap_i32_of, wrap_u32_of, wrap_u8_of, tdiv_of, tmod_of, Int.toNat_natCast, List.take_length, List.drop_zero, or_true, true_or, or_false, false_or, or_self, ]
      exact q1 (by omega) (by omega)
end Go.Proofs.Ytmiclamhiohemaa
