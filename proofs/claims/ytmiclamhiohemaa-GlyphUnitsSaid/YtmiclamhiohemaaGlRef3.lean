/-
  The document's own answer: quotes, units, escapes.
-/
import Derived.Test.YtmiclamhiohemaaGlRef2
namespace Go.Proofs.Ytmiclamhiohemaa
open Go.AM
set_option autoImplicit false
set_option linter.unusedSimpArgs false
set_option linter.unusedVariables false

theorem slice1 (l : List UInt8) (i : Nat) (h : i < l.length) : List.drop i (List.take (i + 1) l) = [l.getD i 0] := by
  rw [List.drop_take, show i + 1 - i = 1 by omega, List.drop_eq_getElem_cons h, List.take_succ_cons, List.take_zero]
  simp [List.getD, h]

theorem rquote_round (N : Nat) (rec : (List UInt8 × List UInt8 × Int) → Option (V × List AObj)) (s o : List UInt8) (i : Nat) (hi : i < s.length) (hs : s.length ≤ 9223372036854775806) (ho : o.length ≤ 100000000) :
    B_ref1_Quote_0 N rec (s, o, (i : Int)) = rec (s, o ++ quoteB (s.getD i 0), ((i + 1 : Nat) : Int)) := by
  obtain ⟨c, hc⟩ : ∃ c, s.getD i 0 = c := ⟨_, rfl⟩
  have hb := UInt8.toNat_lt c
  have e := slice1 s i hi
  rw [hc] at e
  have hq : ∀ n : Nat, n < 256 → c.toNat = n → c = UInt8.ofNat n := by intro n hn h; rw [← h]; simp
  have hn : ∀ n : Nat, n < 256 → ¬ c.toNat = n → ¬ c = UInt8.ofNat n := by rintro n hn h rfl; apply h; simp; omega
  have ti : ((i : Int) + 1).toNat = i + 1 := by omega
  simp only [B_ref1_Quote_0, Int.toNat_natCast, hc]
  by_cases h1 : c.toNat = 34
  · have := hq 34 (by omega) h1
    subst this
    simp (disch := omega) only [dt, df, it, iF, bt, bf, cond_true, cond_false, map_some', chk_t, Bool.and_true, Bool.true_and, Bool.and_false, Bool.false_and, Bool.or_true, Bool.true_or, Bool.or_false, Bool.false_or, Bool.not_true, Bool.not_false, if_true, if_false, beq_self_eq_true, wrap_i64_of, wrap_u64_of, wrap_i32_of, wrap_u32_of, wrap_u8_of, tdiv_of, tmod_of, Int.toNat_natCast, List.take_length, List.drop_zero, or_true, true_or, or_false, false_or, or_self, ti, e, List.length_append, List.length_cons, List.length_nil, List.append_assoc, List.cons_append, List.nil_append]
    rfl
  by_cases h2 : c.toNat = 92
  · have := hq 92 (by omega) h2
    subst this
    simp (disch := omega) only [dt, df, it, iF, bt, bf, cond_true, cond_false, map_some', chk_t, Bool.and_true, Bool.true_and, Bool.and_false, Bool.false_and, Bool.or_true, Bool.true_or, Bool.or_false, Bool.false_or, Bool.not_true, Bool.not_false, if_true, if_false, beq_self_eq_true, wrap_i64_of, wrap_u64_of, wrap_i32_of, wrap_u32_of, wrap_u8_of, tdiv_of, tmod_of, Int.toNat_natCast, List.take_length, List.drop_zero, or_true, true_or, or_false, false_or, or_self, ti, e, List.length_append, List.length_cons, List.length_nil, List.append_assoc, List.cons_append, List.nil_append]
    rfl
  by_cases h3 : c.toNat = 8
  · have := hq 8 (by omega) h3
    subst this
    simp (disch := omega) only [dt, df, it, iF, bt, bf, cond_true, cond_false, map_some', chk_t, Bool.and_true, Bool.true_and, Bool.and_false, Bool.false_and, Bool.or_true, Bool.true_or, Bool.or_false, Bool.false_or, Bool.not_true, Bool.not_false, if_true, if_false, beq_self_eq_true, wrap_i64_of, wrap_u64_of, wrap_i32_of, wrap_u32_of, wrap_u8_of, tdiv_of, tmod_of, Int.toNat_natCast, List.take_length, List.drop_zero, or_true, true_or, or_false, false_or, or_self, List.length_append, List.length_cons, List.length_nil]
    rfl
  by_cases h4 : c.toNat = 12
  · have := hq 12 (by omega) h4
    subst this
    simp (disch := omega) only [dt, df, it, iF, bt, bf, cond_true, cond_false, map_some', chk_t, Bool.and_true, Bool.true_and, Bool.and_false, Bool.false_and, Bool.or_true, Bool.true_or, Bool.or_false, Bool.false_or, Bool.not_true, Bool.not_false, if_true, if_false, beq_self_eq_true, wrap_i64_of, wrap_u64_of, wrap_i32_of, wrap_u32_of, wrap_u8_of, tdiv_of, tmod_of, Int.toNat_natCast, List.take_length, List.drop_zero, or_true, true_or, or_false, false_or, or_self, List.length_append, List.length_cons, List.length_nil]
    rfl
  by_cases h5 : c.toNat = 10
  · have := hq 10 (by omega) h5
    subst this
    simp (disch := omega) only [dt, df, it, iF, bt, bf, cond_true, cond_false, map_some', chk_t, Bool.and_true, Bool.true_and, Bool.and_false, Bool.false_and, Bool.or_true, Bool.true_or, Bool.or_false, Bool.false_or, Bool.not_true, Bool.not_false, if_true, if_false, beq_self_eq_true, wrap_i64_of, wrap_u64_of, wrap_i32_of, wrap_u32_of, wrap_u8_of, tdiv_of, tmod_of, Int.toNat_natCast, List.take_length, List.drop_zero, or_true, true_or, or_false, false_or, or_self, List.length_append, List.length_cons, List.length_nil]
    rfl
  by_cases h6 : c.toNat = 13
  · have := hq 13 (by omega) h6
    subst this
    simp (disch := omega) only [dt, df, it, iF, bt, bf, cond_true, cond_false, map_some', chk_t, Bool.and_true, Bool.true_and, Bool.and_false, Bool.false_and, Bool.or_true, Bool.true_or, Bool.or_false, Bool.false_or, Bool.not_true, Bool.not_false, if_true, if_false, beq_self_eq_true, wrap_i64_of, wrap_u64_of, wrap_i32_of, wrap_u32_of, wrap_u8_of, tdiv_of, tmod_of, Int.toNat_natCast, List.take_length, List.drop_zero, or_true, true_or, or_false, false_or, or_self, List.length_append, List.length_cons, List.length_nil]
    rfl
  by_cases h7 : c.toNat = 9
  · have := hq 9 (by omega) h7
    subst this
    simp (disch := omega) only [dt, df, it, iF, bt, bf, cond_true, cond_false, map_some', chk_t, Bool.and_true, Bool.true_and, Bool.and_false, Bool.false_and, Bool.or_true, Bool.true_or, Bool.or_false, Bool.false_or, Bool.not_true, Bool.not_false, if_true, if_false, beq_self_eq_true, wrap_i64_of, wrap_u64_of, wrap_i32_of, wrap_u32_of, wrap_u8_of, tdiv_of, tmod_of, Int.toNat_natCast, List.take_length, List.drop_zero, or_true, true_or, or_false, false_or, or_self, List.length_append, List.length_cons, List.length_nil]
    rfl
  have g1 : ¬ c = 34 := hn 34 (by omega) h1
  have g2 : ¬ c = 92 := hn 92 (by omega) h2
  have g3 : ¬ c = 8 := hn 8 (by omega) h3
  have g4 : ¬ c = 12 := hn 12 (by omega) h4
  have g5 : ¬ c = 10 := hn 10 (by omega) h5
  have g6 : ¬ c = 13 := hn 13 (by omega) h6
  have g7 : ¬ c = 9 := hn 9 (by omega) h7
  by_cases h8 : c.toNat < 32
  · have hx : ∀ d : Nat, d < 16 → [([48, 49, 50, 51, 52, 53, 54, 55, 56, 57, 97, 98, 99, 100, 101, 102] : List UInt8).getD d 0] = [hexD d] := by
      intro d hd
      have : ∀ d : Fin 16, [([48, 49, 50, 51, 52, 53, 54, 55, 56, 57, 97, 98, 99, 100, 101, 102] : List UInt8).getD d.val 0] = [hexD d.val] := by decide
      exact this ⟨d, hd⟩
    have e1 : Int.tdiv (c.toNat : Int) 16 = ((c.toNat / 16 : Nat) : Int) := tdiv_nat _ 16
    have e2 : Int.tmod (c.toNat : Int) 16 = ((c.toNat % 16 : Nat) : Int) := tmod_nat _ 16
    have s1 := slice1 [48, 49, 50, 51, 52, 53, 54, 55, 56, 57, 97, 98, 99, 100, 101, 102] (c.toNat / 16) (by simp; omega)
    have s2 := slice1 [48, 49, 50, 51, 52, 53, 54, 55, 56, 57, 97, 98, 99, 100, 101, 102] (c.toNat % 16) (by simp; omega)
    rw [hx _ (by omega)] at s1 s2
    have t1 : (((c.toNat / 16 : Nat) : Int) + 1).toNat = c.toNat / 16 + 1 := by omega
    have t2 : (((c.toNat % 16 : Nat) : Int) + 1).toNat = c.toNat % 16 + 1 := by omega
    have qe : quoteB c = [92, 117, 48, 48, hexD (c.toNat / 16), hexD (c.toNat % 16)] := by
      unfold quoteB
      rw [if_neg g1, if_neg g2, if_neg g3, if_neg g4, if_neg g5, if_neg g6, if_neg g7, if_pos h8]
    rw [qe]
    simp only [e1, e2]
    simp (disch := omega) only [dt, df, it, iF, bt, bf, cond_true, cond_false, map_some', chk_t, Bool.and_true, Bool.true_and, Bool.and_false, Bool.false_and, Bool.or_true, Bool.true_or, Bool.or_false, Bool.false_or, Bool.not_true, Bool.not_false, if_true, if_false, beq_self_eq_true, wrap_i64_of, wrap_u64_of, wrap_i32_of, wrap_u32_of, wrap_u8_of, tdiv_of, tmod_of, Int.toNat_natCast, List.take_length, List.drop_zero, or_true, true_or, or_false, false_or, or_self, t1, t2, s1, s2, List.length_append, List.length_cons, List.length_nil, List.append_assoc, List.cons_append, List.nil_append]
    rfl
  · have qe : quoteB c = [c] := by
      unfold quoteB
      rw [if_neg g1, if_neg g2, if_neg g3, if_neg g4, if_neg g5, if_neg g6, if_neg g7, if_neg h8]
    rw [qe]
    simp (disch := omega) only [dt, df, it, iF, bt, bf, cond_true, cond_false, map_some', chk_t, Bool.and_true, Bool.true_and, Bool.and_false, Bool.false_and, Bool.or_true, Bool.true_or, Bool.or_false, Bool.false_or, Bool.not_true, Bool.not_false, if_true, if_false, beq_self_eq_true, wrap_i64_of, wrap_u64_of, wrap_i32_of, wrap_u32_of, wrap_u8_of, tdiv_of, tmod_of, Int.toNat_natCast, List.take_length, List.drop_zero, or_true, true_or, or_false, false_or, or_self, ti, e, List.length_cons, List.length_nil]
    rfl

theorem rquote_loop (N : Nat) (s : List UInt8) (hs : s.length ≤ 1000) : ∀ (k M i : Nat) (o : List UInt8), i + k = s.length → o.length ≤ 1 + 6 * i →
    iterL (M + k + 1) (B_ref1_Quote_0 N) (s, o, (i : Int)) = some (.str (o ++ ((s.drop i).flatMap quoteB ++ [34])), [])
  | 0, M, i, o, hk, ho => by
    show B_ref1_Quote_0 N _ _ = _
    have e : i = s.length := by omega
    subst e
    simp only [B_ref1_Quote_0, List.drop_length, List.flatMap_nil, List.nil_append]
    simp (disch := omega) only [dt, df, it, iF, bt, bf, cond_true, cond_false, map_some', chk_t, Bool.and_true, Bool.true_and, Bool.and_false, Bool.false_and, Bool.or_true, Bool.true_or, Bool.or_false, Bool.false_or, Bool.not_true, Bool.not_false, if_true, if_false, beq_self_eq_true, wrap_i64_of, wrap_u64_of, wrap_i32_of, wrap_u32_of, wrap_u8_of, tdiv_of, tmod_of, Int.toNat_natCast, List.take_length, List.drop_zero, or_true, true_or, or_false, false_or, or_self, List.length_cons, List.length_nil]
  | k + 1, M, i, o, hk, ho => by
    show B_ref1_Quote_0 N (iterL (M + k + 1) (B_ref1_Quote_0 N)) _ = _
    have hq := quoteB_len (s.getD i 0)
    rw [rquote_round N _ s o i (by omega) (by omega) (by omega), rquote_loop N s hs k M (i + 1) _ (by omega) (by rw [List.length_append]; omega)]
    rw [List.drop_eq_getElem_cons (show i < s.length by omega), List.flatMap_cons]
    simp [List.getD, show i < s.length by omega]

theorem sh_ref1_Quote_eq (M : Nat) (s : List UInt8) (hs : s.length ≤ 1000) : sh_ref1_Quote (M + 1002) s = some (.str (quoteG s), []) := by
  have := rquote_loop (M + 1002) s hs s.length (M + 1001 - s.length) 0 [34] (by omega) (by simp)
  rw [show M + 1001 - s.length + s.length + 1 = M + 1002 by omega] at this
  exact this

theorem dig_lt (c : UInt8) (d : Nat) (h : digitN c.toNat = some d) : d < 16 := by
  have ht := all_bytes tab2 tab2_ok _ (UInt8.toNat_lt c)
  simp only [tab2, h, Bool.and_eq_true, decide_eq_true_eq] at ht
  exact ht.2

theorem runit_loop (N M : Nat) (s : List UInt8) (hs : 6 ≤ s.length) : ∀ (k v i : Nat), i + k = 6 → k ≤ 4 → v < 16 ^ (4 - k) →
    iterL (M + 1 + k) (B_ref1_unit_0 N) (s, (v : Int), (i : Int)) = some (match uopt k s v i with | some w => .tup [.int .u32 w, .bool true] | none => .tup [.int .u32 0, .bool false], [])
  | 0, v, i, hi, hk, hv => by
    show B_ref1_unit_0 N _ _ = _
    simp only [B_ref1_unit_0, uopt]
    simp (disch := omega) only [dt, df, it, iF, bt, bf, cond_true, cond_false, map_some', chk_t, Bool.and_true, Bool.true_and, Bool.and_false, Bool.false_and, Bool.or_true, Bool.true_or, Bool.or_false, Bool.false_or, Bool.not_true, Bool.not_false, if_true, if_false, beq_self_eq_true, wrap_i64_of, wrap_u64_of, wrap_i32_of, wrap_u32_of, wrap_u8_of, tdiv_of, tmod_of, Int.toNat_natCast, List.take_length, List.drop_zero, or_true, true_or, or_false, false_or, or_self, ]
  | k + 1, v, i, hi, hk, hv => by
    have h4 : 16 ^ (4 - (k + 1)) ≤ 4096 := by
      have : ∀ k : Fin 4, 16 ^ (4 - (k.val + 1)) ≤ 4096 := by decide
      exact this ⟨k, by omega⟩
    have h5 : 16 ^ (4 - k) = 16 ^ (4 - (k + 1)) * 16 := by rw [show 4 - k = (4 - (k + 1)) + 1 by omega, Nat.pow_succ]
    show B_ref1_unit_0 N (iterL (M + 1 + k) (B_ref1_unit_0 N)) _ = _
    simp only [B_ref1_unit_0, uopt, Int.toNat_natCast]
    rw [if_pos (show i < s.length by omega)]
    cases hd : digitN (s.getD i 0).toNat with
    | none =>
      have e : digitI ((s.getD i 0).toNat : Int) = -1 := by unfold digitI; rw [Int.toNat_natCast, hd]
      dsimp only
      simp only [e]
      simp (disch := omega) only [dt, df, it, iF, bt, bf, cond_true, cond_false, map_some', chk_t, Bool.and_true, Bool.true_and, Bool.and_false, Bool.false_and, Bool.or_true, Bool.true_or, Bool.or_false, Bool.false_or, Bool.not_true, Bool.not_false, if_true, if_false, beq_self_eq_true, wrap_i64_of, wrap_u64_of, wrap_i32_of, wrap_u32_of, wrap_u8_of, tdiv_of, tmod_of, Int.toNat_natCast, List.take_length, List.drop_zero, or_true, true_or, or_false, false_or, or_self, ]
    | some d =>
      have hd16 := dig_lt _ _ hd
      have e : digitI ((s.getD i 0).toNat : Int) = (d : Int) := by unfold digitI; rw [Int.toNat_natCast, hd]
      dsimp only
      simp only [e]
      simp (disch := omega) only [dt, df, it, iF, bt, bf, cond_true, cond_false, map_some', chk_t, Bool.and_true, Bool.true_and, Bool.and_false, Bool.false_and, Bool.or_true, Bool.true_or, Bool.or_false, Bool.false_or, Bool.not_true, Bool.not_false, if_true, if_false, beq_self_eq_true, wrap_i64_of, wrap_u64_of, wrap_i32_of, wrap_u32_of, wrap_u8_of, tdiv_of, tmod_of, Int.toNat_natCast, List.take_length, List.drop_zero, or_true, true_or, or_false, false_or, or_self, ]
      exact runit_loop N M s hs k (v * 16 + d) (i + 1) (by omega) (by omega) (by omega)

theorem sh_ref1_unit_eq (M : Nat) (s : List UInt8) (hs : s.length ≤ 9223372036854775807) : sh_ref1_unit (M + 5) s = some (.tup [.int .u32 (runitV s), .bool (runitB s)], []) := by
  have x92 : ∀ (x y : UInt8), (x = y) = (x.toNat = y.toNat) := fun x y => propext ⟨by rintro rfl; rfl, fun h => UInt8.toNat_inj.1 h⟩
  have goal : V.tup [.int .u32 (runitV s), .bool (runitB s)] = (match runitN s with | some w => .tup [.int .u32 w, .bool true] | none => .tup [.int .u32 0, .bool false]) := by
    unfold runitV runitB
    cases runitN s <;> rfl
  rw [goal]
  simp only [sh_ref1_unit, sa_ref1_unit, Int.toNat_zero, show Int.toNat 1 = 1 from rfl]
  by_cases h1 : s.length < 6
  · have : runitN s = none := by unfold runitN; rw [if_pos (.inl h1)]
    rw [this]
    simp (disch := omega) only [dt, df, it, iF, bt, bf, cond_true, cond_false, map_some', chk_t, Bool.and_true, Bool.true_and, Bool.and_false, Bool.false_and, Bool.or_true, Bool.true_or, Bool.or_false, Bool.false_or, Bool.not_true, Bool.not_false, if_true, if_false, beq_self_eq_true, wrap_i64_of, wrap_u64_of, wrap_i32_of, wrap_u32_of, wrap_u8_of, tdiv_of, tmod_of, Int.toNat_natCast, List.take_length, List.drop_zero, or_true, true_or, or_false, false_or, or_self, ]
  by_cases h2 : (s.getD 0 0).toNat = 92
  · by_cases h3 : (s.getD 1 0).toNat = 117
    · have e := runit_uopt s 0 (by omega) (UInt8.toNat_inj.1 h2) (UInt8.toNat_inj.1 h3)
      rw [List.drop_zero] at e
      rw [e]
      simp (disch := omega) only [dt, df, it, iF, bt, bf, cond_true, cond_false, map_some', chk_t, Bool.and_true, Bool.true_and, Bool.and_false, Bool.false_and, Bool.or_true, Bool.true_or, Bool.or_false, Bool.false_or, Bool.not_true, Bool.not_false, if_true, if_false, beq_self_eq_true, wrap_i64_of, wrap_u64_of, wrap_i32_of, wrap_u32_of, wrap_u8_of, tdiv_of, tmod_of, Int.toNat_natCast, List.take_length, List.drop_zero, or_true, true_or, or_false, false_or, or_self, h2, h3]
      exact runit_loop (M + 5) M s (by omega) 4 0 2 (by omega) (by omega) (by decide)
    · have : runitN s = none := by unfold runitN; rw [if_pos (.inr (.inr (by rw [x92]; exact h3)))]
      rw [this]
      simp (disch := omega) only [dt, df, it, iF, bt, bf, cond_true, cond_false, map_some', chk_t, Bool.and_true, Bool.true_and, Bool.and_false, Bool.false_and, Bool.or_true, Bool.true_or, Bool.or_false, Bool.false_or, Bool.not_true, Bool.not_false, if_true, if_false, beq_self_eq_true, wrap_i64_of, wrap_u64_of, wrap_i32_of, wrap_u32_of, wrap_u8_of, tdiv_of, tmod_of, Int.toNat_natCast, List.take_length, List.drop_zero, or_true, true_or, or_false, false_or, or_self, h2]
  · have : runitN s = none := by unfold runitN; rw [if_pos (.inr (.inl (by rw [x92]; exact h2)))]
    rw [this]
    simp (disch := omega) only [dt, df, it, iF, bt, bf, cond_true, cond_false, map_some', chk_t, Bool.and_true, Bool.true_and, Bool.and_false, Bool.false_and, Bool.or_true, Bool.true_or, Bool.or_false, Bool.false_or, Bool.not_true, Bool.not_false, if_true, if_false, beq_self_eq_true, wrap_i64_of, wrap_u64_of, wrap_i32_of, wrap_u32_of, wrap_u8_of, tdiv_of, tmod_of, Int.toNat_natCast, List.take_length, List.drop_zero, or_true, true_or, or_false, false_or, or_self, ]

def fromL : List UInt8 := [34, 92, 47, 98, 102, 110, 114, 116]
def toL : List UInt8 := [34, 92, 47, 8, 12, 10, 13, 9]

theorem esc_round (N : Nat) (rec : (List UInt8 × List UInt8 × List UInt8 × Int) → Option (V × List AObj)) (s : List UInt8) (j : Nat) (hj : j < 8) (hs : 2 ≤ s.length) :
    B_ref1_escape_0 N rec (s, fromL, toL, (j : Int)) = if (fromL.getD j 0).toNat = (s.getD 1 0).toNat then some (.tup [.str [toL.getD j 0], .int .i64 2], []) else rec (s, fromL, toL, ((j + 1 : Nat) : Int)) := by
  have l1 : fromL.length = 8 := rfl
  have l2 : toL.length = 8 := rfl
  have e := slice1 toL j (by omega)
  have ti : ((j : Int) + 1).toNat = j + 1 := by omega
  simp only [B_ref1_escape_0, Int.toNat_natCast, l1, l2, show Int.toNat 1 = 1 from rfl]
  by_cases h : (fromL.getD j 0).toNat = (s.getD 1 0).toNat
  · rw [if_pos h]
    simp (disch := omega) only [dt, df, it, iF, bt, bf, cond_true, cond_false, map_some', chk_t, Bool.and_true, Bool.true_and, Bool.and_false, Bool.false_and, Bool.or_true, Bool.true_or, Bool.or_false, Bool.false_or, Bool.not_true, Bool.not_false, if_true, if_false, beq_self_eq_true, wrap_i64_of, wrap_u64_of, wrap_i32_of, wrap_u32_of, wrap_u8_of, tdiv_of, tmod_of, Int.toNat_natCast, List.take_length, List.drop_zero, or_true, true_or, or_false, false_or, or_self, h, ti, e]
  · rw [if_neg h]
    simp (disch := omega) only [dt, df, it, iF, bt, bf, cond_true, cond_false, map_some', chk_t, Bool.and_true, Bool.true_and, Bool.and_false, Bool.false_and, Bool.or_true, Bool.true_or, Bool.or_false, Bool.false_or, Bool.not_true, Bool.not_false, if_true, if_false, beq_self_eq_true, wrap_i64_of, wrap_u64_of, wrap_i32_of, wrap_u32_of, wrap_u8_of, tdiv_of, tmod_of, Int.toNat_natCast, List.take_length, List.drop_zero, or_true, true_or, or_false, false_or, or_self, ]
    rfl

/-- an escape that is a unit, or two -/
def rescU (s : List UInt8) : Option (List UInt8 × Nat) :=
  match runitN s with
  | none => none
  | some a =>
    if 56320 ≤ a ∧ a ≤ 57343 then none
    else if a < 55296 ∨ 57343 < a then some (gly a, 6)
    else match runitN (s.drop 6) with
      | none => none
      | some b => if b < 56320 ∨ 57343 < b then none else some (gly (65536 + (a - 55296) * 1024 + (b - 56320)), 12)

def rescV (r : Option (List UInt8 × Nat)) : V := match r with
  | some p => .tup [.str p.1, .int .i64 p.2]
  | none => .tup [.str [], .int .i64 0]

theorem runit_len (s : List UInt8) (v : Nat) (h : runitN s = some v) : 6 ≤ s.length := by
  unfold runitN at h
  split at h
  · cases h
  · omega

set_option maxRecDepth 100000 in
theorem esc_end (N : Nat) (rec : (List UInt8 × List UInt8 × List UInt8 × Int) → Option (V × List AObj)) (s : List UInt8) : B_ref1_escape_0 N rec (s, fromL, toL, ((8 : Nat) : Int)) = some (rescV (rescU s), []) := by
  have l1 : fromL.length = 8 := rfl
  simp only [B_ref1_escape_0, l1, rescU]
  cases ha : runitN s with
  | none =>
    have e : runitB s = false := by unfold runitB; rw [ha]; rfl
    simp (disch := omega) only [dt, df, it, iF, bt, bf, cond_true, cond_false, map_some', chk_t, Bool.and_true, Bool.true_and, Bool.and_false, Bool.false_and, Bool.or_true, Bool.true_or, Bool.or_false, Bool.false_or, Bool.not_true, Bool.not_false, if_true, if_false, beq_self_eq_true, wrap_i64_of, wrap_u64_of, wrap_i32_of, wrap_u32_of, wrap_u8_of, tdiv_of, tmod_of, Int.toNat_natCast, List.take_length, List.drop_zero, or_true, true_or, or_false, false_or, or_self, e]
    rfl
  | some a =>
    have e : runitB s = true := by unfold runitB; rw [ha]; rfl
    have e2 : runitV s = (a : Int) := by unfold runitV; rw [ha]
    have hlt := runit_lt s a ha
    have hlen := runit_len s a ha
    have gl := gly_len a
    dsimp only
    simp only [e, e2, putG, Int.toNat_natCast, show Int.toNat 6 = 6 from rfl, List.take_length]
    by_cases g1 : 56320 ≤ a ∧ a ≤ 57343
    · rw [if_pos g1]
      simp (disch := omega) only [dt, df, it, iF, bt, bf, cond_true, cond_false, map_some', chk_t, Bool.and_true, Bool.true_and, Bool.and_false, Bool.false_and, Bool.or_true, Bool.true_or, Bool.or_false, Bool.false_or, Bool.not_true, Bool.not_false, if_true, if_false, beq_self_eq_true, wrap_i64_of, wrap_u64_of, wrap_i32_of, wrap_u32_of, wrap_u8_of, tdiv_of, tmod_of, Int.toNat_natCast, List.take_length, List.drop_zero, or_true, true_or, or_false, false_or, or_self, ]
      rfl
    rw [if_neg g1]
    by_cases g2 : a < 55296 ∨ 57343 < a
    · rw [if_pos g2]
      by_cases g3 : a < 55296
      · simp (disch := omega) only [dt, df, it, iF, bt, bf, cond_true, cond_false, map_some', chk_t, Bool.and_true, Bool.true_and, Bool.and_false, Bool.false_and, Bool.or_true, Bool.true_or, Bool.or_false, Bool.false_or, Bool.not_true, Bool.not_false, if_true, if_false, beq_self_eq_true, wrap_i64_of, wrap_u64_of, wrap_i32_of, wrap_u32_of, wrap_u8_of, tdiv_of, tmod_of, Int.toNat_natCast, List.take_length, List.drop_zero, or_true, true_or, or_false, false_or, or_self, ]
        rfl
      · simp (disch := omega) only [dt, df, it, iF, bt, bf, cond_true, cond_false, map_some', chk_t, Bool.and_true, Bool.true_and, Bool.and_false, Bool.false_and, Bool.or_true, Bool.true_or, Bool.or_false, Bool.false_or, Bool.not_true, Bool.not_false, if_true, if_false, beq_self_eq_true, wrap_i64_of, wrap_u64_of, wrap_i32_of, wrap_u32_of, wrap_u8_of, tdiv_of, tmod_of, Int.toNat_natCast, List.take_length, List.drop_zero, or_true, true_or, or_false, false_or, or_self, ]
        rfl
    rw [if_neg g2]
    cases hb : runitN (s.drop 6) with
    | none =>
      have f : runitB (s.drop 6) = false := by unfold runitB; rw [hb]; rfl
      simp (disch := omega) only [dt, df, it, iF, bt, bf, cond_true, cond_false, map_some', chk_t, Bool.and_true, Bool.true_and, Bool.and_false, Bool.false_and, Bool.or_true, Bool.true_or, Bool.or_false, Bool.false_or, Bool.not_true, Bool.not_false, if_true, if_false, beq_self_eq_true, wrap_i64_of, wrap_u64_of, wrap_i32_of, wrap_u32_of, wrap_u8_of, tdiv_of, tmod_of, Int.toNat_natCast, List.take_length, List.drop_zero, or_true, true_or, or_false, false_or, or_self, f]
      rfl
    | some b =>
      have f : runitB (s.drop 6) = true := by unfold runitB; rw [hb]; rfl
      have f2 : runitV (s.drop 6) = (b : Int) := by unfold runitV; rw [hb]
      have hlt2 := runit_lt _ b hb
      dsimp only
      simp only [f, f2]
      by_cases g4 : b < 56320 ∨ 57343 < b
      · rw [if_pos g4]
        by_cases g5 : b < 56320
        · simp (disch := omega) only [dt, df, it, iF, bt, bf, cond_true, cond_false, map_some', chk_t, Bool.and_true, Bool.true_and, Bool.and_false, Bool.false_and, Bool.or_true, Bool.true_or, Bool.or_false, Bool.false_or, Bool.not_true, Bool.not_false, if_true, if_false, beq_self_eq_true, wrap_i64_of, wrap_u64_of, wrap_i32_of, wrap_u32_of, wrap_u8_of, tdiv_of, tmod_of, Int.toNat_natCast, List.take_length, List.drop_zero, or_true, true_or, or_false, false_or, or_self, ]
          rfl
        · simp (disch := omega) only [dt, df, it, iF, bt, bf, cond_true, cond_false, map_some', chk_t, Bool.and_true, Bool.true_and, Bool.and_false, Bool.false_and, Bool.or_true, Bool.true_or, Bool.or_false, Bool.false_or, Bool.not_true, Bool.not_false, if_true, if_false, beq_self_eq_true, wrap_i64_of, wrap_u64_of, wrap_i32_of, wrap_u32_of, wrap_u8_of, tdiv_of, tmod_of, Int.toNat_natCast, List.take_length, List.drop_zero, or_true, true_or, or_false, false_or, or_self, ]
          rfl
      · rw [if_neg g4]
        simp (disch := omega) only [dt, df, it, iF, bt, bf, cond_true, cond_false, map_some', chk_t, Bool.and_true, Bool.true_and, Bool.and_false, Bool.false_and, Bool.or_true, Bool.true_or, Bool.or_false, Bool.false_or, Bool.not_true, Bool.not_false, if_true, if_false, beq_self_eq_true, wrap_i64_of, wrap_u64_of, wrap_i32_of, wrap_u32_of, wrap_u8_of, tdiv_of, tmod_of, Int.toNat_natCast, List.take_length, List.drop_zero, or_true, true_or, or_false, false_or, or_self, ]
        rw [show (65536 + ((a : Int) - 55296) * 1024 + (b : Int) - 56320).toNat = 65536 + (a - 55296) * 1024 + (b - 56320) by omega]
        simp only [rescV]
        try rfl

theorem rescV_eq (s : List UInt8) : V.tup [.str (rescT s), .int .i64 (rescN s)] = rescV (rescR s) := by
  unfold rescT rescN
  cases rescR s <;> rfl

theorem sh_ref1_escape_eq (M : Nat) (s : List UInt8) (hs : s.length ≤ 1000) : sh_ref1_escape (M + 9) s = some (.tup [.str (rescT s), .int .i64 (rescN s)], []) := by
  rw [rescV_eq]
  by_cases h1 : s.length < 2
  · have : rescR s = none := by unfold rescR; rw [if_pos h1]
    rw [this]
    simp only [sh_ref1_escape, sa_ref1_escape]
    simp (disch := omega) only [dt, df, it, iF, bt, bf, cond_true, cond_false, map_some', chk_t, Bool.and_true, Bool.true_and, Bool.and_false, Bool.false_and, Bool.or_true, Bool.true_or, Bool.or_false, Bool.false_or, Bool.not_true, Bool.not_false, if_true, if_false, beq_self_eq_true, wrap_i64_of, wrap_u64_of, wrap_i32_of, wrap_u32_of, wrap_u8_of, tdiv_of, tmod_of, Int.toNat_natCast, List.take_length, List.drop_zero, or_true, true_or, or_false, false_or, or_self, ]
    rfl
  · have e : sh_ref1_escape (M + 9) s = iterL (M + 9) (B_ref1_escape_0 (M + 9)) (s, fromL, toL, ((0 : Nat) : Int)) := by
      simp only [sh_ref1_escape, sa_ref1_escape]
      simp (disch := omega) only [dt, df, it, iF, bt, bf, cond_true, cond_false, map_some', chk_t, Bool.and_true, Bool.true_and, Bool.and_false, Bool.false_and, Bool.or_true, Bool.true_or, Bool.or_false, Bool.false_or, Bool.not_true, Bool.not_false, if_true, if_false, beq_self_eq_true, wrap_i64_of, wrap_u64_of, wrap_i32_of, wrap_u32_of, wrap_u8_of, tdiv_of, tmod_of, Int.toNat_natCast, List.take_length, List.drop_zero, or_true, true_or, or_false, false_or, or_self, ]
      rfl
    have hr : rescR s = match meantB (s.getD 1 0).toNat with | some c => some ([c], 2) | none => rescU s := by
      unfold rescR
      rw [if_neg h1]
      rfl
    rw [e, hr, iterL_succ, esc_round _ _ s 0 (by omega) (by omega), iterL_succ, esc_round _ _ s 1 (by omega) (by omega), iterL_succ, esc_round _ _ s 2 (by omega) (by omega), iterL_succ, esc_round _ _ s 3 (by omega) (by omega), iterL_succ, esc_round _ _ s 4 (by omega) (by omega), iterL_succ, esc_round _ _ s 5 (by omega) (by omega), iterL_succ, esc_round _ _ s 6 (by omega) (by omega), iterL_succ, esc_round _ _ s 7 (by omega) (by omega), iterL_succ, esc_end]
    generalize (s.getD 1 0).toNat = x
    by_cases a1 : x = 34
    · subst a1; rfl
    by_cases a2 : x = 92
    · subst a2; rfl
    by_cases a3 : x = 47
    · subst a3; rfl
    by_cases a4 : x = 98
    · subst a4; rfl
    by_cases a5 : x = 102
    · subst a5; rfl
    by_cases a6 : x = 110
    · subst a6; rfl
    by_cases a7 : x = 114
    · subst a7; rfl
    by_cases a8 : x = 116
    · subst a8; rfl
    have hm : meantB x = none := by
      unfold meantB
      rw [if_neg a1, if_neg a2, if_neg a4, if_neg a5, if_neg a6, if_neg a7, if_neg a8, if_neg a3]
    rw [hm, if_neg (show ¬ (fromL.getD 0 0).toNat = x from fun h => a1 h.symm), if_neg (show ¬ (fromL.getD 1 0).toNat = x from fun h => a2 h.symm), if_neg (show ¬ (fromL.getD 2 0).toNat = x from fun h => a3 h.symm), if_neg (show ¬ (fromL.getD 3 0).toNat = x from fun h => a4 h.symm), if_neg (show ¬ (fromL.getD 4 0).toNat = x from fun h => a5 h.symm), if_neg (show ¬ (fromL.getD 5 0).toNat = x from fun h => a6 h.symm), if_neg (show ¬ (fromL.getD 6 0).toNat = x from fun h => a7 h.symm), if_neg (show ¬ (fromL.getD 7 0).toNat = x from fun h => a8 h.symm)]
end Go.Proofs.Ytmiclamhiohemaa
