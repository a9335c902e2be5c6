/-
  The bytes of a text: what the code takes; bytes come back.
-/
import Derived.Test.YtmiclamhiohemaaDoorSxFour
import Derived.KernelRfl
namespace Go.Proofs.YtmiclamhiohemaaDoor
open Go.AM
set_option autoImplicit false
set_option linter.unusedSimpArgs false
set_option linter.unusedVariables false

theorem trim_prefix : ∀ (k : Nat) (s : List UInt8), ∃ n, n ≤ s.length ∧ trimN k s = s.take n
  | 0, s => ⟨s.length, Nat.le_refl _, by simp [trimN]⟩
  | k + 1, s => by
    simp only [trimN]
    split
    · obtain ⟨n, h1, h2⟩ := trim_prefix k (s.take (s.length - 1))
      rw [List.length_take] at h1
      exact ⟨n, by omega, by rw [h2, List.take_take, Nat.min_eq_left (by omega)]⟩
    · exact ⟨s.length, Nat.le_refl _, by simp⟩

theorem index_lt : ∀ (l : List UInt8) (c k : Nat), indexN l c = some k → k < l.length
  | [], c, k, h => by simp [indexN] at h
  | b :: l, c, k, h => by
    simp only [indexN] at h
    split at h
    · simp only [Option.some.injEq] at h; subst h; simp
    · simp only [Option.map_eq_some_iff] at h
      obtain ⟨j, hj, rfl⟩ := h
      have := index_lt l c j hj
      simp; omega

/-- what a taking gives -/
def takeV (t : List UInt8) (r : Option (List UInt8)) : V := match r with
  | none => .tup [.str [], .int .i64 2]
  | some o => if putS o = t then .tup [.str o, .int .i64 0] else .tup [.str [], .int .i64 2]

theorem takeV_eq (t : List UInt8) : V.tup [.str (takeT t), .int .i64 (takeE t)] = takeV t (decN (trimS t) 0 0 []) := by
  unfold takeT takeE takeR takeV
  cases decN (trimS t) 0 0 [] with
  | none => rfl
  | some o =>
    by_cases h : putS o = t
    · simp only [h, if_true]
    · simp only [h, if_false]

theorem take_loop (N : Nat) (t : List UInt8) (ht : t.length ≤ 1000) (L : Nat) (hL : L ≤ t.length) : ∀ (k M i v bits : Nat) (o : List UInt8), i + k = L → v < 65536 → bits < 8 → o.length ≤ i →
    iterL (M + k + 1) (B_sixty_Take_0 N) (t, o, (v : Int), (bits : Int), (L : Int), (i : Int)) = some (takeV t (decN ((t.take L).drop i) v bits o), [])
  | 0, M, i, v, bits, o, hi, hv, hb, ho => by
    have e : i = L := by omega
    subst e
    have e2 : (t.take i).drop i = [] := by apply List.drop_eq_nil_of_le; rw [List.length_take]; omega
    show B_sixty_Take_0 N _ _ = _
    simp only [B_sixty_Take_0, e2, decN, takeV]
    by_cases h : putS o = t
    · rw [if_pos h]
      simp (disch := omega) only [dt, df, it, iF, bt, bf, cond_true, cond_false, map_some', chk_t, Bool.and_true, Bool.true_and, Bool.and_false, Bool.false_and, Bool.or_true, Bool.true_or, Bool.or_false, Bool.false_or, Bool.not_true, Bool.not_false, if_true, if_false, beq_self_eq_true, wrap_i64_of, wrap_u64_of, wrap_i32_of, wrap_u32_of, wrap_u8_of, tdiv_of, tmod_of, Int.toNat_natCast, List.take_length, List.drop_zero, or_true, true_or, or_false, false_or, or_self, h, decide_true]
    · rw [if_neg h]
      have : decide (putS o = t) = false := decide_eq_false h
      simp (disch := omega) only [dt, df, it, iF, bt, bf, cond_true, cond_false, map_some', chk_t, Bool.and_true, Bool.true_and, Bool.and_false, Bool.false_and, Bool.or_true, Bool.true_or, Bool.or_false, Bool.false_or, Bool.not_true, Bool.not_false, if_true, if_false, beq_self_eq_true, wrap_i64_of, wrap_u64_of, wrap_i32_of, wrap_u32_of, wrap_u8_of, tdiv_of, tmod_of, Int.toNat_natCast, List.take_length, List.drop_zero, or_true, true_or, or_false, false_or, or_self, this]
  | k + 1, M, i, v, bits, o, hi, hv, hb, ho => by
    have hil : i < t.length := by omega
    have e2 : (t.take L).drop i = t.getD i 0 :: (t.take L).drop (i + 1) := by
      rw [List.drop_eq_getElem_cons (by rw [List.length_take]; omega)]
      simp [List.getD, hil]
    have hsg : ([65, 66, 67, 68, 69, 70, 71, 72, 73, 74, 75, 76, 77, 78, 79, 80, 81, 82, 83, 84, 85, 86, 87, 88, 89, 90, 97, 98, 99, 100, 101, 102, 103, 104, 105, 106, 107, 108, 109, 110, 111, 112, 113, 114, 115, 116, 117, 118, 119, 120, 121, 122, 48, 49, 50, 51, 52, 53, 54, 55, 56, 57, 43, 47] : List UInt8) = signs := rfl
    have hslen : signs.length = 64 := rfl
    show B_sixty_Take_0 N (iterL (M + k + 1) (B_sixty_Take_0 N)) _ = _
    simp only [B_sixty_Take_0, e2, decN, Int.toNat_natCast, hsg]
    cases hx : indexN signs (t.getD i 0).toNat with
    | none =>
      have ex : indexB signs ((t.getD i 0).toNat : Int) = -1 := by unfold indexB; rw [Int.toNat_natCast, hx]
      simp only [ex]
      simp (disch := omega) only [dt, df, it, iF, bt, bf, cond_true, cond_false, map_some', chk_t, Bool.and_true, Bool.true_and, Bool.and_false, Bool.false_and, Bool.or_true, Bool.true_or, Bool.or_false, Bool.false_or, Bool.not_true, Bool.not_false, if_true, if_false, beq_self_eq_true, wrap_i64_of, wrap_u64_of, wrap_i32_of, wrap_u32_of, wrap_u8_of, tdiv_of, tmod_of, Int.toNat_natCast, List.take_length, List.drop_zero, or_true, true_or, or_false, false_or, or_self, ]
      rfl
    | some d =>
      have hd := index_lt _ _ _ hx
      have ex : indexB signs ((t.getD i 0).toNat : Int) = (d : Int) := by unfold indexB; rw [Int.toNat_natCast, hx]
      have g1 : shlI .i64 (v : Int) 6 = ((v * 64 : Nat) : Int) := shl_i64 v 6 (by omega) (by omega)
      have g2 : bitsI .or .i64 ((v * 64 : Nat) : Int) (d : Int) = ((v * 64 + d : Nat) : Int) := by
        rw [or_i64 _ _ (by omega) (by omega)]
        have := or_add v d 6 (by omega)
        rw [show (2 : Nat) ^ 6 = 64 from rfl] at this
        rw [this]
      have g3 : bitsI .and .i64 ((v * 64 + d : Nat) : Int) 65535 = (((v * 64 + d) % 65536 : Nat) : Int) := and_i64_mod (v * 64 + d) 16 (by omega) (by omega)
      have g4 : IntKind.wrap .i64 ((bits : Int) + 6) = ((bits + 6 : Nat) : Int) := by rw [wrap_i64_of _ (by omega)]; rfl
      have hv' : (v * 64 + d) % 65536 < 65536 := Nat.mod_lt _ (by omega)
      simp only [ex, g1, g2, g3, g4]
      generalize (v * 64 + d) % 65536 = u at hv' ⊢
      by_cases h8 : 8 ≤ bits + 6
      · have g5 : IntKind.wrap .i64 (((bits + 6 : Nat) : Int) - 8) = ((bits + 6 - 8 : Nat) : Int) := by rw [wrap_i64_of _ (by omega)]; omega
        have g6 : shrI .i64 (u : Int) ((bits + 6 - 8 : Nat) : Int) = ((u / 2 ^ (bits + 6 - 8) : Nat) : Int) := shrI_nat .i64 u _ (by show bits + 6 - 8 ≤ 64; omega)
        have g7 : ∀ q : Nat, UInt8.ofNat (Int.toNat (IntKind.wrap .u8 (q : Int))) = UInt8.ofNat q := by
          intro q
          rw [wrap_u8]
          apply UInt8.toNat_inj.1
          rw [UInt8.toNat_ofNat', UInt8.toNat_ofNat']
          omega
        have ih := take_loop N t ht L hL k M (i + 1) u (bits + 6 - 8) (o ++ [UInt8.ofNat (u / 2 ^ (bits + 6 - 8))]) (by omega) hv' (by omega) (by simp; omega)
        rw [if_pos h8]
        simp only [g5, g6, g7]
        simp (disch := omega) only [dt, df, it, iF, bt, bf, cond_true, cond_false, map_some', chk_t, Bool.and_true, Bool.true_and, Bool.and_false, Bool.false_and, Bool.or_true, Bool.true_or, Bool.or_false, Bool.false_or, Bool.not_true, Bool.not_false, if_true, if_false, beq_self_eq_true, wrap_i64_of, wrap_u64_of, wrap_i32_of, wrap_u32_of, wrap_u8_of, tdiv_of, tmod_of, Int.toNat_natCast, List.take_length, List.drop_zero, or_true, true_or, or_false, false_or, or_self, List.length_cons, List.length_nil]
        exact ih
      · have ih := take_loop N t ht L hL k M (i + 1) u (bits + 6) o (by omega) hv' (by omega) (by omega)
        rw [if_neg h8]
        simp (disch := omega) only [dt, df, it, iF, bt, bf, cond_true, cond_false, map_some', chk_t, Bool.and_true, Bool.true_and, Bool.and_false, Bool.false_and, Bool.or_true, Bool.true_or, Bool.or_false, Bool.false_or, Bool.not_true, Bool.not_false, if_true, if_false, beq_self_eq_true, wrap_i64_of, wrap_u64_of, wrap_i32_of, wrap_u32_of, wrap_u8_of, tdiv_of, tmod_of, Int.toNat_natCast, List.take_length, List.drop_zero, or_true, true_or, or_false, false_or, or_self, ]
        exact ih

theorem sh_sixty_Take_eq (t : List UInt8) (ht : t.length ≤ 1000) : sh_sixty_Take 1001 t = some (.tup [.str (takeT t), .int .i64 (takeE t)], []) := by
  obtain ⟨n, hn, he⟩ := trim_prefix t.length t
  have hl : (trimS t).length = n := by unfold trimS; rw [he, List.length_take]; omega
  have hp : t.take n = trimS t := he.symm
  have := take_loop 1001 t ht n hn n (1000 - n) 0 0 0 [] (by omega) (by omega) (by omega) (by simp)
  rw [show 1000 - n + n + 1 = 1001 by omega, List.drop_zero, hp, ← takeV_eq] at this
  simp only [sh_sixty_Take, sa_sixty_Take, hl]
  simp (disch := omega) only [dt, df, it, iF, bt, bf, cond_true, cond_false, map_some', chk_t, Bool.and_true, Bool.true_and, Bool.and_false, Bool.false_and, Bool.or_true, Bool.true_or, Bool.or_false, Bool.false_or, Bool.not_true, Bool.not_false, if_true, if_false, beq_self_eq_true, wrap_i64_of, wrap_u64_of, wrap_i32_of, wrap_u32_of, wrap_u8_of, tdiv_of, tmod_of, Int.toNat_natCast, List.take_length, List.drop_zero, or_true, true_or, or_false, false_or, or_self, decide_true]
  exact this

/-- the signs of bytes, and what fills up behind -/
def coreS : List UInt8 → List UInt8
  | [] => []
  | [a] => [sgn (a.toNat / 4), sgn (a.toNat % 4 * 16)]
  | [a, b] => [sgn (a.toNat / 4), sgn (a.toNat % 4 * 16 + b.toNat / 16), sgn (b.toNat % 16 * 4)]
  | a :: b :: c :: t => fourS [a, b, c] ++ coreS t
def padS : List UInt8 → Nat
  | [] => 0
  | [_] => 2
  | [_, _] => 1
  | _ :: _ :: _ :: t => padS t

theorem put_core : ∀ s : List UInt8, putS s = coreS s ++ List.replicate (padS s) 61
  | [] => rfl
  | [a] => rfl
  | [a, b] => rfl
  | a :: b :: c :: t => by
    simp only [putS, coreS, padS, put_core t, List.append_assoc]

theorem put_length : ∀ s : List UInt8, (putS s).length = (s.length + 2) / 3 * 4
  | [] => rfl
  | [a] => by simp [putS, four_len]
  | [a, b] => by simp [putS, four_len]
  | a :: b :: c :: t => by
    simp only [putS, List.length_append, put_length t, List.length_cons, four_len]
    omega

theorem sgn_ne (d : Nat) (h : d < 64) : sgn d ≠ 61 ∧ indexN signs (sgn d).toNat = some d := by
  have : (List.range 64).all (fun d => decide (sgn d ≠ 61 ∧ indexN signs (sgn d).toNat = some d)) = true := by kernel_rfl
  exact of_decide_eq_true (List.all_eq_true.1 this d (List.mem_range.2 h))

theorem core_ne : ∀ (s : List UInt8), ∀ x ∈ coreS s, x ≠ 61
  | [], x, h => by simp [coreS] at h
  | [a], x, h => by
    have ha := a.toNat_lt
    simp only [coreS, List.mem_cons, List.not_mem_nil, or_false] at h
    rcases h with rfl | rfl
    · exact (sgn_ne _ (by omega)).1
    · exact (sgn_ne _ (by omega)).1
  | [a, b], x, h => by
    have ha := a.toNat_lt
    have hb := b.toNat_lt
    simp only [coreS, List.mem_cons, List.not_mem_nil, or_false] at h
    rcases h with rfl | rfl | rfl
    · exact (sgn_ne _ (by omega)).1
    · exact (sgn_ne _ (by omega)).1
    · exact (sgn_ne _ (by omega)).1
  | a :: b :: c :: t, x, h => by
    have ha := a.toNat_lt
    have hb := b.toNat_lt
    have hc := c.toNat_lt
    simp only [coreS, fourS, List.mem_append, List.mem_cons, List.not_mem_nil, or_false] at h
    rcases h with (rfl | rfl | rfl | rfl) | h
    · exact (sgn_ne _ (by omega)).1
    · exact (sgn_ne _ (by omega)).1
    · exact (sgn_ne _ (by omega)).1
    · exact (sgn_ne _ (by omega)).1
    · exact core_ne t x h

theorem trim_core (l : List UInt8) (hl : ∀ x ∈ l, x ≠ 61) : ∀ k : Nat, trimN k l = l
  | 0 => rfl
  | k + 1 => by
    simp only [trimN]
    rw [if_neg]
    rintro ⟨h1, h2⟩
    refine hl (l.getD (l.length - 1) 0) ?_ h2
    simp [List.getD, show l.length - 1 < l.length by omega]

theorem trim_pad (l : List UInt8) (hl : ∀ x ∈ l, x ≠ 61) : ∀ n k : Nat, n ≤ k → trimN k (l ++ List.replicate n 61) = l
  | 0, k, h => by simpa using trim_core l hl k
  | n + 1, 0, h => by omega
  | n + 1, k + 1, h => by
    have hlen : (l ++ List.replicate (n + 1) (61 : UInt8)).length = l.length + n + 1 := by simp; omega
    simp only [trimN]
    rw [if_pos]
    · rw [hlen, show l.length + n + 1 - 1 = l.length + n by omega]
      have : (l ++ List.replicate (n + 1) (61 : UInt8)).take (l.length + n) = l ++ List.replicate n 61 := by
        rw [List.take_append, List.take_of_length_le (by omega)]
        simp
      rw [this]
      exact trim_pad l hl n k (by omega)
    · rw [hlen]
      refine ⟨by omega, ?_⟩
      simp only [List.getD]
      rw [List.getElem?_append_right (by omega)]
      simp [List.getElem?_replicate]

theorem byte_of (x : Nat) (a : UInt8) (h : x % 256 = a.toNat) : UInt8.ofNat x = a := by
  apply UInt8.toNat_inj.1
  rw [UInt8.toNat_ofNat']
  exact h

theorem dec_core : ∀ (s : List UInt8) (v : Nat) (o : List UInt8), decN (coreS s) v 0 o = some (o ++ s)
  | [], v, o => by simp [coreS, decN]
  | [a], v, o => by
    have ha := a.toNat_lt
    have i1 := (sgn_ne (a.toNat / 4) (by omega)).2
    have i2 := (sgn_ne (a.toNat % 4 * 16) (by omega)).2
    simp only [coreS, decN, i1, i2]
    simp only [Nat.zero_add, show ¬ 8 ≤ 6 by omega, show 8 ≤ 6 + 6 by omega, if_true, if_false]
    rw [byte_of _ a (by omega)]
  | [a, b], v, o => by
    have ha := a.toNat_lt
    have hb := b.toNat_lt
    have i1 := (sgn_ne (a.toNat / 4) (by omega)).2
    have i2 := (sgn_ne (a.toNat % 4 * 16 + b.toNat / 16) (by omega)).2
    have i3 := (sgn_ne (b.toNat % 16 * 4) (by omega)).2
    simp only [coreS, decN, i1, i2, i3]
    simp only [Nat.zero_add, show ¬ 8 ≤ 6 by omega, show 8 ≤ 6 + 6 by omega, show 6 + 6 - 8 = 4 by omega, show 8 ≤ 4 + 6 by omega, show 4 + 6 - 8 = 2 by omega, if_true, if_false]
    rw [byte_of _ a (by omega), byte_of _ b (by omega)]
    simp
  | a :: b :: c :: t, v, o => by
    have ha := a.toNat_lt
    have hb := b.toNat_lt
    have hc := c.toNat_lt
    have i1 := (sgn_ne (a.toNat / 4) (by omega)).2
    have i2 := (sgn_ne (a.toNat % 4 * 16 + b.toNat / 16) (by omega)).2
    have i3 := (sgn_ne (b.toNat % 16 * 4 + c.toNat / 64) (by omega)).2
    have i4 := (sgn_ne (c.toNat % 64) (by omega)).2
    simp only [coreS, fourS, List.cons_append, List.nil_append, decN, i1, i2, i3, i4]
    simp only [Nat.zero_add, show ¬ 8 ≤ 6 by omega, show 8 ≤ 6 + 6 by omega, show 6 + 6 - 8 = 4 by omega, show 8 ≤ 4 + 6 by omega, show 4 + 6 - 8 = 2 by omega, show 8 ≤ 2 + 6 by omega, show 2 + 6 - 8 = 0 by omega, if_true, if_false]
    rw [byte_of _ a (by omega), byte_of _ b (by omega), byte_of _ c (by omega), dec_core t]
    simp

theorem take_put (s : List UInt8) : takeR (putS s) = some s := by
  have hp : padS s ≤ (putS s).length := by rw [put_core]; simp
  have ht : trimS (putS s) = coreS s := by
    unfold trimS
    conv => lhs; arg 2; rw [put_core]
    exact trim_pad _ (core_ne s) _ _ hp
  unfold takeR
  rw [ht, dec_core]
  simp

theorem take_some (t o : List UInt8) (h : takeR t = some o) : putS o = t := by
  unfold takeR at h
  split at h
  · cases h
  · split at h
    · rename_i h1
      simp only [Option.some.injEq] at h
      subst h
      exact h1
    · cases h
end Go.Proofs.YtmiclamhiohemaaDoor
