/-
  The document's own answer: bytes as a text, and back.
-/
import Derived.Test.YtmiclamhiohemaaDoorSxTake
import Derived.Test.YtmiclamhiohemaaDoorSxCode3
namespace Go.Proofs.YtmiclamhiohemaaDoor
open Go.AM
set_option autoImplicit false
set_option linter.unusedSimpArgs false
set_option linter.unusedVariables false

abbrev Q2 := List UInt8 × List UInt8 × Int × Int × Int × List UInt8
abbrev Q1 := List UInt8 × List UInt8 × Int × List UInt8
abbrev Q0 := List UInt8 × List UInt8

theorem slice1 (l : List UInt8) (i : Nat) (h : i < l.length) : List.drop i (List.take (i + 1) l) = [l.getD i 0] := by
  rw [List.drop_take, show i + 1 - i = 1 by omega, List.drop_eq_getElem_cons h, List.take_succ_cons, List.take_zero]
  simp [List.getD, h]

theorem six_fill (N : Nat) (again0 : Q0 → Option (V × List AObj)) (again1 : Q1 → Option (V × List AObj)) (q2 : Q2 → Option (V × List AObj)) (s out o : List UInt8) (i : Nat) (hi : i < 3) (hl : i < s.length) (hs : s.length ≤ 1000) (ho : o.length = 3) :
    BA_ref1_Sixty_1 N again0 again1 q2 (s, out, (i : Int), o) = again1 (s, out, ((i + 1 : Nat) : Int), o.set i (s.getD i 0)) := by
  have e : UInt8.ofNat (s.getD i 0).toNat = s.getD i 0 := by simp
  simp only [BA_ref1_Sixty_1, Int.toNat_natCast, Nat.zero_add, e]
  simp (disch := omega) only [dt, df, it, iF, bt, bf, cond_true, cond_false, map_some', chk_t, Bool.and_true, Bool.true_and, Bool.and_false, Bool.false_and, Bool.or_true, Bool.true_or, Bool.or_false, Bool.false_or, Bool.not_true, Bool.not_false, if_true, if_false, beq_self_eq_true, wrap_i64_of, wrap_u64_of, wrap_i32_of, wrap_u32_of, wrap_u8_of, tdiv_of, tmod_of, Int.toNat_natCast, List.take_length, List.drop_zero, or_true, true_or, or_false, false_or, or_self, ]
  rfl

theorem six_full (N : Nat) (again0 : Q0 → Option (V × List AObj)) (again1 : Q1 → Option (V × List AObj)) (q2 : Q2 → Option (V × List AObj)) (s out : List UInt8) (x y z : UInt8) (i : Nat) (hi : i = 3 ∨ i = s.length ∧ i < 3) :
    BA_ref1_Sixty_1 N again0 again1 q2 (s, out, (i : Int), [x, y, z]) = q2 (s, out, (i : Int), ((x.toNat * 65536 + y.toNat * 256 + z.toNat : Nat) : Int), ((0 : Nat) : Int), [x, y, z]) := by
  have hx := x.toNat_lt
  have hy := y.toNat_lt
  have hz := z.toNat_lt
  have w : ∀ u : UInt8, IntKind.wrap .i64 (u.toNat : Int) = (u.toNat : Int) := fun u => wrap_i64_of _ (by have := u.toNat_lt; omega)
  have e : IntKind.wrap .i64 (IntKind.wrap .i64 (IntKind.wrap .i64 ((x.toNat : Int) * 65536) + IntKind.wrap .i64 ((y.toNat : Int) * 256)) + (z.toNat : Int)) = ((x.toNat * 65536 + y.toNat * 256 + z.toNat : Nat) : Int) := by
    rw [wrap_i64_of ((x.toNat : Int) * 65536) (by omega), wrap_i64_of ((y.toNat : Int) * 256) (by omega), wrap_i64_of ((x.toNat : Int) * 65536 + (y.toNat : Int) * 256) (by omega), wrap_i64_of _ (by omega)]
    omega
  have g0 : ([x, y, z] : List UInt8).getD 0 0 = x := rfl
  have g1 : ([x, y, z] : List UInt8).getD 1 0 = y := rfl
  have g2 : ([x, y, z] : List UInt8).getD 2 0 = z := rfl
  have t0 : Int.toNat 0 = 0 := rfl
  have t1 : Int.toNat 1 = 1 := rfl
  have t2 : Int.toNat 2 = 2 := rfl
  simp only [BA_ref1_Sixty_1, Nat.zero_add, t0, t1, t2, g0, g1, g2, w, e]
  rcases hi with rfl | ⟨rfl, h3⟩
  · simp (disch := omega) only [dt, df, it, iF, bt, bf, cond_true, cond_false, map_some', chk_t, Bool.and_true, Bool.true_and, Bool.and_false, Bool.false_and, Bool.or_true, Bool.true_or, Bool.or_false, Bool.false_or, Bool.not_true, Bool.not_false, if_true, if_false, beq_self_eq_true, wrap_i64_of, wrap_u64_of, wrap_i32_of, wrap_u32_of, wrap_u8_of, tdiv_of, tmod_of, Int.toNat_natCast, List.take_length, List.drop_zero, or_true, true_or, or_false, false_or, or_self, List.length_cons, List.length_nil]
    rfl
  · simp (disch := omega) only [dt, df, it, iF, bt, bf, cond_true, cond_false, map_some', chk_t, Bool.and_true, Bool.true_and, Bool.and_false, Bool.false_and, Bool.or_true, Bool.true_or, Bool.or_false, Bool.false_or, Bool.not_true, Bool.not_false, if_true, if_false, beq_self_eq_true, wrap_i64_of, wrap_u64_of, wrap_i32_of, wrap_u32_of, wrap_u8_of, tdiv_of, tmod_of, Int.toNat_natCast, List.take_length, List.drop_zero, or_true, true_or, or_false, false_or, or_self, List.length_cons, List.length_nil]
    rfl

theorem six_sign (N : Nat) (again0 : Q0 → Option (V × List AObj)) (again2 : Q2 → Option (V × List AObj)) (s out o : List UInt8) (n v k : Nat) (hk : k < 4) (hn : k ≤ n) (hn3 : n ≤ 3) (hv : v < 2 ^ 50) (hout : out.length ≤ 100000) :
    B_ref1_Sixty_2 N again0 again2 (s, out, (n : Int), (v : Int), (k : Int), o) = again2 (s, out ++ [sgn (v / 262144 % 64)], (n : Int), ((v * 64 : Nat) : Int), ((k + 1 : Nat) : Int), o) := by
  have hsg : ([65, 66, 67, 68, 69, 70, 71, 72, 73, 74, 75, 76, 77, 78, 79, 80, 81, 82, 83, 84, 85, 86, 87, 88, 89, 90, 97, 98, 99, 100, 101, 102, 103, 104, 105, 106, 107, 108, 109, 110, 111, 112, 113, 114, 115, 116, 117, 118, 119, 120, 121, 122, 48, 49, 50, 51, 52, 53, 54, 55, 56, 57, 43, 47] : List UInt8) = signs := rfl
  have hslen : signs.length = 64 := rfl
  have e1 : Int.tdiv (v : Int) 262144 = ((v / 262144 : Nat) : Int) := tdiv_nat _ 262144
  have e2 : IntKind.wrap .i64 ((v / 262144 : Nat) : Int) = ((v / 262144 : Nat) : Int) := wrap_i64_of _ (by omega)
  have e3 : Int.tmod ((v / 262144 : Nat) : Int) 64 = ((v / 262144 % 64 : Nat) : Int) := tmod_nat _ 64
  have e4 : IntKind.wrap .i64 ((v : Int) * 64) = ((v * 64 : Nat) : Int) := by rw [wrap_i64_of _ (by omega)]; omega
  have hd : v / 262144 % 64 < 64 := Nat.mod_lt _ (by omega)
  simp only [B_ref1_Sixty_2, e1, e2, e3, e4, hsg]
  generalize v / 262144 % 64 = d at hd ⊢
  have sl := slice1 signs d (by omega)
  have td : ((d : Int) + 1).toNat = d + 1 := by omega
  have e5 : IntKind.wrap .i64 ((d : Int) + 1) = (d : Int) + 1 := wrap_i64_of _ (by omega)
  simp only [e5, td, Int.toNat_natCast, sl]
  simp (disch := omega) only [dt, df, it, iF, bt, bf, cond_true, cond_false, map_some', chk_t, Bool.and_true, Bool.true_and, Bool.and_false, Bool.false_and, Bool.or_true, Bool.true_or, Bool.or_false, Bool.false_or, Bool.not_true, Bool.not_false, if_true, if_false, beq_self_eq_true, wrap_i64_of, wrap_u64_of, wrap_i32_of, wrap_u32_of, wrap_u8_of, tdiv_of, tmod_of, Int.toNat_natCast, List.take_length, List.drop_zero, or_true, true_or, or_false, false_or, or_self, hslen, List.length_cons, List.length_nil]
  rfl

theorem six_pad (N : Nat) (again0 : Q0 → Option (V × List AObj)) (again2 : Q2 → Option (V × List AObj)) (s out o : List UInt8) (n k : Nat) (v : Int) (hk : k < 4) (hn : n < k) (hout : out.length ≤ 100000) :
    B_ref1_Sixty_2 N again0 again2 (s, out, (n : Int), v, (k : Int), o) = again2 (s, out ++ [61], (n : Int), v, ((k + 1 : Nat) : Int), o) := by
  simp only [B_ref1_Sixty_2]
  simp (disch := omega) only [dt, df, it, iF, bt, bf, cond_true, cond_false, map_some', chk_t, Bool.and_true, Bool.true_and, Bool.and_false, Bool.false_and, Bool.or_true, Bool.true_or, Bool.or_false, Bool.false_or, Bool.not_true, Bool.not_false, if_true, if_false, beq_self_eq_true, wrap_i64_of, wrap_u64_of, wrap_i32_of, wrap_u32_of, wrap_u8_of, tdiv_of, tmod_of, Int.toNat_natCast, List.take_length, List.drop_zero, or_true, true_or, or_false, false_or, or_self, List.length_cons, List.length_nil]
  rfl

theorem six_next (N : Nat) (again0 : Q0 → Option (V × List AObj)) (again2 : Q2 → Option (V × List AObj)) (s out o : List UInt8) (n : Nat) (v : Int) (hn : n ≤ s.length) (hs : s.length ≤ 1000) :
    B_ref1_Sixty_2 N again0 again2 (s, out, (n : Int), v, ((4 : Nat) : Int), o) = again0 (s.drop n, out) := by
  simp only [B_ref1_Sixty_2, Int.toNat_natCast]
  simp (disch := omega) only [dt, df, it, iF, bt, bf, cond_true, cond_false, map_some', chk_t, Bool.and_true, Bool.true_and, Bool.and_false, Bool.false_and, Bool.or_true, Bool.true_or, Bool.or_false, Bool.false_or, Bool.not_true, Bool.not_false, if_true, if_false, beq_self_eq_true, wrap_i64_of, wrap_u64_of, wrap_i32_of, wrap_u32_of, wrap_u8_of, tdiv_of, tmod_of, Int.toNat_natCast, List.take_length, List.drop_zero, or_true, true_or, or_false, false_or, or_self, ]

theorem six_chunk (M : Nat) (again0 : Q0 → Option (V × List AObj)) (s out : List UInt8) (hs : s ≠ []) (hl : s.length ≤ 1000) (hout : out.length ≤ 90000) :
    BA_ref1_Sixty_0 (M + 6) again0 (fun z => iterL (M + 6) (B_ref1_Sixty_1 (M + 6) again0) z) (s, out) = again0 (s.drop 3, out ++ fourS (s.take 3)) := by
  have hpos : 0 < s.length := List.length_pos_iff.2 hs
  have fill : ∀ (K : Nat) (o : List UInt8) (i : Nat), i < 3 → i < s.length → o.length = 3 → iterL (K + 1) (B_ref1_Sixty_1 (M + 6) again0) (s, out, (i : Int), o) = iterL K (B_ref1_Sixty_1 (M + 6) again0) (s, out, ((i + 1 : Nat) : Int), o.set i (s.getD i 0)) :=
    fun K o i h1 h2 h3 => six_fill (M + 6) again0 (iterL K (B_ref1_Sixty_1 (M + 6) again0)) _ s out o i h1 h2 hl h3
  have full : ∀ (K : Nat) (x y z : UInt8) (i : Nat), (i = 3 ∨ i = s.length ∧ i < 3) → iterL (K + 1) (B_ref1_Sixty_1 (M + 6) again0) (s, out, (i : Int), [x, y, z]) = iterL (M + 6) (B_ref1_Sixty_2 (M + 6) again0) (s, out, (i : Int), ((x.toNat * 65536 + y.toNat * 256 + z.toNat : Nat) : Int), ((0 : Nat) : Int), [x, y, z]) :=
    fun K x y z i h => six_full (M + 6) again0 (iterL K (B_ref1_Sixty_1 (M + 6) again0)) (fun z => iterL (M + 6) (B_ref1_Sixty_2 (M + 6) again0) z) s out x y z i h
  have sign : ∀ (K : Nat) (t o : List UInt8) (n v k : Nat), k < 4 → k ≤ n → n ≤ 3 → v < 2 ^ 50 → t.length ≤ 100000 → iterL (K + 1) (B_ref1_Sixty_2 (M + 6) again0) (s, t, (n : Int), (v : Int), (k : Int), o) = iterL K (B_ref1_Sixty_2 (M + 6) again0) (s, t ++ [sgn (v / 262144 % 64)], (n : Int), ((v * 64 : Nat) : Int), ((k + 1 : Nat) : Int), o) :=
    fun K t o n v k h1 h2 h3 h4 h5 => six_sign (M + 6) again0 _ s t o n v k h1 h2 h3 h4 h5
  have pad : ∀ (K : Nat) (t o : List UInt8) (n k : Nat) (v : Int), k < 4 → n < k → t.length ≤ 100000 → iterL (K + 1) (B_ref1_Sixty_2 (M + 6) again0) (s, t, (n : Int), v, (k : Int), o) = iterL K (B_ref1_Sixty_2 (M + 6) again0) (s, t ++ [61], (n : Int), v, ((k + 1 : Nat) : Int), o) :=
    fun K t o n k v h1 h2 h3 => six_pad (M + 6) again0 _ s t o n k v h1 h2 h3
  have next : ∀ (K : Nat) (t o : List UInt8) (n : Nat) (v : Int), n ≤ s.length → iterL (K + 1) (B_ref1_Sixty_2 (M + 6) again0) (s, t, (n : Int), v, ((4 : Nat) : Int), o) = again0 (s.drop n, t) :=
    fun K t o n v h => six_next (M + 6) again0 _ s t o n v h hl
  have start : BA_ref1_Sixty_0 (M + 6) again0 (fun z => iterL (M + 6) (B_ref1_Sixty_1 (M + 6) again0) z) (s, out) = iterL (M + 6) (B_ref1_Sixty_1 (M + 6) again0) (s, out, ((0 : Nat) : Int), [0, 0, 0]) := by
    simp only [BA_ref1_Sixty_0]
    simp (disch := omega) only [dt, df, it, iF, bt, bf, cond_true, cond_false, map_some', chk_t, Bool.and_true, Bool.true_and, Bool.and_false, Bool.false_and, Bool.or_true, Bool.true_or, Bool.or_false, Bool.false_or, Bool.not_true, Bool.not_false, if_true, if_false, beq_self_eq_true, wrap_i64_of, wrap_u64_of, wrap_i32_of, wrap_u32_of, wrap_u8_of, tdiv_of, tmod_of, Int.toNat_natCast, List.take_length, List.drop_zero, or_true, true_or, or_false, false_or, or_self, ]
    rfl
  rw [start]
  match s, hs, hl, hpos, fill, full, sign, pad, next with
  | [a], hs, hl, hpos, fill, full, sign, pad, next =>
    have ha := a.toNat_lt
    rw [fill (M + 5) _ 0 (by omega) (by simp) rfl]
    refine (full (M + 4) a 0 0 1 (.inr ⟨rfl, by omega⟩)).trans ?_
    rw [show a.toNat * 65536 + (0 : UInt8).toNat * 256 + (0 : UInt8).toNat = a.toNat * 65536 by simp]
    rw [sign (M + 5) _ _ 1 _ 0 (by omega) (by omega) (by omega) (by omega) (by omega), sign (M + 4) _ _ 1 _ 1 (by omega) (by omega) (by omega) (by omega) (by simp; omega), pad (M + 3) _ _ 1 2 _ (by omega) (by omega) (by simp; omega), pad (M + 2) _ _ 1 3 _ (by omega) (by omega) (by simp; omega), next (M + 1) _ _ 1 _ (by simp)]
    rw [show a.toNat * 65536 / 262144 % 64 = a.toNat / 4 by omega, show a.toNat * 65536 * 64 / 262144 % 64 = a.toNat % 4 * 16 by omega]
    simp [fourS]
  | [a, b], hs, hl, hpos, fill, full, sign, pad, next =>
    have ha := a.toNat_lt
    have hb := b.toNat_lt
    rw [fill (M + 5) _ 0 (by omega) (by simp) rfl, fill (M + 4) _ 1 (by omega) (by simp) rfl]
    refine (full (M + 3) a b 0 2 (.inr ⟨rfl, by omega⟩)).trans ?_
    rw [show a.toNat * 65536 + b.toNat * 256 + (0 : UInt8).toNat = a.toNat * 65536 + b.toNat * 256 by simp]
    rw [sign (M + 5) _ _ 2 _ 0 (by omega) (by omega) (by omega) (by omega) (by omega), sign (M + 4) _ _ 2 _ 1 (by omega) (by omega) (by omega) (by omega) (by simp; omega), sign (M + 3) _ _ 2 _ 2 (by omega) (by omega) (by omega) (by omega) (by simp; omega), pad (M + 2) _ _ 2 3 _ (by omega) (by omega) (by simp; omega), next (M + 1) _ _ 2 _ (by simp)]
    rw [show (a.toNat * 65536 + b.toNat * 256) / 262144 % 64 = a.toNat / 4 by omega, show (a.toNat * 65536 + b.toNat * 256) * 64 / 262144 % 64 = a.toNat % 4 * 16 + b.toNat / 16 by omega, show (a.toNat * 65536 + b.toNat * 256) * 64 * 64 / 262144 % 64 = b.toNat % 16 * 4 by omega]
    simp [fourS]
  | a :: b :: c :: t, hs, hl, hpos, fill, full, sign, pad, next =>
    have ha := a.toNat_lt
    have hb := b.toNat_lt
    have hc := c.toNat_lt
    rw [fill (M + 5) _ 0 (by omega) (by simp) rfl, fill (M + 4) _ 1 (by omega) (by simp) rfl, fill (M + 3) _ 2 (by omega) (by simp) rfl]
    refine (full (M + 2) a b c 3 (.inl rfl)).trans ?_
    rw [sign (M + 5) _ _ 3 _ 0 (by omega) (by omega) (by omega) (by omega) (by omega), sign (M + 4) _ _ 3 _ 1 (by omega) (by omega) (by omega) (by omega) (by simp; omega), sign (M + 3) _ _ 3 _ 2 (by omega) (by omega) (by omega) (by omega) (by simp; omega), sign (M + 2) _ _ 3 _ 3 (by omega) (by omega) (by omega) (by omega) (by simp; omega), next (M + 1) _ _ 3 _ (by simp)]
    rw [show (a.toNat * 65536 + b.toNat * 256 + c.toNat) / 262144 % 64 = a.toNat / 4 by omega, show (a.toNat * 65536 + b.toNat * 256 + c.toNat) * 64 / 262144 % 64 = a.toNat % 4 * 16 + b.toNat / 16 by omega, show (a.toNat * 65536 + b.toNat * 256 + c.toNat) * 64 * 64 / 262144 % 64 = b.toNat % 16 * 4 + c.toNat / 64 by omega, show (a.toNat * 65536 + b.toNat * 256 + c.toNat) * 64 * 64 * 64 / 262144 % 64 = c.toNat % 64 by omega]
    simp [fourS]

theorem six_loop (M : Nat) : ∀ (k K : Nat) (s out : List UInt8), s.length ≤ 3 * k → s.length ≤ 1000 → out.length ≤ 80000 - 4 * s.length →
    iterL (K + k + 1) (B_ref1_Sixty_0 (M + 6)) (s, out) = some (.str (out ++ putS s), [])
  | 0, K, s, out, h, hl, ho => by
    have : s = [] := List.eq_nil_of_length_eq_zero (by omega)
    subst this
    show some (V.str out, ([] : List AObj)) = _
    simp [putS]
  | k + 1, K, s, out, h, hl, ho => by
    by_cases hs : s = []
    · subst hs
      show some (V.str out, ([] : List AObj)) = _
      simp [putS]
    · have hpos : 0 < s.length := List.length_pos_iff.2 hs
      have hc := six_chunk M (iterL (K + k + 1) (B_ref1_Sixty_0 (M + 6))) s out hs hl (by omega)
      have ih := six_loop M k K (s.drop 3) (out ++ fourS (s.take 3)) (by rw [List.length_drop]; omega) (by rw [List.length_drop]; omega) (by rw [List.length_append, four_len, List.length_drop]; omega)
      rw [put_step s hs, ← List.append_assoc]
      exact hc.trans ih

theorem sh_ref1_Sixty_eq (s : List UInt8) (hs : s.length ≤ 1000) : sh_ref1_Sixty 1006 s = some (.str (putS s), []) := by
  have := six_loop 1000 s.length (1005 - s.length) s [] (by omega) hs (by simp)
  rw [show 1005 - s.length + s.length + 1 = 1006 by omega, List.nil_append] at this
  exact this
end Go.Proofs.YtmiclamhiohemaaDoor
