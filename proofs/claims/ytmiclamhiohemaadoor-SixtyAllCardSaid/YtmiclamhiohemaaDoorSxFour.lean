/-
  Three bytes as four signs; bytes as a text.
-/
import Derived.Test.YtmiclamhiohemaaDoorSxCode
import Derived.Test.YtmiclamhiohemaaDoorSxArith
namespace Go.Proofs.YtmiclamhiohemaaDoor
open Go.AM
set_option autoImplicit false
set_option linter.unusedSimpArgs false
set_option linter.unusedVariables false

theorem iterL_succ {α R : Type} (n : Nat) (B : (α → Option R) → α → Option R) (x : α) : iterL (n + 1) B x = B (iterL n B) x := rfl

theorem four_in (N : Nat) (again0 : (List UInt8 × Int × Int) → Option (V × List AObj)) (q1 : (Int × Nat × Int × Int × List UInt8) → Option (V × List AObj)) (s : List UInt8) (v i : Nat) (hv : v < 2 ^ 24) (hi : i < 3) (hs : s.length ≤ 3) (hl : i < s.length) :
    BA_sixty_four_0 N again0 q1 (s, (v : Int), (i : Int)) = again0 (s, ((v * 256 + (s.getD i 0).toNat : Nat) : Int), ((i + 1 : Nat) : Int)) := by
  have hb := (s.getD i 0).toNat_lt
  have e1 : shlI .i64 (v : Int) 8 = ((v * 256 : Nat) : Int) := shl_i64 v 8 (by omega) (by omega)
  have e2 : bitsI .or .i64 ((v * 256 : Nat) : Int) ((s.getD i 0).toNat : Int) = ((v * 256 + (s.getD i 0).toNat : Nat) : Int) := by
    rw [or_i64 _ _ (by omega) (by omega)]
    have := or_add v (s.getD i 0).toNat 8 (by omega)
    rw [show (2 : Nat) ^ 8 = 256 from rfl] at this
    rw [this]
  have e3 : IntKind.wrap .i64 ((s.getD i 0).toNat : Int) = ((s.getD i 0).toNat : Int) := wrap_i64_of _ (by omega)
  simp only [BA_sixty_four_0, Int.toNat_natCast, e1, e3, e2]
  simp (disch := omega) only [dt, df, it, iF, bt, bf, cond_true, cond_false, map_some', chk_t, Bool.and_true, Bool.true_and, Bool.and_false, Bool.false_and, Bool.or_true, Bool.true_or, Bool.or_false, Bool.false_or, Bool.not_true, Bool.not_false, if_true, if_false, beq_self_eq_true, wrap_i64_of, wrap_u64_of, wrap_i32_of, wrap_u32_of, wrap_u8_of, tdiv_of, tmod_of, Int.toNat_natCast, List.take_length, List.drop_zero, or_true, true_or, or_false, false_or, or_self, ]
  rfl

theorem four_out (N : Nat) (again0 : (List UInt8 × Int × Int) → Option (V × List AObj)) (q1 : (Int × Nat × Int × Int × List UInt8) → Option (V × List AObj)) (s : List UInt8) (v i : Nat) (hv : v < 2 ^ 24) (hi : i < 3) (hl : s.length ≤ i) :
    BA_sixty_four_0 N again0 q1 (s, (v : Int), (i : Int)) = again0 (s, ((v * 256 : Nat) : Int), ((i + 1 : Nat) : Int)) := by
  have e1 : shlI .i64 (v : Int) 8 = ((v * 256 : Nat) : Int) := shl_i64 v 8 (by omega) (by omega)
  simp only [BA_sixty_four_0, e1]
  simp (disch := omega) only [dt, df, it, iF, bt, bf, cond_true, cond_false, map_some', chk_t, Bool.and_true, Bool.true_and, Bool.and_false, Bool.false_and, Bool.or_true, Bool.true_or, Bool.or_false, Bool.false_or, Bool.not_true, Bool.not_false, if_true, if_false, beq_self_eq_true, wrap_i64_of, wrap_u64_of, wrap_i32_of, wrap_u32_of, wrap_u8_of, tdiv_of, tmod_of, Int.toNat_natCast, List.take_length, List.drop_zero, or_true, true_or, or_false, false_or, or_self, ]
  rfl

theorem four_mid (N : Nat) (again0 : (List UInt8 × Int × Int) → Option (V × List AObj)) (q1 : (Int × Nat × Int × Int × List UInt8) → Option (V × List AObj)) (s : List UInt8) (v : Nat) (hs : s.length ≤ 3) :
    BA_sixty_four_0 N again0 q1 (s, (v : Int), ((3 : Nat) : Int)) = q1 ((v : Int), 4, ((s.length + 1 : Nat) : Int), ((0 : Nat) : Int), [61, 61, 61, 61]) := by
  simp only [BA_sixty_four_0]
  simp (disch := omega) only [dt, df, it, iF, bt, bf, cond_true, cond_false, map_some', chk_t, Bool.and_true, Bool.true_and, Bool.and_false, Bool.false_and, Bool.or_true, Bool.true_or, Bool.or_false, Bool.false_or, Bool.not_true, Bool.not_false, if_true, if_false, beq_self_eq_true, wrap_i64_of, wrap_u64_of, wrap_i32_of, wrap_u32_of, wrap_u8_of, tdiv_of, tmod_of, Int.toNat_natCast, List.take_length, List.drop_zero, or_true, true_or, or_false, false_or, or_self, ]
  rfl

theorem four_sign (N : Nat) (again1 : (Int × Nat × Int × Int × List UInt8) → Option (V × List AObj)) (v n j q : Nat) (o : List UInt8) (hv : v < 2 ^ 24) (hj : j < n) (hn : n ≤ 4) (ho : o.length = 4) (hq : q = 18 - 6 * j) :
    B_sixty_four_1 N again1 ((v : Int), 4, (n : Int), (j : Int), o) = again1 ((v : Int), 4, (n : Int), ((j + 1 : Nat) : Int), o.set j (sgn (v / 2 ^ q % 64))) := by
  have e1 : IntKind.wrap .i64 (6 * (j : Int)) = 6 * (j : Int) := wrap_i64_of _ (by omega)
  have e2 : IntKind.wrap .i64 (18 - 6 * (j : Int)) = (q : Int) := by rw [wrap_i64_of _ (by omega)]; omega
  have e3 : shrI .i64 (v : Int) (q : Int) = ((v / 2 ^ q : Nat) : Int) := shrI_nat .i64 v q (by show q ≤ 64; omega)
  have hle : v / 2 ^ q ≤ v := Nat.div_le_self _ _
  have e5 : ∀ x : Nat, x < 2 ^ 24 → bitsI .and .i64 (x : Int) 63 = ((x % 64 : Nat) : Int) := fun x hx => and_i64_mod x 6 (by omega) (by omega)
  have e4 := e5 (v / 2 ^ q) (Nat.lt_of_le_of_lt hle hv)
  have hd : v / 2 ^ q % 64 < 64 := Nat.mod_lt _ (by omega)
  have hsg : ([65, 66, 67, 68, 69, 70, 71, 72, 73, 74, 75, 76, 77, 78, 79, 80, 81, 82, 83, 84, 85, 86, 87, 88, 89, 90, 97, 98, 99, 100, 101, 102, 103, 104, 105, 106, 107, 108, 109, 110, 111, 112, 113, 114, 115, 116, 117, 118, 119, 120, 121, 122, 48, 49, 50, 51, 52, 53, 54, 55, 56, 57, 43, 47] : List UInt8) = signs := rfl
  simp only [B_sixty_four_1, e1, e2, e3, e4, Int.toNat_natCast, hsg]
  generalize v / 2 ^ q % 64 = d at hd ⊢
  have hlen : signs.length = 64 := rfl
  have hg : UInt8.ofNat (signs.getD d 0).toNat = sgn d := by simp [sgn]
  simp (disch := omega) only [dt, df, it, iF, bt, bf, cond_true, cond_false, map_some', chk_t, Bool.and_true, Bool.true_and, Bool.and_false, Bool.false_and, Bool.or_true, Bool.true_or, Bool.or_false, Bool.false_or, Bool.not_true, Bool.not_false, if_true, if_false, beq_self_eq_true, wrap_i64_of, wrap_u64_of, wrap_i32_of, wrap_u32_of, wrap_u8_of, tdiv_of, tmod_of, Int.toNat_natCast, List.take_length, List.drop_zero, or_true, true_or, or_false, false_or, or_self, hlen, hg]
  rfl

theorem four_end (N : Nat) (again1 : (Int × Nat × Int × Int × List UInt8) → Option (V × List AObj)) (v n : Nat) (o : List UInt8) (ho : o.length = 4) :
    B_sixty_four_1 N again1 ((v : Int), 4, (n : Int), (n : Int), o) = some (.str o, [some [.rb o]]) := by
  have e : List.take 4 o = o := List.take_of_length_le (by omega)
  simp only [B_sixty_four_1, e]
  simp (disch := omega) only [dt, df, it, iF, bt, bf, cond_true, cond_false, map_some', chk_t, Bool.and_true, Bool.true_and, Bool.and_false, Bool.false_and, Bool.or_true, Bool.true_or, Bool.or_false, Bool.false_or, Bool.not_true, Bool.not_false, if_true, if_false, beq_self_eq_true, wrap_i64_of, wrap_u64_of, wrap_i32_of, wrap_u32_of, wrap_u8_of, tdiv_of, tmod_of, Int.toNat_natCast, List.take_length, List.drop_zero, or_true, true_or, or_false, false_or, or_self, ]

theorem sh_sixty_four_eq (M : Nat) (s : List UInt8) (hs : s.length ≤ 3) : (sh_sixty_four (M + 6) s).map (·.1) = some (.str (fourS s)) := by
  have inn : ∀ (K : Nat) (s : List UInt8) (v i : Nat), v < 2 ^ 24 → i < 3 → s.length ≤ 3 → i < s.length → iterL (K + 1) (B_sixty_four_0 (M + 6)) (s, (v : Int), (i : Int)) = iterL K (B_sixty_four_0 (M + 6)) (s, ((v * 256 + (s.getD i 0).toNat : Nat) : Int), ((i + 1 : Nat) : Int)) :=
    fun K s v i hv hi hs hl => four_in (M + 6) (iterL K (B_sixty_four_0 (M + 6))) (fun z => iterL (M + 6) (B_sixty_four_1 (M + 6)) z) s v i hv hi hs hl
  have out : ∀ (K : Nat) (s : List UInt8) (v i : Nat), v < 2 ^ 24 → i < 3 → s.length ≤ i → iterL (K + 1) (B_sixty_four_0 (M + 6)) (s, (v : Int), (i : Int)) = iterL K (B_sixty_four_0 (M + 6)) (s, ((v * 256 : Nat) : Int), ((i + 1 : Nat) : Int)) :=
    fun K s v i hv hi hl => four_out (M + 6) (iterL K (B_sixty_four_0 (M + 6))) (fun z => iterL (M + 6) (B_sixty_four_1 (M + 6)) z) s v i hv hi hl
  have mid : ∀ (K : Nat) (s : List UInt8) (v : Nat), s.length ≤ 3 → iterL (K + 1) (B_sixty_four_0 (M + 6)) (s, (v : Int), ((3 : Nat) : Int)) = iterL (M + 6) (B_sixty_four_1 (M + 6)) ((v : Int), 4, ((s.length + 1 : Nat) : Int), ((0 : Nat) : Int), [61, 61, 61, 61]) :=
    fun K s v hs => four_mid (M + 6) (iterL K (B_sixty_four_0 (M + 6))) (fun z => iterL (M + 6) (B_sixty_four_1 (M + 6)) z) s v hs
  have st : ∀ (v n : Nat) (j q : Nat) (o : List UInt8) (K : Nat), v < 2 ^ 24 → j < n → n ≤ 4 → o.length = 4 → q = 18 - 6 * j → iterL (K + 1) (B_sixty_four_1 (M + 6)) ((v : Int), 4, (n : Int), (j : Int), o) = iterL K (B_sixty_four_1 (M + 6)) ((v : Int), 4, (n : Int), ((j + 1 : Nat) : Int), o.set j (sgn (v / 2 ^ q % 64))) :=
    fun v n j q o K hv hj hn ho hq => four_sign (M + 6) _ v n j q o hv hj hn ho hq
  have ed : ∀ (v n : Nat) (o : List UInt8) (K : Nat), o.length = 4 → iterL (K + 1) (B_sixty_four_1 (M + 6)) ((v : Int), 4, (n : Int), (n : Int), o) = some (.str o, [some [.rb o]]) := fun v n o K ho => four_end (M + 6) _ v n o ho
  show (iterL (M + 6) (B_sixty_four_0 (M + 6)) (s, ((0 : Nat) : Int), ((0 : Nat) : Int))).map (·.1) = _
  match s, hs with
  | [], hs =>
    rw [out (M + 5) [] _ 0 (by omega) (by omega) (by simp), out (M + 4) [] _ 1 (by omega) (by omega) (by simp), out (M + 3) [] _ 2 (by omega) (by omega) (by simp), mid (M + 2) [] _ (by simp)]
    have hv : ((0 * 256) * 256) * 256 = 0 := rfl
    rw [hv]
    show (iterL (M + 6) (B_sixty_four_1 (M + 6)) (((0 : Nat) : Int), 4, ((1 : Nat) : Int), ((0 : Nat) : Int), [61, 61, 61, 61])).map (·.1) = _
    rw [st _ 1 0 18 _ (M + 5) (by omega) (by omega) (by omega) rfl rfl, ed _ 1 _ (M + 4) rfl]
    rfl
  | [a], hs =>
    have ha := a.toNat_lt
    rw [inn (M + 5) [a] _ 0 (by omega) (by omega) (by simp) (by simp), out (M + 4) [a] _ 1 (by simp; omega) (by omega) (by simp), out (M + 3) [a] _ 2 (by simp; omega) (by omega) (by simp), mid (M + 2) [a] _ (by simp)]
    have hv : ((0 * 256 + ([a].getD 0 0).toNat) * 256) * 256 = a.toNat * 65536 := by simp; omega
    rw [hv]
    show (iterL (M + 6) (B_sixty_four_1 (M + 6)) (((a.toNat * 65536 : Nat) : Int), 4, ((2 : Nat) : Int), ((0 : Nat) : Int), [61, 61, 61, 61])).map (·.1) = _
    rw [st _ 2 0 18 _ (M + 5) (by omega) (by omega) (by omega) rfl rfl, st _ 2 1 12 _ (M + 4) (by omega) (by omega) (by omega) rfl rfl, ed _ 2 _ (M + 3) rfl]
    rw [show (a.toNat * 65536) / 2 ^ 18 % 64 = a.toNat / 4 by omega, show (a.toNat * 65536) / 2 ^ 12 % 64 = a.toNat % 4 * 16 by omega]
    rfl
  | [a, b], hs =>
    have ha := a.toNat_lt
    have hb := b.toNat_lt
    rw [inn (M + 5) [a, b] _ 0 (by omega) (by omega) (by simp) (by simp), inn (M + 4) [a, b] _ 1 (by simp; omega) (by omega) (by simp) (by simp), out (M + 3) [a, b] _ 2 (by simp; omega) (by omega) (by simp), mid (M + 2) [a, b] _ (by simp)]
    have hv : ((0 * 256 + ([a, b].getD 0 0).toNat) * 256 + ([a, b].getD 1 0).toNat) * 256 = a.toNat * 65536 + b.toNat * 256 := by simp; omega
    rw [hv]
    show (iterL (M + 6) (B_sixty_four_1 (M + 6)) (((a.toNat * 65536 + b.toNat * 256 : Nat) : Int), 4, ((3 : Nat) : Int), ((0 : Nat) : Int), [61, 61, 61, 61])).map (·.1) = _
    rw [st _ 3 0 18 _ (M + 5) (by omega) (by omega) (by omega) rfl rfl, st _ 3 1 12 _ (M + 4) (by omega) (by omega) (by omega) rfl rfl, st _ 3 2 6 _ (M + 3) (by omega) (by omega) (by omega) rfl rfl, ed _ 3 _ (M + 2) rfl]
    rw [show (a.toNat * 65536 + b.toNat * 256) / 2 ^ 18 % 64 = a.toNat / 4 by omega, show (a.toNat * 65536 + b.toNat * 256) / 2 ^ 12 % 64 = a.toNat % 4 * 16 + b.toNat / 16 by omega, show (a.toNat * 65536 + b.toNat * 256) / 2 ^ 6 % 64 = b.toNat % 16 * 4 by omega]
    rfl
  | [a, b, c], hs =>
    have ha := a.toNat_lt
    have hb := b.toNat_lt
    have hc := c.toNat_lt
    rw [inn (M + 5) [a, b, c] _ 0 (by omega) (by omega) (by simp) (by simp), inn (M + 4) [a, b, c] _ 1 (by simp; omega) (by omega) (by simp) (by simp), inn (M + 3) [a, b, c] _ 2 (by simp; omega) (by omega) (by simp) (by simp), mid (M + 2) [a, b, c] _ (by simp)]
    have hv : ((0 * 256 + ([a, b, c].getD 0 0).toNat) * 256 + ([a, b, c].getD 1 0).toNat) * 256 + ([a, b, c].getD 2 0).toNat = a.toNat * 65536 + b.toNat * 256 + c.toNat := by simp; omega
    rw [hv]
    show (iterL (M + 6) (B_sixty_four_1 (M + 6)) (((a.toNat * 65536 + b.toNat * 256 + c.toNat : Nat) : Int), 4, ((4 : Nat) : Int), ((0 : Nat) : Int), [61, 61, 61, 61])).map (·.1) = _
    rw [st _ 4 0 18 _ (M + 5) (by omega) (by omega) (by omega) rfl rfl, st _ 4 1 12 _ (M + 4) (by omega) (by omega) (by omega) rfl rfl, st _ 4 2 6 _ (M + 3) (by omega) (by omega) (by omega) rfl rfl, st _ 4 3 0 _ (M + 2) (by omega) (by omega) (by omega) rfl rfl, ed _ 4 _ (M + 1) rfl]
    rw [show (a.toNat * 65536 + b.toNat * 256 + c.toNat) / 2 ^ 18 % 64 = a.toNat / 4 by omega, show (a.toNat * 65536 + b.toNat * 256 + c.toNat) / 2 ^ 12 % 64 = a.toNat % 4 * 16 + b.toNat / 16 by omega, show (a.toNat * 65536 + b.toNat * 256 + c.toNat) / 2 ^ 6 % 64 = b.toNat % 16 * 4 + c.toNat / 64 by omega, show (a.toNat * 65536 + b.toNat * 256 + c.toNat) / 2 ^ 0 % 64 = c.toNat % 64 by omega]
    rfl

theorem four_len (s : List UInt8) : (fourS s).length = 4 := by
  unfold fourS
  split <;> rfl

theorem put_step (s : List UInt8) (hs : s ≠ []) : putS s = fourS (s.take 3) ++ putS (s.drop 3) := by
  match s with
  | [] => exact absurd rfl hs
  | [a] => simp [putS]
  | [a, b] => simp [putS]
  | a :: b :: c :: t => simp [putS]

theorem put_loop (N : Nat) : ∀ (k M : Nat) (s o : List UInt8), s.length ≤ 3 * k → s.length ≤ 1000 → o.length ≤ 100000 - 4 * s.length →
    (iterL (M + k + 1) (B_sixty_Put_0 N) (s, o)).map (·.1) = some (.str (o ++ putS s))
  | 0, M, s, o, h, hl, ho => by
    have : s = [] := List.eq_nil_of_length_eq_zero (by omega)
    subst this
    show (B_sixty_Put_0 N _ _).map (·.1) = _
    simp only [B_sixty_Put_0, putS, List.append_nil]
    simp (disch := omega) only [dt, df, it, iF, bt, bf, cond_true, cond_false, map_some', chk_t, Bool.and_true, Bool.true_and, Bool.and_false, Bool.false_and, Bool.or_true, Bool.true_or, Bool.or_false, Bool.false_or, Bool.not_true, Bool.not_false, if_true, if_false, beq_self_eq_true, wrap_i64_of, wrap_u64_of, wrap_i32_of, wrap_u32_of, wrap_u8_of, tdiv_of, tmod_of, Int.toNat_natCast, List.take_length, List.drop_zero, or_true, true_or, or_false, false_or, or_self, decide_true]
  | k + 1, M, s, o, h, hl, ho => by
    show (B_sixty_Put_0 N (iterL (M + k + 1) (B_sixty_Put_0 N)) _).map (·.1) = _
    by_cases hs : s = []
    · subst hs
      simp only [B_sixty_Put_0, putS, List.append_nil]
      simp (disch := omega) only [dt, df, it, iF, bt, bf, cond_true, cond_false, map_some', chk_t, Bool.and_true, Bool.true_and, Bool.and_false, Bool.false_and, Bool.or_true, Bool.true_or, Bool.or_false, Bool.false_or, Bool.not_true, Bool.not_false, if_true, if_false, beq_self_eq_true, wrap_i64_of, wrap_u64_of, wrap_i32_of, wrap_u32_of, wrap_u8_of, tdiv_of, tmod_of, Int.toNat_natCast, List.take_length, List.drop_zero, or_true, true_or, or_false, false_or, or_self, decide_true]
    · have h1 : 0 < s.length := List.length_pos_iff.2 hs
      obtain ⟨n, hn, hn1, hn2⟩ : ∃ n : Nat, (if (3 : Int) < (s.length : Int) then (3 : Int) else (s.length : Int)) = (n : Int) ∧ n ≤ s.length ∧ (n = 3 ∨ n = s.length ∧ s.length ≤ 3) := by
        by_cases g : (3 : Int) < (s.length : Int)
        · rw [if_pos g]; exact ⟨3, rfl, by omega, .inl rfl⟩
        · rw [if_neg g]; exact ⟨s.length, rfl, by omega, .inr ⟨rfl, by omega⟩⟩
      have ht : s.take n = s.take 3 := by
        rcases hn2 with rfl | ⟨rfl, h3⟩
        · rfl
        · rw [List.take_length, List.take_of_length_le h3]
      have hd : s.drop n = s.drop 3 := by
        rcases hn2 with rfl | ⟨rfl, h3⟩
        · rfl
        · rw [List.drop_length, List.drop_of_length_le h3]
      have hdec : decide (s = []) = false := decide_eq_false hs
      have hfl := four_len (s.take 3)
      have ih := put_loop N k M (s.drop 3) (o ++ fourS (s.take 3)) (by rw [List.length_drop]; omega) (by rw [List.length_drop]; omega) (by rw [List.length_append, List.length_drop]; omega)
      rw [put_step s hs, ← List.append_assoc, ← ih]
      simp only [B_sixty_Put_0, hdec, hn, Int.toNat_natCast, ht, hd, hfl, List.drop_zero, List.take_length]
      have hlt : (s.take 3).length ≤ 3 := by rw [List.length_take]; omega
      simp (disch := omega) only [dt, df, it, iF, bt, bf, cond_true, cond_false, map_some', chk_t, Bool.and_true, Bool.true_and, Bool.and_false, Bool.false_and, Bool.or_true, Bool.true_or, Bool.or_false, Bool.false_or, Bool.not_true, Bool.not_false, if_true, if_false, beq_self_eq_true, wrap_i64_of, wrap_u64_of, wrap_i32_of, wrap_u32_of, wrap_u8_of, tdiv_of, tmod_of, Int.toNat_natCast, List.take_length, List.drop_zero, or_true, true_or, or_false, false_or, or_self, ]

theorem sh_sixty_Put_eq (s : List UInt8) (hs : s.length ≤ 1000) : (sh_sixty_Put 1001 s).map (·.1) = some (.str (putS s)) := by
  have := put_loop 1001 s.length (1000 - s.length) s [] (by omega) hs (by simp)
  rw [show 1000 - s.length + s.length + 1 = 1001 by omega, List.nil_append] at this
  exact this

theorem trim_loop (N : Nat) : ∀ (k M : Nat) (s : List UInt8), s.length ≤ k → s.length ≤ 9223372036854775807 →
    iterL (M + k + 1) (B_strings_trimRightByte_0 N) (s, 61) = some (.str (trimN k s), [])
  | 0, M, s, h, hm => by
    have : s = [] := List.eq_nil_of_length_eq_zero (by omega)
    subst this
    rfl
  | k + 1, M, s, h, hm => by
    show B_strings_trimRightByte_0 N (iterL (M + k + 1) (B_strings_trimRightByte_0 N)) _ = _
    simp only [B_strings_trimRightByte_0, trimN]
    by_cases h0 : s.length = 0
    · rw [if_neg (by omega)]
      simp (disch := omega) only [dt, df, it, iF, bt, bf, cond_true, cond_false, map_some', chk_t, Bool.and_true, Bool.true_and, Bool.and_false, Bool.false_and, Bool.or_true, Bool.true_or, Bool.or_false, Bool.false_or, Bool.not_true, Bool.not_false, if_true, if_false, beq_self_eq_true, wrap_i64_of, wrap_u64_of, wrap_i32_of, wrap_u32_of, wrap_u8_of, tdiv_of, tmod_of, Int.toNat_natCast, List.take_length, List.drop_zero, or_true, true_or, or_false, false_or, or_self, ]
    · have e1 : IntKind.wrap .i64 ((s.length : Int) - 1) = ((s.length - 1 : Nat) : Int) := by rw [wrap_i64_of _ (by omega)]; omega
      have x61 : ∀ x : UInt8, (x = 61) = (x.toNat = 61) := fun x => propext ⟨by rintro rfl; rfl, fun h => UInt8.toNat_inj.1 h⟩
      simp only [e1, Int.toNat_natCast, x61]
      by_cases h6 : (s.getD (s.length - 1) 0).toNat = 61
      · rw [if_pos ⟨by omega, h6⟩]
        have ih := trim_loop N k M (s.take (s.length - 1)) (by rw [List.length_take]; omega) (by rw [List.length_take]; omega)
        simp (disch := omega) only [dt, df, it, iF, bt, bf, cond_true, cond_false, map_some', chk_t, Bool.and_true, Bool.true_and, Bool.and_false, Bool.false_and, Bool.or_true, Bool.true_or, Bool.or_false, Bool.false_or, Bool.not_true, Bool.not_false, if_true, if_false, beq_self_eq_true, wrap_i64_of, wrap_u64_of, wrap_i32_of, wrap_u32_of, wrap_u8_of, tdiv_of, tmod_of, Int.toNat_natCast, List.take_length, List.drop_zero, or_true, true_or, or_false, false_or, or_self, h6]
        exact ih
      · rw [if_neg (fun h => h6 h.2)]
        simp (disch := omega) only [dt, df, it, iF, bt, bf, cond_true, cond_false, map_some', chk_t, Bool.and_true, Bool.true_and, Bool.and_false, Bool.false_and, Bool.or_true, Bool.true_or, Bool.or_false, Bool.false_or, Bool.not_true, Bool.not_false, if_true, if_false, beq_self_eq_true, wrap_i64_of, wrap_u64_of, wrap_i32_of, wrap_u32_of, wrap_u8_of, tdiv_of, tmod_of, Int.toNat_natCast, List.take_length, List.drop_zero, or_true, true_or, or_false, false_or, or_self, ]

theorem sh_strings_trimRightByte_eq (s : List UInt8) (hs : s.length ≤ 9223372036854775807) : sh_strings_trimRightByte (s.length + 1) s 61 = some (.str (trimS s), []) := by
  have := trim_loop (s.length + 1) s.length 0 s (Nat.le_refl _) hs
  rw [Nat.zero_add] at this
  exact this

set_option maxRecDepth 100000 in
theorem sh_strings_TrimRight_eq (N : Nat) (s : List UInt8) : sh_strings_TrimRight N s [61] = some (.str (trimS s), []) := by
  simp only [sh_strings_TrimRight, sa_strings_TrimRight]
  by_cases h : s = []
  · subst h; rfl
  · have : decide (s = []) = false := decide_eq_false h
    rw [this]
    rfl
end Go.Proofs.YtmiclamhiohemaaDoor
