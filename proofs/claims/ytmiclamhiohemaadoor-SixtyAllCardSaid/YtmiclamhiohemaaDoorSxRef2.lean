/-
  The document's own answer: the bytes of a text.
-/
import Derived.Test.YtmiclamhiohemaaDoorSxRef
namespace Go.Proofs.YtmiclamhiohemaaDoor
open Go.AM
set_option autoImplicit false
set_option linter.unusedSimpArgs false
set_option linter.unusedVariables false

theorem dec_mod : ∀ (l : List UInt8) (v w bits : Nat) (o : List UInt8), bits < 8 → v % 2 ^ bits = w % 2 ^ bits → decN l v bits o = decN l w bits o
  | [], v, w, bits, o, hb, h => rfl
  | c :: l, v, w, bits, o, hb, h => by
    simp only [decN]
    cases indexN signs c.toNat with
    | none => rfl
    | some k =>
      dsimp only
      have cases8 : bits = 0 ∨ bits = 1 ∨ bits = 2 ∨ bits = 3 ∨ bits = 4 ∨ bits = 5 ∨ bits = 6 ∨ bits = 7 := by omega
      have byt : ∀ x y : Nat, x % 256 = y % 256 → UInt8.ofNat x = UInt8.ofNat y := by
        intro x y h
        apply UInt8.toNat_inj.1
        rw [UInt8.toNat_ofNat', UInt8.toNat_ofNat']
        exact h
      by_cases h8 : 8 ≤ bits + 6
      · rw [if_pos h8, if_pos h8]
        have hm : (v * 64 + k) % 65536 % 2 ^ (bits + 6 - 8) = (w * 64 + k) % 65536 % 2 ^ (bits + 6 - 8) := by
          rcases cases8 with rfl | rfl | rfl | rfl | rfl | rfl | rfl | rfl <;> simp at h h8 ⊢ <;> omega
        have hq : (v * 64 + k) % 65536 / 2 ^ (bits + 6 - 8) % 256 = (w * 64 + k) % 65536 / 2 ^ (bits + 6 - 8) % 256 := by
          rcases cases8 with rfl | rfl | rfl | rfl | rfl | rfl | rfl | rfl <;> simp at h h8 ⊢ <;> omega
        rw [byt _ _ hq]
        exact dec_mod l _ _ _ _ (by omega) hm
      · rw [if_neg h8, if_neg h8]
        have hm : (v * 64 + k) % 65536 % 2 ^ (bits + 6) = (w * 64 + k) % 65536 % 2 ^ (bits + 6) := by
          rcases cases8 with rfl | rfl | rfl | rfl | rfl | rfl | rfl | rfl <;> simp at h h8 ⊢ <;> omega
        exact dec_mod l _ _ _ _ (by omega) hm

abbrev T1 := List UInt8 × Int × Int × List UInt8 × Int × Int
abbrev T2 := List UInt8 × Int × Int × List UInt8 × Int × Int × Int × Int

theorem index_get : ∀ (l : List UInt8) (c k : Nat), indexN l c = some k → (l.getD k 0).toNat = c
  | [], c, k, h => by simp [indexN] at h
  | b :: l, c, k, h => by
    simp only [indexN] at h
    split at h
    · rename_i hb
      simp only [Option.some.injEq] at h; subst h; simpa using hb
    · simp only [Option.map_eq_some_iff] at h
      obtain ⟨j, hj, rfl⟩ := h
      simpa using index_get l c j hj

/-- the last place so far -/
def lastD (x k : Nat) : Int := match indexN signs x with | some j => if j < k then (j : Int) else -1 | none => -1

theorem lastD_step (x k : Nat) (hk : k < 64) : lastD x (k + 1) = if (signs.getD k 0).toNat = x then (k : Int) else lastD x k := by
  have h1 := (sgn_ne k hk).2
  unfold lastD
  by_cases h : (signs.getD k 0).toNat = x
  · rw [if_pos h]
    have : indexN signs x = some k := by rw [← h]; exact h1
    rw [this]
    dsimp only
    rw [if_pos (by omega)]
  · rw [if_neg h]
    cases hj : indexN signs x with
    | none => rfl
    | some j =>
      have hg := index_get _ _ _ hj
      have hne : j ≠ k := by rintro rfl; exact h hg
      dsimp only
      by_cases h2 : j < k
      · rw [if_pos h2, if_pos (by omega)]
      · rw [if_neg h2, if_neg (by omega)]

theorem find_round (N : Nat) (again1 : T1 → Option (V × List AObj)) (again2 : T2 → Option (V × List AObj)) (t out : List UInt8) (bits v : Int) (e i k : Nat) (d : Int) (hk : k < 64) (hi : i < t.length) (ht : t.length ≤ 1000) :
    B_ref1_TakeSixty_2 N again1 again2 (t, bits, v, out, (e : Int), (i : Int), d, (k : Int)) = again2 (t, bits, v, out, (e : Int), (i : Int), (if (signs.getD k 0).toNat = (t.getD i 0).toNat then (k : Int) else d), ((k + 1 : Nat) : Int)) := by
  have hsg : ([65, 66, 67, 68, 69, 70, 71, 72, 73, 74, 75, 76, 77, 78, 79, 80, 81, 82, 83, 84, 85, 86, 87, 88, 89, 90, 97, 98, 99, 100, 101, 102, 103, 104, 105, 106, 107, 108, 109, 110, 111, 112, 113, 114, 115, 116, 117, 118, 119, 120, 121, 122, 48, 49, 50, 51, 52, 53, 54, 55, 56, 57, 43, 47] : List UInt8) = signs := rfl
  have hslen : signs.length = 64 := rfl
  simp only [B_ref1_TakeSixty_2, hsg, Int.toNat_natCast]
  by_cases h : (signs.getD k 0).toNat = (t.getD i 0).toNat
  · rw [if_pos h]
    simp (disch := omega) only [dt, df, it, iF, bt, bf, cond_true, cond_false, map_some', chk_t, Bool.and_true, Bool.true_and, Bool.and_false, Bool.false_and, Bool.or_true, Bool.true_or, Bool.or_false, Bool.false_or, Bool.not_true, Bool.not_false, if_true, if_false, beq_self_eq_true, wrap_i64_of, wrap_u64_of, wrap_i32_of, wrap_u32_of, wrap_u8_of, tdiv_of, tmod_of, Int.toNat_natCast, List.take_length, List.drop_zero, or_true, true_or, or_false, false_or, or_self, hslen, h]
    rfl
  · rw [if_neg h]
    simp (disch := omega) only [dt, df, it, iF, bt, bf, cond_true, cond_false, map_some', chk_t, Bool.and_true, Bool.true_and, Bool.and_false, Bool.false_and, Bool.or_true, Bool.true_or, Bool.or_false, Bool.false_or, Bool.not_true, Bool.not_false, if_true, if_false, beq_self_eq_true, wrap_i64_of, wrap_u64_of, wrap_i32_of, wrap_u32_of, wrap_u8_of, tdiv_of, tmod_of, Int.toNat_natCast, List.take_length, List.drop_zero, or_true, true_or, or_false, false_or, or_self, hslen]
    rfl

theorem find_loop (N : Nat) (again1 : T1 → Option (V × List AObj)) (t out : List UInt8) (bits v : Int) (e i : Nat) (hi : i < t.length) (ht : t.length ≤ 1000) : ∀ (r K k : Nat), k + r = 64 →
    iterL (K + r + 1) (B_ref1_TakeSixty_2 N again1) (t, bits, v, out, (e : Int), (i : Int), lastD (t.getD i 0).toNat k, (k : Int)) = B_ref1_TakeSixty_2 N again1 (iterL K (B_ref1_TakeSixty_2 N again1)) (t, bits, v, out, (e : Int), (i : Int), lastD (t.getD i 0).toNat 64, ((64 : Nat) : Int))
  | 0, K, k, h => by
    have : k = 64 := by omega
    subst this
    rfl
  | r + 1, K, k, h => by
    show B_ref1_TakeSixty_2 N again1 (iterL (K + r + 1) (B_ref1_TakeSixty_2 N again1)) _ = _
    rw [find_round N again1 _ t out bits v e i k _ (by omega) hi ht, ← lastD_step _ k (by omega)]
    exact find_loop N again1 t out bits v e i hi ht r K (k + 1) (by omega)

theorem last_all (x : Nat) : lastD x 64 = (match indexN signs x with | some j => (j : Int) | none => -1) := by
  unfold lastD
  cases hj : indexN signs x with
  | none => rfl
  | some j =>
    have := index_lt _ _ _ hj
    have hl : signs.length = 64 := rfl
    dsimp only
    rw [if_pos (by omega)]

theorem rtake_loop (M : Nat) (t : List UInt8) (ht : t.length ≤ 1000) (L : Nat) (hL : L ≤ t.length) : ∀ (k K i v bits : Nat) (o : List UInt8), i + k = L → bits < 8 → v < 2 ^ bits → o.length ≤ i →
    iterL (K + k + 1) (B_ref1_TakeSixty_1 (M + 66)) (t, (bits : Int), (v : Int), o, (L : Int), (i : Int)) = some (takeV t (decN ((t.take L).drop i) v bits o), [])
  | 0, K, i, v, bits, o, hi, hb, hv, ho => by
    have e : i = L := by omega
    subst e
    have e2 : (t.take i).drop i = [] := by apply List.drop_eq_nil_of_le; rw [List.length_take]; omega
    show BA_ref1_TakeSixty_1 (M + 66) (iterL K (B_ref1_TakeSixty_1 (M + 66))) (fun z => iterL (M + 66) (B_ref1_TakeSixty_2 (M + 66) (iterL K (B_ref1_TakeSixty_1 (M + 66)))) z) _ = _
    simp only [BA_ref1_TakeSixty_1, e2, decN, takeV]
    by_cases h : putS o = t
    · rw [if_pos h]
      simp (disch := omega) only [dt, df, it, iF, bt, bf, cond_true, cond_false, map_some', chk_t, Bool.and_true, Bool.true_and, Bool.and_false, Bool.false_and, Bool.or_true, Bool.true_or, Bool.or_false, Bool.false_or, Bool.not_true, Bool.not_false, if_true, if_false, beq_self_eq_true, wrap_i64_of, wrap_u64_of, wrap_i32_of, wrap_u32_of, wrap_u8_of, tdiv_of, tmod_of, Int.toNat_natCast, List.take_length, List.drop_zero, or_true, true_or, or_false, false_or, or_self, h, decide_true]
    · rw [if_neg h]
      have : decide (putS o = t) = false := decide_eq_false h
      simp (disch := omega) only [dt, df, it, iF, bt, bf, cond_true, cond_false, map_some', chk_t, Bool.and_true, Bool.true_and, Bool.and_false, Bool.false_and, Bool.or_true, Bool.true_or, Bool.or_false, Bool.false_or, Bool.not_true, Bool.not_false, if_true, if_false, beq_self_eq_true, wrap_i64_of, wrap_u64_of, wrap_i32_of, wrap_u32_of, wrap_u8_of, tdiv_of, tmod_of, Int.toNat_natCast, List.take_length, List.drop_zero, or_true, true_or, or_false, false_or, or_self, this]
  | k + 1, K, i, v, bits, o, hi, hb, hv, ho => by
    have hil : i < t.length := by omega
    have e2 : (t.take L).drop i = t.getD i 0 :: (t.take L).drop (i + 1) := by
      rw [List.drop_eq_getElem_cons (by rw [List.length_take]; omega)]
      simp [List.getD, hil]
    have h2 : (2 : Nat) ^ bits ≤ 2 ^ 7 := Nat.pow_le_pow_right (by omega) (by omega)
    have hstart : lastD (t.getD i 0).toNat 0 = -1 := by
      unfold lastD
      cases indexN signs (t.getD i 0).toNat with
      | none => rfl
      | some j => dsimp only; rw [if_neg (by omega)]
    have key : BA_ref1_TakeSixty_1 (M + 66) (iterL (K + k + 1) (B_ref1_TakeSixty_1 (M + 66))) (fun z => iterL (M + 66) (B_ref1_TakeSixty_2 (M + 66) (iterL (K + k + 1) (B_ref1_TakeSixty_1 (M + 66)))) z) (t, (bits : Int), (v : Int), o, (L : Int), (i : Int))
        = B_ref1_TakeSixty_2 (M + 66) (iterL (K + k + 1) (B_ref1_TakeSixty_1 (M + 66))) (iterL (M + 1) (B_ref1_TakeSixty_2 (M + 66) (iterL (K + k + 1) (B_ref1_TakeSixty_1 (M + 66))))) (t, (bits : Int), (v : Int), o, (L : Int), (i : Int), lastD (t.getD i 0).toNat 64, ((64 : Nat) : Int)) := by
      have f := find_loop (M + 66) (iterL (K + k + 1) (B_ref1_TakeSixty_1 (M + 66))) t o (bits : Int) (v : Int) L i hil ht 64 (M + 1) 0 (by omega)
      rw [hstart] at f
      simp only [BA_ref1_TakeSixty_1]
      simp (disch := omega) only [dt, df, it, iF, bt, bf, cond_true, cond_false, map_some', chk_t, Bool.and_true, Bool.true_and, Bool.and_false, Bool.false_and, Bool.or_true, Bool.true_or, Bool.or_false, Bool.false_or, Bool.not_true, Bool.not_false, if_true, if_false, beq_self_eq_true, wrap_i64_of, wrap_u64_of, wrap_i32_of, wrap_u32_of, wrap_u8_of, tdiv_of, tmod_of, Int.toNat_natCast, List.take_length, List.drop_zero, or_true, true_or, or_false, false_or, or_self, ]
      exact f
    show BA_ref1_TakeSixty_1 (M + 66) (iterL (K + k + 1) (B_ref1_TakeSixty_1 (M + 66))) (fun z => iterL (M + 66) (B_ref1_TakeSixty_2 (M + 66) (iterL (K + k + 1) (B_ref1_TakeSixty_1 (M + 66)))) z) _ = _
    rw [key, last_all, e2]
    simp only [decN]
    cases hx : indexN signs (t.getD i 0).toNat with
    | none =>
      simp only [B_ref1_TakeSixty_2]
      simp (disch := omega) only [dt, df, it, iF, bt, bf, cond_true, cond_false, map_some', chk_t, Bool.and_true, Bool.true_and, Bool.and_false, Bool.false_and, Bool.or_true, Bool.true_or, Bool.or_false, Bool.false_or, Bool.not_true, Bool.not_false, if_true, if_false, beq_self_eq_true, wrap_i64_of, wrap_u64_of, wrap_i32_of, wrap_u32_of, wrap_u8_of, tdiv_of, tmod_of, Int.toNat_natCast, List.take_length, List.drop_zero, or_true, true_or, or_false, false_or, or_self, ]
      rfl
    | some d =>
      have hd := index_lt _ _ _ hx
      have hslen : signs.length = 64 := rfl
      have a1 : IntKind.wrap .i64 (IntKind.wrap .i64 ((v : Int) * 64) + (d : Int)) = ((v * 64 + d : Nat) : Int) := by rw [wrap_i64_of ((v : Int) * 64) (by omega), wrap_i64_of _ (by omega)]; omega
      have a2 : IntKind.wrap .i64 ((bits : Int) + 6) = ((bits + 6 : Nat) : Int) := by rw [wrap_i64_of _ (by omega)]; rfl
      have a3 : (v * 64 + d) % 65536 = v * 64 + d := Nat.mod_eq_of_lt (by omega)
      simp only [B_ref1_TakeSixty_2, a1, a2, a3]
      by_cases h8 : 8 ≤ bits + 6
      · have g5 : IntKind.wrap .i64 (((bits + 6 : Nat) : Int) - 8) = ((bits + 6 - 8 : Nat) : Int) := by rw [wrap_i64_of _ (by omega)]; omega
        have g6 : shrI .i64 ((v * 64 + d : Nat) : Int) ((bits + 6 - 8 : Nat) : Int) = (((v * 64 + d) / 2 ^ (bits + 6 - 8) : Nat) : Int) := shrI_nat .i64 _ _ (by show bits + 6 - 8 ≤ 64; omega)
        have g7 : ∀ q : Nat, UInt8.ofNat (Int.toNat (IntKind.wrap .u8 (q : Int))) = UInt8.ofNat q := by
          intro q
          rw [wrap_u8]
          apply UInt8.toNat_inj.1
          rw [UInt8.toNat_ofNat', UInt8.toNat_ofNat']
          omega
        have hp : 0 < 2 ^ (bits + 6 - 8) := Nat.two_pow_pos _
        have hp2 : 2 ^ (bits + 6 - 8) ≤ 2 ^ 7 := Nat.pow_le_pow_right (by omega) (by omega)
        have g8 : shlI .i64 1 ((bits + 6 - 8 : Nat) : Int) = ((2 ^ (bits + 6 - 8) : Nat) : Int) := by
          have := shl_i64 1 (bits + 6 - 8) (by omega) (by omega)
          rw [Nat.one_mul] at this
          exact this
        have g9 : Int.tmod ((v * 64 + d : Nat) : Int) ((2 ^ (bits + 6 - 8) : Nat) : Int) = (((v * 64 + d) % 2 ^ (bits + 6 - 8) : Nat) : Int) := tmod_nat _ _
        have hlt : (v * 64 + d) % 2 ^ (bits + 6 - 8) < 2 ^ (bits + 6 - 8) := Nat.mod_lt _ hp
        have ih := rtake_loop M t ht L hL k K (i + 1) ((v * 64 + d) % 2 ^ (bits + 6 - 8)) (bits + 6 - 8) (o ++ [UInt8.ofNat ((v * 64 + d) / 2 ^ (bits + 6 - 8))]) (by omega) (by omega) hlt (by simp; omega)
        rw [if_pos h8, dec_mod _ (v * 64 + d) ((v * 64 + d) % 2 ^ (bits + 6 - 8)) _ _ (by omega) (by rw [Nat.mod_mod])]
        simp only [g5, g6, g7, g8, g9]
        simp (disch := omega) only [dt, df, it, iF, bt, bf, cond_true, cond_false, map_some', chk_t, Bool.and_true, Bool.true_and, Bool.and_false, Bool.false_and, Bool.or_true, Bool.true_or, Bool.or_false, Bool.false_or, Bool.not_true, Bool.not_false, if_true, if_false, beq_self_eq_true, wrap_i64_of, wrap_u64_of, wrap_i32_of, wrap_u32_of, wrap_u8_of, tdiv_of, tmod_of, Int.toNat_natCast, List.take_length, List.drop_zero, or_true, true_or, or_false, false_or, or_self, List.length_cons, List.length_nil]
        exact ih
      · have hp : 2 ^ (bits + 6) = 2 ^ bits * 64 := by rw [Nat.pow_add]
        have ih := rtake_loop M t ht L hL k K (i + 1) (v * 64 + d) (bits + 6) o (by omega) (by omega) (by rw [hp]; omega) (by omega)
        rw [if_neg h8]
        simp (disch := omega) only [dt, df, it, iF, bt, bf, cond_true, cond_false, map_some', chk_t, Bool.and_true, Bool.true_and, Bool.and_false, Bool.false_and, Bool.or_true, Bool.true_or, Bool.or_false, Bool.false_or, Bool.not_true, Bool.not_false, if_true, if_false, beq_self_eq_true, wrap_i64_of, wrap_u64_of, wrap_i32_of, wrap_u32_of, wrap_u8_of, tdiv_of, tmod_of, Int.toNat_natCast, List.take_length, List.drop_zero, or_true, true_or, or_false, false_or, or_self, ]
        exact ih

theorem rtrim_loop (N : Nat) (t : List UInt8) (ht : t.length ≤ 1000) : ∀ (e K : Nat), e ≤ t.length →
    ∃ n, n ≤ e ∧ trimN e (t.take e) = t.take n ∧ iterL (K + e + 1) (B_ref1_TakeSixty_0 N) (t, 0, 0, [], (e : Int)) = iterL N (B_ref1_TakeSixty_1 N) (t, ((0 : Nat) : Int), ((0 : Nat) : Int), [], (n : Int), ((0 : Nat) : Int))
  | 0, K, he => ⟨0, Nat.le_refl _, rfl, rfl⟩
  | e + 1, K, he => by
    have hl : (t.take (e + 1)).length = e + 1 := by rw [List.length_take]; omega
    have hg : (t.take (e + 1)).getD (e + 1 - 1) 0 = t.getD e 0 := by simp [List.getD, List.getElem?_take]
    have htt : (t.take (e + 1)).take (e + 1 - 1) = t.take e := by rw [List.take_take]; congr 1; omega
    have x61 : ∀ x : UInt8, (x = 61) = (x.toNat = 61) := fun x => propext ⟨by rintro rfl; rfl, fun h => UInt8.toNat_inj.1 h⟩
    have e1 : IntKind.wrap .i64 (((e + 1 : Nat) : Int) - 1) = (e : Int) := by rw [wrap_i64_of _ (by omega)]; omega
    by_cases h : (t.getD e 0).toNat = 61
    · obtain ⟨n, h1, h2, h3⟩ := rtrim_loop N t ht e K (by omega)
      refine ⟨n, by omega, ?_, ?_⟩
      · simp only [trimN, hl, hg, htt, x61]
        rw [if_pos ⟨by omega, h⟩]
        exact h2
      · refine Eq.trans ?_ h3
        show BA_ref1_TakeSixty_0 N (iterL (K + e + 1) (B_ref1_TakeSixty_0 N)) _ _ = _
        simp only [BA_ref1_TakeSixty_0, e1, Int.toNat_natCast]
        simp (disch := omega) only [dt, df, it, iF, bt, bf, cond_true, cond_false, map_some', chk_t, Bool.and_true, Bool.true_and, Bool.and_false, Bool.false_and, Bool.or_true, Bool.true_or, Bool.or_false, Bool.false_or, Bool.not_true, Bool.not_false, if_true, if_false, beq_self_eq_true, wrap_i64_of, wrap_u64_of, wrap_i32_of, wrap_u32_of, wrap_u8_of, tdiv_of, tmod_of, Int.toNat_natCast, List.take_length, List.drop_zero, or_true, true_or, or_false, false_or, or_self, h]
    · refine ⟨e + 1, Nat.le_refl _, ?_, ?_⟩
      · simp only [trimN, hl, hg, htt, x61]
        rw [if_neg (fun hh => h hh.2)]
      · show BA_ref1_TakeSixty_0 N (iterL (K + e + 1) (B_ref1_TakeSixty_0 N)) _ _ = _
        simp only [BA_ref1_TakeSixty_0, e1, Int.toNat_natCast]
        simp (disch := omega) only [dt, df, it, iF, bt, bf, cond_true, cond_false, map_some', chk_t, Bool.and_true, Bool.true_and, Bool.and_false, Bool.false_and, Bool.or_true, Bool.true_or, Bool.or_false, Bool.false_or, Bool.not_true, Bool.not_false, if_true, if_false, beq_self_eq_true, wrap_i64_of, wrap_u64_of, wrap_i32_of, wrap_u32_of, wrap_u8_of, tdiv_of, tmod_of, Int.toNat_natCast, List.take_length, List.drop_zero, or_true, true_or, or_false, false_or, or_self, ]
        rfl

theorem sh_ref1_TakeSixty_eq (t : List UInt8) (ht : t.length ≤ 1000) : sh_ref1_TakeSixty 1066 t = some (.tup [.str (takeT t), .int .i64 (takeE t)], []) := by
  obtain ⟨n, h1, h2, h3⟩ := rtrim_loop 1066 t ht t.length (1065 - t.length) (Nat.le_refl _)
  rw [show 1065 - t.length + t.length + 1 = 1066 by omega] at h3
  rw [List.take_length] at h2
  have hp : t.take n = trimS t := h2.symm
  have key := rtake_loop 1000 t ht n h1 n (1065 - n) 0 0 0 [] (by omega) (by omega) (by decide) (by simp)
  rw [show 1065 - n + n + 1 = 1066 by omega, List.drop_zero, hp, ← takeV_eq] at key
  exact h3.trans key

theorem sh_law4_SixtyAll_eq (N : Nat) (s t : List UInt8) : sh_law4_SixtyAll N s t = some (.bool true, []) := by
  simp only [sh_law4_SixtyAll, sa_law4_SixtyAll]
  by_cases h1 : 60 < s.length
  · simp (disch := omega) only [dt, df, it, iF, bt, bf, cond_true, cond_false, map_some', chk_t, Bool.and_true, Bool.true_and, Bool.and_false, Bool.false_and, Bool.or_true, Bool.true_or, Bool.or_false, Bool.false_or, Bool.not_true, Bool.not_false, if_true, if_false, beq_self_eq_true, wrap_i64_of, wrap_u64_of, wrap_i32_of, wrap_u32_of, wrap_u8_of, tdiv_of, tmod_of, Int.toNat_natCast, List.take_length, List.drop_zero, or_true, true_or, or_false, false_or, or_self, ]
  by_cases h2 : 60 < t.length
  · simp (disch := omega) only [dt, df, it, iF, bt, bf, cond_true, cond_false, map_some', chk_t, Bool.and_true, Bool.true_and, Bool.and_false, Bool.false_and, Bool.or_true, Bool.true_or, Bool.or_false, Bool.false_or, Bool.not_true, Bool.not_false, if_true, if_false, beq_self_eq_true, wrap_i64_of, wrap_u64_of, wrap_i32_of, wrap_u32_of, wrap_u8_of, tdiv_of, tmod_of, Int.toNat_natCast, List.take_length, List.drop_zero, or_true, true_or, or_false, false_or, or_self, ]
  · simp (disch := omega) only [dt, df, it, iF, bt, bf, cond_true, cond_false, map_some', chk_t, Bool.and_true, Bool.true_and, Bool.and_false, Bool.false_and, Bool.or_true, Bool.true_or, Bool.or_false, Bool.false_or, Bool.not_true, Bool.not_false, if_true, if_false, beq_self_eq_true, wrap_i64_of, wrap_u64_of, wrap_i32_of, wrap_u32_of, wrap_u8_of, tdiv_of, tmod_of, Int.toNat_natCast, List.take_length, List.drop_zero, or_true, true_or, or_false, false_or, or_self, decide_true]
end Go.Proofs.YtmiclamhiohemaaDoor
