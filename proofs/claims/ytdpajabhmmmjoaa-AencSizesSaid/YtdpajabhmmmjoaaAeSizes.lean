/-
  AencSizes: how many bytes numbers, texts and rows of them have.
-/
import Derived.Test.YtdpajabhmmmjoaaAeFun3
import Derived.Test.YtdpajabhmmmjoaaGlRunes
namespace Go.Proofs.Ytdpajabhmmmjoaa
open Go.AM
set_option autoImplicit false
set_option linter.unusedSimpArgs false
set_option linter.unusedVariables false
set_option maxRecDepth 100000

theorem putN_length : ∀ (k v i : Nat), 1 ≤ i → i ≤ k + 1 → (i = 1 ∨ 128 ^ (i - 1) ≤ v) → (i = k + 1 ∨ v < 128 ^ i) → (putN k v).length = i
  | 0, v, i, h1, h2, _, _ => by
    have : i = 1 := by omega
    subst this; rfl
  | k + 1, v, i, h1, h2, h3, h4 => by
    rw [putN]
    by_cases hv : v < 128
    · rw [if_pos hv]
      rcases h3 with h3 | h3
      · subst h3; rfl
      · have : i - 1 = 0 := by
          rcases Nat.eq_zero_or_pos (i - 1) with h | h
          · exact h
          · have : 128 ^ 1 ≤ 128 ^ (i - 1) := Nat.pow_le_pow_right (by omega) h
            omega
        have : i = 1 := by omega
        subst this; rfl
    · rw [if_neg hv]
      obtain ⟨j, rfl⟩ : ∃ j, i = j + 1 := ⟨i - 1, by omega⟩
      have hj : 1 ≤ j := by
        rcases Nat.eq_zero_or_pos j with h | h
        · subst h
          rcases h4 with h4 | h4
          · omega
          · simp at h4; omega
        · exact h
      rw [List.length_cons, putN_length k (v / 128) j hj (by omega) ?_ ?_]
      · rcases Nat.lt_or_ge j 2 with h | h
        · left; omega
        · right
          rcases h3 with h3 | h3
          · omega
          · rw [Nat.le_div_iff_mul_le (by omega), ← Nat.pow_succ]
            rw [show (j - 1).succ = j + 1 - 1 by omega]; exact h3
      · rcases h4 with h4 | h4
        · left; omega
        · right
          rw [Nat.div_lt_iff_lt_mul (by omega), ← Nat.pow_succ]; exact h4

/-- the zigzag of a number -/
def zz (n : Int) : Nat := if 0 ≤ n then (2 * n).toNat else (-2 * n - 1).toNat

theorem zig_zz (n : Int) (hn : -9223372036854775808 ≤ n ∧ n ≤ 9223372036854775807) : zigN (IntKind.wrap .u64 n) = (zz n : Int) := by
  rw [wrap_u64]
  unfold zigN zz
  by_cases h : 0 ≤ n
  · rw [if_pos h, if_pos (by omega)]; omega
  · rw [if_neg h, if_neg (by omega)]; omega

theorem longS_length (n : Int) (i : Nat) (hn : -9223372036854775808 ≤ n ∧ n ≤ 9223372036854775807) (h1 : 1 ≤ i) (h2 : i ≤ 10) (h3 : i = 1 ∨ 128 ^ (i - 1) ≤ zz n) (h4 : i = 10 ∨ zz n < 128 ^ i) : (longS n).length = i := by
  rw [longS_def]
  simp only [longD, zig_zz n hn, putV, Int.toNat_natCast]
  exact putN_length 9 (zz n) i h1 h2 h3 h4

def ts3 : List AType := [⟨4, [], [], 0, [], false, [], 0, [], []⟩, ⟨8, [], [], 0, [], false, [], 0, [], []⟩, ⟨12, [], [], 0, [], false, [], 0, [], []⟩]

theorem fits3_long (n : Int) : fitsS ts3 0 (.mk n [] [] [] 0) = true := by
  simp only [fitsS]; rfl
theorem fits3_text (t : List UInt8) (h : validG t = true) : fitsS ts3 1 (.mk 0 t [] [] 0) = true := by
  simp only [fitsS]
  show (true && (validG t && true)) = true
  rw [h]; rfl
theorem fits3_each (v : AVal) (h : fitsS ts3 0 v = true) : ∀ m : Nat, eachS ts3 0 (List.replicate m v) = true
  | 0 => rfl
  | m + 1 => by rw [List.replicate_succ, eachS, h, fits3_each v h m]; rfl
theorem fits3_row (v : AVal) (h : fitsS ts3 0 v = true) (m : Nat) : fitsS ts3 2 (.mk 0 [] (List.replicate m v) [] 0) = true := by
  simp only [fitsS]
  show (true && (eachS ts3 0 (List.replicate m v) && true)) = true
  rw [fits3_each v h m]; rfl
theorem val3_long (n : Int) : valueS ts3 0 (.mk n [] [] [] 0) = longS (IntKind.wrap .i64 n) := by rw [valueS]; rfl
theorem val3_text (t : List UInt8) : valueS ts3 1 (.mk 0 t [] [] 0) = textV t := by rw [valueS]; rfl
theorem val3_row (l : List AVal) : valueS ts3 2 (.mk 0 [] l [] 0) = (cond (decide (0 < (l.length : Int))) (longS (l.length : Int)) []) ++ allV ts3 0 l ++ longS 0 := by rw [valueS]; rfl

theorem allV_rep (v : AVal) : ∀ m : Nat, (allV ts3 0 (List.replicate m v)).length = m * (valueS ts3 0 v).length
  | 0 => by simp [allV]
  | m + 1 => by rw [List.replicate_succ, allV, List.length_append, allV_rep v m, Nat.succ_mul]; omega

theorem wL_rep (v : AVal) : ∀ m : Nat, wL (List.replicate m v) = m * wV v
  | 0 => by simp [wL]
  | m + 1 => by rw [List.replicate_succ, wL, wL_rep v m, Nat.succ_mul]; omega
theorem szL_rep (v : AVal) : ∀ m : Nat, szL (List.replicate m v) = m * szV v
  | 0 => by simp [szL]
  | m + 1 => by rw [List.replicate_succ, szL, szL_rep v m, Nat.succ_mul]; omega

theorem enc_of (ts : List AType) (t : Int) (v : AVal) (hT : isT ts t = true) (hF : fitsS ts t v = true) (hL : (valueS ts t v).length ≤ 5000) : encS ts t v = (valueS ts t v, 0) := by
  unfold encS
  rw [if_neg (by rw [hT]; simp), if_neg (by rw [hF]; simp), if_neg (by omega)]

theorem long0 : (longS 0).length = 1 := longS_length 0 1 (by omega) (by omega) (by omega) (.inl rfl) (.inr (by decide))

theorem wrap_back (n : Int) (hn : -9223372036854775808 ≤ n ∧ n ≤ 9223372036854775807) : IntKind.wrap .i64 (IntKind.wrap .u64 n) = n := by
  rw [wrap_u64, wrap_i64]; omega

theorem sizes_end (N : Nat) (hN : 2000000 ≤ N) (p : Int) (hp : -9223372036854775808 ≤ p ∧ p ≤ 9223372036854775807) (t : List UInt8) (ht : t.length ≤ 100) (hv : validG t = true) (m : Nat) (hm : m ≤ 255) (size : Nat) (hs : (longS p).length = size) :
    (iterL N (B_law22_AencSizes_1 N) (t, (m : Int), ts3, (size : Int), (IntKind.wrap .u64 p), ([] : List UInt8), ([] : List AVal), ([] : List (List UInt8)), 0, 0, 0, ([] : List UInt8), ([] : List AVal), ([] : List (List UInt8)), 0)).map (·.1) = some (.bool true) := by
  have hsz : size ≤ 10 := by rw [← hs]; exact longS_len p
  refine iterL_fst (fun x : List UInt8 × Int × List AType × Int × Int × List UInt8 × List AVal × List (List UInt8) × Int × Int × Int × List UInt8 × List AVal × List (List UInt8) × Int => ∃ i : Nat, x = (t, (m : Int), ts3, (size : Int), (IntKind.wrap .u64 p), ([] : List UInt8), ([] : List AVal), ([] : List (List UInt8)), 0, (i : Int), 0, ([] : List UInt8), List.replicate i (.mk (IntKind.wrap .u64 p) [] [] [] 0), ([] : List (List UInt8)), 0) ∧ i ≤ m)
    (fun x => m - x.2.2.2.2.2.2.2.2.2.1.toNat) (fun x => V.bool true) ?_ N _ ⟨0, rfl, by omega⟩ (by simp; omega)
  rintro rec x ⟨i, rfl, hi⟩ hrec
  simp only [B_law22_AencSizes_1]
  have wm : IntKind.wrap .i64 (m : Int) = (m : Int) := wrap_i64_of _ (by omega)
  rcases Nat.lt_or_ge i m with h | h
  · have hr := hrec (t, (m : Int), ts3, (size : Int), (IntKind.wrap .u64 p), ([] : List UInt8), ([] : List AVal), ([] : List (List UInt8)), 0, ((i + 1 : Nat) : Int), 0, ([] : List UInt8), List.replicate (i + 1) (.mk (IntKind.wrap .u64 p) [] [] [] 0), ([] : List (List UInt8)), 0) ⟨i + 1, rfl, by omega⟩ (by simp only [Int.toNat_natCast]; omega)
    have c1 : decide ((i : Int) < (m : Int)) = true := decide_eq_true (by omega)
    have c2 : decide (((List.replicate i (AVal.mk (IntKind.wrap .u64 p) [] [] [] 0)).length + ([(AVal.mk (IntKind.wrap .u64 p) [] [] [] 0)] : List AVal).length) * 80 ≤ 140737488355328) = true := decide_eq_true (by simp; omega)
    have e4 : IntKind.wrap .i64 ((i : Int) + 1) = ((i + 1 : Nat) : Int) := by rw [wrap_i64_of _ (by omega)]; rfl
    simp only [wm, c1, c2, e4, cond_true, chk_t]
    rw [← List.replicate_succ']
    exact hr
  · have : i = m := by omega
    subst this
    have c1 : decide ((i : Int) < (i : Int)) = false := decide_eq_false (by omega)
    have wb := wrap_back p hp
    have f0 := fits3_long (IntKind.wrap .u64 p)
    have l0 : (valueS ts3 0 (.mk (IntKind.wrap .u64 p) [] [] [] 0)).length = size := by rw [val3_long, wb]; exact hs
    have e0 := enc_of ts3 0 _ rfl f0 (by omega)
    have l1 : (valueS ts3 1 (.mk 0 t [] [] 0)).length = (if 64 ≤ t.length then 2 else 1) + t.length := by
      rw [val3_text, textV, List.length_append]
      by_cases h64 : 64 ≤ t.length
      · rw [if_pos h64, longS_length (t.length : Int) 2 (by omega) (by omega) (by omega) (.inr (by unfold zz; rw [if_pos (by omega)]; omega)) (.inr (by unfold zz; rw [if_pos (by omega)]; omega))]
      · rw [if_neg h64, longS_length (t.length : Int) 1 (by omega) (by omega) (by omega) (.inl rfl) (.inr (by unfold zz; rw [if_pos (by omega)]; omega))]
    have e1 := enc_of ts3 1 _ rfl (fits3_text t hv) (by rw [l1]; split <;> omega)
    have l2 : (valueS ts3 2 (.mk 0 [] (List.replicate i (.mk (IntKind.wrap .u64 p) [] [] [] 0)) [] 0)).length = (if 64 ≤ i then 2 else if 0 < i then 1 else 0) + i * size + 1 := by
      rw [val3_row, List.length_append, List.length_append, allV_rep, l0, long0]
      simp only [List.length_replicate]
      by_cases h64 : 64 ≤ i
      · rw [if_pos h64, decide_eq_true (show (0 : Int) < (i : Int) by omega), cond_true, longS_length (i : Int) 2 (by omega) (by omega) (by omega) (.inr (by unfold zz; rw [if_pos (by omega)]; omega)) (.inr (by unfold zz; rw [if_pos (by omega)]; omega))]
      · rw [if_neg h64]
        by_cases h0 : 0 < i
        · rw [if_pos h0, decide_eq_true (show (0 : Int) < (i : Int) by omega), cond_true, longS_length (i : Int) 1 (by omega) (by omega) (by omega) (.inl rfl) (.inr (by unfold zz; rw [if_pos (by omega)]; omega))]
        · rw [if_neg h0, decide_eq_false (show ¬ (0 : Int) < (i : Int) by omega), cond_false, List.length_nil]
    have hprod : i * size ≤ 2550 := Nat.le_trans (Nat.mul_le_mul hm hsz) (by decide)
    have e2 := enc_of ts3 2 _ rfl (fits3_row _ f0 i) (by rw [l2]; split <;> (try split) <;> omega)
    have hwr : wL (List.replicate i (AVal.mk (IntKind.wrap .u64 p) [] [] [] 0)) = i * 40 := wL_rep _ _
    have hsr : szL (List.replicate i (AVal.mk (IntKind.wrap .u64 p) [] [] [] 0)) = i * 1 := szL_rep _ _
    have d0 : (decide (1000000 ≤ N - (szL ([] : List AVal) + 1)) && decide (wV (.mk (IntKind.wrap .u64 p) [] [] [] 0) ≤ 1000000000000000)) = true := by
      rw [decide_eq_true (by simp only [szL]; omega), decide_eq_true (by simp [wV, keyW, wL])]; rfl
    have d1 : (decide (1000000 ≤ N - (szL ([] : List AVal) + 1)) && decide (wV (.mk 0 t [] [] 0) ≤ 1000000000000000)) = true := by
      rw [decide_eq_true (by simp only [szL]; omega), decide_eq_true (by simp [wV, keyW, wL]; omega)]; rfl
    have d2 : (decide (1000000 ≤ N - (szL (List.replicate i (AVal.mk (IntKind.wrap .u64 p) [] [] [] 0)) + 1)) && decide (wV (.mk 0 [] (List.replicate i (AVal.mk (IntKind.wrap .u64 p) [] [] [] 0)) [] 0) ≤ 1000000000000000)) = true := by
      rw [decide_eq_true (by rw [hsr]; omega), decide_eq_true (by simp only [wV, keyW, hwr, List.length_nil]; omega)]; rfl
    simp only [wm, c1, cond_false, d0, d1, d2, chk_t, e0, e1, e2, l0, l1, l2, beq_self_eq_true, cond_true]
    have hpi : (i : Int) * (size : Int) = ((i * size : Nat) : Int) := by norm_cast
    rw [hpi]
    generalize i * size = q at *
    by_cases h64 : 64 ≤ t.length <;> by_cases i64 : 64 ≤ i <;> by_cases i0 : 0 < i
    all_goals simp only [h64, i64, i0, if_true, if_false]
    all_goals simp (disch := omega) only [dt, df, it, iF, bt, bf, cond_true, cond_false, map_some', chk_t, Bool.and_true, Bool.true_and, Bool.and_false, Bool.false_and, Bool.or_true, Bool.true_or, Bool.or_false, Bool.false_or, Bool.not_true, Bool.not_false, if_true, if_false, beq_self_eq_true, wrap_i64_of, wrap_u64_of, wrap_i32_of, wrap_u32_of, wrap_u8_of, tdiv_of, tmod_of, Int.toNat_natCast, List.take_length, List.drop_zero, or_true, true_or, or_false, false_or, or_self, h64, i64, i0]
    all_goals first | done | omega | (exfalso; omega)

theorem sizes_loop (N : Nat) (hN : 2000000 ≤ N) (p : Int) (hp : -9223372036854775808 ≤ p ∧ p ≤ 9223372036854775807) (t : List UInt8) (ht : t.length ≤ 100) (hv : validG t = true) (m : Nat) (hm : m ≤ 255) :
    (iterL N (B_law22_AencSizes_0 N) (p, t, (m : Int), ts3, 1, -64, 63)).map (·.1) = some (.bool true) := by
  refine iterL_fst (fun x : Int × List UInt8 × Int × List AType × Int × Int × Int => ∃ (i : Nat) (lo hi : Int), x = (p, t, (m : Int), ts3, (i : Int), lo, hi) ∧ 1 ≤ i ∧ i ≤ 10 ∧ (i < 10 → lo = -64 * ((128 ^ (i - 1) : Nat) : Int) ∧ hi = 64 * ((128 ^ (i - 1) : Nat) : Int) - 1) ∧ (i = 1 ∨ 128 ^ (i - 1) ≤ zz p))
    (fun x => 10 - x.2.2.2.2.1.toNat) (fun x => V.bool true) ?_ N _ ⟨1, -64, 63, rfl, by omega, by omega, fun _ => ⟨rfl, rfl⟩, .inl rfl⟩ (by simp; omega)
  rintro rec x ⟨i, lo, hi, rfl, i1, i10, hlh, hz⟩ hrec
  simp only [B_law22_AencSizes_0, BA_law22_AencSizes_0]
  have fin : (i = 10 ∨ zz p < 128 ^ i) → (iterL N (B_law22_AencSizes_1 N) (t, (m : Int), ts3, (i : Int), (IntKind.wrap .u64 p), ([] : List UInt8), ([] : List AVal), ([] : List (List UInt8)), 0, 0, 0, ([] : List UInt8), ([] : List AVal), ([] : List (List UInt8)), 0)).map (·.1) = some (.bool true) :=
    fun h => sizes_end N hN p hp t ht hv m hm i (longS_length p i hp i1 i10 hz h)
  by_cases h10 : i < 10
  · obtain ⟨rfl, rfl⟩ := hlh h10
    have c1 : decide ((i : Int) < 10) = true := decide_eq_true (by omega)
    have hc : 128 ^ (i - 1) ≤ 128 ^ 8 := Nat.pow_le_pow_right (by omega) (by omega)
    have hpw : 128 ^ i = 128 * 128 ^ (i - 1) := by
      rw [← Nat.pow_succ']; congr 1; omega
    have hpw8 : i < 9 → 128 ^ (i - 1) ≤ 128 ^ 7 := fun h => Nat.pow_le_pow_right (by omega) (by omega)
    have e4 : IntKind.wrap .i64 ((i : Int) + 1) = ((i + 1 : Nat) : Int) := by rw [wrap_i64_of _ (by omega)]; rfl
    have next : 128 ^ i ≤ zz p → (rec (p, t, (m : Int), ts3, ((i + 1 : Nat) : Int), IntKind.wrap .i64 (-64 * ((128 ^ (i - 1) : Nat) : Int) * 128), IntKind.wrap .i64 (IntKind.wrap .i64 ((64 * ((128 ^ (i - 1) : Nat) : Int) - 1) * 128) + 127))).map (·.1) = some (.bool true) := by
      intro hge
      refine hrec _ ⟨i + 1, _, _, rfl, by omega, by omega, ?_, .inr hge⟩ (by simp only [Int.toNat_natCast]; omega)
      intro h9
      have h7 := hpw8 (by omega)
      simp only [Nat.add_sub_cancel, hpw]
      generalize 128 ^ (i - 1) = c at *
      constructor
      · rw [wrap_i64_of _ (by omega)]; omega
      · rw [wrap_i64_of ((64 * (c : Int) - 1) * 128) (by omega), wrap_i64_of _ (by omega)]; omega
    simp only [c1, cond_true, e4]
    have hzz : zz p = if 0 ≤ p then (2 * p).toNat else (-2 * p - 1).toNat := rfl
    by_cases hlo : p < -64 * ((128 ^ (i - 1) : Nat) : Int)
    · simp only [decide_eq_true hlo, cond_true]
      apply next
      rw [hpw, hzz, if_neg (by omega)]
      omega
    · simp only [decide_eq_false hlo, cond_false]
      by_cases hhi : 64 * ((128 ^ (i - 1) : Nat) : Int) - 1 < p
      · simp only [decide_eq_true hhi, cond_true]
        apply next
        rw [hpw, hzz, if_pos (by omega)]
        omega
      · simp only [decide_eq_false hhi, cond_false]
        apply fin
        right
        rw [hpw, hzz]
        split <;> omega
  · have : i = 10 := by omega
    subst this
    have c1 : decide (((10 : Nat) : Int) < 10) = false := rfl
    simp only [c1, cond_false]
    exact fin (.inl rfl)

theorem sh_law22_AencSizes_eq (p : Int) (hp : -9223372036854775808 ≤ p ∧ p ≤ 9223372036854775807) (t : List UInt8) (m : Int) (hm : 0 ≤ m ∧ m ≤ 255) : (sh_law22_AencSizes 2000000 p t m).map (·.1) = some (.bool true) := by
  obtain ⟨m, rfl⟩ : ∃ k : Nat, m = (k : Int) := ⟨m.toNat, by omega⟩
  simp only [sh_law22_AencSizes, sa_law22_AencSizes]
  by_cases ht : 100 < (t.length : Int)
  · simp only [decide_eq_true ht, cond_true, Option.map_some]
  · have hl := runesOf_len t
    simp only [decide_eq_false ht, cond_false]
    rw [chk_true (decide_eq_true (by omega)), chk_true (decide_eq_true (by omega)), runes_same]
    cases hv : validG t
    · rfl
    · simp only [Bool.not_true, cond_false]
      exact sizes_loop 2000000 (by omega) p hp t (by omega) hv m (by omega)

theorem sh_law22_begun_eq : sh_law22_begun 2000000 = some (.bool true, []) := by
  have hF : fitsS [⟨4, [], [], 0, [], false, [], 0, [], []⟩] 0 (.mk 18446744073709551615 [] [] [] 0) = true := by simp only [fitsS]; rfl
  have hV : valueS [⟨4, [], [], 0, [], false, [], 0, [], []⟩] 0 (.mk 18446744073709551615 [] [] [] 0) = [1] := by
    rw [valueS]
    show longS (IntKind.wrap .i64 18446744073709551615) = [1]
    rw [longS_def]
    decide +kernel
  have e1 := enc_of [⟨4, [], [], 0, [], false, [], 0, [], []⟩] 0 (.mk 18446744073709551615 [] [] [] 0) rfl hF (by rw [hV]; decide)
  have e2 : encS [⟨4, [], [], 0, [], false, [], 0, [], []⟩] 1 (.mk 0 [] [] [] 0) = ([], 1) := by
    unfold encS
    exact if_pos rfl
  simp only [sh_law22_begun, sa_law22_begun, e1, e2, hV]
  rfl

theorem pure_law22_begun : PureOK Try.prog i_law22_begun [] (.bool true) :=
  ok_law22_begun 2000000 (spec_law22_begun _ (fun ts t m s l ks b hd => by
    simp only [Bool.and_eq_true, decide_eq_true_eq] at hd
    exact pure_Encode ts t m s l ks b hd.2)) sh_law22_begun_eq

theorem pure_law22_AencSizes (p : Int) (t : List UInt8) (m : Int) : PureOK Try.prog i_law22_AencSizes [.int .i64 p, .str t, .int .u8 m] (.bool true) := by
  refine PureOK.fits fun hf => ?_
  have r0 := fits_i64 (hf (.int .i64 p) (by simp))
  have r2 := fits_u8 (hf (.int .u8 m) (by simp))
  obtain ⟨hp, h⟩ := of_fst (sh_law22_AencSizes_eq p r0 t m r2)
  exact ok_law22_AencSizes 2000000 (spec_law22_AencSizes _ pure_law22_begun (fun ts t m s l ks b hd => by
    simp only [Bool.and_eq_true, decide_eq_true_eq] at hd
    exact pure_Encode ts t m s l ks b hd.2)) p t m h
end Go.Proofs.Ytdpajabhmmmjoaa
