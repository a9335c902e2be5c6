/-
  The runs of layer 20's functions, in plain Lean.
-/
import Derived.Test.YtdpajabhmmmjoaaAvPoint
import Derived.Test.YtdpajabhmmmjoaaGlRunes
import Derived.Test.YtdpajabhmmmjoaaAvFits
namespace Go.Proofs.Ytdpajabhmmmjoaa
open Go.AM
set_option autoImplicit false
set_option linter.unusedSimpArgs false
set_option linter.unusedVariables false

theorem sh_glyph_Valid_eq (N : Nat) (s : List UInt8) (hs : s.length ≤ 9223372036854775807) (hN : s.length < N) : sh_glyph_Valid N s = some (.bool (validG s), []) := by
  show iterL N (B_glyph_Valid_0 N) s = _
  refine iterL_spec (fun x : List UInt8 => x.length ≤ 9223372036854775807) (fun x => x.length) (fun x => (V.bool (validG x), ([] : List AObj))) ?_ N s hs hN
  rintro rec x hx hrec
  match x with
  | [] => rfl
  | c :: t =>
    have hle := point_le (c :: t)
    have hg : (pointG (c :: t)).2 = ((pointN (c :: t)).2 : Int) := rfl
    have h0 : decide (c :: t = []) = false := by simp
    have hcl : (c :: t).length = t.length + 1 := rfl
    have hx' : (c :: t).length ≤ 9223372036854775807 := hx
    simp only [B_glyph_Valid_0, validG_cons]
    generalize (pointG (c :: t)).2 = p at hg
    by_cases hp : (pointN (c :: t)).2 = 0
    · rw [if_pos hp]
      simp (disch := omega) only [dt, df, it, iF, bt, bf, cond_true, cond_false, map_some', chk_t, Bool.and_true, Bool.true_and, Bool.and_false, Bool.false_and, Bool.or_true, Bool.true_or, Bool.or_false, Bool.false_or, Bool.not_true, Bool.not_false, if_true, if_false, beq_self_eq_true, wrap_i64_of, wrap_u64_of, wrap_i32_of, wrap_u32_of, wrap_u8_of, tdiv_of, tmod_of, Int.toNat_natCast, List.take_length, List.drop_zero, or_true, true_or, or_false, false_or, or_self, h0]
    · rw [if_neg hp]
      have e : p.toNat = (pointN (c :: t)).2 := by omega
      simp (disch := omega) only [dt, df, it, iF, bt, bf, cond_true, cond_false, map_some', chk_t, Bool.and_true, Bool.true_and, Bool.and_false, Bool.false_and, Bool.or_true, Bool.true_or, Bool.or_false, Bool.false_or, Bool.not_true, Bool.not_false, if_true, if_false, beq_self_eq_true, wrap_i64_of, wrap_u64_of, wrap_i32_of, wrap_u32_of, wrap_u8_of, tdiv_of, tmod_of, Int.toNat_natCast, List.take_length, List.drop_zero, or_true, true_or, or_false, false_or, or_self, h0, e]
      exact hrec ((c :: t).drop (pointN (c :: t)).2) (by simp only [List.length_drop]; omega) (by simp only [List.length_drop]; omega)

theorem AVal.eta (v : AVal) : AVal.mk v.n v.s v.l v.keys v.branch = v := by cases v; rfl

theorem drop_getD {α : Type} (l : List α) (i : Nat) (d : α) (h : i < l.length) : l.drop i = l.getD i d :: l.drop (i + 1) := by
  rw [List.drop_eq_getElem_cons h, List.getD_eq_getElem?_getD, List.getElem?_eq_getElem h]
  rfl

theorem szL_drop : ∀ (l : List AVal) (i : Nat), szL (l.drop i) ≤ szL l
  | [], i => by simp
  | v :: l, 0 => by simp
  | v :: l, i + 1 => by
    have := szL_drop l i
    simp only [List.drop_succ_cons, szL]
    omega

theorem szL_get (l : List AVal) (i : Nat) (h : i < l.length) : szV (l.getD i (dflt .aval)) ≤ szL l := by
  have h1 := szL_drop l i
  rw [drop_getD l i (dflt .aval) h, szL] at h1
  omega

theorem szV_eq (v : AVal) : szV v = szL v.l + 1 := by cases v; rfl

theorem sh_aval_is_eq (N : Nat) (ts : List AType) (t : Int) : sh_aval_is N ts t = some (.bool (isT ts t), []) := by
  simp only [sh_aval_is, sa_aval_is, isT]
  by_cases h : 0 ≤ t
  · simp (disch := omega) only [dt, df, it, iF, bt, bf, cond_true, cond_false, map_some', chk_t, Bool.and_true, Bool.true_and, Bool.and_false, Bool.false_and, Bool.or_true, Bool.true_or, Bool.or_false, Bool.false_or, Bool.not_true, Bool.not_false, if_true, if_false, beq_self_eq_true, wrap_i64_of, wrap_u64_of, wrap_i32_of, wrap_u32_of, wrap_u8_of, tdiv_of, tmod_of, Int.toNat_natCast, List.take_length, List.drop_zero, or_true, true_or, or_false, false_or, or_self, ]
  · simp (disch := omega) only [dt, df, it, iF, bt, bf, cond_true, cond_false, map_some', chk_t, Bool.and_true, Bool.true_and, Bool.and_false, Bool.false_and, Bool.or_true, Bool.true_or, Bool.or_false, Bool.false_or, Bool.not_true, Bool.not_false, if_true, if_false, beq_self_eq_true, wrap_i64_of, wrap_u64_of, wrap_i32_of, wrap_u32_of, wrap_u8_of, tdiv_of, tmod_of, Int.toNat_natCast, List.take_length, List.drop_zero, or_true, true_or, or_false, false_or, or_self, ]

theorem sh_aval_bare_eq (N : Nat) (n : Int) (s : List UInt8) (l : List AVal) (ks : List (List UInt8)) (b : Int) : sh_aval_bare N n s l ks b = some (.bool (bareS n s l ks b), []) := by
  simp only [sh_aval_bare, sa_aval_bare, bareS]
  cases n == 0 <;> cases decide (s = ([] : List UInt8)) <;> cases (l.length : Int) == 0 <;> cases (ks.length : Int) == 0 <;> rfl

theorem sh_aval_number_eq (N : Nat) (a0 : Int) (a1 : List UInt8) (a2 : List (List UInt8)) (a3 : Int) (a4 : List (List UInt8)) (a5 : Bool) (a6 : List UInt8) (a7 : Int) (a8 : List AField) (a9 : List Int) (n : Int) :
    sh_aval_number N a0 a1 a2 a3 a4 a5 a6 a7 a8 a9 n = some (.bool (numS a0 a4 n), []) := by
  simp only [sh_aval_number, sa_aval_number, numS]
  cases a0 == 2 <;> cases a0 == 3 <;> cases a0 == 5 <;> cases a0 == 10 <;> rfl

theorem sh_aval_text_eq (N : Nat) (a0 : Int) (a1 : List UInt8) (a2 : List (List UInt8)) (a3 : Int) (a4 : List (List UInt8)) (a5 : Bool) (a6 : List UInt8) (a7 : Int) (a8 : List AField) (a9 : List Int) (s : List UInt8) :
    sh_aval_text N a0 a1 a2 a3 a4 a5 a6 a7 a8 a9 s = some (.bool (textS a0 a7 s), []) := by
  simp only [sh_aval_text, sa_aval_text, textS]
  cases a0 == 8 <;> cases a0 == 11 <;> rfl

/-- keys from a place on -/
def keysFrom (l : List (List UInt8)) (i : Nat) : Bool := match i with | 0 => keysS l | i + 1 => keysB (l.getD i []) (l.drop (i + 1))

theorem keysFrom_end (l : List (List UInt8)) : keysFrom l l.length = true := by
  unfold keysFrom
  split
  · rename_i h
    rw [List.length_eq_zero_iff.1 h]; rfl
  · rename_i i h
    rw [show l.drop (i + 1) = [] from List.drop_eq_nil_of_le (by omega)]
    rfl

theorem keysFrom_step (l : List (List UInt8)) (i : Nat) (h : i < l.length) :
    keysFrom l i = (validG (l.getD i []) && ((decide (i = 0) || Op.bytesLess (l.getD (i - 1) []) (l.getD i [])) && keysFrom l (i + 1))) := by
  cases i with
  | zero =>
    have := drop_getD l 0 [] h
    rw [List.drop_zero] at this
    simp only [keysFrom]
    conv => lhs; rw [this]
    simp [keysS]
  | succ i =>
    simp only [keysFrom]
    rw [drop_getD l (i + 1) [] h]
    simp [keysB]

theorem sh_aval_keys_eq (N : Nat) (l : List (List UInt8)) (hl : l.length ≤ 9223372036854775807) (hN : l.length < N) : sh_aval_keys N l = some (.bool (keysS l), []) := by
  show iterL N (B_aval_keys_0 N) (l, l, (l.length : Int), 0) = some (.bool (keysFrom l 0), [])
  refine iterL_spec (fun x : List (List UInt8) × List (List UInt8) × Int × Int => l = x.1 ∧ l = x.2.1 ∧ x.2.2.1 = (l.length : Int) ∧ ∃ i : Nat, x.2.2.2 = (i : Int) ∧ i ≤ l.length) (fun x => l.length - x.2.2.2.toNat)
    (fun x => (V.bool (keysFrom l x.2.2.2.toNat), ([] : List AObj))) ?_ N _ ⟨rfl, rfl, rfl, 0, rfl, by omega⟩ (by simp; omega)
  rintro rec ⟨x1, x2, x3, x4⟩ ⟨e1, e2, e3, i, e4, hi⟩ hrec
  simp only at e1 e2 e3 e4
  subst e1 e2 e3 e4
  simp only [B_aval_keys_0, Int.toNat_natCast]
  rcases Nat.lt_or_ge i l.length with hlt | hge
  · rw [keysFrom_step l i hlt]
    have hr := hrec (l, l, (l.length : Int), ((i + 1 : Nat) : Int)) ⟨rfl, rfl, rfl, i + 1, rfl, by omega⟩ (by simp only [Int.toNat_natCast]; omega)
    simp only [Int.toNat_natCast] at hr
    have e5 : IntKind.wrap .i64 ((i : Int) + 1) = ((i + 1 : Nat) : Int) := by rw [wrap_i64_of _ (by omega)]; rfl
    show cond _ _ _ = _
    simp only [dflt]
    cases hv : validG (l.getD i [])
    · simp (disch := omega) only [dt, df, it, iF, bt, bf, cond_true, cond_false, map_some', chk_t, Bool.and_true, Bool.true_and, Bool.and_false, Bool.false_and, Bool.or_true, Bool.true_or, Bool.or_false, Bool.false_or, Bool.not_true, Bool.not_false, if_true, if_false, beq_self_eq_true, wrap_i64_of, wrap_u64_of, wrap_i32_of, wrap_u32_of, wrap_u8_of, tdiv_of, tmod_of, Int.toNat_natCast, List.take_length, List.drop_zero, or_true, true_or, or_false, false_or, or_self, ]
    · rcases Nat.eq_zero_or_pos i with h0 | h0
      · subst h0
        simp (disch := omega) only [dt, df, it, iF, bt, bf, cond_true, cond_false, map_some', chk_t, Bool.and_true, Bool.true_and, Bool.and_false, Bool.false_and, Bool.or_true, Bool.true_or, Bool.or_false, Bool.false_or, Bool.not_true, Bool.not_false, if_true, if_false, beq_self_eq_true, wrap_i64_of, wrap_u64_of, wrap_i32_of, wrap_u32_of, wrap_u8_of, tdiv_of, tmod_of, Int.toNat_natCast, List.take_length, List.drop_zero, or_true, true_or, or_false, false_or, or_self, e5, hr, decide_true]
      · have e6 : IntKind.wrap .i64 ((i : Int) - 1) = ((i - 1 : Nat) : Int) := by rw [wrap_i64_of _ (by omega)]; omega
        cases hb : Op.bytesLess (l.getD (i - 1) []) (l.getD i [])
        · simp (disch := omega) only [dt, df, it, iF, bt, bf, cond_true, cond_false, map_some', chk_t, Bool.and_true, Bool.true_and, Bool.and_false, Bool.false_and, Bool.or_true, Bool.true_or, Bool.or_false, Bool.false_or, Bool.not_true, Bool.not_false, if_true, if_false, beq_self_eq_true, wrap_i64_of, wrap_u64_of, wrap_i32_of, wrap_u32_of, wrap_u8_of, tdiv_of, tmod_of, Int.toNat_natCast, List.take_length, List.drop_zero, or_true, true_or, or_false, false_or, or_self, e6, hb]
        · simp (disch := omega) only [dt, df, it, iF, bt, bf, cond_true, cond_false, map_some', chk_t, Bool.and_true, Bool.true_and, Bool.and_false, Bool.false_and, Bool.or_true, Bool.true_or, Bool.or_false, Bool.false_or, Bool.not_true, Bool.not_false, if_true, if_false, beq_self_eq_true, wrap_i64_of, wrap_u64_of, wrap_i32_of, wrap_u32_of, wrap_u8_of, tdiv_of, tmod_of, Int.toNat_natCast, List.take_length, List.drop_zero, or_true, true_or, or_false, false_or, or_self, e5, e6, hb, hr]
  · have : i = l.length := by omega
    subst this
    rw [keysFrom_end]
    simp (disch := omega) only [dt, df, it, iF, bt, bf, cond_true, cond_false, map_some', chk_t, Bool.and_true, Bool.true_and, Bool.and_false, Bool.false_and, Bool.or_true, Bool.true_or, Bool.or_false, Bool.false_or, Bool.not_true, Bool.not_false, if_true, if_false, beq_self_eq_true, wrap_i64_of, wrap_u64_of, wrap_i32_of, wrap_u32_of, wrap_u8_of, tdiv_of, tmod_of, Int.toNat_natCast, List.take_length, List.drop_zero, or_true, true_or, or_false, false_or, or_self, ]

theorem badV_from (ts : List AType) (t : Int) : ∀ (l : List AVal) (i : Nat), (0 ≤ badV ts t l i) ↔ eachS ts t l = false
  | [], i => by simp [badV, eachS]
  | v :: l, i => by
    have := badV_from ts t l (i + 1)
    simp only [badV, eachS]
    cases h : fitsS ts t v <;> simp [h, this]

theorem sh_aval_each_eq (N : Nat) (ts : List AType) (t : Int) (l : List AVal) (h : szL l + 1000000 ≤ N) : sh_aval_each N ts t l = some (.bool (eachS ts t l), []) := by
  simp only [sh_aval_each, sa_aval_each]
  simp (disch := omega) only [dt, df, it, iF, bt, bf, cond_true, cond_false, map_some', chk_t, Bool.and_true, Bool.true_and, Bool.and_false, Bool.false_and, Bool.or_true, Bool.true_or, Bool.or_false, Bool.false_or, Bool.not_true, Bool.not_false, if_true, if_false, beq_self_eq_true, wrap_i64_of, wrap_u64_of, wrap_i32_of, wrap_u32_of, wrap_u8_of, tdiv_of, tmod_of, Int.toNat_natCast, List.take_length, List.drop_zero, or_true, true_or, or_false, false_or, or_self, Bool.not_not]

theorem sh_CF_eq (N : Nat) (ts : List AType) (t : Int) (l : List AVal) (h : szL l + 1000000 ≤ N) : sh_slices_ContainsFunc_api_AVal_api_AVal_aval_each_c1 N l ts t = some (.bool (!eachS ts t l), []) := by
  simp only [sh_slices_ContainsFunc_api_AVal_api_AVal_aval_each_c1, sa_slices_ContainsFunc_api_AVal_api_AVal_aval_each_c1]
  have := badV_from ts t l 0
  cases hb : eachS ts t l
  · rw [hb] at this
    have := this.2 rfl
    simp (disch := omega) only [dt, df, it, iF, bt, bf, cond_true, cond_false, map_some', chk_t, Bool.and_true, Bool.true_and, Bool.and_false, Bool.false_and, Bool.or_true, Bool.true_or, Bool.or_false, Bool.false_or, Bool.not_true, Bool.not_false, if_true, if_false, beq_self_eq_true, wrap_i64_of, wrap_u64_of, wrap_i32_of, wrap_u32_of, wrap_u8_of, tdiv_of, tmod_of, Int.toNat_natCast, List.take_length, List.drop_zero, or_true, true_or, or_false, false_or, or_self, ]
  · rw [hb] at this
    have : ¬ 0 ≤ badV ts t l 0 := fun h => by simpa using this.1 h
    simp (disch := omega) only [dt, df, it, iF, bt, bf, cond_true, cond_false, map_some', chk_t, Bool.and_true, Bool.true_and, Bool.and_false, Bool.false_and, Bool.or_true, Bool.true_or, Bool.or_false, Bool.false_or, Bool.not_true, Bool.not_false, if_true, if_false, beq_self_eq_true, wrap_i64_of, wrap_u64_of, wrap_i32_of, wrap_u32_of, wrap_u8_of, tdiv_of, tmod_of, Int.toNat_natCast, List.take_length, List.drop_zero, or_true, true_or, or_false, false_or, or_self, ]

theorem sh_each1_eq (N : Nat) (ts : List AType) (t : Int) (n : Int) (s : List UInt8) (l : List AVal) (ks : List (List UInt8)) (b : Int) (h : szL l + 1 + 1000000 ≤ N) :
    sh_aval_each_c1 N n s l ks b ts t = some (.bool (!fitsS ts t (.mk n s l ks b)), []) := by
  simp only [sh_aval_each_c1, sa_aval_each_c1]
  simp (disch := omega) only [dt, df, it, iF, bt, bf, cond_true, cond_false, map_some', chk_t, Bool.and_true, Bool.true_and, Bool.and_false, Bool.false_and, Bool.or_true, Bool.true_or, Bool.or_false, Bool.false_or, Bool.not_true, Bool.not_false, if_true, if_false, beq_self_eq_true, wrap_i64_of, wrap_u64_of, wrap_i32_of, wrap_u32_of, wrap_u8_of, tdiv_of, tmod_of, Int.toNat_natCast, List.take_length, List.drop_zero, or_true, true_or, or_false, false_or, or_self, ]

theorem sh_IF_eq (N : Nat) (ts : List AType) (t : Int) (l : List AVal) (hl : l.length ≤ 9223372036854775807) (h : szL l + 1000000 ≤ N) (hN : l.length < N) :
    sh_slices_IndexFunc_api_AVal_api_AVal_aval_each_c1 N l ts t = some (.int .i64 (badV ts t l 0), []) := by
  show iterL N (B_slices_IndexFunc_api_AVal_api_AVal_aval_each_c1_0 N) (l, ts, t, (l.length : Int), 0) = _
  refine iterL_spec (fun x : List AVal × List AType × Int × Int × Int => l = x.1 ∧ ts = x.2.1 ∧ t = x.2.2.1 ∧ x.2.2.2.1 = (l.length : Int) ∧ ∃ i : Nat, x.2.2.2.2 = (i : Int) ∧ i ≤ l.length) (fun x => l.length - x.2.2.2.2.toNat)
    (fun x => (V.int .i64 (badV ts t (l.drop x.2.2.2.2.toNat) x.2.2.2.2.toNat), ([] : List AObj))) ?_ N _ ⟨rfl, rfl, rfl, rfl, 0, rfl, by omega⟩ (by simp; omega)
  rintro rec ⟨x1, x2, x3, x4, x5⟩ ⟨e1, e2, e3, e4, i, e5, hi⟩ hrec
  simp only at e1 e2 e3 e4 e5
  subst e1 e2 e3 e4 e5
  simp only [B_slices_IndexFunc_api_AVal_api_AVal_aval_each_c1_0, Int.toNat_natCast]
  rcases Nat.lt_or_ge i l.length with hlt | hge
  · have hr := hrec (l, ts, t, (l.length : Int), ((i + 1 : Nat) : Int)) ⟨rfl, rfl, rfl, rfl, i + 1, rfl, by omega⟩ (by simp only [Int.toNat_natCast]; omega)
    simp only [Int.toNat_natCast] at hr
    have e6 : IntKind.wrap .i64 ((i : Int) + 1) = ((i + 1 : Nat) : Int) := by rw [wrap_i64_of _ (by omega)]; rfl
    have hz := szL_get l i hlt
    rw [szV_eq] at hz
    rw [drop_getD l i (dflt .aval) hlt, badV]
    simp only [AVal.eta]
    cases hv : fitsS ts t (l.getD i (dflt .aval))
    · simp (disch := omega) only [dt, df, it, iF, bt, bf, cond_true, cond_false, map_some', chk_t, Bool.and_true, Bool.true_and, Bool.and_false, Bool.false_and, Bool.or_true, Bool.true_or, Bool.or_false, Bool.false_or, Bool.not_true, Bool.not_false, if_true, if_false, beq_self_eq_true, wrap_i64_of, wrap_u64_of, wrap_i32_of, wrap_u32_of, wrap_u8_of, tdiv_of, tmod_of, Int.toNat_natCast, List.take_length, List.drop_zero, or_true, true_or, or_false, false_or, or_self, hv, Bool.false_eq_true]
    · simp (disch := omega) only [dt, df, it, iF, bt, bf, cond_true, cond_false, map_some', chk_t, Bool.and_true, Bool.true_and, Bool.and_false, Bool.false_and, Bool.or_true, Bool.true_or, Bool.or_false, Bool.false_or, Bool.not_true, Bool.not_false, if_true, if_false, beq_self_eq_true, wrap_i64_of, wrap_u64_of, wrap_i32_of, wrap_u32_of, wrap_u8_of, tdiv_of, tmod_of, Int.toNat_natCast, List.take_length, List.drop_zero, or_true, true_or, or_false, false_or, or_self, hv, e6, hr]
  · have : i = l.length := by omega
    subst this
    rw [List.drop_length, badV]
    simp (disch := omega) only [dt, df, it, iF, bt, bf, cond_true, cond_false, map_some', chk_t, Bool.and_true, Bool.true_and, Bool.and_false, Bool.false_and, Bool.or_true, Bool.true_or, Bool.or_false, Bool.false_or, Bool.not_true, Bool.not_false, if_true, if_false, beq_self_eq_true, wrap_i64_of, wrap_u64_of, wrap_i32_of, wrap_u32_of, wrap_u8_of, tdiv_of, tmod_of, Int.toNat_natCast, List.take_length, List.drop_zero, or_true, true_or, or_false, false_or, or_self, ]

theorem sh_record_eq (N : Nat) (ts : List AType) (a0 : Int) (a1 : List UInt8) (a2 : List (List UInt8)) (a3 : Int) (a4 : List (List UInt8)) (a5 : Bool) (a6 : List UInt8) (a7 : Int) (fs : List AField) (a9 : List Int) (l : List AVal)
    (hl : fs.length ≤ 9223372036854775807) (h : szL l + 1000000 ≤ N) (hN : l.length < N) :
    sh_aval_record N ts a0 a1 a2 a3 a4 a5 a6 a7 fs a9 l = some (.bool (decide (List.length l = List.length fs) && recS ts fs l), []) := by
  simp only [sh_aval_record, sa_aval_record]
  by_cases he : l.length = fs.length
  rotate_left
  · have e1 : decide (l.length = fs.length) = false := decide_eq_false he
    simp (disch := omega) only [dt, df, it, iF, bt, bf, cond_true, cond_false, map_some', chk_t, Bool.and_true, Bool.true_and, Bool.and_false, Bool.false_and, Bool.or_true, Bool.true_or, Bool.or_false, Bool.false_or, Bool.not_true, Bool.not_false, if_true, if_false, beq_self_eq_true, wrap_i64_of, wrap_u64_of, wrap_i32_of, wrap_u32_of, wrap_u8_of, tdiv_of, tmod_of, Int.toNat_natCast, List.take_length, List.drop_zero, or_true, true_or, or_false, false_or, or_self, e1]
  have e1 : decide (l.length = fs.length) = true := decide_eq_true he
  simp (disch := omega) only [dt, df, it, iF, bt, bf, cond_true, cond_false, map_some', chk_t, Bool.and_true, Bool.true_and, Bool.and_false, Bool.false_and, Bool.or_true, Bool.true_or, Bool.or_false, Bool.false_or, Bool.not_true, Bool.not_false, if_true, if_false, beq_self_eq_true, wrap_i64_of, wrap_u64_of, wrap_i32_of, wrap_u32_of, wrap_u8_of, tdiv_of, tmod_of, Int.toNat_natCast, List.take_length, List.drop_zero, or_true, true_or, or_false, false_or, or_self, e1]
  refine iterL_spec (fun x : List AVal × List AType × List AField × Int × Int => l = x.1 ∧ ts = x.2.1 ∧ fs = x.2.2.1 ∧ x.2.2.2.1 = (fs.length : Int) ∧ ∃ i : Nat, x.2.2.2.2 = (i : Int) ∧ i ≤ fs.length) (fun x => fs.length - x.2.2.2.2.toNat)
    (fun x => (V.bool (recS ts (fs.drop x.2.2.2.2.toNat) (l.drop x.2.2.2.2.toNat)), ([] : List AObj))) ?_ N _ ⟨rfl, rfl, rfl, rfl, 0, rfl, by omega⟩ (by simp; omega)
  rintro rec ⟨x1, x2, x3, x4, x5⟩ ⟨e1, e2, e3, e4, i, e5, hi⟩ hrec
  simp only at e1 e2 e3 e4 e5
  subst e1 e2 e3 e4 e5
  simp only [B_aval_record_0, Int.toNat_natCast]
  rcases Nat.lt_or_ge i fs.length with hlt | hge
  · have hr := hrec (l, ts, fs, (fs.length : Int), ((i + 1 : Nat) : Int)) ⟨rfl, rfl, rfl, rfl, i + 1, rfl, by omega⟩ (by simp only [Int.toNat_natCast]; omega)
    simp only [Int.toNat_natCast] at hr
    have e6 : IntKind.wrap .i64 ((i : Int) + 1) = ((i + 1 : Nat) : Int) := by rw [wrap_i64_of _ (by omega)]; rfl
    have hlt' : i < l.length := by omega
    have hz := szL_get l i hlt'
    rw [szV_eq] at hz
    rw [drop_getD l i (dflt .aval) hlt', drop_getD fs i (dflt .afield) hlt, recS]
    simp only [AVal.eta, List.headD_cons, List.tail_cons]
    cases hv : fitsS ts (fs.getD i (dflt .afield)).typ (l.getD i (dflt .aval))
    · simp (disch := omega) only [dt, df, it, iF, bt, bf, cond_true, cond_false, map_some', chk_t, Bool.and_true, Bool.true_and, Bool.and_false, Bool.false_and, Bool.or_true, Bool.true_or, Bool.or_false, Bool.false_or, Bool.not_true, Bool.not_false, if_true, if_false, beq_self_eq_true, wrap_i64_of, wrap_u64_of, wrap_i32_of, wrap_u32_of, wrap_u8_of, tdiv_of, tmod_of, Int.toNat_natCast, List.take_length, List.drop_zero, or_true, true_or, or_false, false_or, or_self, hv]
    · simp (disch := omega) only [dt, df, it, iF, bt, bf, cond_true, cond_false, map_some', chk_t, Bool.and_true, Bool.true_and, Bool.and_false, Bool.false_and, Bool.or_true, Bool.true_or, Bool.or_false, Bool.false_or, Bool.not_true, Bool.not_false, if_true, if_false, beq_self_eq_true, wrap_i64_of, wrap_u64_of, wrap_i32_of, wrap_u32_of, wrap_u8_of, tdiv_of, tmod_of, Int.toNat_natCast, List.take_length, List.drop_zero, or_true, true_or, or_false, false_or, or_self, hv, e6, hr]
  · have : i = fs.length := by omega
    subst this
    rw [List.drop_length, ← he, List.drop_length, recS]
    simp (disch := omega) only [dt, df, it, iF, bt, bf, cond_true, cond_false, map_some', chk_t, Bool.and_true, Bool.true_and, Bool.and_false, Bool.false_and, Bool.or_true, Bool.true_or, Bool.or_false, Bool.false_or, Bool.not_true, Bool.not_false, if_true, if_false, beq_self_eq_true, wrap_i64_of, wrap_u64_of, wrap_i32_of, wrap_u32_of, wrap_u8_of, tdiv_of, tmod_of, Int.toNat_natCast, List.take_length, List.drop_zero, or_true, true_or, or_false, false_or, or_self, ]

def eqTs (a b : List (List UInt8)) : Bool := decide (a = b)
theorem eqTs_drop (a b : List (List UInt8)) (i : Nat) (h : i < a.length) (h' : i < b.length) : eqTs (a.drop i) (b.drop i) = (decide (a.getD i (dflt .str) = b.getD i (dflt .str)) && eqTs (a.drop (i + 1)) (b.drop (i + 1))) := by
  unfold eqTs
  rw [← Bool.decide_and, decide_eq_decide, drop_getD a i (dflt .str) h, drop_getD b i (dflt .str) h', List.cons.injEq]

theorem sh_Equal_eq (N : Nat) (a b : List (List UInt8)) (hl : a.length ≤ 9223372036854775807) (hN : a.length < N) : sh_slices_Equal_string_string N a b = some (.bool (decide (a = b)), []) := by
  simp only [sh_slices_Equal_string_string, sa_slices_Equal_string_string]
  by_cases he : a.length = b.length
  rotate_left
  · have e1 : decide (a = b) = false := decide_eq_false (fun h => he (by rw [h]))
    simp (disch := omega) only [dt, df, it, iF, bt, bf, cond_true, cond_false, map_some', chk_t, Bool.and_true, Bool.true_and, Bool.and_false, Bool.false_and, Bool.or_true, Bool.true_or, Bool.or_false, Bool.false_or, Bool.not_true, Bool.not_false, if_true, if_false, beq_self_eq_true, wrap_i64_of, wrap_u64_of, wrap_i32_of, wrap_u32_of, wrap_u8_of, tdiv_of, tmod_of, Int.toNat_natCast, List.take_length, List.drop_zero, or_true, true_or, or_false, false_or, or_self, e1]
  simp (disch := omega) only [dt, df, it, iF, bt, bf, cond_true, cond_false, map_some', chk_t, Bool.and_true, Bool.true_and, Bool.and_false, Bool.false_and, Bool.or_true, Bool.true_or, Bool.or_false, Bool.false_or, Bool.not_true, Bool.not_false, if_true, if_false, beq_self_eq_true, wrap_i64_of, wrap_u64_of, wrap_i32_of, wrap_u32_of, wrap_u8_of, tdiv_of, tmod_of, Int.toNat_natCast, List.take_length, List.drop_zero, or_true, true_or, or_false, false_or, or_self, ]
  refine iterL_spec (fun x : List (List UInt8) × List (List UInt8) × Int × Int => a = x.1 ∧ b = x.2.1 ∧ x.2.2.1 = (a.length : Int) ∧ ∃ i : Nat, x.2.2.2 = (i : Int) ∧ i ≤ a.length) (fun x => a.length - x.2.2.2.toNat)
    (fun x => (V.bool (eqTs (a.drop x.2.2.2.toNat) (b.drop x.2.2.2.toNat)), ([] : List AObj))) ?_ N _ ⟨rfl, rfl, rfl, 0, rfl, by omega⟩ (by simp; omega)
  rintro rec ⟨x1, x2, x3, x4⟩ ⟨e1, e2, e3, i, e4, hi⟩ hrec
  simp only at e1 e2 e3 e4
  subst e1 e2 e3 e4
  simp only [B_slices_Equal_string_string_0, Int.toNat_natCast]
  rcases Nat.lt_or_ge i a.length with hlt | hge
  · have hr := hrec (a, b, (a.length : Int), ((i + 1 : Nat) : Int)) ⟨rfl, rfl, rfl, i + 1, rfl, by omega⟩ (by simp only [Int.toNat_natCast]; omega)
    simp only [Int.toNat_natCast] at hr
    have e6 : IntKind.wrap .i64 ((i : Int) + 1) = ((i + 1 : Nat) : Int) := by rw [wrap_i64_of _ (by omega)]; rfl
    rw [eqTs_drop a b i hlt (by omega)]
    by_cases hv : a.getD i (dflt .str) = b.getD i (dflt .str)
    · have e8 : decide (a.getD i (dflt .str) = b.getD i (dflt .str)) = true := decide_eq_true hv
      simp (disch := omega) only [dt, df, it, iF, bt, bf, cond_true, cond_false, map_some', chk_t, Bool.and_true, Bool.true_and, Bool.and_false, Bool.false_and, Bool.or_true, Bool.true_or, Bool.or_false, Bool.false_or, Bool.not_true, Bool.not_false, if_true, if_false, beq_self_eq_true, wrap_i64_of, wrap_u64_of, wrap_i32_of, wrap_u32_of, wrap_u8_of, tdiv_of, tmod_of, Int.toNat_natCast, List.take_length, List.drop_zero, or_true, true_or, or_false, false_or, or_self, e8, e6, hr]
    · have e8 : decide (a.getD i (dflt .str) = b.getD i (dflt .str)) = false := decide_eq_false hv
      simp (disch := omega) only [dt, df, it, iF, bt, bf, cond_true, cond_false, map_some', chk_t, Bool.and_true, Bool.true_and, Bool.and_false, Bool.false_and, Bool.or_true, Bool.true_or, Bool.or_false, Bool.false_or, Bool.not_true, Bool.not_false, if_true, if_false, beq_self_eq_true, wrap_i64_of, wrap_u64_of, wrap_i32_of, wrap_u32_of, wrap_u8_of, tdiv_of, tmod_of, Int.toNat_natCast, List.take_length, List.drop_zero, or_true, true_or, or_false, false_or, or_self, e8]
  · have : i = a.length := by omega
    subst this
    have e9 : eqTs (a.drop a.length) (b.drop a.length) = true := by rw [List.drop_length, he, List.drop_length]; rfl
    rw [e9]
    simp (disch := omega) only [dt, df, it, iF, bt, bf, cond_true, cond_false, map_some', chk_t, Bool.and_true, Bool.true_and, Bool.and_false, Bool.false_and, Bool.or_true, Bool.true_or, Bool.or_false, Bool.false_or, Bool.not_true, Bool.not_false, if_true, if_false, beq_self_eq_true, wrap_i64_of, wrap_u64_of, wrap_i32_of, wrap_u32_of, wrap_u8_of, tdiv_of, tmod_of, Int.toNat_natCast, List.take_length, List.drop_zero, or_true, true_or, or_false, false_or, or_self, ]

theorem sameL_len : ∀ (l m : List AVal), l.length ≠ m.length → sameL l m = false
  | [], m, h => by
    have : ¬ m.length = 0 := fun e => h (by simp [e])
    simp only [sameL, decide_eq_false this]
  | v :: l, [], h => by simp [sameL]
  | v :: l, w :: m, h => by
    simp only [sameL, List.tail_cons, sameL_len l m (by simpa using h), Bool.and_false]

theorem sh_EqualFunc_eq (N : Nat) (a b : List AVal) (hl : a.length ≤ 9223372036854775807) (h : szL a + 1000000 ≤ N) (hN : a.length < N) :
    sh_slices_EqualFunc_api_AVal_api_AVal_api_AVal_api_AVal_aval_Same N a b = some (.bool (sameL a b), []) := by
  simp only [sh_slices_EqualFunc_api_AVal_api_AVal_api_AVal_api_AVal_aval_Same, sa_slices_EqualFunc_api_AVal_api_AVal_api_AVal_api_AVal_aval_Same]
  by_cases he : a.length = b.length
  rotate_left
  · rw [sameL_len a b he]
    simp (disch := omega) only [dt, df, it, iF, bt, bf, cond_true, cond_false, map_some', chk_t, Bool.and_true, Bool.true_and, Bool.and_false, Bool.false_and, Bool.or_true, Bool.true_or, Bool.or_false, Bool.false_or, Bool.not_true, Bool.not_false, if_true, if_false, beq_self_eq_true, wrap_i64_of, wrap_u64_of, wrap_i32_of, wrap_u32_of, wrap_u8_of, tdiv_of, tmod_of, Int.toNat_natCast, List.take_length, List.drop_zero, or_true, true_or, or_false, false_or, or_self, ]
  simp (disch := omega) only [dt, df, it, iF, bt, bf, cond_true, cond_false, map_some', chk_t, Bool.and_true, Bool.true_and, Bool.and_false, Bool.false_and, Bool.or_true, Bool.true_or, Bool.or_false, Bool.false_or, Bool.not_true, Bool.not_false, if_true, if_false, beq_self_eq_true, wrap_i64_of, wrap_u64_of, wrap_i32_of, wrap_u32_of, wrap_u8_of, tdiv_of, tmod_of, Int.toNat_natCast, List.take_length, List.drop_zero, or_true, true_or, or_false, false_or, or_self, ]
  refine iterL_spec (fun x : List AVal × List AVal × Int × Int => b = x.1 ∧ a = x.2.1 ∧ x.2.2.1 = (a.length : Int) ∧ ∃ i : Nat, x.2.2.2 = (i : Int) ∧ i ≤ a.length) (fun x => a.length - x.2.2.2.toNat)
    (fun x => (V.bool (sameL (a.drop x.2.2.2.toNat) (b.drop x.2.2.2.toNat)), ([] : List AObj))) ?_ N _ ⟨rfl, rfl, rfl, 0, rfl, by omega⟩ (by simp; omega)
  rintro rec ⟨x1, x2, x3, x4⟩ ⟨e1, e2, e3, i, e4, hi⟩ hrec
  simp only at e1 e2 e3 e4
  subst e1 e2 e3 e4
  simp only [B_slices_EqualFunc_api_AVal_api_AVal_api_AVal_api_AVal_aval_Same_0, Int.toNat_natCast]
  rcases Nat.lt_or_ge i a.length with hlt | hge
  · have hr := hrec (b, a, (a.length : Int), ((i + 1 : Nat) : Int)) ⟨rfl, rfl, rfl, i + 1, rfl, by omega⟩ (by simp only [Int.toNat_natCast]; omega)
    simp only [Int.toNat_natCast] at hr
    have e6 : IntKind.wrap .i64 ((i : Int) + 1) = ((i + 1 : Nat) : Int) := by rw [wrap_i64_of _ (by omega)]; rfl
    have hz := szL_get a i hlt
    rw [szV_eq] at hz
    rw [drop_getD a i (dflt .aval) hlt, drop_getD b i (dflt .aval) (by omega), sameL]
    simp only [AVal.eta, List.headD_cons, List.tail_cons]
    have e9 : decide (0 < (b.getD i (dflt .aval) :: b.drop (i + 1)).length) = true := by simp
    cases hv : sameV (a.getD i (dflt .aval)) (b.getD i (dflt .aval))
    · simp (disch := omega) only [dt, df, it, iF, bt, bf, cond_true, cond_false, map_some', chk_t, Bool.and_true, Bool.true_and, Bool.and_false, Bool.false_and, Bool.or_true, Bool.true_or, Bool.or_false, Bool.false_or, Bool.not_true, Bool.not_false, if_true, if_false, beq_self_eq_true, wrap_i64_of, wrap_u64_of, wrap_i32_of, wrap_u32_of, wrap_u8_of, tdiv_of, tmod_of, Int.toNat_natCast, List.take_length, List.drop_zero, or_true, true_or, or_false, false_or, or_self, hv, e9]
    · simp (disch := omega) only [dt, df, it, iF, bt, bf, cond_true, cond_false, map_some', chk_t, Bool.and_true, Bool.true_and, Bool.and_false, Bool.false_and, Bool.or_true, Bool.true_or, Bool.or_false, Bool.false_or, Bool.not_true, Bool.not_false, if_true, if_false, beq_self_eq_true, wrap_i64_of, wrap_u64_of, wrap_i32_of, wrap_u32_of, wrap_u8_of, tdiv_of, tmod_of, Int.toNat_natCast, List.take_length, List.drop_zero, or_true, true_or, or_false, false_or, or_self, hv, e6, hr, e9]
  · have : i = a.length := by omega
    subst this
    rw [List.drop_length, he, List.drop_length, sameL]
    simp (disch := omega) only [dt, df, it, iF, bt, bf, cond_true, cond_false, map_some', chk_t, Bool.and_true, Bool.true_and, Bool.and_false, Bool.false_and, Bool.or_true, Bool.true_or, Bool.or_false, Bool.false_or, Bool.not_true, Bool.not_false, if_true, if_false, beq_self_eq_true, wrap_i64_of, wrap_u64_of, wrap_i32_of, wrap_u32_of, wrap_u8_of, tdiv_of, tmod_of, Int.toNat_natCast, List.take_length, List.drop_zero, or_true, true_or, or_false, false_or, or_self, List.length_nil, decide_true]

theorem sh_Same_eq (N : Nat) (n : Int) (s : List UInt8) (l : List AVal) (ks : List (List UInt8)) (b : Int) (n2 : Int) (s2 : List UInt8) (l2 : List AVal) (ks2 : List (List UInt8)) (b2 : Int) (h : szL l + 1000000 ≤ N) :
    sh_aval_Same N n s l ks b n2 s2 l2 ks2 b2 = some (.bool (sameV (.mk n s l ks b) (.mk n2 s2 l2 ks2 b2)), []) := by
  simp only [sh_aval_Same, sa_aval_Same, sameV, AVal.n, AVal.s, AVal.l, AVal.keys, AVal.branch]
  by_cases h1 : n = n2
  rotate_left
  · simp (disch := omega) only [dt, df, it, iF, bt, bf, cond_true, cond_false, map_some', chk_t, Bool.and_true, Bool.true_and, Bool.and_false, Bool.false_and, Bool.or_true, Bool.true_or, Bool.or_false, Bool.false_or, Bool.not_true, Bool.not_false, if_true, if_false, beq_self_eq_true, wrap_i64_of, wrap_u64_of, wrap_i32_of, wrap_u32_of, wrap_u8_of, tdiv_of, tmod_of, Int.toNat_natCast, List.take_length, List.drop_zero, or_true, true_or, or_false, false_or, or_self, ]
  by_cases h2 : s = s2
  rotate_left
  · simp (disch := omega) only [dt, df, it, iF, bt, bf, cond_true, cond_false, map_some', chk_t, Bool.and_true, Bool.true_and, Bool.and_false, Bool.false_and, Bool.or_true, Bool.true_or, Bool.or_false, Bool.false_or, Bool.not_true, Bool.not_false, if_true, if_false, beq_self_eq_true, wrap_i64_of, wrap_u64_of, wrap_i32_of, wrap_u32_of, wrap_u8_of, tdiv_of, tmod_of, Int.toNat_natCast, List.take_length, List.drop_zero, or_true, true_or, or_false, false_or, or_self, decide_eq_false h2]
    simp [h2]
  by_cases h3 : b = b2
  rotate_left
  · simp (disch := omega) only [dt, df, it, iF, bt, bf, cond_true, cond_false, map_some', chk_t, Bool.and_true, Bool.true_and, Bool.and_false, Bool.false_and, Bool.or_true, Bool.true_or, Bool.or_false, Bool.false_or, Bool.not_true, Bool.not_false, if_true, if_false, beq_self_eq_true, wrap_i64_of, wrap_u64_of, wrap_i32_of, wrap_u32_of, wrap_u8_of, tdiv_of, tmod_of, Int.toNat_natCast, List.take_length, List.drop_zero, or_true, true_or, or_false, false_or, or_self, decide_eq_true h2]
  by_cases h4 : ks = ks2
  · simp (disch := omega) only [dt, df, it, iF, bt, bf, cond_true, cond_false, map_some', chk_t, Bool.and_true, Bool.true_and, Bool.and_false, Bool.false_and, Bool.or_true, Bool.true_or, Bool.or_false, Bool.false_or, Bool.not_true, Bool.not_false, if_true, if_false, beq_self_eq_true, wrap_i64_of, wrap_u64_of, wrap_i32_of, wrap_u32_of, wrap_u8_of, tdiv_of, tmod_of, Int.toNat_natCast, List.take_length, List.drop_zero, or_true, true_or, or_false, false_or, or_self, decide_eq_true h2, decide_eq_true h4]
    simp [h2, h4]
  · simp (disch := omega) only [dt, df, it, iF, bt, bf, cond_true, cond_false, map_some', chk_t, Bool.and_true, Bool.true_and, Bool.and_false, Bool.false_and, Bool.or_true, Bool.true_or, Bool.or_false, Bool.false_or, Bool.not_true, Bool.not_false, if_true, if_false, beq_self_eq_true, wrap_i64_of, wrap_u64_of, wrap_i32_of, wrap_u32_of, wrap_u8_of, tdiv_of, tmod_of, Int.toNat_natCast, List.take_length, List.drop_zero, or_true, true_or, or_false, false_or, or_self, decide_eq_true h2, decide_eq_false h4]
    simp [h4]

theorem sh_Size_eq (N : Nat) (n : Int) (s : List UInt8) (l : List AVal) (ks : List (List UInt8)) (b : Int) (hl : l.length ≤ 9223372036854775807) (h : szL l + 1000000 ≤ N) (hN : l.length < N) :
    sh_aval_Size N n s l ks b = some (.tup [.int .i64 (sizeV (.mk n s l ks b)).1, .int .i64 (sizeV (.mk n s l ks b)).2], []) := by
  simp only [sh_aval_Size, sa_aval_Size, sizeV]
  refine iterL_spec (fun x : Int × Int × List AVal × Int × Int => l = x.2.2.1 ∧ x.2.2.2.1 = (l.length : Int) ∧ ∃ i : Nat, x.2.2.2.2 = (i : Int) ∧ i ≤ l.length) (fun x => l.length - x.2.2.2.2.toNat)
    (fun x => (V.tup [.int .i64 (sizeL (l.drop x.2.2.2.2.toNat) x.1 x.2.1).1, .int .i64 (sizeL (l.drop x.2.2.2.2.toNat) x.1 x.2.1).2], ([] : List AObj))) ?_ N _ ⟨rfl, rfl, 0, rfl, by omega⟩ (by simp; omega)
  rintro rec ⟨x1, x2, x3, x4, x5⟩ ⟨e3, e4, i, e5, hi⟩ hrec
  simp only at e3 e4 e5
  subst e3 e4 e5
  simp only [B_aval_Size_0, Int.toNat_natCast]
  rcases Nat.lt_or_ge i l.length with hlt | hge
  · have e6 : IntKind.wrap .i64 ((i : Int) + 1) = ((i + 1 : Nat) : Int) := by rw [wrap_i64_of _ (by omega)]; rfl
    have hz := szL_get l i hlt
    rw [szV_eq] at hz
    rw [drop_getD l i (dflt .aval) hlt, sizeL]
    simp only [AVal.eta]
    have e10 : decide ((i : Int) < (l.length : Int)) = true := decide_eq_true (by omega)
    have e11 : (decide ((0 : Int) ≤ (i : Int)) && decide ((i : Int) < (l.length : Int))) = true := by rw [e10]; simp
    have e12 : decide (1000000 ≤ N - (szL (l.getD i (dflt .aval)).l + 1)) = true := decide_eq_true (by omega)
    simp only [e10, e11, e12, chk_t, cond_true, e6]
    exact hrec (_, _, l, (l.length : Int), ((i + 1 : Nat) : Int)) ⟨rfl, rfl, i + 1, rfl, by omega⟩ (by simp only [Int.toNat_natCast]; omega)
  · have : i = l.length := by omega
    subst this
    rw [List.drop_length, sizeL]
    simp (disch := omega) only [dt, df, it, iF, bt, bf, cond_true, cond_false, map_some', chk_t, Bool.and_true, Bool.true_and, Bool.and_false, Bool.false_and, Bool.or_true, Bool.true_or, Bool.or_false, Bool.false_or, Bool.not_true, Bool.not_false, if_true, if_false, beq_self_eq_true, wrap_i64_of, wrap_u64_of, wrap_i32_of, wrap_u32_of, wrap_u8_of, tdiv_of, tmod_of, Int.toNat_natCast, List.take_length, List.drop_zero, or_true, true_or, or_false, false_or, or_self, ]
end Go.Proofs.Ytdpajabhmmmjoaa
