/-
  Rules by which plain functions' runs are made simple: conditions that arithmetic decides (simp's discharger: omega).
-/
import Derived.Test.YtifmekddikapeaaAmLaw
namespace Go.AM
set_option autoImplicit false

theorem dt {p : Prop} [Decidable p] (h : p) : decide p = true := decide_eq_true h
theorem df {p : Prop} [Decidable p] (h : ¬p) : decide p = false := decide_eq_false h
theorem bt {a b : Int} (h : a = b) : (a == b) = true := by simp [h]
theorem bf {a b : Int} (h : a ≠ b) : (a == b) = false := by simp [h]
theorem it {α : Type} {p : Prop} [Decidable p] {a b : α} (h : p) : (if p then a else b) = a := if_pos h
theorem iF {α : Type} {p : Prop} [Decidable p] {a b : α} (h : ¬p) : (if p then a else b) = b := if_neg h
theorem tdiv_of {a b : Int} (h : 0 ≤ a) : Int.tdiv a b = a / b := Int.tdiv_eq_ediv_of_nonneg h
theorem tmod_of {a b : Int} (h : 0 ≤ a) : Int.tmod a b = a % b := Int.tmod_eq_emod_of_nonneg h
theorem map_some' {α β : Type} (f : α → β) (x : α) : Option.map f (some x) = some (f x) := rfl
theorem wrap_i8_of (n : Int) (h : -128 ≤ n ∧ n ≤ 127) : IntKind.i8.wrap n = n := by simp [IntKind.wrap, IntKind.bits, IntKind.signed]; omega
theorem wrap_i16_of (n : Int) (h : -32768 ≤ n ∧ n ≤ 32767) : IntKind.i16.wrap n = n := by simp [IntKind.wrap, IntKind.bits, IntKind.signed]; omega
theorem wrap_u16_of (n : Int) (h : 0 ≤ n ∧ n ≤ 65535) : IntKind.u16.wrap n = n := by simp [IntKind.wrap, IntKind.bits, IntKind.signed]; omega
theorem wrap_i32_of (n : Int) (h : -2147483648 ≤ n ∧ n ≤ 2147483647) : IntKind.i32.wrap n = n := by rw [wrap_i32]; omega

/-- a value ahead of the objects -/
theorem of_fst {o : Option (V × List AObj)} {v : V} (h : o.map (·.1) = some v) : ∃ hp, o = some (v, hp) := by
  cases o with
  | none => simp at h
  | some p => obtain ⟨v', hp⟩ := p; simp at h; subst h; exact ⟨hp, rfl⟩

/-- rounds that lead to a value, whatever objects are left -/
theorem iterL_fst {α : Type} {B : (α → Option (V × List AObj)) → α → Option (V × List AObj)} (inv : α → Prop) (μ : α → Nat) (F : α → V)
    (step : ∀ (rec : α → Option (V × List AObj)) x, inv x → (∀ y, inv y → μ y < μ x → (rec y).map (·.1) = some (F y)) → (B rec x).map (·.1) = some (F x)) :
    ∀ n x, inv x → μ x < n → (iterL n B x).map (·.1) = some (F x)
  | 0, _, _, h => by omega
  | n + 1, x, hi, hm => step (iterL n B) x hi fun y hy hlt => iterL_fst inv μ F step n y hy (by omega)

/- what comes in is of its kind -/
theorem fits_u64 {n : Int} (h : (V.int .u64 n).fits) : 0 ≤ n ∧ n ≤ 18446744073709551615 := by simpa [V.fits, IntKind.min, IntKind.max, IntKind.signed, IntKind.bits] using h
theorem fits_u32 {n : Int} (h : (V.int .u32 n).fits) : 0 ≤ n ∧ n ≤ 4294967295 := by simpa [V.fits, IntKind.min, IntKind.max, IntKind.signed, IntKind.bits] using h
theorem fits_u16 {n : Int} (h : (V.int .u16 n).fits) : 0 ≤ n ∧ n ≤ 65535 := by simpa [V.fits, IntKind.min, IntKind.max, IntKind.signed, IntKind.bits] using h
theorem fits_u8 {n : Int} (h : (V.int .u8 n).fits) : 0 ≤ n ∧ n ≤ 255 := by simpa [V.fits, IntKind.min, IntKind.max, IntKind.signed, IntKind.bits] using h
theorem fits_i64 {n : Int} (h : (V.int .i64 n).fits) : -9223372036854775808 ≤ n ∧ n ≤ 9223372036854775807 := by simpa [V.fits, IntKind.min, IntKind.max, IntKind.signed, IntKind.bits] using h
theorem fits_i32 {n : Int} (h : (V.int .i32 n).fits) : -2147483648 ≤ n ∧ n ≤ 2147483647 := by simpa [V.fits, IntKind.min, IntKind.max, IntKind.signed, IntKind.bits] using h
theorem fits_str {l : List UInt8} (h : (V.str l).fits) : l.length ≤ 9223372036854775807 := h
theorem fits_sl {k : EK} {o : Fl} {l : List (Ty k)} (h : (V.sl k o l).fits) : l.length ≤ 9223372036854775807 := h
theorem fits_agg_i64 {cs : List V} (h : (V.agg cs).fits) (n : Int) (hm : V.int .i64 n ∈ cs) : -9223372036854775808 ≤ n ∧ n ≤ 9223372036854775807 := by
  have := h _ hm
  simpa [IntKind.min, IntKind.max, IntKind.signed, IntKind.bits] using this
theorem fits_agg_u64 {cs : List V} (h : (V.agg cs).fits) (n : Int) (hm : V.int .u64 n ∈ cs) : 0 ≤ n ∧ n ≤ 18446744073709551615 := by
  have := h _ hm
  simpa [IntKind.min, IntKind.max, IntKind.signed, IntKind.bits] using this
theorem fits_agg_str {cs : List V} (h : (V.agg cs).fits) (l : List UInt8) (hm : V.str l ∈ cs) : l.length ≤ 9223372036854775807 := h _ hm

theorem toNat_of {a : Int} {n : Nat} (h : a = (n : Int)) : a.toNat = n := by subst h; rfl

/- lists of rules, each as one -/
theorem rbase : type_of% @dt ∧ type_of% @df ∧ type_of% @it ∧ type_of% @iF ∧ type_of% @bt ∧ type_of% @bf ∧ type_of% @cond_true.{1} ∧ type_of% @cond_false.{1} ∧ type_of% @map_some' ∧ type_of% @chk_t ∧ type_of% @Bool.and_true ∧ type_of% @Bool.true_and ∧ type_of% @Bool.and_false ∧ type_of% @Bool.false_and ∧ type_of% @Bool.or_true ∧ type_of% @Bool.true_or ∧ type_of% @Bool.or_false ∧ type_of% @Bool.false_or ∧ type_of% @Bool.not_true ∧ type_of% @Bool.not_false ∧ type_of% @if_true.{1} ∧ type_of% @if_false.{1} ∧ type_of% @beq_self_eq_true.{0} ∧ type_of% @wrap_i64_of ∧ type_of% @wrap_u64_of ∧ type_of% @wrap_i32_of ∧ type_of% @wrap_u32_of ∧ type_of% @wrap_u8_of ∧ type_of% @tdiv_of ∧ type_of% @tmod_of ∧ type_of% @Int.toNat_natCast ∧ type_of% @List.take_length.{0} ∧ type_of% @List.drop_zero.{0} ∧ type_of% @or_true ∧ type_of% @true_or ∧ type_of% @or_false ∧ type_of% @false_or ∧ type_of% @or_self := ⟨@dt, @df, @it, @iF, @bt, @bf, @cond_true.{1}, @cond_false.{1}, @map_some', @chk_t, @Bool.and_true, @Bool.true_and, @Bool.and_false, @Bool.false_and, @Bool.or_true, @Bool.true_or, @Bool.or_false, @Bool.false_or, @Bool.not_true, @Bool.not_false, @if_true.{1}, @if_false.{1}, @beq_self_eq_true.{0}, @wrap_i64_of, @wrap_u64_of, @wrap_i32_of, @wrap_u32_of, @wrap_u8_of, @tdiv_of, @tmod_of, @Int.toNat_natCast, @List.take_length.{0}, @List.drop_zero.{0}, @or_true, @true_or, @or_false, @false_or, @or_self⟩
theorem bnl : type_of% @decide_eq_true_eq ∧ type_of% @decide_eq_false_iff_not ∧ type_of% @Bool.and_eq_true ∧ type_of% @Bool.and_eq_false_iff ∧ type_of% @Bool.or_eq_true ∧ type_of% @Bool.or_eq_false_iff ∧ type_of% @Bool.not_eq_true' ∧ type_of% @Bool.not_eq_false' ∧ type_of% @beq_iff_eq.{0} ∧ type_of% @beq_eq_false_iff_ne.{0} ∧ type_of% @Int.not_lt ∧ type_of% @Int.not_le ∧ type_of% @Nat.not_lt ∧ type_of% @Nat.not_le ∧ type_of% @ne_eq.{1} ∧ type_of% @Nat.beq_eq ∧ type_of% @true_and ∧ type_of% @and_true ∧ type_of% @Bool.not_not := ⟨@decide_eq_true_eq, @decide_eq_false_iff_not, @Bool.and_eq_true, @Bool.and_eq_false_iff, @Bool.or_eq_true, @Bool.or_eq_false_iff, @Bool.not_eq_true', @Bool.not_eq_false', @beq_iff_eq.{0}, @beq_eq_false_iff_ne.{0}, @Int.not_lt, @Int.not_le, @Nat.not_lt, @Nat.not_le, @ne_eq.{1}, @Nat.beq_eq, @true_and, @and_true, @Bool.not_not⟩
theorem lnl : type_of% @List.length_append.{0} ∧ type_of% @List.length_cons.{0} ∧ type_of% @List.length_nil.{0} ∧ type_of% @List.length_drop.{0} ∧ type_of% @List.length_take.{0} ∧ type_of% @List.length_set.{0} ∧ type_of% @List.length_replicate.{0} := ⟨@List.length_append.{0}, @List.length_cons.{0}, @List.length_nil.{0}, @List.length_drop.{0}, @List.length_take.{0}, @List.length_set.{0}, @List.length_replicate.{0}⟩
end Go.AM
