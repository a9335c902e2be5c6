/-
  The cursor's next byte.
-/
import Derived.Test.YtmiclamhiohemaaGlCode
import Derived.Test.YtmiclamhiohemaaAmTac
namespace Go.Proofs.Ytmiclamhiohemaa
open Go.AM
set_option autoImplicit false
set_option linter.unusedSimpArgs false
set_option linter.unusedVariables false

theorem sh_glyph_cursor_next_eq (N : Nat) (s : List UInt8) (n : Int) (o : List UInt8) (b : Bool) (hn : 0 ≤ n) (hs : s.length ≤ 9223372036854775806) :
    sh_glyph_cursor_next N s n o b = some (.int .u8 (nextC s n), [some [.str s, .int .i64 (nextAt s n), .bn 62 5, .sl .u8 true o, .bool (nextBad s n b)]]) := by
  simp only [sh_glyph_cursor_next, sa_glyph_cursor_next, nextC, nextAt, nextBad]
  by_cases h : (s.length : Int) ≤ n
  · simp (disch := omega) only [dt, df, it, iF, bt, bf, cond_true, cond_false, map_some', chk_t, Bool.and_true, Bool.true_and, Bool.and_false, Bool.false_and, Bool.or_true, Bool.true_or, Bool.or_false, Bool.false_or, Bool.not_true, Bool.not_false, if_true, if_false, beq_self_eq_true, wrap_i64_of, wrap_u64_of, wrap_i32_of, wrap_u32_of, wrap_u8_of, tdiv_of, tmod_of, Int.toNat_natCast, List.take_length, List.drop_zero, or_true, true_or, or_false, false_or, or_self, ]
  · simp (disch := omega) only [dt, df, it, iF, bt, bf, cond_true, cond_false, map_some', chk_t, Bool.and_true, Bool.true_and, Bool.and_false, Bool.false_and, Bool.or_true, Bool.true_or, Bool.or_false, Bool.false_or, Bool.not_true, Bool.not_false, if_true, if_false, beq_self_eq_true, wrap_i64_of, wrap_u64_of, wrap_i32_of, wrap_u32_of, wrap_u8_of, tdiv_of, tmod_of, Int.toNat_natCast, List.take_length, List.drop_zero, or_true, true_or, or_false, false_or, or_self, ]
    rw [show n + 1 - 1 = n by omega]
end Go.Proofs.Ytmiclamhiohemaa
