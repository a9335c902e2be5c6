/-
  The contracts of GlyphGo: written by wip/glyph/asm_glyph.py.
-/
import Derived.Test.YtmiclamhiohemaaGlOk
import Derived.Test.YtmiclamhiohemaaGlGo
namespace Go.Proofs.Ytmiclamhiohemaa
open Go.AM
set_option autoImplicit false
set_option linter.unusedVariables false
set_option linter.unusedSimpArgs false
theorem pure_law3_GlyphGo (a0 : List UInt8) (a1 : Int) : PureOK Try.prog i_law3_GlyphGo [.str a0, .int .u32 a1] (.bool true) := by
  refine PureOK.fits fun hf => ?_
  have r0 := fits_str (hf (.str a0) (by simp))
  have r1 := fits_u32 (hf (.int .u32 a1) (by simp))
  exact ok_law3_GlyphGo (spec_law3_GlyphGo pure_law3_begun pure_glyph_Valid pure_glyph_Put) 1000 a0 a1 (sh_law3_GlyphGo_eq 1000 a0 a1 r1)
end Go.Proofs.Ytmiclamhiohemaa
