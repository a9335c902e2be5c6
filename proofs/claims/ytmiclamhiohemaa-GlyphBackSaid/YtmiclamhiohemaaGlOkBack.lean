/-
  The contracts of GlyphBack: written by wip/glyph/asm_glyph.py.
-/
import Derived.Test.YtmiclamhiohemaaGlOk
import Derived.Test.YtmiclamhiohemaaGlBack
namespace Go.Proofs.Ytmiclamhiohemaa
open Go.AM
set_option autoImplicit false
set_option linter.unusedVariables false
set_option linter.unusedSimpArgs false
theorem pure_law3_GlyphBack (a0 : List UInt8) (a1 : List UInt8) : PureOK Try.prog i_law3_GlyphBack [.str a0, .str a1] (.bool true) := by
  refine PureOK.fits fun hf => ?_
  have r0 := fits_str (hf (.str a0) (by simp))
  have r1 := fits_str (hf (.str a1) (by simp))
  exact ok_law3_GlyphBack (spec_law3_GlyphBack pure_law3_begun pure_glyph_Unquote pure_glyph_Valid pure_glyph_Quote) 1000 a0 a1 (sh_law3_GlyphBack_eq a0 a1)
end Go.Proofs.Ytmiclamhiohemaa
