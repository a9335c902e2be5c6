/-
  The contracts of GlyphUnits: written by wip/glyph/asm_glyph.py.
-/
import Derived.Test.YtmiclamhiohemaaGlOk
import Derived.Test.YtmiclamhiohemaaGlGo
namespace Go.Proofs.Ytmiclamhiohemaa
open Go.AM
set_option autoImplicit false
set_option linter.unusedVariables false
set_option linter.unusedSimpArgs false
theorem pure_law3_GlyphUnits (a0 : Int) (a1 : Bool) : PureOK Try.prog i_law3_GlyphUnits [.int .u32 a0, .bool a1] (.bool true) := by
  refine PureOK.fits fun hf => ?_
  have r0 := fits_u32 (hf (.int .u32 a0) (by simp))
  exact ok_law3_GlyphUnits (spec_law3_GlyphUnits pure_law3_begun pure_glyph_Unquote) 1000 a0 a1 (sh_law3_GlyphUnits_eq 993 a0 a1 r0)
end Go.Proofs.Ytmiclamhiohemaa
