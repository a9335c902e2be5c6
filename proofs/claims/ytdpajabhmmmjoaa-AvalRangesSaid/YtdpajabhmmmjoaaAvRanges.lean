/-
  AvalRanges: which numbers types have.
-/
import Derived.Test.YtdpajabhmmmjoaaAvFun2
import Derived.Test.YtdpajabhmmmjoaaAvCode2
namespace Go.Proofs.Ytdpajabhmmmjoaa
open Go.AM
set_option autoImplicit false
set_option linter.unusedSimpArgs false
set_option linter.unusedVariables false

theorem sh_law20_begun_eq : sh_law20_begun 2000000 = some (.bool true, []) := by kernel_rfl

theorem pure_law20_begun : PureOK Try.prog i_law20_begun [] (.bool true) :=
  ok_law20_begun 2000000 (spec_law20_begun _ (fun ts t m s l ks b _ => pure_Fits ts t m s l ks b) (fun m s l ks b _ => pure_Size m s l ks b) (fun m s l ks b m2 s2 l2 ks2 b2 _ => pure_Same m s l ks b m2 s2 l2 ks2 b2)) sh_law20_begun_eq

def rangeTs : List AType := [⟨1, [], [], 0, [], false, [], 0, [], []⟩, ⟨2, [], [], 0, [], false, [], 0, [], []⟩, ⟨3, [], [], 0, [], false, [], 0, [], []⟩, ⟨4, [], [], 0, [], false, [], 0, [], []⟩, ⟨5, [], [], 0, [], false, [], 0, [], []⟩, ⟨6, [], [], 0, [], false, [], 0, [], []⟩, ⟨10, [69], [], 0, [[65], [66], [67]], false, [], 0, [], []⟩, ⟨8, [], [], 0, [], false, [], 0, [], []⟩]
def rangeW (p : Int) : List Bool := [(p == 0), decide (p ≤ 1), ((IntKind.wrap .u64 (IntKind.wrap .i64 (IntKind.wrap .i32 p))) == p), true, decide (p < 4294967296), true, decide (p < 3), (p == 0)]

theorem wrap_i32_u32 (p : Int) : IntKind.wrap .i32 (IntKind.wrap .u32 p) = IntKind.wrap .i32 p := by
  rw [wrap_i32, wrap_i32, wrap_u32]; omega

theorem range_fits (p : Int) (hp : 0 ≤ p ∧ p ≤ 18446744073709551615) : ∀ i : Nat, i < 8 →
    fitsS rangeTs (i : Int) (.mk p [] [] [] 0) = (rangeW p).getD i false ∧ fitsS rangeTs (i : Int) (.mk 0 [] [] [] 1) = false ∧ fitsS rangeTs (i : Int) (.mk 0 [] [⟨0, [], [], [], 0⟩] [] 0) = false := by
  have h5 : shrI .u64 p 32 = p / 4294967296 := by
    unfold shrI
    rw [show min (Int.toNat 32) IntKind.u64.bits = 32 from rfl, Int.fdiv_eq_ediv_of_nonneg _ (by decide)]
    rfl
  have hw := wrap_i32_u32 p
  intro i hi
  match i, hi with
  | 0, _ => exact ⟨(show (true && ((p == 0) && true)) = (p == 0) by simp), rfl, rfl⟩
  | 1, _ => exact ⟨(show (true && (decide (p ≤ 1) && true)) = decide (p ≤ 1) by simp), rfl, rfl⟩
  | 2, _ =>
    refine ⟨?_, rfl, rfl⟩
    show (true && ((p == IntKind.wrap .u64 (IntKind.wrap .i64 (IntKind.wrap .i32 (IntKind.wrap .u32 p)))) && true)) = ((IntKind.wrap .u64 (IntKind.wrap .i64 (IntKind.wrap .i32 p))) == p)
    rw [hw, Bool.true_and, Bool.and_true]
    exact Bool.beq_comm
  | 3, _ => exact ⟨rfl, rfl, rfl⟩
  | 4, _ =>
    refine ⟨?_, rfl, rfl⟩
    show (true && ((shrI .u64 p 32 == 0) && true)) = decide (p < 4294967296)
    rw [h5, Bool.true_and, Bool.and_true]
    by_cases h : p < 4294967296
    · rw [decide_eq_true h, show p / 4294967296 = 0 by omega]; rfl
    · rw [decide_eq_false h]
      exact bf (by omega)
  | 5, _ => exact ⟨rfl, rfl, rfl⟩
  | 6, _ => exact ⟨(show (true && (decide (p < IntKind.wrap .u64 3) && true)) = decide (p < 3) by rw [show IntKind.wrap .u64 3 = 3 from rfl]; simp), rfl, rfl⟩
  | 7, _ => exact ⟨(show (true && (true && ((p == 0) && true))) = (p == 0) by simp), rfl, rfl⟩
  | i + 8, h => omega

theorem sh_law20_AvalRanges_eq (p : Int) (hp : 0 ≤ p ∧ p ≤ 18446744073709551615) : sh_law20_AvalRanges 2000000 p = some (.bool true, []) := by
  show iterL 2000000 (B_law20_AvalRanges_0 2000000) (p, rangeTs, rangeW p, 0) = _
  refine iterL_spec (fun x : Int × List AType × List Bool × Int => p = x.1 ∧ rangeTs = x.2.1 ∧ rangeW p = x.2.2.1 ∧ ∃ i : Nat, x.2.2.2 = (i : Int) ∧ i ≤ 8) (fun x => 8 - x.2.2.2.toNat) (fun x => (V.bool true, ([] : List AObj))) ?_ _ _ ⟨rfl, rfl, rfl, 0, rfl, by omega⟩ (by simp)
  rintro rec ⟨x1, x2, x3, x4⟩ ⟨e1, e2, e3, i, e4, hi⟩ hrec
  simp only at e1 e2 e3 e4
  subst e1 e2 e3 e4
  simp only [B_law20_AvalRanges_0, Int.toNat_natCast]
  have hl : ((rangeW p).length : Int) = 8 := rfl
  rcases Nat.lt_or_ge i 8 with hlt | hge
  · obtain ⟨f1, f2, f3⟩ := range_fits p hp i hlt
    have e6 : IntKind.wrap .i64 ((i : Int) + 1) = ((i + 1 : Nat) : Int) := by rw [wrap_i64_of _ (by omega)]; rfl
    have hr := hrec (p, rangeTs, rangeW p, ((i + 1 : Nat) : Int)) ⟨rfl, rfl, rfl, i + 1, rfl, by omega⟩ (by simp only [Int.toNat_natCast]; omega)
    have c1 : decide (1000000 ≤ 2000000 - (szL ([] : List AVal) + 1)) = true := rfl
    have c2 : decide (1000000 ≤ 2000000 - (szL ([⟨0, [], [], [], 0⟩] : List AVal) + 1)) = true := rfl
    have c3 : decide ((i : Int) < 8) = true := decide_eq_true (by omega)
    have c4 : decide ((0 : Int) ≤ (i : Int)) = true := decide_eq_true (by omega)
    have c5 : ((rangeW p).getD i false == (rangeW p).getD i false) = true := by simp
    simp only [hl, f1, f2, f3, c1, c2, c3, c4, c5, dflt, e6, Bool.and_self, chk_t, cond_true, cond_false, Bool.not_true]
    exact hr
  · have c3 : decide ((i : Int) < 8) = false := decide_eq_false (by omega)
    simp only [hl, c3, cond_false]

theorem pure_law20_AvalRanges (p : Int) : PureOK Try.prog i_law20_AvalRanges [.int .u64 p] (.bool true) := by
  refine PureOK.fits fun hf => ?_
  have r0 := fits_u64 (hf (.int .u64 p) (by simp))
  exact ok_law20_AvalRanges 2000000 (spec_law20_AvalRanges _ pure_law20_begun (fun ts t m s l ks b _ => pure_Fits ts t m s l ks b)) p (sh_law20_AvalRanges_eq p r0)
end Go.Proofs.Ytdpajabhmmmjoaa
