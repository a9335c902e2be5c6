import Derived.Shelf.Strings.OnBuilder
import Derived.Test.YtehknfijojlddaaDoorDmX
import Derived.KernelRfl
import Derived.Test.YtehknfijojlddaaDoorZ02
section
namespace Go.Proofs
open Go.Shelf
def Tryd.lays156_ren : Go.Shelf.Ren := ⟨fun | 156 => 40 | 165 => 70 | 166 => 68 | 169 => 69 | 240 => 88 | 241 => 90 | 276 => 109 | 277 => 111 | n => n, fun | 31 => 23 | 9 => 9 | 3 => 3 | 4 => 4 | 0 => 0 | 20 => 20 | 72 => 107 | 76 => 111 | 70 => 104 | 37 => 105 | 75 => 109 | 127 => 125 | 164 => 143 | 5 => 5 | 80 => 70 | n => n, fun | n => n⟩
theorem Tryd.lays156 : Go.Proofs.Lays.n156 Tryd.prog Tryd.lays156_ren := {
 mixed := by kernel_rfl
 f156 := Tryd.func40.trans (congrArg some (by kernel_rfl))
 f165 := Tryd.func70.trans (congrArg some (by kernel_rfl))
 f166 := Tryd.func68.trans (congrArg some (by kernel_rfl))
 f169 := Tryd.func69.trans (congrArg some (by kernel_rfl))
 f240 := Tryd.func88.trans (congrArg some (by kernel_rfl))
 f241 := Tryd.func90.trans (congrArg some (by kernel_rfl))
 f276 := Tryd.func109.trans (congrArg some (by kernel_rfl))
 f277 := Tryd.func111.trans (congrArg some (by kernel_rfl))
 t0 := Tryd.underlying0
 a0 := Tryd.isAgg0
 z0 := Tryd.sizeOf0
 v0 := Tryd.zeroValue0
 t3 := Tryd.underlying3
 a3 := Tryd.isAgg3
 z3 := Tryd.sizeOf3
 v3 := Tryd.zeroValue3
 t4 := Tryd.underlying4
 a4 := Tryd.isAgg4
 z4 := Tryd.sizeOf4
 v4 := Tryd.zeroValue4
 t9 := Tryd.underlying9
 a9 := Tryd.isAgg9
 z9 := Tryd.sizeOf9
 v9 := Tryd.zeroValue9
 t20 := Tryd.underlying20
 a20 := Tryd.isAgg20
 z20 := Tryd.sizeOf20
 v20 := Tryd.zeroValue20
 t31 := Tryd.underlying23
 a31 := Tryd.isAgg23
 z31 := Tryd.sizeOf23
 v31 := Tryd.zeroValue23
 t37 := Tryd.underlying105
 a37 := Tryd.isAgg105
 z37 := Tryd.sizeOf105
 v37 := Tryd.zeroValue105
 t70 := Tryd.underlying104
 a70 := Tryd.isAgg104
 z70 := Tryd.sizeOf104
 v70 := Tryd.zeroValue104
 t72 := Tryd.underlying107
 a72 := Tryd.isAgg107
 z72 := Tryd.sizeOf107
 v72 := Tryd.zeroValue107
 t75 := Tryd.underlying109
 a75 := Tryd.isAgg109
 z75 := Tryd.sizeOf109
 v75 := Tryd.zeroValue109
 t76 := Tryd.underlying111
 a76 := Tryd.isAgg111
 z76 := Tryd.sizeOf111
 v76 := Tryd.zeroValue111
 t127 := Tryd.underlying125
 a127 := Tryd.isAgg125
 z127 := Tryd.sizeOf125
 v127 := Tryd.zeroValue125
 t164 := Tryd.underlying143
 a164 := Tryd.isAgg143
 z164 := Tryd.sizeOf143
 v164 := Tryd.zeroValue143 }
theorem Tryd.Builder_Extra_156 : Builder.Extra Tryd.prog Tryd.lays156_ren := {
 sizeBuilder := by kernel_rfl
 liesBuilder := by kernel_rfl
 t5 := Tryd.underlying5
 a5 := Tryd.isAgg5
 z5 := Tryd.sizeOf5
 v5 := Tryd.zeroValue5
 infoByte := by kernel_rfl
 cellsByte := by kernel_rfl
 sizeByte := by kernel_rfl
 neB5 := by decide }
end Go.Proofs
namespace Go.Proofs.YtehknfijojlddaaDoor
open Go.AM Go.RowKit
set_option autoImplicit false
theorem joinC : Go.DM.JoinC Tryd.prog 40 := fun bk o c xs sep w hcells hbk hN hcap hlen => Any.strings_Join Tryd.lays156 Tryd.Builder_Extra_156 bk o c xs sep w hcells hbk hN hcap hlen
def plainB (n : Nat) : Bool := decide (n < 32) || decide (n = 34) || decide (n = 92) || decide (bp (UInt8.ofNat n) = [UInt8.ofNat n])
theorem plainB_ok : (List.range 256).all plainB = true := by kernel_rfl
theorem quote_plain : ∀ (l : List UInt8), (∀ c ∈ l, 32 ≤ c.toNat ∧ c.toNat ≠ 34 ∧ c.toNat ≠ 92) → l.flatMap bp = l
 | [], _ => rfl
 | c :: l, h => by
   have hc := h c (by simp)
   have ih := quote_plain l fun x hx => h x (by simp [hx])
   have hb := ei plainB plainB_ok c.toNat (UInt8.toNat_lt _)
   simp only [plainB, Bool.or_eq_true, decide_eq_true_eq, UInt8.ofNat_toNat] at hb
   rcases hb with ((h1 | h1) | h1) | h1
   ·omega
   ·omega
   ·omega
   ·rw [List.flatMap_cons, ih, h1]
    rfl
theorem pure_index (a0 : List UInt8) (a1 : Int) : ba Tryd.prog be [.str a0, .int .u8 a1] (.int .i64 (aK a0 a1)) :=
 cP (ct bv) 1000 a0 a1 rfl
theorem str_calls {P : Program} {f : FuncId} {a b : List UInt8} (h : ba P f [.str a] (.str b)) {s : ByteArray} (ha : s.data.toList = a) (hm : s.size ≤ 9223372036854775807) (w : World) :
  Calls P f #[.string s] w fun e w' => (∃ s' : ByteArray, e = .returned (.string s') ∧ s'.data.toList = b) ∧ Below w.heap.size w w' := by
 obtain ⟨hp', h⟩ := h
 have hr : ∀ (i : Nat) x cv, [V.str a][i]? = some x → #[Value.string s][i]? = some cv → VRel (d0 w).I id 0 w x cv := by
  intro i x cv hx hcv
  match i, hx, hcv with
  | 0, hx, hcv =>
    simp at hx hcv
    subst hx hcv
    exact .str _ _ ha hm
  | (i + 1), hx, hcv => simp at hx
 refine (h w { d0 w with β := aD P } #[.string s] rfl ⟨by simp, by simp, by simp, by simp, fun b j hi => hi, by simp [d0]⟩ rfl (by simp [V.bare]) hr).mono ?_
 rintro e w' ⟨cv, g', rfl, _, q2, q3, _⟩
 cases q3 with
 | str _ s' hs' hm' => exact ⟨⟨s', rfl, hs'⟩, q2.os, q2.tape, q2.output, q2.size, fun b hb => q2.block b hb (by simp) rfl⟩
theorem quoteC : Go.DM.QuoteC Tryd.prog 39 := fun s w hp hs => by
 have hl : s.data.toList.length ≤ 1000 := by
  have : s.data.toList.length = s.size := Array.length_toList
  omega
 obtain ⟨hp1, h1⟩ := g3 (da 1001 s.data.toList hl (by omega))
 refine (str_calls (d5 (dw pure_index) 1001 s.data.toList h1) rfl (by omega) w).mono ?_
 rintro e w' ⟨⟨s', rfl, hs'⟩, hb⟩
 refine ⟨?_, hb⟩
 have e : s'.data.toList = 34 :: s.data.toList ++ [34] := by
  rw [hs']
  simp only [eQ, quote_plain _ hp]
  rfl
 rw [← e]
end Go.Proofs.YtehknfijojlddaaDoor
end
