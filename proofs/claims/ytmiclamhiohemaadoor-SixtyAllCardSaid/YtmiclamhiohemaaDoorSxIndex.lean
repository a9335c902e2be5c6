/-
  Where a byte is first in a text.
-/
import Derived.Test.YtmiclamhiohemaaDoorSxFour
import Derived.WalkKit
import Derived.WalkSpells
import Derived.Laws.Externs
import Derived.Lib.Bytealg
import Derived.KernelRfl
namespace Go.Proofs.YtmiclamhiohemaaDoor
open Go.AM Go.RowKit
set_option autoImplicit false
set_option linter.unusedVariables false

theorem run_ibs (s : ByteArray) (c : Int) (w : World) : (callFunc 25 #[.string s, .int .u8 c]).run Tryd.prog w = .ok (.value (.int .i64 (Lib.indexByte s.data.toList c.toNat.toUInt8))) w := by
  rw [run_callFunc_extern Tryd.func25 (by kernel_rfl) (by kernel_rfl) (by kernel_rfl) (e := Extern.BytealgIndexByte.indexByte) (by kernel_rfl)]
  rw [Lib.run_indexByteString]
  rfl

set_option maxHeartbeats 1000000 in
set_option maxRecDepth 100000 in
theorem ib_walk (s : ByteArray) (c : Int) (w : World) : Calls Tryd.prog 20 #[.string s, .int .u8 c] w fun e w' => e = .returned (.int .i64 (Lib.indexByte s.data.toList c.toNat.toUInt8)) ∧ w' = w := by
  go_enter Tryd.func20, Tryd.ntmps20
  go_wp2
  rw [run_ibs]
  rw [Oper.upon_value]
  go_wp2
  go_ret
  exact ⟨rfl, rfl⟩

theorem index_eq : ∀ (l : List UInt8) (c : Nat), c < 256 → Lib.indexByte l c.toUInt8 = indexB l (c : Int) ∧ -1 ≤ indexB l (c : Int) ∧ indexB l (c : Int) ≤ (l.length : Int)
  | [], c, h => by simp [Lib.indexByte, indexB, indexN]
  | b :: l, c, h => by
    have ih := index_eq l c h
    have hb : (b == c.toUInt8) = decide (b.toNat = c) := by
      have e : (c.toUInt8).toNat = c := by simp [Nat.toUInt8]; omega
      by_cases hc : b.toNat = c
      · have : b = c.toUInt8 := by apply UInt8.toNat_inj.1; rw [e]; exact hc
        simp [this, e]
      · have : b ≠ c.toUInt8 := by rintro rfl; exact hc e
        simp [this, hc]
    simp only [Lib.indexByte, indexB, indexN, Int.toNat_natCast, hb] at ih ⊢
    by_cases hc : b.toNat = c
    · simp [hc]; omega
    · simp only [hc, decide_false, if_false, Bool.false_eq_true]
      cases hi : indexN l c with
      | none => rw [hi] at ih; simp at ih ⊢; simp [ih]; omega
      | some k =>
        rw [hi] at ih
        simp only [Option.map_some] at ih ⊢
        rw [ih.1]
        have : ((k : Int) == -1) = false := by simp
        rw [this]
        simp
        omega

theorem pure_internal_stringslite_IndexByte (s : List UInt8) (c : Int) : PureOK Tryd.prog i_internal_stringslite_IndexByte [.str s, .int .u8 c] (.int .i64 (indexB s c)) := by
  refine ⟨[], ?_⟩
  intro w g cargs hβ hhr hlen hbare hrel
  match cargs, hlen, hrel with
  | ⟨[c0, c1]⟩, hlen, hrel =>
    have r0 := hrel 0 (.str s) c0 rfl rfl
    have r1 := hrel 1 (.int .u8 c) c1 rfl rfl
    cases r0 with
    | str _ b hl hm =>
    cases r1 with
    | int _ _ hr =>
    subst hl
    refine (ib_walk b c w).mono ?_
    rintro e w' ⟨rfl, rfl⟩
    obtain ⟨n, rfl⟩ : ∃ n : Nat, c = (n : Int) := ⟨c.toNat, by have : (0 : Int) ≤ c := hr.1; omega⟩
    have hn : n < 256 := by have : (n : Int) ≤ 255 := hr.2; omega
    have h := index_eq b.data.toList n hn
    have hm' : (b.data.toList.length : Int) ≤ 9223372036854775807 := by
      have h1 : b.size ≤ 9223372036854775807 := hm
      have h2 : b.data.toList.length = b.size := by simp
      omega
    refine ⟨_, g, rfl, hhr, FR.refl _ _ _, ?_, by simp [OwnOK]⟩
    rw [Int.toNat_natCast, h.1]
    exact .int _ _ ⟨by show (-9223372036854775808 : Int) ≤ _; omega, by show _ ≤ (9223372036854775807 : Int); omega⟩
  | ⟨[]⟩, hlen, _ => simp at hlen
  | ⟨[_]⟩, hlen, _ => simp at hlen
  | ⟨_ :: _ :: _ :: _⟩, hlen, _ => simp at hlen
end Go.Proofs.YtmiclamhiohemaaDoor
